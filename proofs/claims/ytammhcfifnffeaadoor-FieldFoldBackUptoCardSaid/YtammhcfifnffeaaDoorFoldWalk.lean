/- field.Fold by contract. -/
import Derived.Test.YtammhcfifnffeaaDoorJointsIter
import Derived.Test.YtammhcfifnffeaaDoorPrintWalk
import Derived.Laws.ResultCell
namespace Go.Proofs.YtammhcfifnffeaaDoor.FoldWalk
open Go.RowKit Go.Shelf Go.Proofs.YtammhcfifnffeaaDoor.RangeBox Go.Proofs.YtammhcfifnffeaaDoor.RowsIter Go.Proofs.YtammhcfifnffeaaDoorW.PrintWords Go.Proofs.YtammhcfifnffeaaDoor.PFieldPrints Go.Proofs.YtammhcfifnffeaaDoor.AnyEnd Go.Proofs.YtammhcfifnffeaaDoor.Octet Go.Proofs.YtammhcfifnffeaaDoor.CheckWalk Go.Proofs.YtammhcfifnffeaaDoor.JointsIter Go.Proofs.YtammhcfifnffeaaDoor.PrintWalk
attribute [local go_sem] Oper.semAt_some
set_option linter.unusedVariables false
set_option linter.unusedSimpArgs false

def foldGo (s : List UInt8) (most : Int) : List Nat → List UInt8 → Nat → Nat → Nat → List UInt8 × Nat
  | [], acc, b, last, ahead => (acc, b)
  | k :: r, acc, b, last, ahead => if b < last ∧ most < (ahead : Int) + k - b then foldGo s most r (acc ++ (s.drop b).take (last - b) ++ [13, 10]) last k 0 else foldGo s most r acc b k ahead
def foldBody (nm s : List UInt8) (most : Int) : List UInt8 :=
  (foldGo s most (jointsL s ++ [s.length]) [] 0 0 (nm.length + 1)).1 ++ s.drop (foldGo s most (jointsL s ++ [s.length]) [] 0 0 (nm.length + 1)).2
/-- what Fold tells: the name, the body, the code -/
def foldV (nm s : List UInt8) (most : Int) : List UInt8 × List UInt8 × Int :=
  if nameB nm = false ∨ hasEnd s = true then ([], [], 160) else if most < 1 ∨ 998 < most then ([], [], 2)
  else if checkV nm (foldBody nm s most) = 0 then (nm, foldBody nm s most, 0) else ([], [], checkV nm (foldBody nm s most))

theorem results_field {fn : Func} {p u : Tmp} (h : fn.results = #[.cell p 30, .tmp u]) (tmps : Array Value) (w : World) (B : Nat) (x y : ByteArray) (v : Value)
    (hp : tmps.getD p undef = .pointer (some ⟨B, 0, none⟩)) (hv : tmps.getD u undef = v) (hc : w.heap[B]? = some (.cells #[.string x, .string y] 30 (0, 0))) :
    (results fn tmps).run Tryd.prog w = .ok (.tuple #[.agg #[.string x, .string y], v]) w := by
  rw [results_cell_tmp h, hp, hv]
  have := run_loadVar_row (P := Tryd.prog) w B 30 30 #[.string x, .string y] (0, 0) _ hc Tryd.underlying30 rfl (by kernel_rfl)
  simp [asAddr, this, Result.andThen]

theorem info3' : (Tryd.prog.info? 3).map (fun i => (i.zero, i.size, i.bytes)) = some (some (.int .i64 0), 1, 8) := by kernel_rfl
def ns (l : List Nat) : List Value := l.map fun (k : Nat) => Value.int .i64 (k : Int)
theorem ns_append (a b : List Nat) : ns (a ++ b) = ns a ++ ns b := by simp [ns]
theorem ns_length (l : List Nat) : (ns l).length = l.length := by simp [ns]
theorem boxed_not {W : World} {B : Nat} {t : TypeId} {v : Value} (h : Boxed W B t v) {row : Option Nat} (hr : ∀ r, row = some r → ∃ o : Obj, W.heap[r]? = some o ∧ o.isCells = false) : some B ≠ row := by
  intro e
  obtain ⟨o, ho, hc⟩ := hr B e.symm
  have h' : W.heap[B]? = some (.cells #[v] t (0, 0)) := h
  rw [h'] at ho
  cases ho
  cases hc
theorem own_not {W : World} {b e s n : Nat} {v : Value} {xs : List Value} (h : W.ownsRow b e s v n xs) {row : Option Nat} (hr : ∀ r, row = some r → ∃ o : Obj, W.heap[r]? = some o ∧ o.isCells = false) : v.ownBlock = none ∨ v.ownBlock ≠ row := by
  cases hv : v.ownBlock with
  | none => exact .inl rfl
  | some k =>
    refine .inr fun e' => ?_
    obtain ⟨cells, hc⟩ := own_typed h k hv
    obtain ⟨o, ho, hc'⟩ := hr k e'.symm
    rw [hc] at ho
    cases ho
    cases hc'
/-- what holds between two rounds of the gathering of the joints -/
def Ends (w : World) (pre : List Nat) (W : World) : Prop :=
  (∃ v, Boxed W w.heap.size 58 v ∧ W.ownsRow (w.heap.size + 2) 3 1 v pre.length (ns pre)) ∧ Below w.heap.size w W
theorem ends_from (w : World) (B : Nat) (hB : w.heap.size ≤ B) : OwnFrom B (Ends w) := by
  rintro pre A C row ⟨⟨v, hv, hr⟩, hb⟩ hg hrow
  have hrow' : ∀ r, row = some r → ∃ o : Obj, A.heap[r]? = some o ∧ o.isCells = false := fun r e => (hrow r e).2
  exact ⟨⟨v, hv.kept hg (boxed_not hv hrow'), own_other hr hg (own_not hr hrow')⟩, hb.grown hg hb.size (fun k e => Nat.le_trans hB (hrow k e).1)⟩
theorem ends_bears (w : World) : Bears (w.heap.size + 1) (Ends w) := by
  rintro pre A C ⟨⟨v, hv, hr⟩, hb⟩ hg
  refine ⟨⟨v, hv.kept hg (by simp), own_other hr hg ?_⟩, hb.grown hg hb.size (fun k e => by cases e; omega)⟩
  cases hv' : v.ownBlock with
  | none => exact .inl rfl
  | some k => exact .inr (by have := own_base hr k hv'; simp; omega)
structure EStep (w W w1 : World) (v' : Value) (pre : List Nat) : Prop where
  cell : ∃ u, w1.cell? ⟨w.heap.size, 0, none⟩ = some u
  frozen : w1.frozen? ⟨w.heap.size, 0, none⟩ = false
  done : KeepsOthers W (w1.setCell ⟨w.heap.size, 0, none⟩ v') ∧ (w1.setCell ⟨w.heap.size, 0, none⟩ v').heap[w.heap.size + 1]? = W.heap[w.heap.size + 1]? ∧ Ends w pre (w1.setCell ⟨w.heap.size, 0, none⟩ v')
theorem ends_step {w W w1 : World} {v v' : Value} {pre : List Nat} {x : Nat} {o : Obj} (hv : Boxed W w.heap.size 58 v) (hr : W.ownsRow (w.heap.size + 2) 3 1 v pre.length (ns pre)) (hb : Below w.heap.size w W) (hz : w.heap.size + 2 ≤ W.heap.size)
    (ho : w1.ownsRow (w.heap.size + 2) 3 1 v' (pre.length + 1) (ns pre ++ [Value.int .i64 x])) (hg : (W.alloc o).grownBy w1 v.ownBlock) : EStep w W w1 v' (pre ++ [x]) := by
  have hne : ∀ k, k < w.heap.size + 2 → some k ≠ v.ownBlock := fun k hk e => by have := own_base hr k e.symm; omega
  have hne' : ∀ k, k < w.heap.size + 2 → some k ≠ v'.ownBlock := fun k hk e => by have := own_base ho k e.symm; omega
  have h1 := (hv.alloc o).kept hg (hne _ (by omega))
  refine ⟨⟨v, h1.cell⟩, h1.frozen, ?_, ?_, ⟨v', h1.set _, ?_⟩, ?_⟩
  · refine (KeepsOthers.trans (keeps_below (below_alloc (Below.refl _ _) o)) (KeepsOthers.of_grownBy hg (fun j o' hj ho' => ?_))).trans (KeepsOthers.setCell _ _ _)
    obtain ⟨cells, hc⟩ := own_typed (hr.alloc o) j hj
    rw [hc] at ho'
    cases ho'
    rfl
  · rw [Below.heap_setCell w1 ⟨w.heap.size, 0, none⟩ _ _ (by simp), hg.block _ (by simp; omega) (hne _ (by omega)), Below.heap_alloc _ _ _ (by omega)]
  · have := own_setCell ho (hne' _ (show w.heap.size < w.heap.size + 2 by omega)) v' (p := ⟨w.heap.size, 0, none⟩)
    simpa [ns] using this
  · exact ((hb.alloc hb.size o).grown hg (by simp; omega) (fun k e => by have := own_base hr k e; omega)).setCell (p := ⟨w.heap.size, 0, none⟩) (Nat.le_refl _) _
def flat (P : List ByteArray) : List UInt8 := P.flatMap fun x => x.data.toList
theorem flat_two (P : List ByteArray) (x y : ByteArray) : flat (P ++ [x, y]) = flat P ++ x.data.toList ++ y.data.toList := by simp [flat]
theorem extract_list (s : ByteArray) (a b : Nat) : (s.extract a b).data.toList = (s.data.toList.drop a).take (b - a) := by
  rw [ByteArray.data_extract, Array.toList_extract, List.extract_eq_take_drop]
theorem news_two (W : World) (a b : Value) (t : TypeId) : ∀ j u, [a, b][j]? = some u → (W.alloc (.cells #[a, b] t)).cell? ((⟨W.heap.size, 0, none⟩ : Addr).add j) = some u := by
  simpa using World.news_of_block (cs := #[a, b]) (t := t) (fr := (0, 0)) (heap_alloc_new W (.cells #[a, b] t))
theorem one_two (a b : ByteArray) : ∀ u ∈ [Value.string a, Value.string b], u.oneCell' = true := by
  intro u hu
  simp only [List.mem_cons, List.not_mem_nil, or_false] at hu
  rcases hu with rfl | rfl <;> rfl
theorem joints_small (s : List UInt8) : ∀ x ∈ jointsL s ++ [s.length], x ≤ s.length := by
  intro x hx
  rcases List.mem_append.1 hx with hx | hx
  · unfold jointsL jointsTo at hx
    have := List.mem_range.1 (List.mem_filter.1 hx).1
    have := words_le s
    omega
  · rw [List.mem_singleton.1 hx]
    exact Nat.le_refl _
theorem str_ints (l : List UInt8) : strOfNums (l.map fun (c : UInt8) => (c.toNat : Int)) = ⟨l.toArray⟩ := by
  unfold strOfNums
  congr 1
  simp [List.map_map, Function.comp_def]
theorem str_body (W : World) {A : Option Addr} {n c : Nat} {l : List UInt8} (h : Kd.C (Kd.int .u8) W A n (l.map fun (c : UInt8) => (c.toNat : Int))) : (convert 24 9 (.slice A n c)).run Tryd.prog W = .ok (.string ⟨l.toArray⟩) W := by
  rw [← str_ints]
  exact Kd.C_string Tryd.underlying24 Tryd.underlying5 Tryd.underlying9 h
theorem res_cells {w w1 : World} {B : Nat} {x y : Value} (h : w.heap[B]? = some (.cells #[x, y] 30 (0, 0))) (hb : Below w.heap.size w w1) : w1.heap[B]? = some (.cells #[x, y] 30 (0, 0)) ∧ w1.cell? ⟨B, 0, none⟩ = some x ∧ w1.cell? ⟨B, 1, none⟩ = some y ∧ w1.frozen? ⟨B, 0, none⟩ = false ∧ w1.frozen? ⟨B, 1, none⟩ = false := by
  have h1 : w1.heap[B]? = some (.cells #[x, y] 30 (0, 0)) := (hb.block _ (Array.getElem?_eq_some_iff.1 h).1).trans h
  exact ⟨h1, blk_cell h1 0, blk_cell h1 1, blk_frozen h1 0, blk_frozen h1 1⟩
theorem set_two {w : World} {B : Nat} {a b x y : Value} (h : w.heap[B]? = some (.cells #[a, b] 30 (0, 0))) : ((w.setCell ⟨B, 0, none⟩ x).setCell ⟨B, 1, none⟩ y).heap[B]? = some (.cells #[x, y] 30 (0, 0)) := by
  have h1 := blk_set (blk_set h 0 x) 1 y
  simpa using h1

set_option maxHeartbeats 4000000 in
set_option maxRecDepth 100000 in
theorem fold_calls (nm s : ByteArray) (most m : Int) (w : World) (hn : nm.size ≤ 4294967280) (hs : s.size ≤ 1048576) (hmo : (Lit.int .i64 most).wf = true) (hm : w.cell? ⟨0, 0, none⟩ = some (.int .i64 m)) (hT : Laid w) :
    Calls Tryd.prog 18 #[.string nm, .string s, .int .i64 most] w fun e w' => ∃ x y c, foldV nm.data.toList s.data.toList most = (x, y, c) ∧ e = .returned (.tuple #[.agg #[.string ⟨x.toArray⟩, .string ⟨y.toArray⟩], .int .i64 c]) ∧ Below w.heap.size w w' := by
  have hu30 := Tryd.underlying30
  refine (callsIn_wide (n := 5)).1 ?_
  refine callsIn_of_wp_marks Tryd.func18 rfl trivial ?_ rfl
  simp only [Tryd.ntmps18, List.size_toArray, List.length_cons, List.length_nil, Nat.reduceAdd, Nat.reduceSub, Array.replicate_succ, Array.replicate_zero, List.push_toArray, List.append_toArray, List.nil_append, List.cons_append]
  have hW0 : Below w.heap.size w (w.alloc (.cells #[.string ⟨#[]⟩, .string ⟨#[]⟩] 30)) := (Below.refl _ _).alloc (Nat.le_refl _) _
  have hR0 : (w.alloc (.cells #[.string ⟨#[]⟩, .string ⟨#[]⟩] 30)).heap[w.heap.size]? = some (.cells #[.string ⟨#[]⟩, .string ⟨#[]⟩] 30 (0, 0)) := World.alloc_heap_new w _
  have HN := Lib.hid (callsIn_wide (n := 4).2 (named_calls nm (by omega) _ (hT.below hT.size hW0)))
  have HR0 := Lib.hid hR0
  have HW0 := Lib.hid hW0
  have HT := Lib.hid hT
  have HM := Lib.hid hm
  clear hW0 hR0 hT hm
  cases hnm : nameB nm.data.toList
  · have hv : foldV nm.data.toList s.data.toList most = ([], [], 160) := by unfold foldV; rw [if_pos (.inl hnm)]
    rw [hv]
    gi_wp2_with (first | (refine ⟨trivial, ?_⟩; gi_at_call 31; refine HN.out.mono ?_; rintro e w1 ⟨rfl, hw⟩; rw [hnm]; obtain ⟨r0, r1, r2, r3, r4⟩ := res_cells HR0.out hw; have HW := Lib.hid hw; have HR1 := Lib.hid r0; clear hw r0) | (show Fence.wide.fn 35 ∧ _; refine ⟨trivial, ?_⟩))
    try any_goals (exfalso; exact undef_no ‹some undef = some (Value.bool _)›)
    refine ⟨_, results_field rfl _ _ w.heap.size _ _ _ rfl rfl (set_two HR1.out), ?_⟩
    exact ⟨[], [], 160, rfl, rfl, ((HW0.out.trans (HW.out.mono HW0.out.size)).setCell (p := ⟨w.heap.size, 0, none⟩) (Nat.le_refl _) _).setCell (p := ⟨w.heap.size, 1, none⟩) (Nat.le_refl _) _⟩
  · cases hen : hasEnd s.data.toList
    · by_cases hmost : most < 1 ∨ 998 < most
      · have hv : foldV nm.data.toList s.data.toList most = ([], [], 2) := by
          unfold foldV
          rw [if_neg (by rw [hnm, hen]; simp), if_pos hmost]
        rw [hv]
        rcases (show most < 1 ∨ (1 ≤ most ∧ 998 < most) by omega) with h1 | ⟨h1, h2⟩
        · have d1 : decide (most < 1) = true := decide_eq_true h1
          gi_wp2_with (first | (refine ⟨trivial, ?_⟩; gi_at_call 31; refine HN.out.mono ?_; rintro e w1 ⟨rfl, hw⟩; rw [hnm]; have HW := Lib.hid hw; clear hw) | (refine ⟨trivial, ?_⟩; gi_at_call 35; refine (callsIn_wide (n := 4).2 (ContainsAny_calls s _ (by omega))).mono ?_; rintro e w2 ⟨rfl, hw2⟩; rw [hen]; obtain ⟨r0, r1, r2, r3, r4⟩ := res_cells HR0.out (HW.out.trans (hw2.mono HW.out.size)); have HW2 := Lib.hid hw2; have HR1 := Lib.hid r0; clear hw2 r0))
          try any_goals (exfalso; exact undef_no ‹some undef = some (Value.bool _)›)
          refine ⟨_, results_field rfl _ _ w.heap.size _ _ _ rfl rfl (set_two HR1.out), ?_⟩
          have hb : Below w.heap.size w w2 := (HW0.out.trans (HW.out.mono HW0.out.size)).trans (HW2.out.mono (Nat.le_trans HW0.out.size HW.out.size))
          exact ⟨[], [], 2, rfl, rfl, (hb.setCell (p := ⟨w.heap.size, 0, none⟩) (Nat.le_refl _) _).setCell (p := ⟨w.heap.size, 1, none⟩) (Nat.le_refl _) _⟩
        · have d1 : decide (most < 1) = false := decide_eq_false (by omega)
          have d2 : decide (998 < most) = true := decide_eq_true h2
          gi_wp2_with (first | (refine ⟨trivial, ?_⟩; gi_at_call 31; refine HN.out.mono ?_; rintro e w1 ⟨rfl, hw⟩; rw [hnm]; have HW := Lib.hid hw; clear hw) | (refine ⟨trivial, ?_⟩; gi_at_call 35; refine (callsIn_wide (n := 4).2 (ContainsAny_calls s _ (by omega))).mono ?_; rintro e w2 ⟨rfl, hw2⟩; rw [hen]; obtain ⟨r0, r1, r2, r3, r4⟩ := res_cells HR0.out (HW.out.trans (hw2.mono HW.out.size)); have HW2 := Lib.hid hw2; have HR1 := Lib.hid r0; clear hw2 r0))
          try any_goals (exfalso; exact undef_no ‹some undef = some (Value.bool _)›)
          refine ⟨_, results_field rfl _ _ w.heap.size _ _ _ rfl rfl (set_two HR1.out), ?_⟩
          have hb : Below w.heap.size w w2 := (HW0.out.trans (HW.out.mono HW0.out.size)).trans (HW2.out.mono (Nat.le_trans HW0.out.size HW.out.size))
          exact ⟨[], [], 2, rfl, rfl, (hb.setCell (p := ⟨w.heap.size, 0, none⟩) (Nat.le_refl _) _).setCell (p := ⟨w.heap.size, 1, none⟩) (Nat.le_refl _) _⟩
      · have d1 : decide (most < 1) = false := decide_eq_false (by omega)
        have d2 : decide (998 < most) = false := decide_eq_false (by omega)
        gi_wp2_with (first | (refine ⟨trivial, ?_⟩; gi_at_call 31; refine HN.out.mono ?_; rintro e w1 ⟨rfl, hw⟩; rw [hnm]; have HW := Lib.hid hw; clear hw) | (refine ⟨trivial, ?_⟩; gi_at_call 35; refine (callsIn_wide (n := 4).2 (ContainsAny_calls s _ (by omega))).mono ?_; rintro e w2 ⟨rfl, hw2⟩; rw [hen]; have HW2 := Lib.hid hw2; clear hw2) | (refine ⟨trivial, ?_⟩; gi_at_call 42; refine (callsIn_wide (n := 4).2 (joints_calls s _)).mono ?_; rintro e w3 ⟨rfl, rfl⟩))
        obtain ⟨i0, hi, hz0, hz1, hz2⟩ := info_parts info3'
        have hBox : boxed ((w2.alloc (.cells #[.slice none 0 0] 58)).alloc (.cells #[.string s] 9)) (w2.heap.size + 1) (.string s) 9 := by
          have := Boxed.new (w2.alloc (.cells #[.slice none 0 0] 58)) 9 (.string s)
          simpa [boxed, Boxed] using this
        have hI0 : Ends w2 [] ((w2.alloc (.cells #[.slice none 0 0] 58)).alloc (.cells #[.string s] 9)) :=
          ⟨⟨.slice none 0 0, (Boxed.new w2 58 _).alloc _, own_nil _ _ _ _⟩, ((Below.refl _ w2).alloc (Nat.le_refl _) _).alloc (by simp) _⟩
        refine wpIn_rangeFunc_box rfl (by omega) (gf := 55) (lb := #[.pointer (some ⟨w2.heap.size + 1, 0, none⟩)]) rfl trivial (enters_of Tryd.func55 (by kernel_rfl) rfl) (B := w2.heap.size + 1) (by simp) (joints_gives _ (by omega) s (w2.heap.size + 1) _ (by omega) hBox) (fun _ => rfl)
          (Ends w2) (fun _ _ _ => False) (ends_from w2 _ (by simp; omega)) (fun _ _ _ _ _ h _ _ => h) (fun pre W h => trivial) (ends_bears w2) (fun _ _ _ _ h _ => h) hI0
          (fun x => { tmps := #[.string nm, .string s, .int .i64 most, undef, undef, undef, .pointer (some ⟨w.heap.size, 0, none⟩), .int .i64 0, .pointer (some ⟨w2.heap.size, 0, none⟩), .int .i64 x, undef, undef, undef, undef, undef, undef, undef, undef, .string nm, .bool true, .bool false, .bool false, .string s, .bool false, .bool false, undef, .int .i64 most, .bool false, .bool false, .int .i64 most, .bool false, .bool false, undef, .string s, .func (.func 55) #[] #[.pointer (some ⟨w2.heap.size + 1, 0, none⟩)], .int .i64 x, undef, undef, undef, undef, undef, undef, undef, undef, undef, undef, undef, undef, undef, undef, undef, undef, undef, undef, undef, undef, undef, undef, undef, undef, undef, undef, undef, undef, undef, undef, undef, undef, undef, undef, undef, undef, undef, undef, undef, undef, undef, undef, undef, undef, undef, undef, undef, undef, undef, undef, undef, undef, undef, undef, undef, undef, undef], defers := [] }) ?assign ?body ?done ?stop
        case assign =>
          intro l x W K hK
          gi_wp2
          exact hK
        case stop => intro D c pre W _ _ h; exact h.elim
        case body =>
          rintro l pre x W ⟨⟨v, hv, hr⟩, hb⟩ hpre hz
          have hz' : w2.heap.size + 2 ≤ W.heap.size := by simpa using hz
          have hlen : pre.length + 1 ≤ 1000000000 := by
            have h1 := hpre.length_le
            have h2 : (jointsL s.data.toList).length ≤ words s.data.toList := by unfold jointsL jointsTo; exact Nat.le_trans (List.length_filter_le _ _) (by simp)
            have h3 := words_le s.data.toList
            rw [data_length] at h3
            simp only [List.length_append, List.length_singleton] at h1
            omega
          have hc := hv.cell
          have HV := Lib.hid hv
          have HRo := Lib.hid hr
          have HBo := Lib.hid hb
          clear hv hr hb hBox hI0 hpre
          gi_wp2_with (gi_at_builtin; refine wpListIn_append_own _ rfl (.tmp 36) (.tmp 38) 58 rfl (w2.heap.size + 2) 3 i0 _ 1 8 Tryd.underlying58 hi hz0 hz1 hz2 rfl (by decide) v pre.length (ns pre) rfl (HRo.out.alloc _) ⟨W.heap.size, 0, none⟩ 1 1 [.int .i64 x] rfl rfl (cell_one_new _ _ _) (by simp [Value.oneCell']) (by unfold maxLen; omega) (by omega) (by simp; omega) ?_)
          intro v' w4 ho hg _
          have E := Lib.hid (ends_step HV.out HRo.out HBo.out hz' ho hg)
          obtain ⟨u, hu⟩ := E.out.cell
          have hf := E.out.frozen
          obtain ⟨A4, c4, rfl⟩ := own_slice ho
          clear ho hg hc
          gi_wp2
          exact E.out.done
        case done =>
          rintro D W hD ⟨⟨v, hv, hr⟩, hb⟩ hK
          have hz' : w2.heap.size + 2 ≤ W.heap.size := by
            have h1 := (Array.getElem?_eq_some_iff.1 hK).1
            simp at hD
            omega
          have hjl : (jointsL s.data.toList).length + 1 ≤ s.size + 1 := by
            have h2 : (jointsL s.data.toList).length ≤ words s.data.toList := by unfold jointsL jointsTo; exact Nat.le_trans (List.length_filter_le _ _) (by simp)
            have h3 := words_le s.data.toList
            rw [data_length] at h3
            omega
          have hc := hv.cell
          have HRo := Lib.hid hr
          have HBo := Lib.hid hb
          have HK := Lib.hid hK
          clear hv hr hb hBox hI0 hK
          gi_wp2_with (gi_at_builtin; refine wpListIn_append_own _ rfl (.tmp 43) (.tmp 46) 58 rfl (w2.heap.size + 2) 3 i0 _ 1 8 Tryd.underlying58 hi hz0 hz1 hz2 rfl (by decide) v (jointsL s.data.toList).length (ns (jointsL s.data.toList)) rfl (HRo.out.alloc _) ⟨W.heap.size, 0, none⟩ 1 1 [.int .i64 s.size] rfl rfl (cell_one_new _ _ _) (by simp [Value.oneCell']) (by unfold maxLen; omega) (by omega) (by simp; omega) ?_)
          intro v5 w5 ho hg _
          obtain ⟨g5, c5, rfl, hg5⟩ : ∃ g c, v5 = .slice (some ⟨g, 0, none⟩) ((jointsL s.data.toList).length + 1) c ∧ g < w5.heap.size := by
            rcases ho.2 with ⟨_, h0⟩ | ⟨g, cap, cur, h, _, hgg, _⟩
            · omega
            · exact ⟨g, cap, h, (Array.getElem?_eq_some_iff.1 hgg).1⟩
          have HO5 := Lib.hid ho
          have HG5 := Lib.hid hg
          clear ho hg hc
          gi_wp2
          obtain ⟨i9, hi9, hy0, hy1, hy2⟩ := info_parts info9
          have hsl : s.data.toList.length = s.size := data_length s
          have hnl : nm.data.toList.length = nm.size := data_length nm
          obtain ⟨L, hL⟩ : ∃ L, L = jointsL s.data.toList ++ [s.data.toList.length] := ⟨_, rfl⟩
          have hLl : L.length = (jointsL s.data.toList).length + 1 := by rw [hL]; simp
          have hLs : ∀ x ∈ L, x ≤ s.size := by rw [hL, ← hsl]; exact joints_small _
          have hcells : ∀ (k x : Nat), L[k]? = some x → w5.cell? ⟨g5, k, none⟩ = some (.int .i64 x) := by
            intro k x hx
            have h1 : (ns L)[k]? = some (.int .i64 x) := by simp [ns, hx]
            have h2 : ns L = ns (jointsL s.data.toList) ++ [.int .i64 s.size] := by rw [hL, ns_append, hsl]; rfl
            have h3 := HO5.out.cells (g := g5) rfl k _ (by rw [← h2]; exact h1)
            rwa [add_plain] at h3
          have HCE := Lib.hid hcells
          have HLS := Lib.hid hLs
          have HL := Lib.hid hL
          clear hcells hLs
          generalize hjn : (jointsL s.data.toList).length = jn at *
          gi_loopw [10, 11, 12, 13, 49] (fun v10 v11 v12 v13 v49 wr => ∃ (P : List ByteArray) (b last ahead k : Nat), v49 = .int .i64 k ∧ k ≤ L.length ∧ v11 = .int .i64 b ∧ v12 = .int .i64 last ∧ v13 = .int .i64 ahead ∧ b ≤ s.size ∧ last ≤ s.size ∧ ahead ≤ nm.size + 1 ∧ P.length ≤ 2 * k ∧ (flat P).length ≤ b + P.length ∧ wr.ownsRow w5.heap.size 9 1 v10 P.length (encs Value.string P) ∧ Below w5.heap.size w5 wr ∧ foldGo s.data.toList most (L.drop k) (flat P) b last ahead = foldGo s.data.toList most L [] 0 0 (nm.size + 1)) (fun _ _ _ _ v49 _ => L.length - (intOf v49).toNat)
          case atStart => exact ⟨[], 0, 0, nm.size + 1, 0, rfl, by omega, rfl, rfl, rfl, by omega, by omega, by omega, by simp, by simp [flat], own_nil _ _ _ _, Below.refl _ _, rfl⟩
          case round =>
            obtain ⟨P, b, last, ahead, k, rfl, hk, rfl, rfl, rfl, hb, hla, hah, hPl, hfl, hown, hbel, hgo⟩ := hrel
            have HOW := Lib.hid hown
            have HBE := Lib.hid hbel
            have HGO := Lib.hid hgo
            have HFL := Lib.hid hfl
            have HPL := Lib.hid hPl
            clear hown hbel hgo hfl hPl
            by_cases hlt : k < L.length
            · obtain ⟨x, hx⟩ : ∃ x, L[k]? = some x := ⟨_, List.getElem?_eq_getElem hlt⟩
              have hxs := HLS.out x (List.mem_of_getElem? hx)
              have hcx : wr.cell? ⟨g5, k, none⟩ = some (.int .i64 x) := (HBE.out.cell (p := ⟨g5, k, none⟩) hg5).trans (HCE.out k x hx)
              have hdrop : L.drop k = x :: L.drop (k + 1) := by
                rw [List.drop_eq_getElem_cons hlt]
                congr 1
                have := List.getElem?_eq_getElem hlt
                rw [hx] at this
                exact (Option.some.inj this).symm
              have HD := Lib.hid hdrop
              have hltj : (k : Int) < (jn : Int) + 1 := by omega
              clear hdrop hx
              by_cases h1 : b < last
              · by_cases h2 : most < (ahead : Int) + x - b
                · have d1 : decide ((b : Int) < (last : Int)) = true := decide_eq_true (by omega)
                  have d2 : decide (most < (ahead : Int) + x - b) = true := decide_eq_true h2
                  have hbl : (b : Int) ≤ last := by omega
                  have hls2 : (last : Int) ≤ (s.size : Int) := by omega
                  have hpl2 := HPL.out
                  gi_wp2_with (gi_at_builtin; refine wpListIn_append_own _ rfl (.tmp 65) (.tmp 70) 54 rfl w5.heap.size 9 i9 _ 1 16 Tryd.underlying54 hi9 hy0 hy1 hy2 rfl (by decide) _ P.length (encs Value.string P) rfl (HOW.out.alloc _) ⟨wr.heap.size, 0, none⟩ 2 2 [.string (s.extract b last), .string ⟨#[13, 10]⟩] rfl rfl (news_two _ _ _ _) (one_two _ _) (by unfold maxLen; omega) (by omega) (by have := HBE.out.size; simp; omega) ?_)
                  intro v6 w6 ho6 hg6 _
                  have hP2 : encs Value.string P ++ [.string (s.extract b last), .string ⟨#[13, 10]⟩] = encs Value.string (P ++ [s.extract b last, ⟨#[13, 10]⟩]) := by simp [encs]
                  have hown6 : w6.ownsRow w5.heap.size 9 1 v6 (P ++ [s.extract b last, ⟨#[13, 10]⟩]).length (encs Value.string (P ++ [s.extract b last, ⟨#[13, 10]⟩])) := by
                    rw [← hP2]
                    simpa using ho6
                  have hb6 : Below w5.heap.size w5 w6 := (HBE.out.alloc HBE.out.size _).grown hg6 (by have := HBE.out.size; simp; omega) (fun q e => by have := own_base HOW.out q e; omega)
                  have hf6 : flat (P ++ [s.extract b last, ⟨#[13, 10]⟩]) = flat P ++ (s.data.toList.drop b).take (last - b) ++ [13, 10] := by rw [flat_two, extract_list]
                  have hfl6 : (flat (P ++ [s.extract b last, ⟨#[13, 10]⟩])).length ≤ last + (P ++ [s.extract b last, (⟨#[13, 10]⟩ : ByteArray)]).length := by
                    have := HFL.out
                    rw [hf6]
                    simp only [List.length_append, List.length_take, List.length_drop, List.length_cons, List.length_nil]
                    omega
                  have hgo6 : foldGo s.data.toList most (L.drop (k + 1)) (flat (P ++ [s.extract b last, ⟨#[13, 10]⟩])) last x 0 = foldGo s.data.toList most L [] 0 0 (nm.size + 1) := by
                    rw [← HGO.out, HD.out, foldGo, if_pos ⟨h1, h2⟩, hf6]
                  have HO6 := Lib.hid hown6
                  have HB6 := Lib.hid hb6
                  have HF6 := Lib.hid hfl6
                  have HG6 := Lib.hid hgo6
                  clear ho6 hg6 hP2 hown6 hb6 hf6 hfl6 hgo6
                  gi_wp2
                  exact ⟨⟨P ++ [s.extract b last, ⟨#[13, 10]⟩], last, x, 0, k + 1, rfl, by omega, rfl, rfl, rfl, hla, hxs, by omega, by simp; omega, HF6.out, HO6.out, HB6.out, HG6.out⟩, by simp [intOf]; omega⟩
                · have d1 : decide ((b : Int) < (last : Int)) = true := decide_eq_true (by omega)
                  have d2 : decide (most < (ahead : Int) + x - b) = false := decide_eq_false h2
                  gi_wp2
                  exact ⟨⟨P, b, x, ahead, k + 1, rfl, by omega, rfl, rfl, rfl, hb, hxs, hah, by have := HPL.out; omega, HFL.out, HOW.out, HBE.out, by rw [← HGO.out, HD.out, foldGo, if_neg (fun e => h2 e.2)]⟩, by simp [intOf]; omega⟩
              · have d1 : decide ((b : Int) < (last : Int)) = false := decide_eq_false (by omega)
                gi_wp2
                exact ⟨⟨P, b, x, ahead, k + 1, rfl, by omega, rfl, rfl, rfl, hb, hxs, hah, by have := HPL.out; omega, HFL.out, HOW.out, HBE.out, by rw [← HGO.out, HD.out, foldGo, if_neg (fun e => h1 e.1)]⟩, by simp [intOf]; omega⟩
            · obtain rfl : k = L.length := by omega
              have hend : foldGo s.data.toList most L [] 0 0 (nm.size + 1) = (flat P, b) := by
                rw [← HGO.out, List.drop_length]
                rfl
              have HEN := Lib.hid hend
              have hnlt : ¬ ((L.length : Int) < (jn : Int) + 1) := by omega
              clear hend
              have hbs : (b : Int) ≤ (s.size : Int) := by omega
              have hpl2 := HPL.out
              gi_wp2_with (gi_at_builtin; refine wpListIn_append_own _ rfl (.tmp 75) (.tmp 79) 54 rfl w5.heap.size 9 i9 _ 1 16 Tryd.underlying54 hi9 hy0 hy1 hy2 rfl (by decide) _ P.length (encs Value.string P) rfl (HOW.out.alloc _) ⟨wr.heap.size, 0, none⟩ 1 1 [.string (s.extract b s.size)] rfl rfl (cell_one_new _ _ _) (by simp [Value.oneCell']) (by unfold maxLen; omega) (by omega) (by have := HBE.out.size; simp; omega) ?_)
              intro v6 w6 ho6 hg6 _
              have hP2 : encs Value.string P ++ [.string (s.extract b s.size)] = encs Value.string (P ++ [s.extract b s.size]) := by simp [encs]
              have hown6 : w6.ownsRow w5.heap.size 9 1 v6 (P ++ [s.extract b s.size]).length (encs Value.string (P ++ [s.extract b s.size])) := by
                rw [← hP2]
                simpa using ho6
              have hb6 : Below w5.heap.size w5 w6 := (HBE.out.alloc HBE.out.size _).grown hg6 (by have := HBE.out.size; simp; omega) (fun q e => by have := own_base HOW.out q e; omega)
              have hflat : (P ++ [s.extract b s.size]).flatMap bytesOf = (foldBody nm.data.toList s.data.toList most).map fun (c : UInt8) => (c.toNat : Int) := by
                unfold foldBody
                rw [← HL.out, hnl, HEN.out]
                simp only [List.flatMap_append, List.flatMap_cons, List.flatMap_nil, List.append_nil, List.map_append]
                congr 1
                · simp only [flat, List.map_flatMap]
                  rfl
                · unfold bytesOf
                  rw [extract_list, List.take_of_length_le (by rw [List.length_drop, hsl]; exact Nat.le_refl _)]
              have hblen : (foldBody nm.data.toList s.data.toList most).length ≤ 5000000 := by
                have h1 := HFL.out
                unfold foldBody
                rw [← HL.out, hnl, HEN.out]
                simp only [List.length_append, List.length_drop, hsl]
                omega
              obtain ⟨kt, hkt⟩ := together_f (P ++ [s.extract b s.size]) (by rw [hflat, List.length_map]; omega) (by simp; omega)
              rw [hflat] at hkt
              obtain ⟨Ap, cp, rfl, hcp, hCp⟩ := Kd.R_reads (Kd.R_of_own (ok := fun _ => True) hown6 (fun _ _ => trivial))
              have HTO := Lib.hid (callsIn_wide (n := 4).2 (field_together.calls kt Ap cp (P ++ [s.extract b s.size]) _ w6 hCp hcp hkt))
              have HB6 := Lib.hid hb6
              clear ho6 hg6 hP2 hown6 hb6 hflat hkt hCp
              simp only [List.length_append, List.length_cons, List.length_nil] at HTO
              gi_wp2_with (refine ⟨trivial, ?_⟩; gi_at_call 41; refine HTO.out.mono ?_; rintro e w7 ⟨v7, rfl, hR7, hb7⟩; obtain ⟨A7, c7, rfl, hc7, hC7⟩ := Kd.R_reads hR7; have q7 := str_body w7 (c := c7) hC7; simp only [List.length_map] at q7; have HB7 := Lib.hid hb7; clear hR7 hb7 hC7)
              have hDlt := (Array.getElem?_eq_some_iff.1 HK.out).1
              have B5 : Below w2.heap.size w2 w5 := (HBo.out.alloc (by omega) _).grown HG5.out (by simp; omega) (fun q e => by have := own_base HRo.out q e; omega)
              have B7 : Below w2.heap.size w2 w7 := (B5.trans (HB6.out.mono B5.size)).trans (HB7.out.mono (Nat.le_trans B5.size HB6.out.size))
              have W02 : Below w.heap.size w w2 := (HW0.out.trans (HW.out.mono HW0.out.size)).trans (HW2.out.mono (Nat.le_trans HW0.out.size HW.out.size))
              have W07 : Below w.heap.size w w7 := W02.trans (B7.mono W02.size)
              have W17 : Below (w.alloc (.cells #[.string ⟨#[]⟩, .string ⟨#[]⟩] 30)).heap.size (w.alloc (.cells #[.string ⟨#[]⟩, .string ⟨#[]⟩] 30)) w7 := (HW.out.trans (HW2.out.mono HW.out.size)).trans (B7.mono (Nat.le_trans HW.out.size HW2.out.size))
              have hD5 : w5.heap[D]? = some (.deferred (some [])) := (HG5.out.block D (by simp; omega) (by intro e; obtain ⟨cells, hc⟩ := own_typed HRo.out D e.symm; rw [HK.out] at hc; cases hc)).trans ((Below.heap_alloc _ _ _ hDlt).trans HK.out)
              have hD6 : w6.heap[D]? = some (.deferred (some [])) := (HB6.out.block _ (Array.getElem?_eq_some_iff.1 hD5).1).trans hD5
              have hD7 : w7.heap[D]? = some (.deferred (some [])) := (HB7.out.block _ (Array.getElem?_eq_some_iff.1 hD6).1).trans hD6
              have hDgt : w.heap.size < D := by have := W02.size; simp at hD; omega
              have WA := Lib.hid (W07.alloc W07.size (.cells #[.string nm, .string ⟨(foldBody nm.data.toList s.data.toList most).toArray⟩] 30))
              have WB := Lib.hid (W17.alloc W17.size (.cells #[.string nm, .string ⟨(foldBody nm.data.toList s.data.toList most).toArray⟩] 30))
              have HD7 := Lib.hid ((Below.heap_alloc w7 (.cells #[.string nm, .string ⟨(foldBody nm.data.toList s.data.toList most).toArray⟩] 30) _ (Array.getElem?_eq_some_iff.1 hD7).1).trans hD7)
              have hbsz : (⟨(foldBody nm.data.toList s.data.toList most).toArray⟩ : ByteArray).size < 4294967281 := by
                have e : (⟨(foldBody nm.data.toList s.data.toList most).toArray⟩ : ByteArray).size = (foldBody nm.data.toList s.data.toList most).length := by simp [ByteArray.size]
                omega
              have HC := Lib.hid (check_calls nm ⟨(foldBody nm.data.toList s.data.toList most).toArray⟩ m _ (by omega) hbsz ((WA.out.cell (World.block_lt_of_cell? w _ HM.out)).trans HM.out) (HT.out.below HT.out.size WA.out))
              have hX0 : (w7.alloc (.cells #[.string nm, .string ⟨(foldBody nm.data.toList s.data.toList most).toArray⟩] 30)).heap[w7.heap.size]? = some (.cells #[.string nm, .string ⟨(foldBody nm.data.toList s.data.toList most).toArray⟩] 30 (0, 0)) := World.alloc_heap_new w7 _
              have HX0 := Lib.hid hX0
              clear hD5 hD6 hD7 B5 B7 W02 W07 W17 hX0 q7
              refine ⟨trivial, ?_⟩
              refine (callsIn_wide (n := 4).2 HC.out).mono ?_
              rintro e w8 ⟨rfl, hb8⟩
              obtain ⟨x0, x1, x2, x3, x4⟩ := res_cells HX0.out hb8
              obtain ⟨r0, r1, r2, r3, r4⟩ := res_cells HR0.out (WB.out.trans (hb8.mono WB.out.size))
              have HR8 := Lib.hid r0
              have HD8 := Lib.hid ((hb8.block _ (Array.getElem?_eq_some_iff.1 HD7.out).1).trans HD7.out)
              have HW8 := Lib.hid (WA.out.trans (hb8.mono WA.out.size))
              have hcv : checkV nm.data.toList (⟨(foldBody nm.data.toList s.data.toList most).toArray⟩ : ByteArray).data.toList = checkV nm.data.toList (foldBody nm.data.toList s.data.toList most) := rfl
              rw [hcv]
              clear hb8 x0 r0 hcv
              by_cases he : checkV nm.data.toList (foldBody nm.data.toList s.data.toList most) = 0
              · have hv : foldV nm.data.toList s.data.toList most = (nm.data.toList, foldBody nm.data.toList s.data.toList most, 0) := by
                  unfold foldV
                  rw [if_neg (by rw [hnm, hen]; simp), if_neg hmost, if_pos he]
                have HV := Lib.hid hv
                have hnmk : (⟨nm.data.toList.toArray⟩ : ByteArray) = nm := by simp
                have HNK := Lib.hid hnmk
                clear hv hnmk
                generalize foldBody nm.data.toList s.data.toList most = body at *
                gi_wp2
                have hK9 : ((w8.setCell ⟨w.heap.size, 0, none⟩ (.string nm)).setCell ⟨w.heap.size, 1, none⟩ (.string ⟨body.toArray⟩)).heap[D]? = some (.deferred (some [])) := by
                  rw [Below.heap_setCell _ _ _ _ (by simp; omega), Below.heap_setCell _ _ _ _ (by simp; omega)]
                  exact HD8.out
                have hR9 := set_two (x := .string nm) (y := .string ⟨body.toArray⟩) HR8.out
                refine ⟨by simp, .inl ⟨_, _, rfl, run_takeDeferred hK9, ?_⟩⟩
                refine ⟨_, results_field rfl _ _ w.heap.size _ _ _ rfl rfl ((World.putObj_heap_other (by omega)).trans hR9), ?_⟩
                have hb9 : Below w.heap.size w ((w8.setCell ⟨w.heap.size, 0, none⟩ (.string nm)).setCell ⟨w.heap.size, 1, none⟩ (.string ⟨body.toArray⟩)) := (HW8.out.setCell (p := ⟨w.heap.size, 0, none⟩) (Nat.le_refl _) _).setCell (p := ⟨w.heap.size, 1, none⟩) (Nat.le_refl _) _
                exact ⟨_, _, _, HV.out, by simp, hb9.grown (grownBy_putObj' _ D _) hb9.size (fun q e => by cases e; omega)⟩
              · have hv : foldV nm.data.toList s.data.toList most = ([], [], checkV nm.data.toList (foldBody nm.data.toList s.data.toList most)) := by
                  unfold foldV
                  rw [if_neg (by rw [hnm, hen]; simp), if_neg hmost, if_neg he]
                have HV := Lib.hid hv
                clear hv
                generalize checkV nm.data.toList (foldBody nm.data.toList s.data.toList most) = cv at *
                have heb : (cv != 0) = true := bne_iff_ne.2 he
                gi_wp2
                have hK9 : ((w8.setCell ⟨w.heap.size, 0, none⟩ (.string ⟨#[]⟩)).setCell ⟨w.heap.size, 1, none⟩ (.string ⟨#[]⟩)).heap[D]? = some (.deferred (some [])) := by
                  rw [Below.heap_setCell _ _ _ _ (by simp; omega), Below.heap_setCell _ _ _ _ (by simp; omega)]
                  exact HD8.out
                have hR9 := set_two (x := .string ⟨#[]⟩) (y := .string ⟨#[]⟩) HR8.out
                refine ⟨by simp, .inl ⟨_, _, rfl, run_takeDeferred hK9, ?_⟩⟩
                refine ⟨_, results_field rfl _ _ w.heap.size _ _ _ rfl rfl ((World.putObj_heap_other (by omega)).trans hR9), ?_⟩
                have hb9 : Below w.heap.size w ((w8.setCell ⟨w.heap.size, 0, none⟩ (.string ⟨#[]⟩)).setCell ⟨w.heap.size, 1, none⟩ (.string ⟨#[]⟩)) := (HW8.out.setCell (p := ⟨w.heap.size, 0, none⟩) (Nat.le_refl _) _).setCell (p := ⟨w.heap.size, 1, none⟩) (Nat.le_refl _) _
                exact ⟨_, _, _, HV.out, rfl, hb9.grown (grownBy_putObj' _ D _) hb9.size (fun q e => by cases e; omega)⟩
    · have hv : foldV nm.data.toList s.data.toList most = ([], [], 160) := by unfold foldV; rw [if_pos (.inr hen)]
      rw [hv]
      gi_wp2_with (first | (refine ⟨trivial, ?_⟩; gi_at_call 31; refine HN.out.mono ?_; rintro e w1 ⟨rfl, hw⟩; rw [hnm]; have HW := Lib.hid hw; clear hw) | (refine ⟨trivial, ?_⟩; gi_at_call 35; refine (callsIn_wide (n := 4).2 (ContainsAny_calls s _ (by omega))).mono ?_; rintro e w2 ⟨rfl, hw2⟩; rw [hen]; obtain ⟨r0, r1, r2, r3, r4⟩ := res_cells HR0.out (HW.out.trans (hw2.mono HW.out.size)); have HW2 := Lib.hid hw2; have HR1 := Lib.hid r0; clear hw2 r0))
      try any_goals (exfalso; exact undef_no ‹some undef = some (Value.bool _)›)
      refine ⟨_, results_field rfl _ _ w.heap.size _ _ _ rfl rfl (set_two HR1.out), ?_⟩
      have hb : Below w.heap.size w w2 := (HW0.out.trans (HW.out.mono HW0.out.size)).trans (HW2.out.mono (Nat.le_trans HW0.out.size HW.out.size))
      exact ⟨[], [], 160, rfl, rfl, (hb.setCell (p := ⟨w.heap.size, 0, none⟩) (Nat.le_refl _) _).setCell (p := ⟨w.heap.size, 1, none⟩) (Nat.le_refl _) _⟩
end Go.Proofs.YtammhcfifnffeaaDoor.FoldWalk
