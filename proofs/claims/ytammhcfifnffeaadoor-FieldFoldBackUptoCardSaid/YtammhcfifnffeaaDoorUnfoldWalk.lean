/- field.Unfold by contract: what it tells of a text, row by row. -/
import Derived.Test.YtammhcfifnffeaaDoorRowsIter
import Derived.Test.YtammhcfifnffeaaDoorPrintWalk
import Derived.Lib.AppendStr
import Derived.BigGuardIn
import Derived.BigGuardPartIn
import Derived.BigFrameIn
import Derived.RangeFuncBox
import Derived.RangeFuncNested
import Derived.Deep.QuietTactic
namespace Go.Proofs.YtammhcfifnffeaaDoor.UnfoldWalk
open Go.RowKit Go.Shelf Go.Proofs.YtammhcfifnffeaaDoor.RangeBox Go.Proofs.YtammhcfifnffeaaDoor.RowsIter Go.Proofs.YtammhcfifnffeaaDoorW.PrintWords Go.Proofs.YtammhcfifnffeaaDoor.PFieldPrints
attribute [local go_sem] Oper.semAt_some
set_option linter.unusedVariables false
set_option linter.unusedSimpArgs false

theorem wpListIn_append_str {F : Fence} {n : Nat} {P : Program} {ops : Array Oper} {rest : List Oper} {o : Oper} {a : Act} {Q : Exit → Act → World → Prop} (w : World) (hgd : o.guard = none) (sl x : Operand) (t u : TypeId)
    (ho : o.op = .call { callee := .builtin .append, args := #[sl, x], argTypes := #[t, u] })
    (base : Nat) (e : TypeId) (ht : P.underlying t = some (.slice e)) (hu : P.underlying u = some .string) (hinfo : (P.info? e).map (fun i => (i.zero, i.size, i.bytes)) = some (some (.int .u8 0), 1, 1))
    (v : Value) (xs : List Int) (hs : a.eval sl = v) (hown : w.ownsRow base e 1 v xs.length (nums .u8 xs)) (y : ByteArray) (hx : a.eval x = .string y)
    (hl : xs.length + y.size ≤ 140737488355328) (hbase : base ≤ w.heap.size)
    (h : ∀ v' w', w'.ownsRow base e 1 v' (xs ++ bytesOf y).length (nums .u8 (xs ++ bytesOf y)) → w.grownBy w' v.ownBlock → wpListIn F n P ops Q rest (a.put o.dst v') w') : wpListIn F n P ops Q (o :: rest) a w := by
  obtain ⟨i0, hi, hzz⟩ := Option.map_eq_some_iff.1 hinfo
  simp only [Prod.mk.injEq] at hzz
  obtain ⟨hz0, hz1, hz2⟩ := hzz
  refine wpListIn_plain hgd fun K hK => ?_
  obtain ⟨v', w', hr, h2, h3, h4⟩ := Lib.run_append_own_string (P := P) w base t u o.type e i0 ht hu hi hz0 hz1 hz2 v xs.length (nums .u8 xs) hown y (by simp only [maxLen]; omega) hl hbase
  have hl2 : (xs ++ bytesOf y).length = xs.length + y.size := by rw [List.length_append, bytesOf_length]
  have hc : nums .u8 (xs ++ bytesOf y) = nums .u8 xs ++ Lib.strCells y := by
    rw [nums_append]
    congr 1
    simp [nums, bytesOf, Lib.strCells]
  unfold Oper.wpIn
  refine ⟨?_, ?_⟩
  · simp [Oper.about, ho, resolve, Target.leads, Sem.run_pure]
  · rw [Oper.semAt_plain F _ _ (by rw [ho]; intro c hc'; cases hc')]
    simp [execOp, ho, resolve, invoke, builtin, hs, hx, hr, Result.andThen]
    exact hK _ _ (h v' w' (by rw [hl2, hc]; exact h2) h3)

/-- does a row begin with a blank? -/
def blankB : List UInt8 → Bool
  | [] => false
  | c :: _ => c == 32 || c == 9
/-- the rows of a text, put together again without the folds -/
def joinFrom : List (List UInt8) → List UInt8
  | [] => []
  | r :: l => (if blankB r then [] else [13, 10]) ++ r ++ joinFrom l
def joinAll : List (List UInt8) → List UInt8
  | [] => []
  | r :: l => r ++ joinFrom l
def ints (l : List UInt8) : List Int := l.map fun b => (b.toNat : Int)

theorem rows_calls (s : ByteArray) (w : World) : Calls Tryd.prog 32 #[.string s] w fun e w' => e = .returned (.func (.func 51) #[] #[.pointer (some ⟨w.heap.size, 0, none⟩)]) ∧ w' = w.alloc (.cells #[.string s] 9) := by
  go_enter Tryd.func32, Tryd.ntmps32
  go_wp2
  go_ret
  exact ⟨rfl, rfl⟩

def weight (l : List (List UInt8)) : Nat := (l.map List.length).sum + 2 * l.length
theorem weight_append (a b : List (List UInt8)) : weight (a ++ b) = weight a + weight b := by simp [weight]; omega
theorem weight_cons (a : List UInt8) (b : List (List UInt8)) : weight (a :: b) = a.length + 2 + weight b := by simp [weight]; omega
theorem rows_weight : ∀ l : List UInt8, weight (rowsL l) = l.length + 2
  | [] => rfl
  | [c] => rfl
  | c :: d :: l => by
    have ih := rows_weight (d :: l)
    have ih2 := rows_weight l
    unfold rowsL
    split
    · rw [weight_cons, ih2]; simp; omega
    · split
      · rename_i h r e
        rw [e, weight_cons] at ih
        rw [weight_cons]
        simp only [List.length_cons] at ih ⊢
        omega
      · rename_i e
        exact absurd e (rowsL_ne _)
theorem joinFrom_le (l : List (List UInt8)) : (joinFrom l).length ≤ weight l := by
  induction l with
  | nil => simp [joinFrom, weight]
  | cons r l ih =>
    rw [weight_cons]
    simp only [joinFrom, List.length_append]
    split <;> simp <;> omega
theorem joinAll_le (l : List (List UInt8)) : (joinAll l).length ≤ weight l := by
  cases l with
  | nil => simp [joinAll, weight]
  | cons r l =>
    rw [weight_cons]
    have := joinFrom_le l
    simp only [joinAll, List.length_append]
    omega
theorem joinFrom_append (a b : List (List UInt8)) : joinFrom (a ++ b) = joinFrom a ++ joinFrom b := by
  induction a with
  | nil => rfl
  | cons r a ih => simp [joinFrom, ih]
theorem joinAll_snoc (a : List (List UInt8)) (x : List UInt8) : joinAll (a ++ [x]) = joinAll a ++ ((if a.isEmpty || blankB x then [] else [13, 10]) ++ x) := by
  cases a with
  | nil => simp [joinAll, joinFrom]
  | cons r a =>
    simp only [List.cons_append, joinAll, joinFrom_append, joinFrom, List.append_nil, List.append_assoc, List.isEmpty_cons, Bool.false_or]
theorem prefix_bound {pre : List (List UInt8)} {x l : List UInt8} (h : (pre ++ [x]) <+: rowsL l) : (joinAll pre).length + 2 + x.length ≤ l.length + 2 := by
  obtain ⟨t, ht⟩ := h
  have h1 := rows_weight l
  rw [← ht, weight_append, weight_append, weight_cons] at h1
  have h2 := joinAll_le pre
  omega
theorem ints_length (l : List UInt8) : (ints l).length = l.length := by simp [ints]
theorem ints_append (a b : List UInt8) : ints (a ++ b) = ints a ++ ints b := by simp [ints]
theorem bytesOf_lit (l : List UInt8) : bytesOf ⟨l.toArray⟩ = ints l := by simp [bytesOf, ints]

theorem undef_no {b : Bool} (h : some undef = some (Value.bool b)) : False := by cases h
/-- what holds between two rounds -/
def Inv (w : World) (pre : List (List UInt8)) (W : World) : Prop :=
  (∃ v, Boxed W w.heap.size 24 v ∧ W.ownsRow (w.heap.size + 3) 5 1 v (ints (joinAll pre)).length (nums .u8 (ints (joinAll pre)))) ∧ Boxed W (w.heap.size + 1) 4 (.bool pre.isEmpty) ∧ Below w.heap.size w W
theorem boxed_not {W : World} {B : Nat} {t : TypeId} {v : Value} (h : Boxed W B t v) {row : Option Nat} (hr : ∀ r, row = some r → ∃ o : Obj, W.heap[r]? = some o ∧ o.isCells = false) : some B ≠ row := by
  intro e
  obtain ⟨o, ho, hc⟩ := hr B e.symm
  have h' : W.heap[B]? = some (.cells #[v] t (0, 0)) := h
  rw [h'] at ho
  cases ho
  cases hc
theorem own_not {W : World} {b e s n : Nat} {v : Value} {xs : List Value} (h : W.ownsRow b e s v n xs) {row : Option Nat} (hr : ∀ r, row = some r → ∃ o : Obj, W.heap[r]? = some o ∧ o.isCells = false) : v.ownBlock = none ∨ v.ownBlock ≠ row := by
  cases hv : v.ownBlock with
  | none => exact .inl rfl
  | some k =>
    refine .inr fun e' => ?_
    obtain ⟨cells, hc⟩ := own_typed h k hv
    obtain ⟨o, ho, hc'⟩ := hr k e'.symm
    rw [hc] at ho
    cases ho
    cases hc'
theorem inv_from (w : World) (B : Nat) (hB : w.heap.size ≤ B) : OwnFrom B (Inv w) := by
  rintro pre A C row ⟨⟨v, hv, hr⟩, hf, hb⟩ hg hrow
  have hrow' : ∀ r, row = some r → ∃ o : Obj, A.heap[r]? = some o ∧ o.isCells = false := fun r e => (hrow r e).2
  exact ⟨⟨v, hv.kept hg (boxed_not hv hrow'), own_other hr hg (own_not hr hrow')⟩, hf.kept hg (boxed_not hf hrow'), hb.grown hg hb.size (fun k e => Nat.le_trans hB (hrow k e).1)⟩
theorem inv_bears (w : World) : Bears (w.heap.size + 2) (Inv w) := by
  rintro pre A C ⟨⟨v, hv, hr⟩, hf, hb⟩ hg
  refine ⟨⟨v, hv.kept hg (by simp), own_other hr hg ?_⟩, hf.kept hg (by simp), hb.grown hg hb.size (fun k e => by cases e; omega)⟩
  cases hv' : v.ownBlock with
  | none => exact .inl rfl
  | some k => exact .inr (by have := own_base hr k hv'; simp; omega)

structure Good (w W w1 : World) (v v' : Value) (zs : List Int) (b : Bool) : Prop where
  cell : w1.cell? ⟨w.heap.size, 0, none⟩ = some v
  frozen : w1.frozen? ⟨w.heap.size, 0, none⟩ = false
  box : Boxed (w1.setCell ⟨w.heap.size, 0, none⟩ v') w.heap.size 24 v'
  row : (w1.setCell ⟨w.heap.size, 0, none⟩ v').ownsRow (w.heap.size + 3) 5 1 v' zs.length (nums .u8 zs)
  flag : Boxed (w1.setCell ⟨w.heap.size, 0, none⟩ v') (w.heap.size + 1) 4 (.bool b)
  below : Below w.heap.size w (w1.setCell ⟨w.heap.size, 0, none⟩ v')
  keeps : KeepsOthers W (w1.setCell ⟨w.heap.size, 0, none⟩ v')
  same : (w1.setCell ⟨w.heap.size, 0, none⟩ v').heap[w.heap.size + 2]? = W.heap[w.heap.size + 2]?
  size : w.heap.size + 3 ≤ (w1.setCell ⟨w.heap.size, 0, none⟩ v').heap.size
theorem app_step {w W w1 : World} {v v' : Value} {zs zs' : List Int} {b : Bool} (hv : Boxed W w.heap.size 24 v) (hr : W.ownsRow (w.heap.size + 3) 5 1 v zs.length (nums .u8 zs)) (hf : Boxed W (w.heap.size + 1) 4 (.bool b)) (hb : Below w.heap.size w W) (hz : w.heap.size + 3 ≤ W.heap.size)
    (ho : w1.ownsRow (w.heap.size + 3) 5 1 v' zs'.length (nums .u8 zs')) (hg : W.grownBy w1 v.ownBlock) : Good w W w1 v v' zs' b := by
  have hne : ∀ k, k < w.heap.size + 3 → some k ≠ v.ownBlock := fun k hk e => by have := own_base hr k e.symm; omega
  have hne' : ∀ k, k < w.heap.size + 3 → some k ≠ v'.ownBlock := fun k hk e => by have := own_base ho k e.symm; omega
  have h1 := hv.kept hg (hne _ (by omega))
  have h2 := hf.kept hg (hne _ (by omega))
  refine ⟨h1.cell, h1.frozen, h1.set _, own_setCell ho (hne' _ (by simp)) _, h2.other (by omega) _, ?_, ?_, ?_, ?_⟩
  · exact (hb.grown hg hb.size (fun k e => by have := own_base hr k e; omega)).setCell (p := ⟨w.heap.size, 0, none⟩) (Nat.le_refl _) _
  · refine (KeepsOthers.of_grownBy hg (fun j o hj ho' => ?_)).trans (KeepsOthers.setCell _ _ _)
    obtain ⟨cells, hc⟩ := own_typed hr j hj
    rw [hc] at ho'
    cases ho'
    rfl
  · rw [Below.heap_setCell w1 ⟨w.heap.size, 0, none⟩ _ _ (by simp)]
    exact hg.block _ (by omega) (hne _ (by omega))
  · have := hg.size
    simp [World.setCell]
    omega

theorem good_end {w W w1 : World} {v v' : Value} {zs : List Int} {b : Bool} {pre : List (List UInt8)} (h : Good w W w1 v v' zs b) (hz : zs = ints (joinAll pre)) (hp : pre.isEmpty = false) (hb2 : w.heap.size + 2 < w.heap.size + 3) :
    KeepsOthers W ((w1.setCell ⟨w.heap.size, 0, none⟩ v').setCell ⟨w.heap.size + 1, 0, none⟩ (.bool false)) ∧ ((w1.setCell ⟨w.heap.size, 0, none⟩ v').setCell ⟨w.heap.size + 1, 0, none⟩ (.bool false)).heap[w.heap.size + 2]? = W.heap[w.heap.size + 2]? ∧ Inv w pre ((w1.setCell ⟨w.heap.size, 0, none⟩ v').setCell ⟨w.heap.size + 1, 0, none⟩ (.bool false)) := by
  subst hz
  refine ⟨h.keeps.trans (KeepsOthers.setCell _ _ _), ?_, ⟨v', h.box.other (by omega) _, own_setCell h.row (fun e => by have := own_base h.row _ e.symm; simp at this) _⟩, ?_, h.below.setCell (p := ⟨w.heap.size + 1, 0, none⟩) (by simp) _⟩
  · rw [Below.heap_setCell _ ⟨w.heap.size + 1, 0, none⟩ _ _ (by simp)]
    exact h.same
  · rw [hp]
    exact h.flag.set _

set_option maxHeartbeats 1000000 in
set_option maxRecDepth 100000 in
theorem unfold_calls (s : ByteArray) (m : Int) (w : World) (hs : s.size < 4294967281) (hm : w.cell? ⟨0, 0, none⟩ = some (.int .i64 m)) :
    Calls Tryd.prog 28 #[.string s] w fun e w' => e = .returned (.string (strOfNums (ints (joinAll (rowsL s.data.toList))))) ∧ Below w.heap.size w w' := by
  refine (callsIn_wide (n := 5)).1 ?_
  refine callsIn_of_wp_marks Tryd.func28 rfl trivial ?_ rfl
  simp only [Tryd.ntmps28, List.size_toArray, List.length_cons, List.length_nil, Nat.reduceAdd, Nat.reduceSub, Array.replicate_succ, Array.replicate_zero, List.push_toArray, List.append_toArray, List.nil_append, List.cons_append]
  gi_wp2_with (refine ⟨trivial, ?_⟩; gi_at_call 32; refine (callsIn_wide.2 (rows_calls _ _)).mono ?_; rintro e w' ⟨rfl, rfl⟩)
  have hBox : boxed (((w.alloc (.cells #[.slice none 0 0] 24)).alloc (.cells #[.bool true] 4)).alloc (.cells #[.string s] 9)) (w.heap.size + 2) (.string s) 9 := by
    have := Boxed.new ((w.alloc (.cells #[.slice none 0 0] 24)).alloc (.cells #[.bool true] 4)) 9 (.string s)
    simpa [boxed, Boxed] using this
  have hI0 : Inv w [] (((w.alloc (.cells #[.slice none 0 0] 24)).alloc (.cells #[.bool true] 4)).alloc (.cells #[.string s] 9)) := by
    refine ⟨⟨.slice none 0 0, ((Boxed.new w 24 _).alloc _).alloc _, own_nil _ _ _ _⟩, ?_, ?_⟩
    · have := (Boxed.new (w.alloc (.cells #[.slice none 0 0] 24)) 4 (.bool true)).alloc (.cells #[.string s] 9)
      simpa using this
    · exact (((Below.refl _ w).alloc (Nat.le_refl _) _).alloc (by simp) _).alloc (by simp; omega) _
  refine wpIn_rangeFunc_box rfl (by omega) (gf := 51) (lb := #[.pointer (some ⟨w.heap.size + 2, 0, none⟩)]) rfl trivial (enters_of Tryd.func51 (by kernel_rfl) rfl) (B := w.heap.size + 2) (by simp) (rows_gives _ (by omega) s m (w.heap.size + 2) _ hs hBox) (fun _ => rfl)
    (Inv w) (fun _ _ _ => False) (inv_from w _ (by simp; omega)) (fun _ _ _ _ _ h _ _ => h) (fun pre W h => (h.2.2.cell (World.block_lt_of_cell? w _ hm)).trans hm) (inv_bears w) (fun _ _ _ _ h _ => h) hI0
    (fun x => { tmps := #[.string s, undef, .string ⟨#[]⟩, .pointer (some ⟨w.heap.size, 0, none⟩), .pointer (some ⟨w.heap.size + 1, 0, none⟩), .string ⟨x.toArray⟩, .string s, .func (.func 51) #[] #[.pointer (some ⟨w.heap.size + 2, 0, none⟩)], .string ⟨x.toArray⟩, undef, undef, undef, undef, undef, undef, undef, undef, undef, undef, undef, undef, undef, undef, undef, undef, undef, undef, undef], defers := [] }) ?assign ?body ?done ?stop
  case assign =>
    intro l x W K hK
    gi_wp2
    exact hK
  case stop => intro D c pre W _ _ h; exact h.elim
  case done =>
    rintro D W hD ⟨⟨v, hv, hr⟩, hf, hb⟩ hK
    have hcv := hv.cell
    obtain ⟨A, c, rfl⟩ := own_slice hr
    have hstr := own_string (P := Tryd.prog) (src := 24) (dst := 9) Tryd.underlying24 Tryd.underlying5 Tryd.underlying9 hr
    have HR := Lib.hid hr
    have HS := Lib.hid hstr
    have HB := Lib.hid hb
    clear hr hb hBox hI0
    gi_wp2
    refine ⟨by simp, .inl ⟨_, _, rfl, run_takeDeferred hK, ?_⟩⟩
    refine ⟨_, results_tmp rfl _ _ _, rfl, ?_⟩
    exact HB.out.trans (belowK_b (w := w) (Nat.le_refl _) W D _ _ (by simp at hD; omega) hK rfl rfl)
  case body =>
    rintro l pre x W ⟨⟨v, hv, hr⟩, hf, hb⟩ hpre hz
    have hbd := prefix_bound hpre
    have hsz : s.data.toList.length = s.size := data_length s
    have hil := ints_length (joinAll pre)
    have hxs : (⟨x.toArray⟩ : ByteArray).size = x.length := by simp [ByteArray.size]
    have hz' : w.heap.size + 3 ≤ W.heap.size := by simpa using hz
    have hc4 := hf.cell
    have hf4 := hf.frozen
    have hc3 := hv.cell
    have hf3 := hv.frozen
    have HX1 : Hid ((ints (joinAll pre)).length + (⟨x.toArray⟩ : ByteArray).size ≤ 140737488355328) := Lib.hid (by omega)
    have HX2 : Hid ((ints (joinAll pre)).length + (⟨#[13, 10]⟩ : ByteArray).size ≤ 140737488355328) := Lib.hid (by have : (⟨#[13, 10]⟩ : ByteArray).size = 2 := rfl; omega)
    have HX3 : Hid ((ints (joinAll pre) ++ bytesOf ⟨#[13, 10]⟩).length + (⟨x.toArray⟩ : ByteArray).size ≤ 140737488355328) := Lib.hid (by have : (⟨#[13, 10]⟩ : ByteArray).size = 2 := rfl; rw [List.length_append, bytesOf_length]; omega)
    have HV := Lib.hid hv
    have HF := Lib.hid hf
    have HR := Lib.hid hr
    have HB := Lib.hid hb
    clear hv hf hr hb hbd hpre hBox hI0 hsz hil hxs hz
    by_cases hp : pre.isEmpty = true ∨ blankB x = true
    · -- the row goes in as it is
      have hE : ints (joinAll (pre ++ [x])) = ints (joinAll pre) ++ bytesOf ⟨x.toArray⟩ := by
        rw [joinAll_snoc, if_pos (by simpa using hp), ints_append, List.nil_append, bytesOf_lit]
      have HE := Lib.hid hE
      clear hE
      have fin : ∀ v' w1, w1.ownsRow (w.heap.size + 3) 5 1 v' (ints (joinAll pre) ++ bytesOf ⟨x.toArray⟩).length (nums .u8 (ints (joinAll pre) ++ bytesOf ⟨x.toArray⟩)) → W.grownBy w1 v.ownBlock → Good w W w1 v v' (ints (joinAll pre) ++ bytesOf ⟨x.toArray⟩) pre.isEmpty := fun v' w1 ho hg => app_step HV.out HR.out HF.out HB.out hz' ho hg
      have FIN := Lib.hid fin
      clear fin
      rcases Bool.eq_false_or_eq_true pre.isEmpty with hq | hq
      · rw [hq] at hc4 FIN
        have HP := Lib.hid hp
        clear hq hp
        gi_wp2_with (first | (show Fence.wide.fn 34 ∧ _; refine ⟨trivial, ?_⟩) | (gi_at_builtin; refine wpListIn_append_str _ rfl (.tmp 23) (.tmp 24) 24 9 rfl (w.heap.size + 3) 5 Tryd.underlying24 Tryd.underlying9 info5 v _ rfl HR.out ⟨x.toArray⟩ rfl HX1.out (by omega) ?_))
        try any_goals (exfalso; exact undef_no ‹some undef = some (Value.bool _)›)
        intro v' w1 ho hg
        rw [← List.length_append] at ho
        have G := Lib.hid (FIN.out v' w1 ho hg)
        obtain ⟨A2, c2, rfl⟩ := own_slice ho
        have g1 := G.out.cell
        have g2 := G.out.frozen
        have g3 := G.out.flag.cell
        have g4 := G.out.flag.frozen
        simp only [List.length_append] at g1 g2 g3 g4
        clear ho hg hc3 hf3 hc4 hf4
        gi_wp2
        have E := good_end G.out HE.out.symm (by simp) (by omega)
        simp only [List.length_append] at E
        exact E
      · rw [hq] at hc4 FIN
        have hb1 : blankB x = true := by
          rcases hp with h | h
          · rw [hq] at h; cases h
          · exact h
        clear hq hp
        cases x with
        | nil => cases hb1
        | cons c xs =>
          have hbl : field_blank.f (c.toNat : Int) = some true := by
            unfold field_blank.f
            simp only [blankB, Bool.or_eq_true, beq_iff_eq] at hb1
            rcases hb1 with rfl | rfl <;> rfl
          have HC := Lib.hid (callsIn_wide (n := 2).2 (field_blank.calls (c.toNat : Int) true W hbl))
          clear hbl hb1
          gi_wp2_with (first | (refine ⟨trivial, ?_⟩; gi_at_call 34; refine (CallsIn.inRound l HC.out).mono ?_; rintro e w' ⟨rfl, ⟨⟨nd, rfl⟩⟩⟩) | (gi_at_builtin; refine wpListIn_append_str _ rfl (.tmp 23) (.tmp 24) 24 9 rfl (w.heap.size + 3) 5 Tryd.underlying24 Tryd.underlying9 info5 v _ rfl (pw_own_below HR.out (pw_below_drewN (Below.refl _ _) _)) ⟨(c :: xs).toArray⟩ rfl HX1.out (by simp; omega) ?_))
          try any_goals (exfalso; exact undef_no ‹some undef = some (Value.bool _)›)
          intro v' w1 ho hg
          rw [← List.length_append] at ho
          have G := Lib.hid (FIN.out v' w1 ho ⟨hg.os, hg.tape, hg.output, hg.size, hg.block⟩)
          obtain ⟨A2, c2, rfl⟩ := own_slice ho
          have g1 := G.out.cell
          have g2 := G.out.frozen
          have g3 := G.out.flag.cell
          have g4 := G.out.flag.frozen
          simp only [List.length_append] at g1 g2 g3 g4
          clear ho hg hc3 hf3 hc4 hf4
          gi_wp2
          have E := good_end G.out HE.out.symm (by simp) (by omega)
          simp only [List.length_append] at E
          exact E
    · -- a line end goes in ahead of the row
      have hq : pre.isEmpty = false := by
        cases h : pre.isEmpty with
        | false => rfl
        | true => exact absurd (.inl h) hp
      have hb0 : blankB x = false := by
        cases h : blankB x with
        | false => rfl
        | true => exact absurd (.inr h) hp
      have hE : ints (joinAll (pre ++ [x])) = (ints (joinAll pre) ++ bytesOf ⟨#[13, 10]⟩) ++ bytesOf ⟨x.toArray⟩ := by
        rw [joinAll_snoc, if_neg (by rw [hq, hb0]; simp), ints_append, ints_append, bytesOf_lit, List.append_assoc]
        rfl
      have HE := Lib.hid hE
      rw [hq] at hc4
      clear hE hq hp
      cases x with
      | nil =>
        clear hb0
        gi_wp2_with (first | (show Fence.wide.fn 34 ∧ _; refine ⟨trivial, ?_⟩) | (gi_at_builtin; refine wpListIn_append_str _ rfl (.tmp 21) (.const (.string ⟨#[13, 10]⟩)) 24 9 rfl (w.heap.size + 3) 5 Tryd.underlying24 Tryd.underlying9 info5 v _ rfl HR.out ⟨#[13, 10]⟩ rfl HX2.out (by omega) ?_))
        try any_goals (exfalso; exact undef_no ‹some undef = some (Value.bool _)›)
        intro v1 w1 ho1 hg1
        rw [← List.length_append] at ho1
        have hg1' : W.grownBy w1 v.ownBlock := ⟨hg1.os, hg1.tape, hg1.output, hg1.size, hg1.block⟩
        have G := Lib.hid (app_step HV.out HR.out HF.out HB.out hz' ho1 hg1')
        obtain ⟨A1, c1, rfl⟩ := own_slice ho1
        have g1 := G.out.cell
        have g2 := G.out.frozen
        have g3 := G.out.box.cell
        have g4 := G.out.box.frozen
        have hs1 := G.out.size
        simp only [List.length_append] at g1 g2 g3 g4 hs1
        have HR2 : Hid ((w1.setCell ⟨w.heap.size, 0, none⟩ (.slice A1 ((ints (joinAll pre)).length + (bytesOf ⟨#[13, 10]⟩).length) c1)).ownsRow (w.heap.size + 3) 5 1 (.slice A1 ((ints (joinAll pre)).length + (bytesOf ⟨#[13, 10]⟩).length) c1) (ints (joinAll pre) ++ bytesOf ⟨#[13, 10]⟩).length (nums .u8 (ints (joinAll pre) ++ bytesOf ⟨#[13, 10]⟩))) := Lib.hid (by simpa only [List.length_append] using G.out.row)
        have HV2 : Hid (Boxed (w1.setCell ⟨w.heap.size, 0, none⟩ (.slice A1 ((ints (joinAll pre)).length + (bytesOf ⟨#[13, 10]⟩).length) c1)) w.heap.size 24 (.slice A1 ((ints (joinAll pre)).length + (bytesOf ⟨#[13, 10]⟩).length) c1)) := Lib.hid (by simpa only [List.length_append] using G.out.box)
        have HF2 : Hid (Boxed (w1.setCell ⟨w.heap.size, 0, none⟩ (.slice A1 ((ints (joinAll pre)).length + (bytesOf ⟨#[13, 10]⟩).length) c1)) (w.heap.size + 1) 4 (.bool pre.isEmpty)) := Lib.hid (by simpa only [List.length_append] using G.out.flag)
        have HB2 : Hid (Below w.heap.size w (w1.setCell ⟨w.heap.size, 0, none⟩ (.slice A1 ((ints (joinAll pre)).length + (bytesOf ⟨#[13, 10]⟩).length) c1))) := Lib.hid (by simpa only [List.length_append] using G.out.below)
        have HK2 : Hid (KeepsOthers W (w1.setCell ⟨w.heap.size, 0, none⟩ (.slice A1 ((ints (joinAll pre)).length + (bytesOf ⟨#[13, 10]⟩).length) c1))) := Lib.hid (by simpa only [List.length_append] using G.out.keeps)
        have HM2 : Hid ((w1.setCell ⟨w.heap.size, 0, none⟩ (.slice A1 ((ints (joinAll pre)).length + (bytesOf ⟨#[13, 10]⟩).length) c1)).heap[w.heap.size + 2]? = W.heap[w.heap.size + 2]?) := Lib.hid (by simpa only [List.length_append] using G.out.same)
        clear ho1 hg1 hg1' hc3 hf3 hc4 hf4 G
        gi_wp2_with (gi_at_builtin; refine wpListIn_append_str _ rfl (.tmp 23) (.tmp 24) 24 9 rfl (w.heap.size + 3) 5 Tryd.underlying24 Tryd.underlying9 info5 _ (ints (joinAll pre) ++ bytesOf ⟨#[13, 10]⟩) rfl HR2.out ⟨([] : List UInt8).toArray⟩ rfl HX3.out (by omega) ?_)
        intro v2 w2 ho2 hg2
        have ho3 : w2.ownsRow (w.heap.size + 3) 5 1 v2 ((ints (joinAll pre) ++ bytesOf ⟨#[13, 10]⟩) ++ bytesOf ⟨([] : List UInt8).toArray⟩).length (nums .u8 ((ints (joinAll pre) ++ bytesOf ⟨#[13, 10]⟩) ++ bytesOf ⟨([] : List UInt8).toArray⟩)) := by simpa only [List.length_append, List.append_assoc] using ho2
        have G2 := Lib.hid (app_step HV2.out HR2.out HF2.out HB2.out hs1 ho3 hg2)
        obtain ⟨A2, c2, rfl⟩ := own_slice ho3
        have k1 := G2.out.cell
        have k2 := G2.out.frozen
        have k3 := G2.out.flag.cell
        have k4 := G2.out.flag.frozen
        simp only [List.length_append, List.append_assoc] at k1 k2 k3 k4
        clear ho2 ho3 hg2 g1 g2 g3 g4
        gi_wp2
        have E := good_end G2.out HE.out.symm (by simp) (by omega)
        have E2 := And.intro (HK2.out.trans E.1) (And.intro (E.2.1.trans HM2.out) E.2.2)
        simp only [List.length_append, List.append_assoc] at E2
        exact E2
      | cons c xs =>
        have hbl : field_blank.f (c.toNat : Int) = some false := by
          unfold field_blank.f
          simp only [blankB, Bool.or_eq_false_iff, beq_eq_false_iff_ne, ne_eq] at hb0
          have h1 : c.toNat ≠ 32 := fun h => hb0.1 (UInt8.toNat_inj.1 h)
          have h2 : c.toNat ≠ 9 := fun h => hb0.2 (UInt8.toNat_inj.1 h)
          rw [if_neg (by omega)]
          congr 1
          rw [beq_eq_false_iff_ne]
          omega
        have HC := Lib.hid (callsIn_wide (n := 2).2 (field_blank.calls (c.toNat : Int) false W hbl))
        clear hbl hb0
        gi_wp2_with (first | (refine ⟨trivial, ?_⟩; gi_at_call 34; refine (CallsIn.inRound l HC.out).mono ?_; rintro e w' ⟨rfl, ⟨⟨nd, rfl⟩⟩⟩) | (gi_at_builtin; refine wpListIn_append_str _ rfl (.tmp 21) (.const (.string ⟨#[13, 10]⟩)) 24 9 rfl (w.heap.size + 3) 5 Tryd.underlying24 Tryd.underlying9 info5 v _ rfl (pw_own_below HR.out (pw_below_drewN (Below.refl _ _) _)) ⟨#[13, 10]⟩ rfl HX2.out (by simp; omega) ?_))
        try any_goals (exfalso; exact undef_no ‹some undef = some (Value.bool _)›)
        intro v1 w1 ho1 hg1
        rw [← List.length_append] at ho1
        have hg1' : W.grownBy w1 v.ownBlock := ⟨hg1.os, hg1.tape, hg1.output, hg1.size, hg1.block⟩
        have G := Lib.hid (app_step HV.out HR.out HF.out HB.out hz' ho1 hg1')
        obtain ⟨A1, c1, rfl⟩ := own_slice ho1
        have g1 := G.out.cell
        have g2 := G.out.frozen
        have g3 := G.out.box.cell
        have g4 := G.out.box.frozen
        have hs1 := G.out.size
        simp only [List.length_append] at g1 g2 g3 g4 hs1
        have HR2 : Hid ((w1.setCell ⟨w.heap.size, 0, none⟩ (.slice A1 ((ints (joinAll pre)).length + (bytesOf ⟨#[13, 10]⟩).length) c1)).ownsRow (w.heap.size + 3) 5 1 (.slice A1 ((ints (joinAll pre)).length + (bytesOf ⟨#[13, 10]⟩).length) c1) (ints (joinAll pre) ++ bytesOf ⟨#[13, 10]⟩).length (nums .u8 (ints (joinAll pre) ++ bytesOf ⟨#[13, 10]⟩))) := Lib.hid (by simpa only [List.length_append] using G.out.row)
        have HV2 : Hid (Boxed (w1.setCell ⟨w.heap.size, 0, none⟩ (.slice A1 ((ints (joinAll pre)).length + (bytesOf ⟨#[13, 10]⟩).length) c1)) w.heap.size 24 (.slice A1 ((ints (joinAll pre)).length + (bytesOf ⟨#[13, 10]⟩).length) c1)) := Lib.hid (by simpa only [List.length_append] using G.out.box)
        have HF2 : Hid (Boxed (w1.setCell ⟨w.heap.size, 0, none⟩ (.slice A1 ((ints (joinAll pre)).length + (bytesOf ⟨#[13, 10]⟩).length) c1)) (w.heap.size + 1) 4 (.bool pre.isEmpty)) := Lib.hid (by simpa only [List.length_append] using G.out.flag)
        have HB2 : Hid (Below w.heap.size w (w1.setCell ⟨w.heap.size, 0, none⟩ (.slice A1 ((ints (joinAll pre)).length + (bytesOf ⟨#[13, 10]⟩).length) c1))) := Lib.hid (by simpa only [List.length_append] using G.out.below)
        have HK2 : Hid (KeepsOthers W (w1.setCell ⟨w.heap.size, 0, none⟩ (.slice A1 ((ints (joinAll pre)).length + (bytesOf ⟨#[13, 10]⟩).length) c1))) := Lib.hid (by simpa only [List.length_append] using G.out.keeps)
        have HM2 : Hid ((w1.setCell ⟨w.heap.size, 0, none⟩ (.slice A1 ((ints (joinAll pre)).length + (bytesOf ⟨#[13, 10]⟩).length) c1)).heap[w.heap.size + 2]? = W.heap[w.heap.size + 2]?) := Lib.hid (by simpa only [List.length_append] using G.out.same)
        clear ho1 hg1 hg1' hc3 hf3 hc4 hf4 G
        gi_wp2_with (gi_at_builtin; refine wpListIn_append_str _ rfl (.tmp 23) (.tmp 24) 24 9 rfl (w.heap.size + 3) 5 Tryd.underlying24 Tryd.underlying9 info5 _ (ints (joinAll pre) ++ bytesOf ⟨#[13, 10]⟩) rfl HR2.out ⟨(c :: xs).toArray⟩ rfl HX3.out (by omega) ?_)
        intro v2 w2 ho2 hg2
        have ho3 : w2.ownsRow (w.heap.size + 3) 5 1 v2 ((ints (joinAll pre) ++ bytesOf ⟨#[13, 10]⟩) ++ bytesOf ⟨(c :: xs).toArray⟩).length (nums .u8 ((ints (joinAll pre) ++ bytesOf ⟨#[13, 10]⟩) ++ bytesOf ⟨(c :: xs).toArray⟩)) := by simpa only [List.length_append, List.append_assoc] using ho2
        have G2 := Lib.hid (app_step HV2.out HR2.out HF2.out HB2.out hs1 ho3 hg2)
        obtain ⟨A2, c2, rfl⟩ := own_slice ho3
        have k1 := G2.out.cell
        have k2 := G2.out.frozen
        have k3 := G2.out.flag.cell
        have k4 := G2.out.flag.frozen
        simp only [List.length_append, List.append_assoc] at k1 k2 k3 k4
        clear ho2 ho3 hg2 g1 g2 g3 g4
        gi_wp2
        have E := good_end G2.out HE.out.symm (by simp) (by omega)
        have E2 := And.intro (HK2.out.trans E.1) (And.intro (E.2.1.trans HM2.out) E.2.2)
        simp only [List.length_append, List.append_assoc] at E2
        exact E2
end Go.Proofs.YtammhcfifnffeaaDoor.UnfoldWalk
