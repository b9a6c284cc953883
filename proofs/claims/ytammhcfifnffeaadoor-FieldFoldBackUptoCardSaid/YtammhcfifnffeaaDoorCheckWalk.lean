/- field.Check by contract. -/
import Derived.Test.YtammhcfifnffeaaDoorRowsIter
import Derived.Test.YtammhcfifnffeaaDoorAny
import Derived.Test.YtammhcfifnffeaaDoorOctet
import Derived.Test.YtammhcfifnffeaaDoorPFieldPrintsx4
import Derived.BigGuardIn
import Derived.BigGuardPartIn
import Derived.BigFrameIn
import Derived.RangeFuncBox
import Derived.RangeFuncNested
import Derived.Deep.QuietTactic
namespace Go.Proofs.YtammhcfifnffeaaDoor.CheckWalk
open Go.RowKit Go.Shelf Go.Proofs.YtammhcfifnffeaaDoor.RangeBox Go.Proofs.YtammhcfifnffeaaDoor.RowsIter Go.Proofs.YtammhcfifnffeaaDoorW.PrintWords Go.Proofs.YtammhcfifnffeaaDoor.PFieldPrints Go.Proofs.YtammhcfifnffeaaDoor.AnyEnd Go.Proofs.YtammhcfifnffeaaDoor.Octet
attribute [local go_sem] Oper.semAt_some
set_option linter.unusedVariables false
set_option linter.unusedSimpArgs false

/-- does a row begin with a blank? -/
def blankB : List UInt8 → Bool
  | [] => false
  | c :: _ => c == 32 || c == 9
/-- is a row too long, or has it an end in it (n: what stands ahead of it)? -/
def rowBad (n : Nat) (x : List UInt8) : Bool := decide (998 < x.length + n) || hasEnd x
def anyBad (n : Nat) : List (List UInt8) → Bool
  | [] => false
  | r :: l => rowBad n r || l.any (rowBad 0)
def foldOff (x : List UInt8) : Bool := blanksB x || !blankB x
def foldBad (l : List (List UInt8)) : Bool := l.tail.any foldOff
/-- what Check tells -/
def checkV (nm bd : List UInt8) : Int := if nameB nm = false then 160 else if anyBad (nm.length + 1) (rowsL bd) = true then 160 else if foldBad (rowsL bd) = true then 161 else 0
theorem anyBad_snoc (n : Nat) (l : List (List UInt8)) (x : List UInt8) : anyBad n (l ++ [x]) = (anyBad n l || rowBad (if l.isEmpty then n else 0) x) := by
  cases l with
  | nil => simp [anyBad]
  | cons r l => simp [anyBad, Bool.or_assoc]
theorem foldBad_snoc (l : List (List UInt8)) (x : List UInt8) : foldBad (l ++ [x]) = (foldBad l || (!l.isEmpty && foldOff x)) := by
  cases l with
  | nil => simp [foldBad]
  | cons r l => simp [foldBad]
theorem anyBad_prefix {n : Nat} {p l : List (List UInt8)} (h : p <+: l) (hb : anyBad n p = true) : anyBad n l = true := by
  obtain ⟨t, rfl⟩ := h
  cases p with
  | nil => cases hb
  | cons r p =>
    simp only [anyBad, List.cons_append, List.any_append, Bool.or_eq_true] at hb ⊢
    rcases hb with h | h
    · exact .inl h
    · exact .inr (.inl h)

def weight (l : List (List UInt8)) : Nat := (l.map List.length).sum + 2 * l.length
theorem weight_cons (a : List UInt8) (b : List (List UInt8)) : weight (a :: b) = a.length + 2 + weight b := by simp [weight]; omega
theorem rows_weight : ∀ l : List UInt8, weight (rowsL l) = l.length + 2
  | [] => rfl
  | [c] => rfl
  | c :: d :: l => by
    have ih := rows_weight (d :: l)
    have ih2 := rows_weight l
    unfold rowsL
    split
    · rw [weight_cons, ih2]; simp; omega
    · split
      · rename_i h r e
        rw [e, weight_cons] at ih
        rw [weight_cons]
        simp only [List.length_cons] at ih ⊢
        omega
      · rename_i e
        exact absurd e (rowsL_ne _)
theorem rows_calls (s : ByteArray) (w : World) : Calls Tryd.prog 32 #[.string s] w fun e w' => e = .returned (.func (.func 51) #[] #[.pointer (some ⟨w.heap.size, 0, none⟩)]) ∧ w' = w.alloc (.cells #[.string s] 9) := by
  go_enter Tryd.func32, Tryd.ntmps32
  go_wp2
  go_ret
  exact ⟨rfl, rfl⟩

/-- what holds of the four variables -/
structure St (w : World) (A F : Nat) (nm bd : ByteArray) (res fold : Int) (first : Bool) (W : World) : Prop where
  box : W.heap[A]? = some (.cells #[.string nm, .string bd] 30 (0, 0))
  r : Boxed W (A + 1) 25 (.int .i64 res)
  f : Boxed W F 25 (.int .i64 fold)
  g : Boxed W (F + 1) 4 (.bool first)
  below : Below w.heap.size w W
  at_ : A = w.heap.size
  lt : A + 1 < F
theorem St.grow {w : World} {A F : Nat} {nm bd : ByteArray} {res fold : Int} {first : Bool} {W W' : World} (h : St w A F nm bd res fold first W) {row : Option Nat} (hg : W.grownBy W' row) (h1 : some A ≠ row) (h2 : some (A + 1) ≠ row) (h3 : some F ≠ row) (h4 : some (F + 1) ≠ row) (hb : ∀ r, row = some r → w.heap.size ≤ r) : St w A F nm bd res fold first W' :=
  ⟨(hg.block _ (Array.getElem?_eq_some_iff.1 h.box).1 h1).trans h.box, h.r.kept hg h2, h.f.kept hg h3, h.g.kept hg h4, h.below.grown hg h.below.size hb, h.at_, h.lt⟩
theorem St.under {w : World} {A F : Nat} {nm bd : ByteArray} {res fold : Int} {first : Bool} {W W' : World} (h : St w A F nm bd res fold first W) (hb : Below W.heap.size W W') : St w A F nm bd res fold first W' :=
  ⟨(hb.block _ (Array.getElem?_eq_some_iff.1 h.box).1).trans h.box, (hb.block _ h.r.lt).trans h.r, (hb.block _ h.f.lt).trans h.f, (hb.block _ h.g.lt).trans h.g, h.below.trans (hb.mono h.below.size), h.at_, h.lt⟩
theorem St.setF {w : World} {A F : Nat} {nm bd : ByteArray} {res fold : Int} {first : Bool} {W : World} (h : St w A F nm bd res fold first W) (u : Int) : St w A F nm bd res u first (W.setCell ⟨F, 0, none⟩ (.int .i64 u)) :=
  ⟨(Below.heap_setCell W ⟨F, 0, none⟩ _ _ (by have := h.lt; simp; omega)).trans h.box, h.r.other (by have := h.lt; omega) _, h.f.set _, h.g.other (by omega) _, h.below.setCell (p := ⟨F, 0, none⟩) (by have := h.lt; have := h.at_; simp; omega) _, h.at_, h.lt⟩
theorem St.setG {w : World} {A F : Nat} {nm bd : ByteArray} {res fold : Int} {first : Bool} {W : World} (h : St w A F nm bd res fold first W) (u : Bool) : St w A F nm bd res fold u (W.setCell ⟨F + 1, 0, none⟩ (.bool u)) :=
  ⟨(Below.heap_setCell W ⟨F + 1, 0, none⟩ _ _ (by have := h.lt; simp; omega)).trans h.box, h.r.other (by have := h.lt; omega) _, h.f.other (by omega) _, h.g.set _, h.below.setCell (p := ⟨F + 1, 0, none⟩) (by have := h.lt; have := h.at_; simp; omega) _, h.at_, h.lt⟩
theorem St.setR {w : World} {A F : Nat} {nm bd : ByteArray} {res fold : Int} {first : Bool} {W : World} (h : St w A F nm bd res fold first W) (u : Int) : St w A F nm bd u fold first (W.setCell ⟨A + 1, 0, none⟩ (.int .i64 u)) :=
  ⟨(Below.heap_setCell W ⟨A + 1, 0, none⟩ _ _ (by simp)).trans h.box, h.r.set _, h.f.other (by have := h.lt; omega) _, h.g.other (by have := h.lt; omega) _, h.below.setCell (p := ⟨A + 1, 0, none⟩) (by have := h.at_; simp; omega) _, h.at_, h.lt⟩
theorem St.cells {w : World} {A F : Nat} {nm bd : ByteArray} {res fold : Int} {first : Bool} {W : World} (h : St w A F nm bd res fold first W) : W.cell? ⟨A, 0, none⟩ = some (.string nm) ∧ W.cell? ⟨A, 1, none⟩ = some (.string bd) ∧ W.cell? ⟨F, 0, none⟩ = some (.int .i64 fold) ∧ W.frozen? ⟨F, 0, none⟩ = false ∧ W.cell? ⟨F + 1, 0, none⟩ = some (.bool first) ∧ W.frozen? ⟨F + 1, 0, none⟩ = false ∧ W.cell? ⟨A + 1, 0, none⟩ = some (.int .i64 res) ∧ W.frozen? ⟨A + 1, 0, none⟩ = false :=
  ⟨blk_cell h.box 0, blk_cell h.box 1, h.f.cell, h.f.frozen, h.g.cell, h.g.frozen, h.r.cell, h.r.frozen⟩

def Inv (w : World) (A F : Nat) (nm bd : ByteArray) (pre : List (List UInt8)) (W : World) : Prop :=
  St w A F nm bd 0 (if foldBad pre = true then 161 else 0) pre.isEmpty W ∧ anyBad (nm.size + 1) pre = false
def Ended (w : World) (A F : Nat) (nm bd : ByteArray) (c : Code) (pre : List (List UInt8)) (W : World) : Prop :=
  c = .ret ∧ (∃ fold first, St w A F nm bd 160 fold first W) ∧ anyBad (nm.size + 1) pre = true
theorem cells_not {W : World} {B : Nat} {c : Array Value} {t : TypeId} (h : W.heap[B]? = some (.cells c t (0, 0))) {row : Option Nat} (hr : ∀ r, row = some r → ∃ o : Obj, W.heap[r]? = some o ∧ o.isCells = false) : some B ≠ row := by
  intro e
  obtain ⟨o, ho, hc⟩ := hr B e.symm
  rw [h] at ho
  cases ho
  cases hc
theorem St.own {w : World} {A F : Nat} {nm bd : ByteArray} {res fold : Int} {first : Bool} {W W' : World} (h : St w A F nm bd res fold first W) {B : Nat} (hB : w.heap.size ≤ B) {row : Option Nat} (hg : W.grownBy W' row) (hrow : ∀ r, row = some r → B ≤ r ∧ ∃ o : Obj, W.heap[r]? = some o ∧ o.isCells = false) : St w A F nm bd res fold first W' := by
  have hrow' : ∀ r, row = some r → ∃ o : Obj, W.heap[r]? = some o ∧ o.isCells = false := fun r e => (hrow r e).2
  exact h.grow hg (cells_not h.box hrow') (cells_not h.r hrow') (cells_not h.f hrow') (cells_not h.g hrow') (fun r e => Nat.le_trans hB (hrow r e).1)
theorem St.bears {w : World} {A F : Nat} {nm bd : ByteArray} {res fold : Int} {first : Bool} {W W' : World} (h : St w A F nm bd res fold first W) (hg : W.grownBy W' (some (F + 2))) : St w A F nm bd res fold first W' := by
  have h1 := h.lt
  have h2 := h.at_
  refine h.grow hg ?_ ?_ ?_ ?_ ?_
  all_goals first | (intro r e; cases e; omega) | (intro e; simp only [Option.some.injEq] at e; omega)

theorem results_cell_int {fn : Func} {p : Tmp} (h : fn.results = #[.cell p 25]) (tmps : Array Value) (w : World) (B : Nat) (x : Int)
    (hp : tmps.getD p undef = .pointer (some ⟨B, 0, none⟩)) (hc : w.cell? ⟨B, 0, none⟩ = some (.int .i64 x)) :
    (results fn tmps).run Tryd.prog w = .ok (.int .i64 x) w := by
  have hp' : tmps[p]?.getD undef = .pointer (some ⟨B, 0, none⟩) := by simpa using hp
  simp [results, h, hp', asAddr, loadVar, go_sem, hc]
theorem boxed_under {W W' : World} {B : Nat} {t : TypeId} {v : Value} (h : Boxed W B t v) (hb : Below W.heap.size W W') : Boxed W' B t v := (hb.block _ h.lt).trans h
theorem St.put {w : World} {A F : Nat} {nm bd : ByteArray} {res fold : Int} {first : Bool} {W : World} (h : St w A F nm bd res fold first W) {D : Nat} {o o' : Obj} (hD : w.heap.size ≤ D) (hK : W.heap[D]? = some o) (ho : o.isCells = false) : St w A F nm bd res fold first (W.putObj D o') :=
  h.own hD (grownBy_putObj' W D o') (fun r e => by cases e; exact ⟨Nat.le_refl _, o, hK, ho⟩)
theorem keeps_below {W W' : World} (h : Below W.heap.size W W') : KeepsOthers W W' := ⟨h.size, fun k o hk _ => (h.block k (Array.getElem?_eq_some_iff.1 hk).1).trans hk⟩
/-- what a round has come to -/
structure Rd (w : World) (A F : Nat) (nm bd : ByteArray) (res fold : Int) (first : Bool) (W0 W : World) : Prop where
  st : St w A F nm bd res fold first W
  keeps : KeepsOthers W0 W
  same : W.heap[F + 2]? = W0.heap[F + 2]?
  size : F + 2 < W.heap.size
theorem Rd.under {w : World} {A F : Nat} {nm bd : ByteArray} {res fold : Int} {first : Bool} {W0 W W' : World} (h : Rd w A F nm bd res fold first W0 W) (hb : Below W.heap.size W W') : Rd w A F nm bd res fold first W0 W' :=
  ⟨h.st.under hb, h.keeps.trans (keeps_below hb), (hb.block _ h.size).trans h.same, Nat.lt_of_lt_of_le h.size hb.size⟩
theorem Rd.setF {w : World} {A F : Nat} {nm bd : ByteArray} {res fold : Int} {first : Bool} {W0 W : World} (h : Rd w A F nm bd res fold first W0 W) (u : Int) : Rd w A F nm bd res u first W0 (W.setCell ⟨F, 0, none⟩ (.int .i64 u)) :=
  ⟨h.st.setF u, h.keeps.trans (KeepsOthers.setCell _ _ _), (Below.heap_setCell W ⟨F, 0, none⟩ _ _ (by simp)).trans h.same, by have := h.size; simpa [World.setCell] using this⟩
theorem Rd.setG {w : World} {A F : Nat} {nm bd : ByteArray} {res fold : Int} {first : Bool} {W0 W : World} (h : Rd w A F nm bd res fold first W0 W) (u : Bool) : Rd w A F nm bd res fold u W0 (W.setCell ⟨F + 1, 0, none⟩ (.bool u)) :=
  ⟨h.st.setG u, h.keeps.trans (KeepsOthers.setCell _ _ _), (Below.heap_setCell W ⟨F + 1, 0, none⟩ _ _ (by simp)).trans h.same, by have := h.size; simpa [World.setCell] using this⟩
theorem Rd.setR {w : World} {A F : Nat} {nm bd : ByteArray} {res fold : Int} {first : Bool} {W0 W : World} (h : Rd w A F nm bd res fold first W0 W) (u : Int) : Rd w A F nm bd u fold first W0 (W.setCell ⟨A + 1, 0, none⟩ (.int .i64 u)) :=
  ⟨h.st.setR u, h.keeps.trans (KeepsOthers.setCell _ _ _), (Below.heap_setCell W ⟨A + 1, 0, none⟩ _ _ (by have := h.st.lt; simp; omega)).trans h.same, by have := h.size; simpa [World.setCell] using this⟩
theorem undef_no {b : Bool} (h : some undef = some (Value.bool b)) : False := by cases h
theorem finGo {w : World} {A F : Nat} {nm bd : ByteArray} {fold : Int} {W0 W : World} {pre : List (List UInt8)} {x : List UInt8} {a : Act} (h : Rd w A F nm bd 0 fold false W0 W) (hf : fold = if foldBad (pre ++ [x]) = true then 161 else 0) (hb : anyBad (nm.size + 1) (pre ++ [x]) = false) :
    ownPostB (F + 2) (Inv w A F nm bd) (Ended w A F nm bd) (pre ++ [x]) W0 .normal a W := by
  refine ⟨h.keeps, h.same, ?_, hb⟩
  have := h.st
  rw [hf] at this
  have e : (pre ++ [x]).isEmpty = false := by cases pre <;> rfl
  rw [e]
  exact this
theorem finRet {w : World} {A F : Nat} {nm bd : ByteArray} {fold : Int} {first : Bool} {W0 W : World} {pre : List (List UInt8)} {x : List UInt8} {a : Act} (h : Rd w A F nm bd 160 fold first W0 W) (hb : anyBad (nm.size + 1) (pre ++ [x]) = true) :
    ownPostB (F + 2) (Inv w A F nm bd) (Ended w A F nm bd) (pre ++ [x]) W0 .ret a W := ⟨h.keeps, h.same, rfl, ⟨_, _, h.st⟩, hb⟩
theorem blank_yes {c : UInt8} {xs : List UInt8} (h : blankB (c :: xs) = true) : field_blank.f (c.toNat : Int) = some true := by
  unfold field_blank.f
  simp only [blankB, Bool.or_eq_true, beq_iff_eq] at h
  rcases h with rfl | rfl <;> rfl
theorem blank_no {c : UInt8} {xs : List UInt8} (h : blankB (c :: xs) = false) : field_blank.f (c.toNat : Int) = some false := by
  unfold field_blank.f
  simp only [blankB, Bool.or_eq_false_iff, beq_eq_false_iff_ne, ne_eq] at h
  have h1 : c.toNat ≠ 32 := fun e => h.1 (UInt8.toNat_inj.1 e)
  have h2 : c.toNat ≠ 9 := fun e => h.2 (UInt8.toNat_inj.1 e)
  rw [if_neg (by omega)]
  congr 1
  rw [beq_eq_false_iff_ne]
  omega
theorem cell_two {w w' : World} {A : Nat} {x y : Value} {o1 o2 : Obj} (h : Below w.heap.size w w') (hA : w.heap[A]? = some (.cells #[x, y] 30 (0, 0))) : ((w'.alloc o1).alloc o2).cell? ⟨A, 1, none⟩ = some y := by
  have hlt := (Array.getElem?_eq_some_iff.1 hA).1
  have h2 : ((w'.alloc o1).alloc o2).heap[A]? = some (.cells #[x, y] 30 (0, 0)) := by
    have := h.size
    rw [Below.heap_alloc _ _ _ (by simp; omega), Below.heap_alloc _ _ _ (by omega), h.block _ hlt, hA]
  exact blk_cell h2 1
set_option maxHeartbeats 4000000 in
set_option maxRecDepth 100000 in
theorem check_calls (nm bd : ByteArray) (m : Int) (w : World) (hn : nm.size ≤ 140737488355328) (hs : bd.size < 4294967281) (hm : w.cell? ⟨0, 0, none⟩ = some (.int .i64 m)) (hT : Laid w) :
    Calls Tryd.prog 13 #[.agg #[.string nm, .string bd]] w fun e w' => e = .returned (.int .i64 (checkV nm.data.toList bd.data.toList)) ∧ Below w.heap.size w w' := by
  have hnl : nm.data.toList.length = nm.size := data_length nm
  have hu30 := Tryd.underlying30
  refine (callsIn_wide (n := 5)).1 ?_
  refine callsIn_of_wp_marks Tryd.func13 rfl trivial ?_ rfl
  simp only [Tryd.ntmps13, List.size_toArray, List.length_cons, List.length_nil, Nat.reduceAdd, Nat.reduceSub, Array.replicate_succ, Array.replicate_zero, List.push_toArray, List.append_toArray, List.nil_append, List.cons_append]
  have hW0 : Below w.heap.size w ((w.alloc (.cells #[.string nm, .string bd] 30)).alloc (.cells #[.int .i64 0] 25)) := ((Below.refl _ _).alloc (Nat.le_refl _) _).alloc (by simp) _
  have hA0 : ((w.alloc (.cells #[.string nm, .string bd] 30)).alloc (.cells #[.int .i64 0] 25)).heap[w.heap.size]? = some (.cells #[.string nm, .string bd] 30 (0, 0)) := by
    rw [Below.heap_alloc _ _ _ (by simp)]
    exact World.alloc_heap_new w _
  have hR0 : Boxed ((w.alloc (.cells #[.string nm, .string bd] 30)).alloc (.cells #[.int .i64 0] 25)) (w.heap.size + 1) 25 (.int .i64 0) := by
    have := Boxed.new (w.alloc (.cells #[.string nm, .string bd] 30)) 25 (.int .i64 0)
    simpa using this
  have HN := Lib.hid (named_calls nm (by omega) _ (hT.below hT.size hW0))
  have HA0 := Lib.hid hA0
  have HR0 := Lib.hid hR0
  have HW0 := Lib.hid hW0
  clear hA0 hR0 hW0 hT
  cases hnm : nameB nm.data.toList
  · gi_wp2_with (refine ⟨trivial, ?_⟩; gi_at_call 31; refine (callsIn_wide.2 HN.out).mono ?_; rintro e w' ⟨rfl, hw⟩; rw [hnm]; have r1 := Boxed.cell ((hw.block _ HR0.out.lt).trans HR0.out); have r2 := Boxed.frozen ((hw.block _ HR0.out.lt).trans HR0.out); have HW := Lib.hid hw; clear hw)
    refine ⟨_, results_cell_int rfl _ _ (w.heap.size + 1) 160 rfl ((boxed_under HR0.out HW.out).set _).cell, ?_, ?_⟩
    · unfold checkV; rw [hnm]; rfl
    · exact (HW0.out.trans (HW.out.mono HW0.out.size)).setCell (p := ⟨w.heap.size + 1, 0, none⟩) (by simp) _
  · gi_wp2_with (first | (refine ⟨trivial, ?_⟩; gi_at_call 31; refine (callsIn_wide.2 HN.out).mono ?_; rintro e w' ⟨rfl, hw⟩; rw [hnm]; have r1 : ((w'.alloc (.cells #[.int .i64 0] 25)).alloc (.cells #[.bool true] 4)).cell? ⟨w.heap.size, 1, none⟩ = some (.string bd) := cell_two hw HA0.out; have HW := Lib.hid hw; clear hw) | (refine ⟨trivial, ?_⟩; gi_at_call 32; refine (callsIn_wide.2 (rows_calls _ _)).mono ?_; rintro e w' ⟨rfl, rfl⟩; clear r1))
    have hlt : w.heap.size + 1 < w'.heap.size := by have := HW.out.size; simp at this; omega
    have hBW : Below w.heap.size w w' := HW0.out.trans (HW.out.mono HW0.out.size)
    have hBox : boxed (((w'.alloc (.cells #[.int .i64 0] 25)).alloc (.cells #[.bool true] 4)).alloc (.cells #[.string bd] 9)) (w'.heap.size + 2) (.string bd) 9 := by
      have := Boxed.new ((w'.alloc (.cells #[.int .i64 0] 25)).alloc (.cells #[.bool true] 4)) 9 (.string bd)
      simpa [boxed, Boxed] using this
    have hSt : St w w.heap.size w'.heap.size nm bd 0 0 true (((w'.alloc (.cells #[.int .i64 0] 25)).alloc (.cells #[.bool true] 4)).alloc (.cells #[.string bd] 9)) := by
      refine ⟨?_, ?_, ((Boxed.new w' 25 _).alloc _).alloc _, ?_, ((hBW.alloc hBW.size _).alloc (by have := hBW.size; simp; omega) _).alloc (by have := hBW.size; simp; omega) _, rfl, hlt⟩
      · rw [Below.heap_alloc _ _ _ (by simp; omega), Below.heap_alloc _ _ _ (by simp; omega), Below.heap_alloc _ _ _ (by omega)]
        exact (HW.out.block _ (Array.getElem?_eq_some_iff.1 HA0.out).1).trans HA0.out
      · exact (((boxed_under HR0.out HW.out).alloc _).alloc _).alloc _
      · have := (Boxed.new (w'.alloc (.cells #[.int .i64 0] 25)) 4 (.bool true)).alloc (.cells #[.string bd] 9)
        simpa using this
    have hI0 : Inv w w.heap.size w'.heap.size nm bd [] (((w'.alloc (.cells #[.int .i64 0] 25)).alloc (.cells #[.bool true] 4)).alloc (.cells #[.string bd] 9)) := ⟨hSt, rfl⟩
    refine wpIn_rangeFunc_box rfl (by omega) (gf := 51) (lb := #[.pointer (some ⟨w'.heap.size + 2, 0, none⟩)]) rfl trivial (enters_of Tryd.func51 (by kernel_rfl) rfl) (B := w'.heap.size + 2) (by simp) (rows_gives _ (by omega) bd m (w'.heap.size + 2) _ hs hBox) (fun _ => rfl)
      (Inv w w.heap.size w'.heap.size nm bd) (Ended w w.heap.size w'.heap.size nm bd)
      (fun pre W W' row h hg hrow => ⟨h.1.own (B := (((w'.alloc (.cells #[.int .i64 0] 25)).alloc (.cells #[.bool true] 4)).alloc (.cells #[.string bd] 9)).heap.size) hSt.below.size hg hrow, h.2⟩)
      (fun c pre W W' row h hg hrow => ⟨h.1, by obtain ⟨f, g, hs'⟩ := h.2.1; exact ⟨f, g, hs'.own (B := (((w'.alloc (.cells #[.int .i64 0] 25)).alloc (.cells #[.bool true] 4)).alloc (.cells #[.string bd] 9)).heap.size) hSt.below.size hg hrow⟩, h.2.2⟩)
      (fun pre W h => (h.1.below.cell (World.block_lt_of_cell? w _ hm)).trans hm)
      (fun pre W W' h hg => ⟨h.1.bears hg, h.2⟩) (fun c pre W W' h hg => ⟨h.1, by obtain ⟨f, g, hs'⟩ := h.2.1; exact ⟨f, g, hs'.bears hg⟩, h.2.2⟩) hI0
      (fun x => { tmps := #[.agg #[.string nm, .string bd], .pointer (some ⟨w.heap.size, 0, none⟩), .pointer (some ⟨w.heap.size + 1, 0, none⟩), .pointer (some ⟨w'.heap.size, 0, none⟩), .pointer (some ⟨w'.heap.size + 1, 0, none⟩), .string ⟨x.toArray⟩, undef, .pointer (some ⟨w.heap.size, 0, none⟩), .string nm, .bool true, .bool false, .pointer (some ⟨w.heap.size, 1, none⟩), .string bd, .func (.func 51) #[] #[.pointer (some ⟨w'.heap.size + 1 + 1, 0, none⟩)], .string ⟨x.toArray⟩, undef, undef, undef, undef, undef, undef, undef, undef, undef, undef, undef, undef, undef, undef, undef, undef, undef, undef, undef, undef, undef, undef, undef, undef], defers := [] }) ?assign ?body ?done ?stop
    case assign =>
      intro l x W K hK
      gi_wp2
      exact hK
    case stop =>
      rintro D c pre W hD hpre ⟨rfl, ⟨f, g, hS⟩, hbad⟩ hK
      have hbad2 : anyBad (nm.size + 1) (rowsL bd.data.toList) = true := anyBad_prefix hpre hbad
      gi_wp2
      refine ⟨by simp, .inl ⟨_, _, rfl, run_takeDeferred hK, ?_⟩⟩
      have hS2 := hS.put (o' := .deferred none) (Nat.le_trans hSt.below.size hD) hK rfl
      refine ⟨_, results_cell_int rfl _ _ (w.heap.size + 1) 160 rfl hS2.r.cell, ?_, hS2.below⟩
      unfold checkV
      rw [hnm, hnl, hbad2]
      rfl
    case done =>
      rintro D W hD ⟨hS, hbad⟩ hK
      obtain ⟨_, _, k1, _, _, _, k2, k3⟩ := hS.cells
      have hS1 := (hS.setR (if foldBad (rowsL bd.data.toList) = true then 161 else 0)).put (o' := .deferred none) (D := D) (o := .deferred (some [])) (Nat.le_trans hSt.below.size hD) ((Below.heap_setCell W ⟨w.heap.size + 1, 0, none⟩ _ _ (by simp at hD; simp; omega)).trans hK) rfl
      have hK2 : (W.setCell ⟨w.heap.size + 1, 0, none⟩ (.int .i64 (if foldBad (rowsL bd.data.toList) = true then 161 else 0))).heap[D]? = some (.deferred (some [])) := (Below.heap_setCell W ⟨w.heap.size + 1, 0, none⟩ _ _ (by simp at hD; simp; omega)).trans hK
      have HS1 := Lib.hid hS1
      have HK2 := Lib.hid hK2
      have HBAD := Lib.hid hbad
      clear hS hS1 hK hK2 hbad
      have hval : checkV nm.data.toList bd.data.toList = if foldBad (rowsL bd.data.toList) = true then 161 else 0 := by
        unfold checkV
        rw [hnm, hnl, HBAD.out]
        rfl
      generalize (if foldBad (rowsL bd.data.toList) = true then (161 : Int) else 0) = fv at *
      gi_wp2
      refine ⟨by simp, .inl ⟨_, _, rfl, run_takeDeferred HK2.out, ?_⟩⟩
      refine ⟨_, results_cell_int rfl _ _ (w.heap.size + 1) fv rfl HS1.out.r.cell, ?_, HS1.out.below⟩
      rw [hval]
    case body =>
      rintro l pre x W ⟨hS, hbad⟩ hpre hz
      have hR : Rd w w.heap.size w'.heap.size nm bd 0 (if foldBad pre = true then 161 else 0) pre.isEmpty W W := ⟨hS, KeepsOthers.refl _, rfl, by simp at hz; omega⟩
      have hxl : x.length < 4294967281 := by
        have h1 := rows_weight bd.data.toList
        obtain ⟨t, ht⟩ := hpre
        rw [← ht] at h1
        have h2 : bd.data.toList.length = bd.size := data_length bd
        simp only [weight, List.map_append, List.sum_append, List.length_append, List.map_cons, List.sum_cons, List.map_nil, List.sum_nil, List.length_cons, List.length_nil] at h1
        omega
      have hxs : (⟨x.toArray⟩ : ByteArray).size = x.length := by simp [ByteArray.size]
      have hxd : (⟨x.toArray⟩ : ByteArray).data.toList = x := rfl
      have HR := Lib.hid hR
      have HBAD := Lib.hid hbad
      clear hS hR hbad hSt hI0 hBox hpre
      rcases pre with _ | ⟨p, ps⟩
      · have hbx : anyBad (nm.size + 1) ([] ++ [x]) = rowBad (nm.size + 1) x := by simp [anyBad]
        have HR2 : Hid (Rd w w.heap.size w'.heap.size nm bd 0 0 true W W) := Lib.hid HR.out
        obtain ⟨c1, c2, c3, c4, c5, c6, c7, c8⟩ := HR2.out.st.cells
        by_cases hL : 998 < x.length + (nm.size + 1)
        · have hl : decide ((998 : Int) < (x.length : Int) + ((nm.size : Int) + 1)) = true := decide_eq_true (by omega)
          gi_wp2_with (first | (show Fence.wide.fn 35 ∧ _; refine ⟨trivial, ?_⟩))
          all_goals (try (exfalso; exact undef_no ‹some undef = some (Value.bool _)›))
          exact finRet (HR2.out.setR 160) (by rw [hbx, rowBad, decide_eq_true hL]; rfl)
        · have hl : decide ((998 : Int) < (x.length : Int) + ((nm.size : Int) + 1)) = false := decide_eq_false (by omega)
          have HC := Lib.hid (callsIn_wide (n := 2).2 (ContainsAny_calls ⟨x.toArray⟩ W (by omega)))
          cases hE : hasEnd x
          · gi_wp2_with (first | (refine ⟨trivial, ?_⟩; gi_at_call 35; refine (CallsIn.inRound l HC.out).mono ?_; rintro e w2 ⟨rfl, hw2⟩; rw [hE]; obtain ⟨d1, d2, d3, d4, d5, d6, d7, d8⟩ := (HR2.out.under hw2).st.cells; have HW2 := Lib.hid hw2; clear hw2))
            all_goals (try (exfalso; exact undef_no ‹some undef = some (Value.bool _)›))
            exact finGo ((HR2.out.under HW2.out).setG false) (by rw [foldBad_snoc]; rfl) (by rw [hbx, rowBad, hE, decide_eq_false hL]; rfl)
          · gi_wp2_with (first | (refine ⟨trivial, ?_⟩; gi_at_call 35; refine (CallsIn.inRound l HC.out).mono ?_; rintro e w2 ⟨rfl, hw2⟩; rw [hE]; obtain ⟨d1, d2, d3, d4, d5, d6, d7, d8⟩ := (HR2.out.under hw2).st.cells; have HW2 := Lib.hid hw2; clear hw2))
            all_goals (try (exfalso; exact undef_no ‹some undef = some (Value.bool _)›))
            exact finRet ((HR2.out.under HW2.out).setR 160) (by rw [hbx, rowBad, hE, Bool.or_true])
      · have hfx : foldBad ((p :: ps) ++ [x]) = (foldBad (p :: ps) || foldOff x) := by rw [foldBad_snoc]; rfl
        have hbx : anyBad (nm.size + 1) ((p :: ps) ++ [x]) = rowBad 0 x := by rw [anyBad_snoc, HBAD.out]; rfl
        have HR2 : Hid (Rd w w.heap.size w'.heap.size nm bd 0 (if foldBad (p :: ps) = true then 161 else 0) false W W) := Lib.hid HR.out
        obtain ⟨fv, hfv⟩ : ∃ fv : Int, (if foldBad (p :: ps) = true then (161 : Int) else 0) = fv := ⟨_, rfl⟩
        rw [hfv] at HR2
        obtain ⟨c1, c2, c3, c4, c5, c6, c7, c8⟩ := HR2.out.st.cells
        have HB := Lib.hid (callsIn_wide (n := 2).2 (empty_calls ⟨x.toArray⟩ W (by omega)))
        cases hB : blanksB x
        · rcases x with _ | ⟨c, xs⟩
          · cases hB
          · have hB' : blanksB (⟨(c :: xs).toArray⟩ : ByteArray).data.toList = false := hB
            simp only [List.length_cons] at hxl
            cases hb : blankB (c :: xs)
            · have hbl : field_blank.f (c.toNat : Int) = some false := blank_no hb
              by_cases hL : 998 < (c :: xs).length + 0
              · have hl : decide ((998 : Int) < (xs.length : Int) + 1) = true := decide_eq_true (by first | omega | (simp only [List.length_cons] at hL; omega))
                gi_wp2_with (first | (refine ⟨trivial, ?_⟩; gi_at_call 33; refine (CallsIn.inRound l HB.out).mono ?_; rintro e w1 ⟨rfl, hw1⟩; rw [hB']; obtain ⟨e1, e2, e3, e4, e5, e6, e7, e8⟩ := (HR2.out.under hw1).st.cells; have HW1 := Lib.hid hw1; clear hw1) | (refine ⟨trivial, ?_⟩; gi_at_call 34; refine (CallsIn.inRound l (callsIn_wide (n := 2).2 (field_blank.calls (c.toNat : Int) false _ hbl))).mono ?_; rintro e w3 ⟨rfl, ⟨⟨nd, rfl⟩⟩⟩; obtain ⟨g1, g2, g3, g4, g5, g6, g7, g8⟩ := ((HR2.out.under HW1.out).under (pw_below_drewN (Below.refl _ _) nd)).st.cells; obtain ⟨f1, f2, f3, f4, f5, f6, f7, f8⟩ := (((HR2.out.under HW1.out).under (pw_below_drewN (Below.refl _ _) nd)).setF 161).st.cells) | (show Fence.wide.fn 35 ∧ _; refine ⟨trivial, ?_⟩))
                all_goals (try (exfalso; exact undef_no ‹some undef = some (Value.bool _)›))
                exact finRet ((((HR2.out.under HW1.out).under (pw_below_drewN (Below.refl _ _) nd)).setF 161).setR 160) (by rw [hbx, rowBad, decide_eq_true hL]; rfl)
              · have hl : decide ((998 : Int) < (xs.length : Int) + 1) = false := decide_eq_false (by first | omega | (simp only [List.length_cons] at hL; omega))
                cases hE : hasEnd (c :: xs)
                · have hE' : hasEnd (⟨(c :: xs).toArray⟩ : ByteArray).data.toList = false := hE
                  gi_wp2_with (first | (refine ⟨trivial, ?_⟩; gi_at_call 35; refine (CallsIn.inRound l (callsIn_wide (n := 2).2 (ContainsAny_calls ⟨(c :: xs).toArray⟩ _ (by omega)))).mono ?_; rintro e w2 ⟨rfl, hw2⟩; rw [hE']; obtain ⟨d1, d2, d3, d4, d5, d6, d7, d8⟩ := ((((HR2.out.under HW1.out).under (pw_below_drewN (Below.refl _ _) nd)).setF 161).under hw2).st.cells; have HW2 := Lib.hid hw2; clear hw2) | (refine ⟨trivial, ?_⟩; gi_at_call 33; refine (CallsIn.inRound l HB.out).mono ?_; rintro e w1 ⟨rfl, hw1⟩; rw [hB']; obtain ⟨e1, e2, e3, e4, e5, e6, e7, e8⟩ := (HR2.out.under hw1).st.cells; have HW1 := Lib.hid hw1; clear hw1) | (refine ⟨trivial, ?_⟩; gi_at_call 34; refine (CallsIn.inRound l (callsIn_wide (n := 2).2 (field_blank.calls (c.toNat : Int) false _ hbl))).mono ?_; rintro e w3 ⟨rfl, ⟨⟨nd, rfl⟩⟩⟩; obtain ⟨g1, g2, g3, g4, g5, g6, g7, g8⟩ := ((HR2.out.under HW1.out).under (pw_below_drewN (Below.refl _ _) nd)).st.cells; obtain ⟨f1, f2, f3, f4, f5, f6, f7, f8⟩ := (((HR2.out.under HW1.out).under (pw_below_drewN (Below.refl _ _) nd)).setF 161).st.cells))
                  all_goals (try (exfalso; exact undef_no ‹some undef = some (Value.bool _)›))
                  exact finGo (((((HR2.out.under HW1.out).under (pw_below_drewN (Below.refl _ _) nd)).setF 161).under HW2.out).setG false) (by rw [hfx, foldOff, hb]; simp) (by rw [hbx, rowBad, hE, decide_eq_false hL]; rfl)
                · have hE' : hasEnd (⟨(c :: xs).toArray⟩ : ByteArray).data.toList = true := hE
                  gi_wp2_with (first | (refine ⟨trivial, ?_⟩; gi_at_call 35; refine (CallsIn.inRound l (callsIn_wide (n := 2).2 (ContainsAny_calls ⟨(c :: xs).toArray⟩ _ (by omega)))).mono ?_; rintro e w2 ⟨rfl, hw2⟩; rw [hE']; obtain ⟨d1, d2, d3, d4, d5, d6, d7, d8⟩ := ((((HR2.out.under HW1.out).under (pw_below_drewN (Below.refl _ _) nd)).setF 161).under hw2).st.cells; have HW2 := Lib.hid hw2; clear hw2) | (refine ⟨trivial, ?_⟩; gi_at_call 33; refine (CallsIn.inRound l HB.out).mono ?_; rintro e w1 ⟨rfl, hw1⟩; rw [hB']; obtain ⟨e1, e2, e3, e4, e5, e6, e7, e8⟩ := (HR2.out.under hw1).st.cells; have HW1 := Lib.hid hw1; clear hw1) | (refine ⟨trivial, ?_⟩; gi_at_call 34; refine (CallsIn.inRound l (callsIn_wide (n := 2).2 (field_blank.calls (c.toNat : Int) false _ hbl))).mono ?_; rintro e w3 ⟨rfl, ⟨⟨nd, rfl⟩⟩⟩; obtain ⟨g1, g2, g3, g4, g5, g6, g7, g8⟩ := ((HR2.out.under HW1.out).under (pw_below_drewN (Below.refl _ _) nd)).st.cells; obtain ⟨f1, f2, f3, f4, f5, f6, f7, f8⟩ := (((HR2.out.under HW1.out).under (pw_below_drewN (Below.refl _ _) nd)).setF 161).st.cells))
                  all_goals (try (exfalso; exact undef_no ‹some undef = some (Value.bool _)›))
                  exact finRet (((((HR2.out.under HW1.out).under (pw_below_drewN (Below.refl _ _) nd)).setF 161).under HW2.out).setR 160) (by rw [hbx, rowBad, hE, Bool.or_true])
            · have hbl : field_blank.f (c.toNat : Int) = some true := blank_yes hb
              by_cases hL : 998 < (c :: xs).length + 0
              · have hl : decide ((998 : Int) < (xs.length : Int) + 1) = true := decide_eq_true (by first | omega | (simp only [List.length_cons] at hL; omega))
                gi_wp2_with (first | (refine ⟨trivial, ?_⟩; gi_at_call 33; refine (CallsIn.inRound l HB.out).mono ?_; rintro e w1 ⟨rfl, hw1⟩; rw [hB']; obtain ⟨e1, e2, e3, e4, e5, e6, e7, e8⟩ := (HR2.out.under hw1).st.cells; have HW1 := Lib.hid hw1; clear hw1) | (refine ⟨trivial, ?_⟩; gi_at_call 34; refine (CallsIn.inRound l (callsIn_wide (n := 2).2 (field_blank.calls (c.toNat : Int) true _ hbl))).mono ?_; rintro e w3 ⟨rfl, ⟨⟨nd, rfl⟩⟩⟩; obtain ⟨g1, g2, g3, g4, g5, g6, g7, g8⟩ := ((HR2.out.under HW1.out).under (pw_below_drewN (Below.refl _ _) nd)).st.cells) | (show Fence.wide.fn 35 ∧ _; refine ⟨trivial, ?_⟩))
                all_goals (try (exfalso; exact undef_no ‹some undef = some (Value.bool _)›))
                exact finRet ((((HR2.out.under HW1.out).under (pw_below_drewN (Below.refl _ _) nd))).setR 160) (by rw [hbx, rowBad, decide_eq_true hL]; rfl)
              · have hl : decide ((998 : Int) < (xs.length : Int) + 1) = false := decide_eq_false (by first | omega | (simp only [List.length_cons] at hL; omega))
                cases hE : hasEnd (c :: xs)
                · have hE' : hasEnd (⟨(c :: xs).toArray⟩ : ByteArray).data.toList = false := hE
                  gi_wp2_with (first | (refine ⟨trivial, ?_⟩; gi_at_call 35; refine (CallsIn.inRound l (callsIn_wide (n := 2).2 (ContainsAny_calls ⟨(c :: xs).toArray⟩ _ (by omega)))).mono ?_; rintro e w2 ⟨rfl, hw2⟩; rw [hE']; obtain ⟨d1, d2, d3, d4, d5, d6, d7, d8⟩ := ((((HR2.out.under HW1.out).under (pw_below_drewN (Below.refl _ _) nd))).under hw2).st.cells; have HW2 := Lib.hid hw2; clear hw2) | (refine ⟨trivial, ?_⟩; gi_at_call 33; refine (CallsIn.inRound l HB.out).mono ?_; rintro e w1 ⟨rfl, hw1⟩; rw [hB']; obtain ⟨e1, e2, e3, e4, e5, e6, e7, e8⟩ := (HR2.out.under hw1).st.cells; have HW1 := Lib.hid hw1; clear hw1) | (refine ⟨trivial, ?_⟩; gi_at_call 34; refine (CallsIn.inRound l (callsIn_wide (n := 2).2 (field_blank.calls (c.toNat : Int) true _ hbl))).mono ?_; rintro e w3 ⟨rfl, ⟨⟨nd, rfl⟩⟩⟩; obtain ⟨g1, g2, g3, g4, g5, g6, g7, g8⟩ := ((HR2.out.under HW1.out).under (pw_below_drewN (Below.refl _ _) nd)).st.cells))
                  all_goals (try (exfalso; exact undef_no ‹some undef = some (Value.bool _)›))
                  exact finGo (((((HR2.out.under HW1.out).under (pw_below_drewN (Below.refl _ _) nd))).under HW2.out).setG false) (by rw [hfx, foldOff, hB, hb, ← hfv]; simp) (by rw [hbx, rowBad, hE, decide_eq_false hL]; rfl)
                · have hE' : hasEnd (⟨(c :: xs).toArray⟩ : ByteArray).data.toList = true := hE
                  gi_wp2_with (first | (refine ⟨trivial, ?_⟩; gi_at_call 35; refine (CallsIn.inRound l (callsIn_wide (n := 2).2 (ContainsAny_calls ⟨(c :: xs).toArray⟩ _ (by omega)))).mono ?_; rintro e w2 ⟨rfl, hw2⟩; rw [hE']; obtain ⟨d1, d2, d3, d4, d5, d6, d7, d8⟩ := ((((HR2.out.under HW1.out).under (pw_below_drewN (Below.refl _ _) nd))).under hw2).st.cells; have HW2 := Lib.hid hw2; clear hw2) | (refine ⟨trivial, ?_⟩; gi_at_call 33; refine (CallsIn.inRound l HB.out).mono ?_; rintro e w1 ⟨rfl, hw1⟩; rw [hB']; obtain ⟨e1, e2, e3, e4, e5, e6, e7, e8⟩ := (HR2.out.under hw1).st.cells; have HW1 := Lib.hid hw1; clear hw1) | (refine ⟨trivial, ?_⟩; gi_at_call 34; refine (CallsIn.inRound l (callsIn_wide (n := 2).2 (field_blank.calls (c.toNat : Int) true _ hbl))).mono ?_; rintro e w3 ⟨rfl, ⟨⟨nd, rfl⟩⟩⟩; obtain ⟨g1, g2, g3, g4, g5, g6, g7, g8⟩ := ((HR2.out.under HW1.out).under (pw_below_drewN (Below.refl _ _) nd)).st.cells))
                  all_goals (try (exfalso; exact undef_no ‹some undef = some (Value.bool _)›))
                  exact finRet (((((HR2.out.under HW1.out).under (pw_below_drewN (Below.refl _ _) nd))).under HW2.out).setR 160) (by rw [hbx, rowBad, hE, Bool.or_true])
        · have hB' : blanksB (⟨x.toArray⟩ : ByteArray).data.toList = true := hB
          by_cases hL : 998 < x.length + 0
          · have hl : decide ((998 : Int) < (x.length : Int)) = true := decide_eq_true (by first | omega | (simp only [List.length_cons] at hL; omega))
            gi_wp2_with (first | (refine ⟨trivial, ?_⟩; gi_at_call 33; refine (CallsIn.inRound l HB.out).mono ?_; rintro e w1 ⟨rfl, hw1⟩; rw [hB']; obtain ⟨e1, e2, e3, e4, e5, e6, e7, e8⟩ := (HR2.out.under hw1).st.cells; obtain ⟨f1, f2, f3, f4, f5, f6, f7, f8⟩ := ((HR2.out.under hw1).setF 161).st.cells; have HW1 := Lib.hid hw1; clear hw1) | (show Fence.wide.fn 34 ∧ _; refine ⟨trivial, ?_⟩) | (show Fence.wide.fn 35 ∧ _; refine ⟨trivial, ?_⟩))
            all_goals (try (exfalso; exact undef_no ‹some undef = some (Value.bool _)›))
            exact finRet (((HR2.out.under HW1.out).setF 161).setR 160) (by rw [hbx, rowBad, decide_eq_true hL]; rfl)
          · have hl : decide ((998 : Int) < (x.length : Int)) = false := decide_eq_false (by first | omega | (simp only [List.length_cons] at hL; omega))
            cases hE : hasEnd x
            · have hE' : hasEnd (⟨x.toArray⟩ : ByteArray).data.toList = false := hE
              gi_wp2_with (first | (refine ⟨trivial, ?_⟩; gi_at_call 35; refine (CallsIn.inRound l (callsIn_wide (n := 2).2 (ContainsAny_calls ⟨x.toArray⟩ _ (by omega)))).mono ?_; rintro e w2 ⟨rfl, hw2⟩; rw [hE']; obtain ⟨d1, d2, d3, d4, d5, d6, d7, d8⟩ := (((HR2.out.under HW1.out).setF 161).under hw2).st.cells; have HW2 := Lib.hid hw2; clear hw2) | (refine ⟨trivial, ?_⟩; gi_at_call 33; refine (CallsIn.inRound l HB.out).mono ?_; rintro e w1 ⟨rfl, hw1⟩; rw [hB']; obtain ⟨e1, e2, e3, e4, e5, e6, e7, e8⟩ := (HR2.out.under hw1).st.cells; obtain ⟨f1, f2, f3, f4, f5, f6, f7, f8⟩ := ((HR2.out.under hw1).setF 161).st.cells; have HW1 := Lib.hid hw1; clear hw1) | (show Fence.wide.fn 34 ∧ _; refine ⟨trivial, ?_⟩))
              all_goals (try (exfalso; exact undef_no ‹some undef = some (Value.bool _)›))
              exact finGo ((((HR2.out.under HW1.out).setF 161).under HW2.out).setG false) (by rw [hfx, foldOff, hB]; simp) (by rw [hbx, rowBad, hE, decide_eq_false hL]; rfl)
            · have hE' : hasEnd (⟨x.toArray⟩ : ByteArray).data.toList = true := hE
              gi_wp2_with (first | (refine ⟨trivial, ?_⟩; gi_at_call 35; refine (CallsIn.inRound l (callsIn_wide (n := 2).2 (ContainsAny_calls ⟨x.toArray⟩ _ (by omega)))).mono ?_; rintro e w2 ⟨rfl, hw2⟩; rw [hE']; obtain ⟨d1, d2, d3, d4, d5, d6, d7, d8⟩ := (((HR2.out.under HW1.out).setF 161).under hw2).st.cells; have HW2 := Lib.hid hw2; clear hw2) | (refine ⟨trivial, ?_⟩; gi_at_call 33; refine (CallsIn.inRound l HB.out).mono ?_; rintro e w1 ⟨rfl, hw1⟩; rw [hB']; obtain ⟨e1, e2, e3, e4, e5, e6, e7, e8⟩ := (HR2.out.under hw1).st.cells; obtain ⟨f1, f2, f3, f4, f5, f6, f7, f8⟩ := ((HR2.out.under hw1).setF 161).st.cells; have HW1 := Lib.hid hw1; clear hw1) | (show Fence.wide.fn 34 ∧ _; refine ⟨trivial, ?_⟩))
              all_goals (try (exfalso; exact undef_no ‹some undef = some (Value.bool _)›))
              exact finRet ((((HR2.out.under HW1.out).setF 161).under HW2.out).setR 160) (by rw [hbx, rowBad, hE, Bool.or_true])
end Go.Proofs.YtammhcfifnffeaaDoor.CheckWalk
