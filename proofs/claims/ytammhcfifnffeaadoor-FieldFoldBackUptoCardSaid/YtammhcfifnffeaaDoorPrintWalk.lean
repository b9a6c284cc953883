/- field.Print by contract. -/
import Derived.Test.YtammhcfifnffeaaDoorCheckWalk
import Derived.Test.YtammhcfifnffeaaDoorPFieldPrintsx1
import Derived.Test.YtammhcfifnffeaaDoorHand
namespace Go.Proofs.YtammhcfifnffeaaDoor.PrintWalk
open Go.RowKit Go.Proofs.YtammhcfifnffeaaDoorW.PrintWords Go.Proofs.YtammhcfifnffeaaDoorW.PrintLast Go.Proofs.YtammhcfifnffeaaDoorW.PrintMore Go.Proofs.YtammhcfifnffeaaDoor.PFieldPrints Go.Proofs.YtammhcfifnffeaaDoor.Octet Go.Proofs.YtammhcfifnffeaaDoor.CheckWalk Go.Proofs.YtammhcfifnffeaaDoor.Hand
attribute [local go_sem] max2_int min2_int max_two min_two max_three min_three max_four min_four
set_option linter.unusedVariables false
set_option linter.unusedSimpArgs false

def checkF (f : S30) : Int := checkV f.f0.data.toList f.f1.data.toList
def firstBad : List S30 → Int
  | [] => 0
  | f :: l => if checkF f = 0 then firstBad l else checkF f
def line (f : S30) : List Int := bytesOf f.f0 ++ [58] ++ bytesOf f.f1 ++ [13, 10]
/-- what Print tells -/
def printV (l : List S30) : List Int × Int := if 4096 < l.length then ([], 160) else if firstBad l = 0 then (l.flatMap line, 0) else ([], firstBad l)
def partsOf (f : S30) : List ByteArray := [f.f0, ⟨#[58]⟩, f.f1, ⟨#[13, 10]⟩]
def partsTo (l : List S30) (k : Nat) : List ByteArray := (l.take k).flatMap partsOf
theorem firstBad_at : ∀ {l : List S30} {k : Nat} {f : S30}, (∀ j g, j < k → l[j]? = some g → checkF g = 0) → l[k]? = some f → checkF f ≠ 0 → firstBad l = checkF f
  | [], k, f, _, h, _ => by simp at h
  | g :: l, 0, f, _, h, hb => by
    simp only [List.getElem?_cons_zero, Option.some.injEq] at h
    subst h
    rw [firstBad, if_neg hb]
  | g :: l, k + 1, f, hj, h, hb => by
    rw [firstBad, if_pos (hj 0 g (by omega) rfl)]
    exact firstBad_at (k := k) (fun j x hjk hx => hj (j + 1) x (by omega) (by simpa using hx)) (by simpa using h) hb
theorem firstBad_all : ∀ {l : List S30}, (∀ (j : Nat) g, l[j]? = some g → checkF g = 0) → firstBad l = 0
  | [], _ => rfl
  | g :: l, h => by
    rw [firstBad, if_pos (h 0 g rfl)]
    exact firstBad_all fun j x hx => h (j + 1) x (by simpa using hx)
theorem noBad_succ {l : List S30} {k : Nat} {f : S30} (h : ∀ j g, j < k → l[j]? = some g → checkF g = 0) (hf : l[k]? = some f) (h0 : checkF f = 0) : ∀ j g, j < k + 1 → l[j]? = some g → checkF g = 0 := by
  intro j g hj hg
  rcases Nat.lt_or_ge j k with h' | h'
  · exact h j g h' hg
  · obtain rfl : j = k := by omega
    rw [hf] at hg
    cases hg
    exact h0
theorem partsTo_succ {l : List S30} {k : Nat} {f : S30} (h : l[k]? = some f) : partsTo l (k + 1) = partsTo l k ++ partsOf f := by
  unfold partsTo
  rw [List.take_add_one, h]
  simp
theorem partsTo_length {l : List S30} {k : Nat} (h : k ≤ l.length) : (partsTo l k).length = 4 * k := by
  induction k with
  | zero => rfl
  | succ k ih =>
    rw [partsTo_succ (List.getElem?_eq_getElem (by omega)), List.length_append, ih (by omega)]
    simp [partsOf]; omega
theorem partsTo_all (l : List S30) : (partsTo l l.length).flatMap bytesOf = l.flatMap line := by
  unfold partsTo
  rw [List.take_length, List.flatMap_assoc]
  congr 1
  funext f
  simp [partsOf, line, bytesOf]
theorem bytes_sum (l : List ByteArray) : (l.flatMap bytesOf).length = (l.map ByteArray.size).sum := by
  induction l with
  | nil => rfl
  | cons x l ih => simp [List.flatMap_cons, ih, bytesOf_length]
theorem together_f (l : List ByteArray) (h : (l.flatMap bytesOf).length < 140737488355328) (hl : l.length ≤ 9223372036854775806) : ∃ k, field_together.f k l = some (l.flatMap bytesOf) := by
  suffices g : ∀ (d i : Nat), i + d = l.length → ∀ k, d < k → field_together.l0 k ((l.take i).flatMap bytesOf) l (l.length : Int) i = some (l.flatMap bytesOf) from ⟨l.length + 1, g l.length 0 (by omega) _ (by omega)⟩
  intro d
  induction d with
  | zero =>
    intro i hi k hk
    obtain ⟨k, rfl⟩ : ∃ m, k = m + 1 := ⟨k - 1, by omega⟩
    simp only [field_together.l0]
    rw [if_neg (by omega), List.take_of_length_le (by omega)]
  | succ d ih =>
    intro i hi k hk
    obtain ⟨k, rfl⟩ : ∃ m, k = m + 1 := ⟨k - 1, by omega⟩
    have hx : l[i]? = some (l[i]'(by omega)) := List.getElem?_eq_getElem (by omega)
    have hr : rdOf ByteArray.empty l (i : Int) = l[i]'(by omega) := by
      unfold rdOf
      simp [List.getD_eq_getElem?_getD, hx]
    have ht : (l.take (i + 1)).flatMap bytesOf = (l.take i).flatMap bytesOf ++ bytesOf (l[i]'(by omega)) := by
      rw [List.take_add_one, List.flatMap_append, hx]
      simp [List.flatMap_cons]
    have hle : ((l.take (i + 1)).flatMap bytesOf).length ≤ (l.flatMap bytesOf).length := by
      conv => rhs; rw [← List.take_append_drop (i + 1) l]
      rw [List.flatMap_append, List.length_append]
      omega
    simp only [field_together.l0]
    rw [if_pos (by omega), if_pos (by omega), if_pos (by omega), hr]
    rw [ht, List.length_append, bytesOf_length] at hle
    rw [if_pos (by omega)]
    have hw : wrap64 ((i : Int) + 1) = ((i + 1 : Nat) : Int) := by unfold wrap64; omega
    rw [hw, ← ht]
    exact ih (i + 1) (by omega) k (by omega)
theorem C_lit_str (W : World) (l : List ByteArray) (hm : l.length ≤ 9223372036854775807) : Kd.C Kd.string (W.alloc (.cells (encs Value.string l).toArray 9)) (some ⟨W.heap.size, 0, none⟩) l.length l := by
  have h := own_lit_of (enc := Value.string) W W.heap.size 9 l (Nat.le_refl _) hm
  exact (Kd.R_reads' (Kd.R_of_own (ok := fun _ => True) h (fun _ _ => trivial))).2.2

/-- how big the fields may be -/
structure Small (l : List S30) : Prop where
  each : ∀ f ∈ l, f.f0.size < 4294967281 ∧ f.f1.size < 4294967281
  all : (l.flatMap line).length < 140737488355328

set_option maxHeartbeats 4000000 in
set_option maxRecDepth 100000 in
theorem print_calls (A : Option Addr) (c : Nat) (l : List S30) (m : Int) (w : World) (hr : Kd.C k30 w A l.length l) (hc : l.length ≤ c) (hS : Small l) (hm : w.cell? ⟨0, 0, none⟩ = some (.int .i64 m)) (hT : Laid w) :
    Calls Tryd.prog 15 #[.slice A l.length c] w fun e w' => ∃ v, e = .returned (.tuple #[v, .int .i64 (printV l).2]) ∧ Kd.R (Kd.int .u8) 5 w' w.heap.size (fun _ => True) v (printV l).1 ∧ Below w.heap.size w w' := by
  have hu30 := Tryd.underlying30
  have hll : l.length ≤ 9223372036854775807 := hr.2.1
  have HR := Lib.hid hr
  have HS := Lib.hid hS
  have HT := Lib.hid hT
  have h0lt := World.block_lt_of_cell? w _ hm
  have HM := Lib.hid hm
  clear hr hS hT hm
  by_cases h4 : 4096 < l.length
  · have h4i : decide ((4096 : Int) < (l.length : Int)) = true := decide_eq_true (by omega)
    have hv : printV l = ([], 160) := by unfold printV; rw [if_pos h4]
    rw [hv]
    go_enter Tryd.func15, Tryd.ntmps15
    go_wp2
    go_ret2
    exact ⟨_, rfl, Kd.R_nil _ _ _ _ _, Below.refl _ _⟩
  · have h4i : decide ((4096 : Int) < (l.length : Int)) = false := decide_eq_false (by omega)
    go_enter Tryd.func15, Tryd.ntmps15
    go_wp2
    go_loopw [4, 13] (fun v i wr => ∃ k : Nat, k ≤ l.length ∧ i = .int .i64 k ∧ Kd.R Kd.string 9 wr w.heap.size (fun _ => True) v (partsTo l k) ∧ Below w.heap.size w wr ∧ ∀ j g, j < k → l[j]? = some g → checkF g = 0) (fun _ i _ => l.length - (intOf i).toNat)
    case atStart => exact ⟨0, by omega, rfl, Kd.R_nil _ _ _ _ _, Below.refl _ _, fun j g h => by omega⟩
    case round =>
      obtain ⟨k, hk, rfl, hR, hB, hno⟩ := hrel
      have HP := Lib.hid hR
      have HB := Lib.hid hB
      have HN := Lib.hid hno
      clear hR hB hno
      by_cases hlt : k < l.length
      · obtain ⟨ad, e, hx0, hx1⟩ := at_T30 (Kd.C_below HR.out HB.out) k (by omega) (by omega)
        cases e
        obtain ⟨f, hf⟩ : ∃ f, l[k]? = some f := ⟨_, List.getElem?_eq_getElem hlt⟩
        have hrd : rd_T30 l k = f := by
          unfold rd_T30
          simp [List.getD_eq_getElem?_getD, hf]
        rw [hrd] at hx0 hx1
        simp only [Int.toNat_natCast] at hx0 hx1
        have hfm := HS.out.each f (List.mem_of_getElem? hf)
        have HF := Lib.hid hf
        clear hf hrd
        go_wp2_with fail
        have hB1 : Below w.heap.size w (wr.alloc (.cells #[.string f.f0, .string f.f1] 30)) := HB.out.alloc HB.out.size _
        have HB1 := Lib.hid hB1
        refine (check_calls f.f0 f.f1 m _ (by omega) hfm.2 ((HB1.out.cell h0lt).trans HM.out) (HT.out.below HT.out.size HB1.out)).mono ?_
        rintro e w2 ⟨rfl, hb2⟩
        have hbox : w2.heap[wr.heap.size]? = some (.cells #[.string f.f0, .string f.f1] 30 (0, 0)) := (hb2.block _ (by simp)).trans (World.alloc_heap_new wr _)
        have hz2 : w.heap.size ≤ w2.heap.size := Nat.le_trans HB1.out.size hb2.size
        have HB2 := Lib.hid (HB1.out.trans (hb2.mono HB1.out.size))
        have HP2 := Lib.hid (Kd.R_below (Kd.R_below HP.out (below_alloc (Below.refl _ _) (.cells #[.string f.f0, .string f.f1] 30))) hb2)
        have c1 := blk_cell hbox 0
        have c2 := blk_cell hbox 1
        simp only [List.getElem?_toArray, List.getElem?_cons_zero, List.getElem?_cons_succ] at c1 c2
        clear hb2 hB1 hbox hx0 hx1
        have hv : checkV f.f0.data.toList f.f1.data.toList = checkF f := rfl
        rw [hv]
        clear hv
        by_cases h0 : checkF f = 0
        · have h0b : (checkF f != 0) = false := by rw [h0]; rfl
          have h0c : (checkF f == 0) = true := by rw [h0]; rfl
          have hpl := partsTo_length (l := l) (k := k) (by omega)
          have hps := partsTo_succ HF.out
          have HPS := Lib.hid hps
          have HLIT := Lib.hid (C_lit_str w2 (partsOf f) (by simp [partsOf]))
          clear hps
          go_wp2_with (at_builtin; refine Kd.R_append_row Value.string ⟨#[]⟩ (w0 := w) w.heap.size rfl (.tmp 22) (.tmp 27) 54 9 (.string ⟨#[]⟩) 16 rfl Tryd.underlying54 info9 rfl (by decide) u4 (partsTo l k) (partsOf f) (some ⟨w2.heap.size, 0, none⟩) 4 4 (fun _ => True) rfl rfl (fun _ _ => trivial) (Kd.R_alloc HP2.out _) HLIT.out (HB2.out.alloc hz2 _) (by simp; omega) (by omega) ?_)
          intro v1 w1 hR1 hb1 _ _
          rw [← HPS.out] at hR1
          have HR1 := Lib.hid hR1
          have HB1' := Lib.hid hb1
          have HN1 := Lib.hid (noBad_succ HN.out HF.out h0)
          clear hR1 hb1
          go_wp2
          go_roundw
          case rel => exact ⟨k + 1, by omega, by go_num, HR1.out, HB1'.out, HN1.out⟩
          case measure => simp [intOf]; omega
        · have h0b : (checkF f != 0) = true := bne_iff_ne.2 h0
          have hvv : printV l = ([], checkF f) := by
            unfold printV
            rw [if_neg h4, firstBad_at HN.out HF.out h0, if_neg h0]
          go_wp2
          go_ret2
          rw [hvv]
          exact ⟨_, rfl, Kd.R_nil _ _ _ _ _, HB2.out⟩
      · obtain rfl : k = l.length := by omega
        have hz : firstBad l = 0 := firstBad_all fun j g hg => HN.out j g (List.getElem?_eq_some_iff.1 hg).1 hg
        have hvv : printV l = (l.flatMap line, 0) := by
          unfold printV
          rw [if_neg h4, if_pos hz]
        have hpl := partsTo_length (l := l) (k := l.length) (Nat.le_refl _)
        obtain ⟨kt, hkt⟩ := together_f (partsTo l l.length) (by rw [partsTo_all]; exact HS.out.all) (by omega)
        rw [partsTo_all] at hkt
        obtain ⟨Ap, cp, rfl, hcp, hCp⟩ := Kd.R_reads HP.out
        have HCP := Lib.hid hCp
        have HKT := Lib.hid hkt
        clear hkt hCp hpl
        go_wp2_with fail
        refine (field_together.calls kt Ap cp (partsTo l l.length) _ wr HCP.out hcp HKT.out).mono ?_
        rintro e w2 ⟨v0, rfl, hR2, hb2⟩
        have HR2 := Lib.hid hR2
        have HB2 := Lib.hid hb2
        clear hR2 hb2
        go_wp2
        go_ret2
        rw [hvv]
        exact ⟨_, rfl, Kd.R_lower HR2.out HB.out.size, HB.out.trans (HB2.out.mono HB.out.size)⟩
end Go.Proofs.YtammhcfifnffeaaDoor.PrintWalk
