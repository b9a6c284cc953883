/- The functions lentFields, keptFields and posthornref16.Same of the statement FieldFinds, by contract. -/
import Derived.Test.YtammhcfifnffeaaDoorPFieldPrintsx1
import Derived.Test.YtammhcfifnffeaaDoorPFieldPrintsx4
import Derived.Lib.Hide
namespace Go.Proofs.YtammhcfifnffeaaDoor.Hand
open Go.RowKit Go.Proofs.YtammhcfifnffeaaDoorW.PrintWords Go.Proofs.YtammhcfifnffeaaDoorW.PrintLast Go.Proofs.YtammhcfifnffeaaDoorW.PrintMore Go.Proofs.YtammhcfifnffeaaDoor.PFieldPrints
attribute [local go_sem] max2_int min2_int max_two min_two max_three min_three max_four min_four
attribute [local go_sem high] eqA30
set_option linter.unusedVariables false
set_option linter.unusedSimpArgs false

def tilde : S30 := ⟨⟨#[126]⟩, ⟨#[]⟩⟩
def two (x : S30) : List Value := [.string x.f0, .string x.f1]
def cellsOf (l : List S30) : List Value := l.flatMap two
theorem cellsOf_length (l : List S30) : (cellsOf l).length = l.length * 2 := by
  unfold cellsOf
  induction l with
  | nil => rfl
  | cons x l ih => simp only [List.flatMap_cons, List.length_append, ih, two, List.length_cons, List.length_nil]; omega
theorem cellsOf_append (l m : List S30) : cellsOf (l ++ m) = cellsOf l ++ cellsOf m := by simp [cellsOf]
theorem cellsOf_one (l : List S30) : ∀ u ∈ cellsOf l, u.oneCell' = true := by
  intro u hu
  simp only [cellsOf, List.mem_flatMap, two, List.mem_cons, List.not_mem_nil, or_false] at hu
  obtain ⟨x, _, rfl | rfl⟩ := hu <;> rfl
theorem cellsOf_at (l : List S30) (j : Nat) (x : S30) (h : l[j]? = some x) (i : Nat) (hi : i < 2) : (cellsOf l)[j * 2 + i]? = (two x)[i]? := by
  induction l generalizing j with
  | nil => simp at h
  | cons y l ih =>
    cases j with
    | zero =>
      simp only [List.getElem?_cons_zero, Option.some.injEq] at h
      subst h
      simp only [cellsOf, List.flatMap_cons, Nat.zero_mul, Nat.zero_add]
      rw [List.getElem?_append_left (by simpa [two] using hi)]
    | succ j =>
      simp only [List.getElem?_cons_succ] at h
      rw [← ih j h]
      simp only [cellsOf, List.flatMap_cons]
      rw [List.getElem?_append_right (by simp only [two, List.length_cons, List.length_nil]; omega)]
      congr 1
      simp only [two, List.length_cons, List.length_nil]; omega
/-- what a row that is read holds, cell by cell -/
theorem cells_of_C {w : World} {ad : Addr} {n : Nat} {l : List S30} (h : Kd.C k30 w (some ad) n l) : ∀ j u, (cellsOf l)[j]? = some u → w.cell? (ad.add j) = some u := by
  intro j u hu
  have hl : l.length = n := h.1
  have hj : j < l.length * 2 := by have := (List.getElem?_eq_some_iff.1 hu).1; rwa [cellsOf_length] at this
  obtain ⟨ad', e, hc⟩ := h.2.2 (by omega)
  cases e
  have hq : j / 2 < l.length := by omega
  obtain ⟨c, hcl, hK, hcell⟩ := hc (j / 2) _ (List.getElem?_eq_getElem hq)
  obtain rfl := k30_open hK
  have h2 := cellsOf_at l (j / 2) _ (List.getElem?_eq_getElem hq) (j % 2) (Nat.mod_lt _ (by omega))
  rw [show j / 2 * 2 + j % 2 = j by omega, hu] at h2
  have h3 := hcell (j % 2) u h2.symm
  rwa [show j / 2 * k30.sz + j % 2 = j by show j / 2 * 2 + j % 2 = j; omega] at h3
theorem reps_cellsOf (w : World) (base : Nat) (ok : Nat → Prop) (l : List S30) : Reps (k30.M w base ok) 2 l (cellsOf l) := by
  refine ⟨cellsOf_length l, fun j x hx => ?_⟩
  have hj : j < l.length := (List.getElem?_eq_some_iff.1 hx).1
  have e : ((cellsOf l).drop (j * 2)).take 2 = two x := by
    apply List.ext_getElem?
    intro i
    rw [List.getElem?_take]
    split
    · rename_i hi
      rw [List.getElem?_drop]
      exact cellsOf_at l j x hx i hi
    · rename_i hi
      rw [List.getElem?_eq_none]
      simp only [two, List.length_cons, List.length_nil]; omega
  rw [e]
  exact k30_mkM w base ok x
theorem R_of_cells {w : World} {base : Nat} {v : Value} {l : List S30} (h : w.ownsRow base 30 2 v l.length (cellsOf l)) : k30.R 30 w base (fun _ => True) v l :=
  ⟨fun _ _ => trivial, cellsOf l, h, reps_cellsOf _ _ _ l⟩

theorem news_two (W : World) (a b : Value) (t : TypeId) : ∀ j u, [a, b][j]? = some u → (W.alloc (.cells #[a, b] t)).cell? ((⟨W.heap.size, 0, none⟩ : Addr).add j) = some u := by
  simpa using World.news_of_block (cs := #[a, b]) (t := t) (fr := (0, 0)) (heap_alloc_new W (.cells #[a, b] t))
theorem one_two (a b : ByteArray) : ∀ u ∈ [Value.string a, Value.string b], u.oneCell' = true := by
  intro u hu
  simp only [List.mem_cons, List.not_mem_nil, or_false] at hu
  rcases hu with rfl | rfl <;> rfl

set_option maxHeartbeats 1000000 in
set_option maxRecDepth 100000 in
theorem lent_calls (A : Option Addr) (c : Nat) (l : List S30) (w : World) (hr : Kd.C k30 w A l.length l) (hc : l.length ≤ c) (hA : A = none → c = 0) (hl : l.length * 32 ≤ 140737488351232) :
    Calls Tryd.prog 11 #[.slice A l.length c] w fun e w' => ∃ g, e = .returned (.slice (some ⟨g, 0, none⟩) l.length (l.length + 70)) ∧ w'.ownsRow w.heap.size 30 2 (.slice (some ⟨g, 0, none⟩) (l.length + 70) (l.length + 70)) (l.length + 70) (cellsOf (l ++ List.replicate 70 tilde)) ∧ Below w.heap.size w w' := by
  obtain ⟨i0, hi, hz0, hz1, hz2⟩ := info_parts info30
  have hn0 : A = none → l.length = 0 ∧ c = 0 := by
    intro e
    subst e
    refine ⟨?_, hA rfl⟩
    rcases Nat.eq_zero_or_pos l.length with h | h
    · exact h
    · obtain ⟨ad, e, _⟩ := hr.2.2 h
      cases e
  have hHR := Lib.hid hr
  clear hr hA
  go_enter Tryd.func11, Tryd.ntmps11
  go_wp2_with (at_make; refine wpList_make_own _ rfl _ _ 22 rfl w.heap.size 30 i0 _ 2 Tryd.underlying22 hi hz0 hz1 _ _ _ (l.length + 70) rfl rfl (by omega) ?b2 ?b3 (Nat.le_refl _) ?_)
  case b2 => rw [hz2]; omega
  case b3 => unfold maxLen; omega
  intro w0 hown0 hgrow0
  have hC0 : ∀ ad, A = some ad → ∀ j u, (cellsOf l)[j]? = some u → w0.cell? (ad.add j) = some u := by
    intro ad e
    subst e
    intro j u hu
    have h := cells_of_C hHR.out j u hu
    exact hgrow0.cell h (by simp)
  have hC0' := Lib.hid hC0
  have hn0' := Lib.hid hn0
  clear hC0 hn0
  go_wp2_with (at_builtin; refine wpList_append_fits_any _ rfl (.tmp 8) (.tmp 9) 22 rfl w.heap.size 30 i0 2 Tryd.underlying22 hi hz1 w.heap.size 0 (l.length + 70) [] rfl hown0 A l.length c (cellsOf l) rfl (cellsOf_length l) hn0'.out hC0'.out (cellsOf_one l) (by omega) ?_; intro w1 hown1 hgrow1; simp only [Nat.zero_add, List.nil_append] at hown1)
  have hB1 : Below w.heap.size w w1 := ((Below.refl w.heap.size w).grown hgrow0 (Nat.le_refl _) (fun k h => by cases h)).grown hgrow1 (by have := hgrow0.size; omega) (fun k h => by cases h; exact Nat.le_refl _)
  clear hHR hn0' hC0' hown0 hgrow0 hgrow1
  go_loopw [3, 11] (fun v i wr => ∃ k : Nat, k ≤ 70 ∧ i = .int .i64 k ∧ v = .slice (some ⟨w.heap.size, 0, none⟩) (l.length + k) (l.length + 70) ∧ wr.ownsRow w.heap.size 30 2 (.slice (some ⟨w.heap.size, 0, none⟩) (l.length + k) (l.length + 70)) (l.length + k) (cellsOf (l ++ List.replicate k tilde)) ∧ Below w.heap.size w wr) (fun _ i _ => 70 - (intOf i).toNat)
  case atStart => exact ⟨0, by omega, rfl, rfl, by simpa using hown1, hB1⟩
  case round =>
    obtain ⟨k, hk, rfl, rfl, hown, hB⟩ := hrel
    by_cases hlt : k < 70
    · have hcells : cellsOf (l ++ List.replicate (k + 1) tilde) = cellsOf (l ++ List.replicate k tilde) ++ [.string ⟨#[126]⟩, .string ⟨#[]⟩] := by
        rw [List.replicate_succ', ← List.append_assoc, cellsOf_append (l ++ List.replicate k tilde)]
        rfl
      have hcells' := Lib.hid hcells
      clear hcells
      go_wp2_with (at_builtin; refine wpList_append_fits _ rfl (.tmp 13) (.tmp 15) 22 rfl w.heap.size 30 i0 2 Tryd.underlying22 hi hz1 w.heap.size (l.length + k) (l.length + 70) _ rfl (hown.alloc _) ⟨wr.heap.size, 0, none⟩ 1 1 [.string ⟨#[126]⟩, .string ⟨#[]⟩] rfl rfl (news_two _ _ _ _) (one_two _ _) (by omega) ?_; intro w2 hown2 hgrow2)
      have hB2 : Below w.heap.size w w2 := (hB.alloc hB.size _).grown hgrow2 (by have := hB.size; simp; omega) (fun k h => by cases h; exact Nat.le_refl _)
      clear hgrow2 hown
      go_wp2
      go_roundw
      case rel => exact ⟨k + 1, by omega, by go_num, rfl, by rw [hcells'.out]; exact hown2, hB2⟩
      case measure => simp [intOf]; omega
    · obtain rfl : k = 70 := by omega
      go_wp2
      go_ret
      exact ⟨w.heap.size, rfl, hown, hB⟩
theorem C_of_own {w : World} {b g cap : Nat} {l m : List S30} (h : w.ownsRow b 30 2 (.slice (some ⟨g, 0, none⟩) (l ++ m).length cap) (l ++ m).length (cellsOf (l ++ m))) (hm : l.length ≤ 9223372036854775807) : Kd.C k30 w (some ⟨g, 0, none⟩) l.length l := by
  refine ⟨rfl, hm, fun _ => ⟨_, rfl, fun j p hj => ⟨two p, rfl, k30_mk w p, fun i u hu => ?_⟩⟩⟩
  have hj' : j < l.length := (List.getElem?_eq_some_iff.1 hj).1
  have hi : i < 2 := by have := (List.getElem?_eq_some_iff.1 hu).1; simpa [two] using this
  refine h.cells (g := g) rfl _ u ?_
  show (cellsOf (l ++ m))[j * 2 + i]? = some u
  rw [cellsOf_at (l ++ m) j p (by rw [List.getElem?_append_left hj']; exact hj) i hi]
  exact hu

theorem same_refl (l : List S30) (hl : l.length * 32 ≤ 140737488351232) : ∃ k, posthornref16_Same.f k l l = some true := by
  unfold posthornref16_Same.f
  simp only [if_true]
  suffices h : ∀ (d : Nat) (i : Int), 0 ≤ i → (l.length : Int) - i ≤ d → ∀ k, d < k → posthornref16_Same.l0 k l l i = some true by
    exact ⟨l.length + 1, h l.length 0 (by omega) (by omega) _ (by omega)⟩
  intro d
  induction d with
  | zero =>
    intro i h0 hd k hk
    obtain ⟨k, rfl⟩ : ∃ m, k = m + 1 := ⟨k - 1, by omega⟩
    simp only [posthornref16_Same.l0]
    rw [if_neg (by omega)]
  | succ d ih =>
    intro i h0 hd k hk
    obtain ⟨k, rfl⟩ : ∃ m, k = m + 1 := ⟨k - 1, by omega⟩
    simp only [posthornref16_Same.l0]
    by_cases h : i < (l.length : Int)
    · rw [if_pos h, if_pos h0, if_pos h, if_neg (by simp)]
      have : wrap64 (i + 1) = i + 1 := by unfold wrap64; omega
      rw [this]
      exact ih _ (by omega) (by omega) _ (by omega)
    · rw [if_neg h]

set_option maxHeartbeats 1000000 in
set_option maxRecDepth 100000 in
theorem kept_calls (b g : Nat) (A1 : Option Addr) (c1 : Nat) (l : List S30) (w : World) (hl : l.length * 32 ≤ 140737488351232)
    (hown : w.ownsRow b 30 2 (.slice (some ⟨g, 0, none⟩) (l.length + 70) (l.length + 70)) (l.length + 70) (cellsOf (l ++ List.replicate 70 tilde)))
    (hr1 : Kd.C k30 w A1 l.length l) (hc1 : l.length ≤ c1) :
    Calls Tryd.prog 16 #[.slice (some ⟨g, 0, none⟩) l.length (l.length + 70), .slice A1 l.length c1] w fun e w' => e = .returned (.bool true) ∧ Drawn0 w w' := by
  have hu30 := Tryd.underlying30
  have hlen : (l ++ List.replicate 70 tilde).length = l.length + 70 := by simp
  have hC : Kd.C k30 w (some ⟨g, 0, none⟩) l.length l := C_of_own (b := b) (cap := l.length + 70) (m := List.replicate 70 tilde) (by rw [hlen]; exact hown) (by omega)
  have hF : Kd.C k30 w (some ⟨g, 0, none⟩) (l ++ List.replicate 70 tilde).length (l ++ List.replicate 70 tilde) := C_of_own (b := b) (cap := l.length + 70) (m := []) (by rw [List.append_nil, hlen]; exact hown) (by omega)
  rw [hlen] at hF
  obtain ⟨k, hk⟩ := same_refl l hl
  have HS := Aside0.mk (posthornref16_Same.calls k (some ⟨g, 0, none⟩) (l.length + 70) l A1 c1 l true w hC (by omega) hr1 hc1 hk)
  have HF := Aside0.mk hF
  clear hown hr1 hC hF hk hlen
  go_enter Tryd.func16, Tryd.ntmps16
  go_wp2_with (go_at_call 23; refine HS.out.mono ?_; rintro e w' ⟨rfl, ⟨⟨nd, rfl⟩⟩⟩)
  go_loop [6] (fun v => ∃ x : Int, (l.length : Int) ≤ x ∧ x ≤ l.length + 70 ∧ v = .int .i64 x) (fun v => (l.length + 70 - intOf v).toNat)
  case atStart => exact ⟨l.length, by omega, by omega, rfl⟩
  case round =>
    obtain ⟨x, hx0, hx1, rfl⟩ := hrel
    by_cases hlt : x < l.length + 70
    · obtain ⟨ad, e, hc0, hc1'⟩ := at_T30 HF.out x (by omega) (by omega)
      cases e
      have hmark : rd_T30 (l ++ List.replicate 70 tilde) x = tilde := by
        unfold rd_T30
        rw [List.getD_eq_getElem?_getD, List.getElem?_append_right (by omega), List.getElem?_replicate_of_lt (by omega)]
        rfl
      rw [hmark] at hc0 hc1'
      simp only [add_plain] at hc0 hc1'
      clear hmark
      have hx2 : 0 ≤ x := by omega
      simp only [tilde] at hc0 hc1'
      have hlt1 : decide (x < (l.length : Int) + 70) = true := decide_eq_true hlt
      have e1 : (!(([126] : List UInt8) == [126]) || !(([] : List UInt8) == [])) = false := by decide
      go_wp2
      go_round
      case rel => exact ⟨x + 1, by omega, by omega, rfl⟩
      case measure => simp [intOf]; omega
    · go_wp2
      go_ret
      exact ⟨rfl, (Drawn0.refl _).step _⟩
end Go.Proofs.YtammhcfifnffeaaDoor.Hand
