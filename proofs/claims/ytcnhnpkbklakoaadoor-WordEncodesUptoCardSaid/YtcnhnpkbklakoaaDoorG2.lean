/- runes by contract. -/
import Derived.Test.YtcnhnpkbklakoaaDoorG1
import Derived.Lib.OthersKept
import Derived.WalkSmall
import Derived.Laws.RangeAny
/- runes.state.take by contract. -/
namespace Go.Proofs.YtcnhnpkbklakoaaDoor.Runes
open Go.RowKit Go.Proofs.YtcnhnpkbklakoaaDoorW.PrintWords Go.Proofs.YtcnhnpkbklakoaaDoorW.PrintLast Go.Proofs.YtcnhnpkbklakoaaDoorW.PrintMore Go.Proofs.YtcnhnpkbklakoaaDoor.PWordEncodes
attribute [local go_sem] max2_int min2_int max_two min_two max_three min_three max_four min_four
set_option linter.unusedVariables false
set_option linter.unusedSimpArgs false
/-- what is waited for: how many bytes, and the bounds of the next -/
structure RS where
  (need low high : Int)
def rstep (s : RS) (b : Int) : Bool × RS :=
  if 0 < s.need then (if b < s.low ∨ s.high < b then (false, s) else (true, ⟨s.need - 1, 128, 191⟩))
  else if b < 128 then (true, ⟨s.need, 128, 191⟩)
  else if b < 194 ∨ 244 < b then (false, ⟨s.need, 128, 191⟩)
  else (true, ⟨if b < 224 then 1 else if b < 240 then 2 else 3, if b = 224 then 160 else if b = 240 then 144 else 128, if b = 237 then 159 else if b = 244 then 143 else 191⟩)
def rdR (w : World) (R : Nat) (s : RS) : Prop := w.heap[R]? = some (.cells #[.int .u8 s.need, .int .u8 s.low, .int .u8 s.high] 68 (0, 0))
theorem below_st {w W : World} {p : Addr} {u : Value} (hp : w.heap.size ≤ p.block) (h : Below w.heap.size w W) : Below w.heap.size w (W.setCell p u) := h.setCell hp u
set_option maxHeartbeats 4000000 in
set_option maxRecDepth 100000 in
theorem rtake_calls (w0 : World) (R : Nat) (s : RS) (b : Int) (w : World) (hR : rdR w R s) (hB : Below w0.heap.size w0 w) (hR0 : w0.heap.size ≤ R) (hb : 0 ≤ b ∧ b < 256) (hn : 0 ≤ s.need ∧ s.need ≤ 3) :
    Calls Tryd.prog 39 #[.pointer (some ⟨R, 0, none⟩), .int .u8 b] w fun e w' => e = .returned (.bool (rstep s b).1) ∧ rdR w' R (rstep s b).2 ∧ Below w0.heap.size w0 w' := by
  obtain ⟨need, low, high⟩ := s
  simp only at hn
  have hRn : w.heap[R]? = some (.cells #[.int .u8 need, .int .u8 low, .int .u8 high] 68 (0, 0)) := hR
  have x0 := blk_cell hRn 0
  have x1 := blk_cell hRn 1
  have x2 := blk_cell hRn 2
  have f0 := blk_frozen hRn 0
  have f1 := blk_frozen hRn 1
  have f2 := blk_frozen hRn 2
  simp only [List.getElem?_toArray, List.getElem?_cons_succ, List.getElem?_cons_zero] at x0 x1 x2
  have HRN := Lib.hid hRn
  have HB := Lib.hid hB
  clear hR hRn hB
  by_cases hnd : 0 < need
  · have c0 : decide (0 < need) = true := decide_eq_true hnd
    by_cases hl : b < low
    · have c1 : decide (b < low) = true := decide_eq_true hl
      have hE : rstep ⟨need, low, high⟩ b = (false, ⟨need, low, high⟩) := by unfold rstep; simp [*]; try omega
      rw [hE]
      have HE := Lib.hid hE
      clear hE
      go_enter Tryd.func39, Tryd.ntmps39
      go_wp2
      go_ret
      exact ⟨rfl, HRN.out, HB.out⟩
    · have c1 : decide (b < low) = false := decide_eq_false hl
      by_cases hh : high < b
      · have c2 : decide (high < b) = true := decide_eq_true hh
        have hE : rstep ⟨need, low, high⟩ b = (false, ⟨need, low, high⟩) := by unfold rstep; simp [*]; try omega
        rw [hE]
        have HE := Lib.hid hE
        clear hE
        go_enter Tryd.func39, Tryd.ntmps39
        go_wp2
        go_ret
        exact ⟨rfl, HRN.out, HB.out⟩
      · have c2 : decide (high < b) = false := decide_eq_false hh
        have c3 : IntKind.u8.wrap (need - 1) = need - 1 := by rw [IntKind.wrap_u8]; omega
        have hE : rstep ⟨need, low, high⟩ b = (true, ⟨need - 1, 128, 191⟩) := by unfold rstep; simp [*]; try omega
        rw [hE]
        have HE := Lib.hid hE
        clear hE
        go_enter Tryd.func39, Tryd.ntmps39
        go_wp2
        go_ret
        exact ⟨rfl, (blk_put (blk_put (blk_put HRN.out 0 (.int .u8 (need - 1)) rfl) 1 (.int .u8 128) rfl) 2 (.int .u8 191) rfl), (below_st (p := ⟨R, 2, none⟩) hR0 (below_st (p := ⟨R, 1, none⟩) hR0 (below_st (p := ⟨R, 0, none⟩) hR0 HB.out)))⟩
  · have c0 : decide (0 < need) = false := decide_eq_false hnd
    obtain rfl : need = 0 := by omega
    rcases (show (b < 128) ∨ (128 ≤ b ∧ b < 194) ∨ (244 < b) ∨ (194 ≤ b ∧ b < 224) ∨ (b = 224) ∨ (224 < b ∧ b < 240 ∧ b ≠ 237) ∨ (b = 237) ∨ (b = 240) ∨ (240 < b ∧ b < 244) ∨ (b = 244) by omega) with h | h | h | h | h | h | h | h | h | h
    · have d1 : decide (b < 128) = true := decide_eq_true (by omega)
      have d2 : decide (b < 194) = true := decide_eq_true (by omega)
      have d3 : decide (b < 224) = true := decide_eq_true (by omega)
      have d4 : decide (b < 240) = true := decide_eq_true (by omega)
      have d5 : decide (244 < b) = false := decide_eq_false (by omega)
      have e224 : (b == 224) = false := beq_eq_false_iff_ne.2 (by omega)
      have e237 : (b == 237) = false := beq_eq_false_iff_ne.2 (by omega)
      have e240 : (b == 240) = false := beq_eq_false_iff_ne.2 (by omega)
      have e244 : (b == 244) = false := beq_eq_false_iff_ne.2 (by omega)
      have hE : rstep ⟨0, low, high⟩ b = (true, ⟨0, 128, 191⟩) := by
        unfold rstep
        dsimp only
        rw [if_neg (show ¬ ((0 : Int) < 0) by omega), if_pos (show b < 128 by omega)]
      rw [hE]
      clear hE
      go_enter Tryd.func39, Tryd.ntmps39
      go_wp2
      go_ret
      exact ⟨rfl, (blk_put (blk_put HRN.out 1 (.int .u8 128) rfl) 2 (.int .u8 191) rfl), (below_st (p := ⟨R, 2, none⟩) hR0 (below_st (p := ⟨R, 1, none⟩) hR0 HB.out))⟩
    · have d1 : decide (b < 128) = false := decide_eq_false (by omega)
      have d2 : decide (b < 194) = true := decide_eq_true (by omega)
      have d3 : decide (b < 224) = true := decide_eq_true (by omega)
      have d4 : decide (b < 240) = true := decide_eq_true (by omega)
      have d5 : decide (244 < b) = false := decide_eq_false (by omega)
      have e224 : (b == 224) = false := beq_eq_false_iff_ne.2 (by omega)
      have e237 : (b == 237) = false := beq_eq_false_iff_ne.2 (by omega)
      have e240 : (b == 240) = false := beq_eq_false_iff_ne.2 (by omega)
      have e244 : (b == 244) = false := beq_eq_false_iff_ne.2 (by omega)
      have hE : rstep ⟨0, low, high⟩ b = (false, ⟨0, 128, 191⟩) := by
        unfold rstep
        dsimp only
        rw [if_neg (show ¬ ((0 : Int) < 0) by omega), if_neg (show ¬ b < 128 by omega), if_pos (show b < 194 ∨ 244 < b by omega)]
      rw [hE]
      clear hE
      go_enter Tryd.func39, Tryd.ntmps39
      go_wp2
      go_ret
      exact ⟨rfl, (blk_put (blk_put HRN.out 1 (.int .u8 128) rfl) 2 (.int .u8 191) rfl), (below_st (p := ⟨R, 2, none⟩) hR0 (below_st (p := ⟨R, 1, none⟩) hR0 HB.out))⟩
    · have d1 : decide (b < 128) = false := decide_eq_false (by omega)
      have d2 : decide (b < 194) = false := decide_eq_false (by omega)
      have d3 : decide (b < 224) = false := decide_eq_false (by omega)
      have d4 : decide (b < 240) = false := decide_eq_false (by omega)
      have d5 : decide (244 < b) = true := decide_eq_true (by omega)
      have e224 : (b == 224) = false := beq_eq_false_iff_ne.2 (by omega)
      have e237 : (b == 237) = false := beq_eq_false_iff_ne.2 (by omega)
      have e240 : (b == 240) = false := beq_eq_false_iff_ne.2 (by omega)
      have e244 : (b == 244) = false := beq_eq_false_iff_ne.2 (by omega)
      have hE : rstep ⟨0, low, high⟩ b = (false, ⟨0, 128, 191⟩) := by
        unfold rstep
        dsimp only
        rw [if_neg (show ¬ ((0 : Int) < 0) by omega), if_neg (show ¬ b < 128 by omega), if_pos (show b < 194 ∨ 244 < b by omega)]
      rw [hE]
      clear hE
      go_enter Tryd.func39, Tryd.ntmps39
      go_wp2
      go_ret
      exact ⟨rfl, (blk_put (blk_put HRN.out 1 (.int .u8 128) rfl) 2 (.int .u8 191) rfl), (below_st (p := ⟨R, 2, none⟩) hR0 (below_st (p := ⟨R, 1, none⟩) hR0 HB.out))⟩
    · have d1 : decide (b < 128) = false := decide_eq_false (by omega)
      have d2 : decide (b < 194) = false := decide_eq_false (by omega)
      have d3 : decide (b < 224) = true := decide_eq_true (by omega)
      have d4 : decide (b < 240) = true := decide_eq_true (by omega)
      have d5 : decide (244 < b) = false := decide_eq_false (by omega)
      have e224 : (b == 224) = false := beq_eq_false_iff_ne.2 (by omega)
      have e237 : (b == 237) = false := beq_eq_false_iff_ne.2 (by omega)
      have e240 : (b == 240) = false := beq_eq_false_iff_ne.2 (by omega)
      have e244 : (b == 244) = false := beq_eq_false_iff_ne.2 (by omega)
      have hE : rstep ⟨0, low, high⟩ b = (true, ⟨1, 128, 191⟩) := by
        unfold rstep
        dsimp only
        rw [if_neg (show ¬ ((0 : Int) < 0) by omega), if_neg (show ¬ b < 128 by omega), if_neg (show ¬ (b < 194 ∨ 244 < b) by omega), if_pos (show b < 224 by omega), if_neg (show ¬ b = 224 by omega), if_neg (show ¬ b = 240 by omega), if_neg (show ¬ b = 237 by omega), if_neg (show ¬ b = 244 by omega)]
      rw [hE]
      clear hE
      go_enter Tryd.func39, Tryd.ntmps39
      go_wp2
      go_ret
      exact ⟨rfl, (blk_put (blk_put (blk_put HRN.out 1 (.int .u8 128) rfl) 2 (.int .u8 191) rfl) 0 (.int .u8 1) rfl), (below_st (p := ⟨R, 0, none⟩) hR0 (below_st (p := ⟨R, 2, none⟩) hR0 (below_st (p := ⟨R, 1, none⟩) hR0 HB.out)))⟩
    · subst h
      have hE : rstep ⟨0, low, high⟩ 224 = (true, ⟨2, 160, 191⟩) := by
        unfold rstep
        simp
      rw [hE]
      clear hE
      go_enter Tryd.func39, Tryd.ntmps39
      go_wp2
      go_ret
      exact ⟨rfl, (blk_put (blk_put (blk_put (blk_put HRN.out 1 (.int .u8 128) rfl) 2 (.int .u8 191) rfl) 0 (.int .u8 2) rfl) 1 (.int .u8 160) rfl), (below_st (p := ⟨R, 1, none⟩) hR0 (below_st (p := ⟨R, 0, none⟩) hR0 (below_st (p := ⟨R, 2, none⟩) hR0 (below_st (p := ⟨R, 1, none⟩) hR0 HB.out))))⟩
    · have d1 : decide (b < 128) = false := decide_eq_false (by omega)
      have d2 : decide (b < 194) = false := decide_eq_false (by omega)
      have d3 : decide (b < 224) = false := decide_eq_false (by omega)
      have d4 : decide (b < 240) = true := decide_eq_true (by omega)
      have d5 : decide (244 < b) = false := decide_eq_false (by omega)
      have e224 : (b == 224) = false := beq_eq_false_iff_ne.2 (by omega)
      have e237 : (b == 237) = false := beq_eq_false_iff_ne.2 (by omega)
      have e240 : (b == 240) = false := beq_eq_false_iff_ne.2 (by omega)
      have e244 : (b == 244) = false := beq_eq_false_iff_ne.2 (by omega)
      have hE : rstep ⟨0, low, high⟩ b = (true, ⟨2, 128, 191⟩) := by
        unfold rstep
        dsimp only
        rw [if_neg (show ¬ ((0 : Int) < 0) by omega), if_neg (show ¬ b < 128 by omega), if_neg (show ¬ (b < 194 ∨ 244 < b) by omega), if_neg (show ¬ b < 224 by omega), if_pos (show b < 240 by omega), if_neg (show ¬ b = 224 by omega), if_neg (show ¬ b = 240 by omega), if_neg (show ¬ b = 237 by omega), if_neg (show ¬ b = 244 by omega)]
      rw [hE]
      clear hE
      go_enter Tryd.func39, Tryd.ntmps39
      go_wp2
      go_ret
      exact ⟨rfl, (blk_put (blk_put (blk_put HRN.out 1 (.int .u8 128) rfl) 2 (.int .u8 191) rfl) 0 (.int .u8 2) rfl), (below_st (p := ⟨R, 0, none⟩) hR0 (below_st (p := ⟨R, 2, none⟩) hR0 (below_st (p := ⟨R, 1, none⟩) hR0 HB.out)))⟩
    · subst h
      have hE : rstep ⟨0, low, high⟩ 237 = (true, ⟨2, 128, 159⟩) := by
        unfold rstep
        simp
      rw [hE]
      clear hE
      go_enter Tryd.func39, Tryd.ntmps39
      go_wp2
      go_ret
      exact ⟨rfl, (blk_put (blk_put (blk_put (blk_put HRN.out 1 (.int .u8 128) rfl) 2 (.int .u8 191) rfl) 0 (.int .u8 2) rfl) 2 (.int .u8 159) rfl), (below_st (p := ⟨R, 2, none⟩) hR0 (below_st (p := ⟨R, 0, none⟩) hR0 (below_st (p := ⟨R, 2, none⟩) hR0 (below_st (p := ⟨R, 1, none⟩) hR0 HB.out))))⟩
    · subst h
      have hE : rstep ⟨0, low, high⟩ 240 = (true, ⟨3, 144, 191⟩) := by
        unfold rstep
        simp
      rw [hE]
      clear hE
      go_enter Tryd.func39, Tryd.ntmps39
      go_wp2
      go_ret
      exact ⟨rfl, (blk_put (blk_put (blk_put (blk_put HRN.out 1 (.int .u8 128) rfl) 2 (.int .u8 191) rfl) 0 (.int .u8 3) rfl) 1 (.int .u8 144) rfl), (below_st (p := ⟨R, 1, none⟩) hR0 (below_st (p := ⟨R, 0, none⟩) hR0 (below_st (p := ⟨R, 2, none⟩) hR0 (below_st (p := ⟨R, 1, none⟩) hR0 HB.out))))⟩
    · have d1 : decide (b < 128) = false := decide_eq_false (by omega)
      have d2 : decide (b < 194) = false := decide_eq_false (by omega)
      have d3 : decide (b < 224) = false := decide_eq_false (by omega)
      have d4 : decide (b < 240) = false := decide_eq_false (by omega)
      have d5 : decide (244 < b) = false := decide_eq_false (by omega)
      have e224 : (b == 224) = false := beq_eq_false_iff_ne.2 (by omega)
      have e237 : (b == 237) = false := beq_eq_false_iff_ne.2 (by omega)
      have e240 : (b == 240) = false := beq_eq_false_iff_ne.2 (by omega)
      have e244 : (b == 244) = false := beq_eq_false_iff_ne.2 (by omega)
      have hE : rstep ⟨0, low, high⟩ b = (true, ⟨3, 128, 191⟩) := by
        unfold rstep
        dsimp only
        rw [if_neg (show ¬ ((0 : Int) < 0) by omega), if_neg (show ¬ b < 128 by omega), if_neg (show ¬ (b < 194 ∨ 244 < b) by omega), if_neg (show ¬ b < 224 by omega), if_neg (show ¬ b < 240 by omega), if_neg (show ¬ b = 224 by omega), if_neg (show ¬ b = 240 by omega), if_neg (show ¬ b = 237 by omega), if_neg (show ¬ b = 244 by omega)]
      rw [hE]
      clear hE
      go_enter Tryd.func39, Tryd.ntmps39
      go_wp2
      go_ret
      exact ⟨rfl, (blk_put (blk_put (blk_put HRN.out 1 (.int .u8 128) rfl) 2 (.int .u8 191) rfl) 0 (.int .u8 3) rfl), (below_st (p := ⟨R, 0, none⟩) hR0 (below_st (p := ⟨R, 2, none⟩) hR0 (below_st (p := ⟨R, 1, none⟩) hR0 HB.out)))⟩
    · subst h
      have hE : rstep ⟨0, low, high⟩ 244 = (true, ⟨3, 128, 143⟩) := by
        unfold rstep
        simp
      rw [hE]
      clear hE
      go_enter Tryd.func39, Tryd.ntmps39
      go_wp2
      go_ret
      exact ⟨rfl, (blk_put (blk_put (blk_put (blk_put HRN.out 1 (.int .u8 128) rfl) 2 (.int .u8 191) rfl) 0 (.int .u8 3) rfl) 2 (.int .u8 143) rfl), (below_st (p := ⟨R, 2, none⟩) hR0 (below_st (p := ⟨R, 0, none⟩) hR0 (below_st (p := ⟨R, 2, none⟩) hR0 (below_st (p := ⟨R, 1, none⟩) hR0 HB.out))))⟩
end Go.Proofs.YtcnhnpkbklakoaaDoor.Runes
/- runes.Bad (of a string) by contract. -/
namespace Go.Proofs.YtcnhnpkbklakoaaDoor.Runes
open Go.RowKit Go.Proofs.YtcnhnpkbklakoaaDoorW.PrintWords Go.Proofs.YtcnhnpkbklakoaaDoorW.PrintLast Go.Proofs.YtcnhnpkbklakoaaDoorW.PrintMore Go.Proofs.YtcnhnpkbklakoaaDoor.PWordEncodes
attribute [local go_sem] max2_int min2_int max_two min_two max_three min_three max_four min_four
set_option linter.unusedVariables false
set_option linter.unusedSimpArgs false
def place1 (s : RS) (i pl : Nat) : Nat := if s.need = 0 then i else pl
def rGo (n : Nat) : List UInt8 → Nat → Nat → RS → Nat
  | [], i, pl, s => if 0 < s.need then pl else n
  | c :: r, i, pl, s => if (rstep s (c.toNat : Int)).1 = false then place1 s i pl else rGo n r (i + 1) (place1 s i pl) (rstep s (c.toNat : Int)).2
/-- the place of the first byte that is no UTF-8; the length, if there is none -/
def runesBad (l : List UInt8) : Nat := rGo l.length l 0 0 ⟨0, 0, 0⟩
theorem rGo_cons (n : Nat) (c : UInt8) (r : List UInt8) (i pl : Nat) (s : RS) : rGo n (c :: r) i pl s = if (rstep s (c.toNat : Int)).1 = false then place1 s i pl else rGo n r (i + 1) (place1 s i pl) (rstep s (c.toNat : Int)).2 := rfl
theorem rGo_nil (n i pl : Nat) (s : RS) : rGo n [] i pl s = if 0 < s.need then pl else n := rfl
theorem rstep_need {s : RS} (h : 0 ≤ s.need ∧ s.need ≤ 3) (b : Int) : 0 ≤ (rstep s b).2.need ∧ (rstep s b).2.need ≤ 3 := by
  unfold rstep
  repeat' split
  all_goals (dsimp only; first | exact h | omega)
theorem getD_at (s : ByteArray) (i : Nat) (h : i < s.size) : s.data.toList.getD i 0 = s[i]'h := by
  rw [List.getD_eq_getElem?_getD, List.getElem?_eq_getElem (by rw [data_length]; exact h)]
  rfl
theorem drop_at (s : ByteArray) (i : Nat) (h : i < s.size) : s.data.toList.drop i = s[i]'h :: s.data.toList.drop (i + 1) := by
  rw [List.drop_eq_getElem_cons (by rw [data_length]; exact h), ← getD_at s i h, List.getD_eq_getElem?_getD, List.getElem?_eq_getElem (by rw [data_length]; exact h)]
  rfl
set_option maxHeartbeats 4000000 in
set_option maxRecDepth 100000 in
theorem bad_calls (t : ByteArray) (w : World) (ht : t.size ≤ 9223372036854775806) :
    Calls Tryd.prog 17 #[.string t] w fun e w' => e = .returned (.int .i64 ((runesBad t.data.toList : Nat) : Int)) ∧ Below w.heap.size w w' := by
  have hu68 := Tryd.underlying68
  have hlen : t.data.toList.length = t.size := data_length t
  have hB0 : Below w.heap.size w (w.alloc (.cells #[.int .u8 0, .int .u8 0, .int .u8 0] 68)) := (Below.refl _ _).alloc (Nat.le_refl _) _
  have hR0 : rdR (w.alloc (.cells #[.int .u8 0, .int .u8 0, .int .u8 0] 68)) w.heap.size ⟨0, 0, 0⟩ := heap_alloc_new w _
  obtain ⟨N, hN⟩ : ∃ N, N = runesBad t.data.toList := ⟨_, rfl⟩
  rw [← hN]
  unfold runesBad at hN
  rw [hlen] at hN
  have HN := Lib.hid hN
  have HL := Lib.hid hlen
  clear hN hlen
  go_enter Tryd.func17, Tryd.ntmps17
  go_wp2
  go_loopw [8, 4] (fun v p wr => ∃ (k pl : Nat) (s : RS), k ≤ t.size ∧ v = .int .i64 k ∧ p = .int .i64 pl ∧ N = rGo t.size (t.data.toList.drop k) k pl s ∧ rdR wr w.heap.size s ∧ (0 ≤ s.need ∧ s.need ≤ 3) ∧ Below w.heap.size w wr) (fun v _ _ => t.size - (intOf v).toNat)
  case atStart => exact ⟨0, 0, ⟨0, 0, 0⟩, by omega, rfl, rfl, HN.out, hR0, ⟨by decide, by decide⟩, hB0⟩
  case round =>
    obtain ⟨k, pl, s, hk, rfl, rfl, hg, hrd, hnd, hB⟩ := hrel
    have HG := Lib.hid hg
    have HRD := Lib.hid hrd
    have HB := Lib.hid hB
    clear hg hrd hB hR0 hB0
    have x0 := blk_cell (show wr.heap[w.heap.size]? = some (.cells #[.int .u8 s.need, .int .u8 s.low, .int .u8 s.high] 68 (0, 0)) from HRD.out) 0
    simp only [List.getElem?_toArray, List.getElem?_cons_zero] at x0
    by_cases hlt : k < t.size
    · obtain ⟨c, hc⟩ : ∃ c : UInt8, t[k]'hlt = c := ⟨_, rfl⟩
      have hdrop := drop_at t k hlt
      rw [hc] at hdrop
      have HD := Lib.hid hdrop
      have hc256 := c.toNat_lt
      have HT := Lib.hid (rtake_calls w w.heap.size s (c.toNat : Int) wr HRD.out HB.out (Nat.le_refl _) ⟨by omega, by omega⟩ hnd)
      clear hdrop
      by_cases h0 : s.need = 0
      · have h1 : (s.need == 0) = true := beq_iff_eq.2 h0
        have hpl : place1 s k pl = k := if_pos h0
        have HPL := Lib.hid hpl
        have HZ := Lib.hid h0
        clear hpl h0
        go_wp2_with fail
        refine HT.out.mono ?_
        rintro e w2 ⟨rfl, hrd2, hB2⟩
        have HRD2 := Lib.hid hrd2
        have HB2 := Lib.hid hB2
        clear hrd2 hB2 x0
        cases hok : (rstep s (c.toNat : Int)).1
        · go_wp2
          go_ret
          exact ⟨by rw [HG.out, HD.out, rGo_cons, if_pos hok, HPL.out]; rfl, HB2.out⟩
        · go_wp2
          go_roundw
          case rel => exact ⟨k + 1, k, (rstep s (c.toNat : Int)).2, by omega, by go_num, rfl, by rw [HG.out, HD.out, rGo_cons, if_neg (by rw [hok]; simp), HPL.out], HRD2.out, rstep_need hnd _, HB2.out⟩
          case measure => simp [intOf]; omega
      · have h1 : (s.need == 0) = false := beq_eq_false_iff_ne.2 h0
        have hpl : place1 s k pl = pl := if_neg h0
        have HPL := Lib.hid hpl
        have HZ := Lib.hid h0
        clear hpl h0
        go_wp2_with fail
        refine HT.out.mono ?_
        rintro e w2 ⟨rfl, hrd2, hB2⟩
        have HRD2 := Lib.hid hrd2
        have HB2 := Lib.hid hB2
        clear hrd2 hB2 x0
        cases hok : (rstep s (c.toNat : Int)).1
        · go_wp2
          go_ret
          exact ⟨by rw [HG.out, HD.out, rGo_cons, if_pos hok, HPL.out]; rfl, HB2.out⟩
        · go_wp2
          go_roundw
          case rel => exact ⟨k + 1, pl, (rstep s (c.toNat : Int)).2, by omega, by go_num, rfl, by rw [HG.out, HD.out, rGo_cons, if_neg (by rw [hok]; simp), HPL.out], HRD2.out, rstep_need hnd _, HB2.out⟩
          case measure => simp [intOf]; omega
    · obtain rfl : k = t.size := by omega
      by_cases h0 : 0 < s.need
      · have h1 : decide (0 < s.need) = true := decide_eq_true h0
        go_wp2
        go_ret
        exact ⟨by rw [HG.out, List.drop_eq_nil_of_le (by rw [HL.out]; exact Nat.le_refl _), rGo_nil, if_pos h0]; rfl, HB.out⟩
      · have h1 : decide (0 < s.need) = false := decide_eq_false h0
        go_wp2
        go_ret
        exact ⟨by rw [HG.out, List.drop_eq_nil_of_le (by rw [HL.out]; exact Nat.le_refl _), rGo_nil, if_neg (by omega)]; rfl, HB.out⟩
end Go.Proofs.YtcnhnpkbklakoaaDoor.Runes
/- runes.Bad (of bytes) by contract. -/
namespace Go.Proofs.YtcnhnpkbklakoaaDoor.Runes
open Go.RowKit Go.Proofs.YtcnhnpkbklakoaaDoorW.PrintWords Go.Proofs.YtcnhnpkbklakoaaDoorW.PrintLast Go.Proofs.YtcnhnpkbklakoaaDoorW.PrintMore Go.Proofs.YtcnhnpkbklakoaaDoor.PWordEncodes
attribute [local go_sem] max2_int min2_int max_two min_two max_three min_three max_four min_four
set_option linter.unusedVariables false
set_option linter.unusedSimpArgs false
set_option maxHeartbeats 4000000 in
set_option maxRecDepth 100000 in
theorem badB_calls (A : Option Addr) (cp n : Nat) (l : List UInt8) (hn : l.length = n) (w : World) (hr : Kd.C (Kd.int .u8) w A n (l.map fun (b : UInt8) => (b.toNat : Int))) (hcp : n ≤ cp) (ht : n ≤ 9223372036854775806) :
    Calls Tryd.prog 48 #[.slice A n cp] w fun e w' => e = .returned (.int .i64 ((runesBad l : Nat) : Int)) ∧ Below w.heap.size w w' := by
  have hu68 := Tryd.underlying68
  have hlen : l.length = n := hn
  have HR0 := Lib.hid hr
  clear hr hn
  have hB0 : Below w.heap.size w (w.alloc (.cells #[.int .u8 0, .int .u8 0, .int .u8 0] 68)) := (Below.refl _ _).alloc (Nat.le_refl _) _
  have hR0 : rdR (w.alloc (.cells #[.int .u8 0, .int .u8 0, .int .u8 0] 68)) w.heap.size ⟨0, 0, 0⟩ := heap_alloc_new w _
  obtain ⟨N, hN⟩ : ∃ N, N = runesBad l := ⟨_, rfl⟩
  rw [← hN]
  unfold runesBad at hN
  rw [hlen] at hN
  have HN := Lib.hid hN
  have HL := Lib.hid hlen
  clear hN hlen
  go_enter Tryd.func48, Tryd.ntmps48
  go_wp2
  go_loopw [8, 4] (fun v p wr => ∃ (k pl : Nat) (s : RS), k ≤ n ∧ v = .int .i64 k ∧ p = .int .i64 pl ∧ N = rGo n (l.drop k) k pl s ∧ rdR wr w.heap.size s ∧ (0 ≤ s.need ∧ s.need ≤ 3) ∧ Below w.heap.size w wr) (fun v _ _ => n - (intOf v).toNat)
  case atStart => exact ⟨0, 0, ⟨0, 0, 0⟩, by omega, rfl, rfl, HN.out, hR0, ⟨by decide, by decide⟩, hB0⟩
  case round =>
    obtain ⟨k, pl, s, hk, rfl, rfl, hg, hrd, hnd, hB⟩ := hrel
    have HG := Lib.hid hg
    have HRD := Lib.hid hrd
    have HB := Lib.hid hB
    clear hg hrd hB hR0 hB0
    have x0 := blk_cell (show wr.heap[w.heap.size]? = some (.cells #[.int .u8 s.need, .int .u8 s.low, .int .u8 s.high] 68 (0, 0)) from HRD.out) 0
    simp only [List.getElem?_toArray, List.getElem?_cons_zero] at x0
    by_cases hlt : k < n
    · obtain ⟨c, hc⟩ : ∃ c : UInt8, l[k]? = some c := ⟨_, List.getElem?_eq_getElem (by have := HL.out; omega)⟩
      have hdrop : l.drop k = c :: l.drop (k + 1) := by
        obtain ⟨hk', rfl⟩ := List.getElem?_eq_some_iff.1 hc
        exact List.drop_eq_getElem_cons hk'
      obtain ⟨BB, off, rfl, hat⟩ := Code.atI_of_C HR0.out (by omega)
      have y0 := hat k _ (Octet.bytes_isIn (c := 0) hc)
      have z0 := (HB.out.cell (World.block_lt_of_cell? w _ y0)).trans y0
      clear hc hat y0
      have HD := Lib.hid hdrop
      have hc256 := c.toNat_lt
      have HT := Lib.hid (rtake_calls w w.heap.size s (c.toNat : Int) wr HRD.out HB.out (Nat.le_refl _) ⟨by omega, by omega⟩ hnd)
      clear hdrop
      by_cases h0 : s.need = 0
      · have h1 : (s.need == 0) = true := beq_iff_eq.2 h0
        have hpl : place1 s k pl = k := if_pos h0
        have HPL := Lib.hid hpl
        have HZ := Lib.hid h0
        clear hpl h0
        go_wp2_with fail
        refine HT.out.mono ?_
        rintro e w2 ⟨rfl, hrd2, hB2⟩
        have HRD2 := Lib.hid hrd2
        have HB2 := Lib.hid hB2
        clear hrd2 hB2 x0
        cases hok : (rstep s (c.toNat : Int)).1
        · go_wp2
          go_ret
          exact ⟨by rw [HG.out, HD.out, rGo_cons, if_pos hok, HPL.out]; rfl, HB2.out⟩
        · go_wp2
          go_roundw
          case rel => exact ⟨k + 1, k, (rstep s (c.toNat : Int)).2, by omega, by go_num, rfl, by rw [HG.out, HD.out, rGo_cons, if_neg (by rw [hok]; simp), HPL.out], HRD2.out, rstep_need hnd _, HB2.out⟩
          case measure => simp [intOf]; omega
      · have h1 : (s.need == 0) = false := beq_eq_false_iff_ne.2 h0
        have hpl : place1 s k pl = pl := if_neg h0
        have HPL := Lib.hid hpl
        have HZ := Lib.hid h0
        clear hpl h0
        go_wp2_with fail
        refine HT.out.mono ?_
        rintro e w2 ⟨rfl, hrd2, hB2⟩
        have HRD2 := Lib.hid hrd2
        have HB2 := Lib.hid hB2
        clear hrd2 hB2 x0
        cases hok : (rstep s (c.toNat : Int)).1
        · go_wp2
          go_ret
          exact ⟨by rw [HG.out, HD.out, rGo_cons, if_pos hok, HPL.out]; rfl, HB2.out⟩
        · go_wp2
          go_roundw
          case rel => exact ⟨k + 1, pl, (rstep s (c.toNat : Int)).2, by omega, by go_num, rfl, by rw [HG.out, HD.out, rGo_cons, if_neg (by rw [hok]; simp), HPL.out], HRD2.out, rstep_need hnd _, HB2.out⟩
          case measure => simp [intOf]; omega
    · obtain rfl : k = n := by omega
      by_cases h0 : 0 < s.need
      · have h1 : decide (0 < s.need) = true := decide_eq_true h0
        go_wp2
        go_ret
        exact ⟨by rw [HG.out, List.drop_eq_nil_of_le (by rw [HL.out]; exact Nat.le_refl _), rGo_nil, if_pos h0]; rfl, HB.out⟩
      · have h1 : decide (0 < s.need) = false := decide_eq_false h0
        go_wp2
        go_ret
        exact ⟨by rw [HG.out, List.drop_eq_nil_of_le (by rw [HL.out]; exact Nat.le_refl _), rGo_nil, if_neg (by omega)]; rfl, HB.out⟩
end Go.Proofs.YtcnhnpkbklakoaaDoor.Runes
/- runes.Decode by contract. -/
namespace Go.Proofs.YtcnhnpkbklakoaaDoor.Runes
open Go.RowKit Go.Proofs.YtcnhnpkbklakoaaDoorW.PrintWords Go.Proofs.YtcnhnpkbklakoaaDoorW.PrintLast Go.Proofs.YtcnhnpkbklakoaaDoorW.PrintMore Go.Proofs.YtcnhnpkbklakoaaDoor.PWordEncodes
open Go.Proofs.YtcnhnpkbklakoaaDoor.Code
attribute [local go_sem] max2_int min2_int max_two min_two max_three min_three max_four min_four
set_option linter.unusedVariables false
set_option linter.unusedSimpArgs false
theorem decode_pos (s : ByteArray) (i : Nat) : 1 ≤ (Utf8.decode s i).2 := by
  simp only [Utf8.decode]
  repeat' split
  all_goals simp
theorem decode_end (s : ByteArray) (i : Nat) (h : i < s.size) : i + (Utf8.decode s i).2 ≤ s.size := by
  simp only [Utf8.decode]
  repeat' split
  all_goals simp_all
  all_goals omega
theorem reads_lit (W : World) (e : TypeId) (k : IntKind) (xs : List Int) (hm : xs.length ≤ 9223372036854775807) : ReadsInt (W.alloc (.cells (nums k xs).toArray e)) k (some ⟨W.heap.size, 0, none⟩) xs.length xs := by
  obtain ⟨A, c, hv, h⟩ := own_reads (own_lit W 0 e k xs (Nat.zero_le _) hm)
  cases hv
  exact h
/-- the runes of a text, from a place on -/
def runesAt (s : ByteArray) (i : Nat) : List Int :=
  if h : i < s.size then ((Utf8.decode s i).1 : Int) :: runesAt s (i + (Utf8.decode s i).2) else []
termination_by s.size - i
decreasing_by have := decode_pos s i; omega
theorem runesAt_lt (s : ByteArray) (i : Nat) (h : i < s.size) : runesAt s i = ((Utf8.decode s i).1 : Int) :: runesAt s (i + (Utf8.decode s i).2) := by rw [runesAt, dif_pos h]
theorem runesAt_ge (s : ByteArray) (i : Nat) (h : ¬ i < s.size) : runesAt s i = [] := by rw [runesAt, dif_neg h]
/-- what Decode tells: the runes, the error, its place -/
def decV (t : ByteArray) : List Int × Int × Nat := if runesBad t.data.toList < t.size then ([], 50, runesBad t.data.toList) else (runesAt t 0, 0, 0)
set_option maxHeartbeats 4000000 in
set_option maxRecDepth 100000 in
theorem decode_calls (t : ByteArray) (w : World) (ht : t.size ≤ 3000000000) :
    Calls Tryd.prog 27 #[.string t] w fun e w' => ∃ V, e = .returned (.tuple #[V, .agg #[.int .i64 (decV t).2.1, .int .i64 ((decV t).2.2 : Nat)]]) ∧ w'.ownsRow w.heap.size 21 1 V (decV t).1.length (nums .i32 (decV t).1) ∧ Below w.heap.size w w' := by
  have hu88 := Tryd.underlying25
  have HB := Lib.hid (fun W => bad_calls t W (by omega))
  obtain ⟨N, hN⟩ : ∃ N, runesBad t.data.toList = N := ⟨_, rfl⟩
  rw [hN] at HB
  by_cases hlt : N < t.size
  · have hdv : decV t = ([], 50, N) := by unfold decV; rw [hN, if_pos hlt]
    rw [hdv]
    have hlt' : (N : Int) < (t.size : Int) := by omega
    clear hdv hN
    go_enter Tryd.func27, Tryd.ntmps27
    obtain ⟨W0, hW0⟩ : ∃ W0, W0 = w.alloc (.cells #[.int .i64 0, .int .i64 0] 25) := ⟨_, rfl⟩
    have hsz : W0.heap.size = w.heap.size + 1 := by rw [hW0]; simp
    have hbox : W0.heap[w.heap.size]? = some (.cells #[.int .i64 0, .int .i64 0] 25 (0, 0)) := by rw [hW0]; exact heap_alloc_new w _
    have hBw : Below w.heap.size w W0 := by rw [hW0]; exact (Below.refl _ _).alloc (Nat.le_refl _) _
    have HX := Lib.hid hbox
    have HBW := Lib.hid hBw
    have HW0 := Lib.hid hW0
    have HSZ := Lib.hid hsz
    clear hbox hBw hsz
    go_wp2_with fail
    rw [← HW0.out]
    refine (HB.out _).mono ?_
    rintro e w1 ⟨rfl, hb1⟩
    clear hW0
    have hb2 := (hb1.block _ (by have := HSZ.out; omega)).trans HX.out
    have b0 := blk_cell hb2 0
    have b1 := blk_cell hb2 1
    have g0 := blk_frozen hb2 0
    have g1 := blk_frozen hb2 1
    have HX2 := Lib.hid hb2
    have HBA := Lib.hid (HBW.out.trans (hb1.mono (by have := HSZ.out; omega)))
    have hIR : w.heap.size < w1.heap.size := by have := HSZ.out; have := hb1.size; omega
    clear hb2 hb1
    go_wp2
    refine bodyPost_ret (results_list (rs := [.tmp 2, .cell 3 25]) rfl (by simp) (.tmp (.cell w.heap.size 25 #[.int .i64 50, .int .i64 N] (0, 0) _ rfl (blk_put (blk_put HX2.out 0 (.int .i64 50) rfl) 1 (.int .i64 N) rfl) Tryd.underlying25 rfl (by kernel_rfl) .nil))) rfl ?_
    exact ⟨_, rfl, ⟨rfl, .inl ⟨rfl, rfl⟩⟩, ((HBA.out.setCell (p := ⟨w.heap.size, 0, none⟩) (Nat.le_refl _) _).setCell (p := ⟨w.heap.size, 1, none⟩) (Nat.le_refl _) _)⟩
  · obtain ⟨L, hL⟩ : ∃ L, L = runesAt t 0 := ⟨_, rfl⟩
    have hdv : decV t = (L, 0, 0) := by unfold decV; rw [hN, if_neg hlt, hL]
    rw [hdv]
    have hlt' : ¬ (N : Int) < (t.size : Int) := by omega
    have HL := Lib.hid hL
    clear hdv hN hL
    go_enter Tryd.func27, Tryd.ntmps27
    obtain ⟨W0, hW0⟩ : ∃ W0, W0 = w.alloc (.cells #[.int .i64 0, .int .i64 0] 25) := ⟨_, rfl⟩
    have hsz : W0.heap.size = w.heap.size + 1 := by rw [hW0]; simp
    have hbox : W0.heap[w.heap.size]? = some (.cells #[.int .i64 0, .int .i64 0] 25 (0, 0)) := by rw [hW0]; exact heap_alloc_new w _
    have hBw : Below w.heap.size w W0 := by rw [hW0]; exact (Below.refl _ _).alloc (Nat.le_refl _) _
    have HX := Lib.hid hbox
    have HBW := Lib.hid hBw
    have HW0 := Lib.hid hW0
    have HSZ := Lib.hid hsz
    clear hbox hBw hsz
    go_wp2_with fail
    rw [← HW0.out]
    refine (HB.out _).mono ?_
    rintro e w1 ⟨rfl, hb1⟩
    clear hW0
    have hb2 := (hb1.block _ (by have := HSZ.out; omega)).trans HX.out
    have b0 := blk_cell hb2 0
    have b1 := blk_cell hb2 1
    have g0 := blk_frozen hb2 0
    have g1 := blk_frozen hb2 1
    have HX2 := Lib.hid hb2
    have HBA := Lib.hid (HBW.out.trans (hb1.mono (by have := HSZ.out; omega)))
    have hIR : w.heap.size < w1.heap.size := by have := HSZ.out; have := hb1.size; omega
    clear hb2 hb1
    go_wp2
    go_loopg [5] t.size (fun g o wr => ∃ (k : Nat) (l : List Int), k ≤ t.size ∧ t.size - k ≤ g ∧ L = l ++ runesAt t k ∧ wr.heap[w1.heap.size]? = some (.stringIter t k) ∧ wr.ownsRow (w1.heap.size + 1) 21 1 o l.length (nums .i32 l) ∧ Below w1.heap.size w1 wr ∧ l.length ≤ k)
    case atStart => exact ⟨0, [], by omega, by omega, HL.out, World.iter_heap w1 t 0, own_nil _ _ _ _, (Below.refl _ _).alloc (by omega) _, by simp⟩
    case round =>
      obtain ⟨k, l, hk, hg, hl, hit, hown, hB, hlk⟩ := hrel
      have HLL := Lib.hid hl
      have HI := Lib.hid hit
      have HO := Lib.hid hown
      have HBR := Lib.hid hB
      clear hl hown hB
      by_cases hi : k < t.size
      · cases gk with
        | zero => omega
        | succ g =>
          have hnx := fun ty => Lib.run_next_any_at (P := Tryd.prog) wr w1.heap.size t k ty hit hi
          have hpos := decode_pos t k
          have hend := decode_end t k hi
          have hcons := runesAt_lt t k hi
          generalize Utf8.decode t k = D at hnx hpos hend hcons
          obtain ⟨r, n⟩ := D
          simp only at hnx hpos hend hcons
          have HCO := Lib.hid hcons
          clear hit hcons
          have hwi := Lib.below_iterAt HBR.out (Nat.le_refl _) t (k + n)
          have hit2 := Lib.iterAt_heap wr w1.heap.size t k (k + n) HI.out
          have hbase : w1.heap.size + 1 ≤ (wr.iterAt w1.heap.size t (k + n)).heap.size := (Array.getElem?_eq_some_iff.1 hit2).1
          have HWI := Lib.hid hwi
          have HIT2 := Lib.hid hit2
          clear hwi hit2
          go_wp2_with (at_builtin; refine print_append_row (w0 := (wr.iterAt w1.heap.size t (k + n)).alloc (.cells #[Value.int .i32 r] 21)) (w1.heap.size + 1) rfl (.tmp 21) (.tmp 23) 50 21 .i32 4 rfl Tryd.underlying50 info21 (by decide) _ l [(r : Int)] _ 1 1 rfl rfl ?ho ?hr ?hb ?hbase ?hl ?_)
          case ho => exact ((ownsRow_iterAt HO.out (Nat.lt_succ_self _) _ _).alloc _)
          case hr => exact reads_lit _ 21 .i32 [(r : Int)] (by simp)
          case hb => exact Below.refl _ _
          case hbase => rw [World.size_alloc]; omega
          case hl => omega
          intro v7 w7 ho7 hb7 hg7 hat7
          go_wp2
          go_roundg g
          case measure => omega
          case rel => exact ⟨k + n, l ++ [(r : Int)], by omega, by omega, by rw [HLL.out, HCO.out, List.append_assoc]; rfl, (hb7.block _ (by omega)).trans (by rw [heap_alloc_old _ _ (by omega)]; exact HIT2.out), by rw [List.length_append]; exact ho7, (HWI.out.alloc (Nat.le_of_succ_le hbase) _).trans (hb7.mono (by omega)), by rw [List.length_append]; simp; omega⟩
      · have hnx := fun ty => Lib.run_next_end_at (P := Tryd.prog) wr w1.heap.size t k ty hit hi
        have hb2 := (HBR.out.block _ hIR).trans HX2.out
        clear b0 b1 g0 g1
        have b0 := blk_cell hb2 0
        have b1 := blk_cell hb2 1
        have g0 := blk_frozen hb2 0
        have g1 := blk_frozen hb2 1
        have HX3 := Lib.hid hb2
        obtain rfl : k = t.size := by omega
        have hlL : l = L := by rw [HLL.out, runesAt_ge _ _ (Nat.lt_irrefl _), List.append_nil]
        subst hlL
        clear hb2 hit
        go_wp2
        refine bodyPost_ret (results_list (rs := [.tmp 2, .cell 3 25]) rfl (by simp) (.tmp (.cell w.heap.size 25 #[.int .i64 0, .int .i64 0] (0, 0) _ rfl (blk_put (blk_put HX3.out 0 (.int .i64 0) rfl) 1 (.int .i64 0) rfl) Tryd.underlying25 rfl (by kernel_rfl) .nil))) rfl ?_
        have hbw := HBA.out.trans (HBR.out.mono (Nat.le_of_lt hIR))
        have hnb : some w.heap.size ≠ u5.ownBlock := fun e => by have := own_base HO.out _ e.symm; omega
        exact ⟨_, rfl, own_setCell (own_setCell (own_low HO.out (by omega)) (p := ⟨w.heap.size, 0, none⟩) hnb _) (p := ⟨w.heap.size, 1, none⟩) hnb _, ((hbw.setCell (p := ⟨w.heap.size, 0, none⟩) (Nat.le_refl _) _).setCell (p := ⟨w.heap.size, 1, none⟩) (Nat.le_refl _) _)⟩
end Go.Proofs.YtcnhnpkbklakoaaDoor.Runes
