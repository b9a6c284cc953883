/- runes.state.take by contract. -/
import Derived.Test.YtcnhnpkbklakoaaDoorBase64
namespace Go.Proofs.YtcnhnpkbklakoaaDoor.Runes
open Go.RowKit Go.Proofs.YtcnhnpkbklakoaaDoorW.PrintWords Go.Proofs.YtcnhnpkbklakoaaDoorW.PrintLast Go.Proofs.YtcnhnpkbklakoaaDoorW.PrintMore Go.Proofs.YtcnhnpkbklakoaaDoor.PWordEncodes
attribute [local go_sem] max2_int min2_int max_two min_two max_three min_three max_four min_four
set_option linter.unusedVariables false
set_option linter.unusedSimpArgs false
/-- what is waited for: how many bytes, and the bounds of the next -/
structure RS where
  (need low high : Int)
def rstep (s : RS) (b : Int) : Bool × RS :=
  if 0 < s.need then (if b < s.low ∨ s.high < b then (false, s) else (true, ⟨s.need - 1, 128, 191⟩))
  else if b < 128 then (true, ⟨s.need, 128, 191⟩)
  else if b < 194 ∨ 244 < b then (false, ⟨s.need, 128, 191⟩)
  else (true, ⟨if b < 224 then 1 else if b < 240 then 2 else 3, if b = 224 then 160 else if b = 240 then 144 else 128, if b = 237 then 159 else if b = 244 then 143 else 191⟩)
def rdR (w : World) (R : Nat) (s : RS) : Prop := w.heap[R]? = some (.cells #[.int .u8 s.need, .int .u8 s.low, .int .u8 s.high] 68 (0, 0))
theorem below_st {w W : World} {p : Addr} {u : Value} (hp : w.heap.size ≤ p.block) (h : Below w.heap.size w W) : Below w.heap.size w (W.setCell p u) := h.setCell hp u
set_option maxHeartbeats 4000000 in
set_option maxRecDepth 100000 in
theorem rtake_calls (w0 : World) (R : Nat) (s : RS) (b : Int) (w : World) (hR : rdR w R s) (hB : Below w0.heap.size w0 w) (hR0 : w0.heap.size ≤ R) (hb : 0 ≤ b ∧ b < 256) (hn : 0 ≤ s.need ∧ s.need ≤ 3) :
    Calls Tryd.prog 39 #[.pointer (some ⟨R, 0, none⟩), .int .u8 b] w fun e w' => e = .returned (.bool (rstep s b).1) ∧ rdR w' R (rstep s b).2 ∧ Below w0.heap.size w0 w' := by
  obtain ⟨need, low, high⟩ := s
  simp only at hn
  have hRn : w.heap[R]? = some (.cells #[.int .u8 need, .int .u8 low, .int .u8 high] 68 (0, 0)) := hR
  have x0 := blk_cell hRn 0
  have x1 := blk_cell hRn 1
  have x2 := blk_cell hRn 2
  have f0 := blk_frozen hRn 0
  have f1 := blk_frozen hRn 1
  have f2 := blk_frozen hRn 2
  simp only [List.getElem?_toArray, List.getElem?_cons_succ, List.getElem?_cons_zero] at x0 x1 x2
  have HRN := Lib.hid hRn
  have HB := Lib.hid hB
  clear hR hRn hB
  by_cases hnd : 0 < need
  · have c0 : decide (0 < need) = true := decide_eq_true hnd
    by_cases hl : b < low
    · have c1 : decide (b < low) = true := decide_eq_true hl
      have hE : rstep ⟨need, low, high⟩ b = (false, ⟨need, low, high⟩) := by unfold rstep; simp [*]; try omega
      rw [hE]
      have HE := Lib.hid hE
      clear hE
      go_enter Tryd.func39, Tryd.ntmps39
      go_wp2
      go_ret
      exact ⟨rfl, HRN.out, HB.out⟩
    · have c1 : decide (b < low) = false := decide_eq_false hl
      by_cases hh : high < b
      · have c2 : decide (high < b) = true := decide_eq_true hh
        have hE : rstep ⟨need, low, high⟩ b = (false, ⟨need, low, high⟩) := by unfold rstep; simp [*]; try omega
        rw [hE]
        have HE := Lib.hid hE
        clear hE
        go_enter Tryd.func39, Tryd.ntmps39
        go_wp2
        go_ret
        exact ⟨rfl, HRN.out, HB.out⟩
      · have c2 : decide (high < b) = false := decide_eq_false hh
        have c3 : IntKind.u8.wrap (need - 1) = need - 1 := by rw [IntKind.wrap_u8]; omega
        have hE : rstep ⟨need, low, high⟩ b = (true, ⟨need - 1, 128, 191⟩) := by unfold rstep; simp [*]; try omega
        rw [hE]
        have HE := Lib.hid hE
        clear hE
        go_enter Tryd.func39, Tryd.ntmps39
        go_wp2
        go_ret
        exact ⟨rfl, (blk_put (blk_put (blk_put HRN.out 0 (.int .u8 (need - 1)) rfl) 1 (.int .u8 128) rfl) 2 (.int .u8 191) rfl), (below_st (p := ⟨R, 2, none⟩) hR0 (below_st (p := ⟨R, 1, none⟩) hR0 (below_st (p := ⟨R, 0, none⟩) hR0 HB.out)))⟩
  · have c0 : decide (0 < need) = false := decide_eq_false hnd
    obtain rfl : need = 0 := by omega
    rcases (show (b < 128) ∨ (128 ≤ b ∧ b < 194) ∨ (244 < b) ∨ (194 ≤ b ∧ b < 224) ∨ (b = 224) ∨ (224 < b ∧ b < 240 ∧ b ≠ 237) ∨ (b = 237) ∨ (b = 240) ∨ (240 < b ∧ b < 244) ∨ (b = 244) by omega) with h | h | h | h | h | h | h | h | h | h
    · have d1 : decide (b < 128) = true := decide_eq_true (by omega)
      have d2 : decide (b < 194) = true := decide_eq_true (by omega)
      have d3 : decide (b < 224) = true := decide_eq_true (by omega)
      have d4 : decide (b < 240) = true := decide_eq_true (by omega)
      have d5 : decide (244 < b) = false := decide_eq_false (by omega)
      have e224 : (b == 224) = false := beq_eq_false_iff_ne.2 (by omega)
      have e237 : (b == 237) = false := beq_eq_false_iff_ne.2 (by omega)
      have e240 : (b == 240) = false := beq_eq_false_iff_ne.2 (by omega)
      have e244 : (b == 244) = false := beq_eq_false_iff_ne.2 (by omega)
      have hE : rstep ⟨0, low, high⟩ b = (true, ⟨0, 128, 191⟩) := by
        unfold rstep
        dsimp only
        rw [if_neg (show ¬ ((0 : Int) < 0) by omega), if_pos (show b < 128 by omega)]
      rw [hE]
      clear hE
      go_enter Tryd.func39, Tryd.ntmps39
      go_wp2
      go_ret
      exact ⟨rfl, (blk_put (blk_put HRN.out 1 (.int .u8 128) rfl) 2 (.int .u8 191) rfl), (below_st (p := ⟨R, 2, none⟩) hR0 (below_st (p := ⟨R, 1, none⟩) hR0 HB.out))⟩
    · have d1 : decide (b < 128) = false := decide_eq_false (by omega)
      have d2 : decide (b < 194) = true := decide_eq_true (by omega)
      have d3 : decide (b < 224) = true := decide_eq_true (by omega)
      have d4 : decide (b < 240) = true := decide_eq_true (by omega)
      have d5 : decide (244 < b) = false := decide_eq_false (by omega)
      have e224 : (b == 224) = false := beq_eq_false_iff_ne.2 (by omega)
      have e237 : (b == 237) = false := beq_eq_false_iff_ne.2 (by omega)
      have e240 : (b == 240) = false := beq_eq_false_iff_ne.2 (by omega)
      have e244 : (b == 244) = false := beq_eq_false_iff_ne.2 (by omega)
      have hE : rstep ⟨0, low, high⟩ b = (false, ⟨0, 128, 191⟩) := by
        unfold rstep
        dsimp only
        rw [if_neg (show ¬ ((0 : Int) < 0) by omega), if_neg (show ¬ b < 128 by omega), if_pos (show b < 194 ∨ 244 < b by omega)]
      rw [hE]
      clear hE
      go_enter Tryd.func39, Tryd.ntmps39
      go_wp2
      go_ret
      exact ⟨rfl, (blk_put (blk_put HRN.out 1 (.int .u8 128) rfl) 2 (.int .u8 191) rfl), (below_st (p := ⟨R, 2, none⟩) hR0 (below_st (p := ⟨R, 1, none⟩) hR0 HB.out))⟩
    · have d1 : decide (b < 128) = false := decide_eq_false (by omega)
      have d2 : decide (b < 194) = false := decide_eq_false (by omega)
      have d3 : decide (b < 224) = false := decide_eq_false (by omega)
      have d4 : decide (b < 240) = false := decide_eq_false (by omega)
      have d5 : decide (244 < b) = true := decide_eq_true (by omega)
      have e224 : (b == 224) = false := beq_eq_false_iff_ne.2 (by omega)
      have e237 : (b == 237) = false := beq_eq_false_iff_ne.2 (by omega)
      have e240 : (b == 240) = false := beq_eq_false_iff_ne.2 (by omega)
      have e244 : (b == 244) = false := beq_eq_false_iff_ne.2 (by omega)
      have hE : rstep ⟨0, low, high⟩ b = (false, ⟨0, 128, 191⟩) := by
        unfold rstep
        dsimp only
        rw [if_neg (show ¬ ((0 : Int) < 0) by omega), if_neg (show ¬ b < 128 by omega), if_pos (show b < 194 ∨ 244 < b by omega)]
      rw [hE]
      clear hE
      go_enter Tryd.func39, Tryd.ntmps39
      go_wp2
      go_ret
      exact ⟨rfl, (blk_put (blk_put HRN.out 1 (.int .u8 128) rfl) 2 (.int .u8 191) rfl), (below_st (p := ⟨R, 2, none⟩) hR0 (below_st (p := ⟨R, 1, none⟩) hR0 HB.out))⟩
    · have d1 : decide (b < 128) = false := decide_eq_false (by omega)
      have d2 : decide (b < 194) = false := decide_eq_false (by omega)
      have d3 : decide (b < 224) = true := decide_eq_true (by omega)
      have d4 : decide (b < 240) = true := decide_eq_true (by omega)
      have d5 : decide (244 < b) = false := decide_eq_false (by omega)
      have e224 : (b == 224) = false := beq_eq_false_iff_ne.2 (by omega)
      have e237 : (b == 237) = false := beq_eq_false_iff_ne.2 (by omega)
      have e240 : (b == 240) = false := beq_eq_false_iff_ne.2 (by omega)
      have e244 : (b == 244) = false := beq_eq_false_iff_ne.2 (by omega)
      have hE : rstep ⟨0, low, high⟩ b = (true, ⟨1, 128, 191⟩) := by
        unfold rstep
        dsimp only
        rw [if_neg (show ¬ ((0 : Int) < 0) by omega), if_neg (show ¬ b < 128 by omega), if_neg (show ¬ (b < 194 ∨ 244 < b) by omega), if_pos (show b < 224 by omega), if_neg (show ¬ b = 224 by omega), if_neg (show ¬ b = 240 by omega), if_neg (show ¬ b = 237 by omega), if_neg (show ¬ b = 244 by omega)]
      rw [hE]
      clear hE
      go_enter Tryd.func39, Tryd.ntmps39
      go_wp2
      go_ret
      exact ⟨rfl, (blk_put (blk_put (blk_put HRN.out 1 (.int .u8 128) rfl) 2 (.int .u8 191) rfl) 0 (.int .u8 1) rfl), (below_st (p := ⟨R, 0, none⟩) hR0 (below_st (p := ⟨R, 2, none⟩) hR0 (below_st (p := ⟨R, 1, none⟩) hR0 HB.out)))⟩
    · subst h
      have hE : rstep ⟨0, low, high⟩ 224 = (true, ⟨2, 160, 191⟩) := by
        unfold rstep
        simp
      rw [hE]
      clear hE
      go_enter Tryd.func39, Tryd.ntmps39
      go_wp2
      go_ret
      exact ⟨rfl, (blk_put (blk_put (blk_put (blk_put HRN.out 1 (.int .u8 128) rfl) 2 (.int .u8 191) rfl) 0 (.int .u8 2) rfl) 1 (.int .u8 160) rfl), (below_st (p := ⟨R, 1, none⟩) hR0 (below_st (p := ⟨R, 0, none⟩) hR0 (below_st (p := ⟨R, 2, none⟩) hR0 (below_st (p := ⟨R, 1, none⟩) hR0 HB.out))))⟩
    · have d1 : decide (b < 128) = false := decide_eq_false (by omega)
      have d2 : decide (b < 194) = false := decide_eq_false (by omega)
      have d3 : decide (b < 224) = false := decide_eq_false (by omega)
      have d4 : decide (b < 240) = true := decide_eq_true (by omega)
      have d5 : decide (244 < b) = false := decide_eq_false (by omega)
      have e224 : (b == 224) = false := beq_eq_false_iff_ne.2 (by omega)
      have e237 : (b == 237) = false := beq_eq_false_iff_ne.2 (by omega)
      have e240 : (b == 240) = false := beq_eq_false_iff_ne.2 (by omega)
      have e244 : (b == 244) = false := beq_eq_false_iff_ne.2 (by omega)
      have hE : rstep ⟨0, low, high⟩ b = (true, ⟨2, 128, 191⟩) := by
        unfold rstep
        dsimp only
        rw [if_neg (show ¬ ((0 : Int) < 0) by omega), if_neg (show ¬ b < 128 by omega), if_neg (show ¬ (b < 194 ∨ 244 < b) by omega), if_neg (show ¬ b < 224 by omega), if_pos (show b < 240 by omega), if_neg (show ¬ b = 224 by omega), if_neg (show ¬ b = 240 by omega), if_neg (show ¬ b = 237 by omega), if_neg (show ¬ b = 244 by omega)]
      rw [hE]
      clear hE
      go_enter Tryd.func39, Tryd.ntmps39
      go_wp2
      go_ret
      exact ⟨rfl, (blk_put (blk_put (blk_put HRN.out 1 (.int .u8 128) rfl) 2 (.int .u8 191) rfl) 0 (.int .u8 2) rfl), (below_st (p := ⟨R, 0, none⟩) hR0 (below_st (p := ⟨R, 2, none⟩) hR0 (below_st (p := ⟨R, 1, none⟩) hR0 HB.out)))⟩
    · subst h
      have hE : rstep ⟨0, low, high⟩ 237 = (true, ⟨2, 128, 159⟩) := by
        unfold rstep
        simp
      rw [hE]
      clear hE
      go_enter Tryd.func39, Tryd.ntmps39
      go_wp2
      go_ret
      exact ⟨rfl, (blk_put (blk_put (blk_put (blk_put HRN.out 1 (.int .u8 128) rfl) 2 (.int .u8 191) rfl) 0 (.int .u8 2) rfl) 2 (.int .u8 159) rfl), (below_st (p := ⟨R, 2, none⟩) hR0 (below_st (p := ⟨R, 0, none⟩) hR0 (below_st (p := ⟨R, 2, none⟩) hR0 (below_st (p := ⟨R, 1, none⟩) hR0 HB.out))))⟩
    · subst h
      have hE : rstep ⟨0, low, high⟩ 240 = (true, ⟨3, 144, 191⟩) := by
        unfold rstep
        simp
      rw [hE]
      clear hE
      go_enter Tryd.func39, Tryd.ntmps39
      go_wp2
      go_ret
      exact ⟨rfl, (blk_put (blk_put (blk_put (blk_put HRN.out 1 (.int .u8 128) rfl) 2 (.int .u8 191) rfl) 0 (.int .u8 3) rfl) 1 (.int .u8 144) rfl), (below_st (p := ⟨R, 1, none⟩) hR0 (below_st (p := ⟨R, 0, none⟩) hR0 (below_st (p := ⟨R, 2, none⟩) hR0 (below_st (p := ⟨R, 1, none⟩) hR0 HB.out))))⟩
    · have d1 : decide (b < 128) = false := decide_eq_false (by omega)
      have d2 : decide (b < 194) = false := decide_eq_false (by omega)
      have d3 : decide (b < 224) = false := decide_eq_false (by omega)
      have d4 : decide (b < 240) = false := decide_eq_false (by omega)
      have d5 : decide (244 < b) = false := decide_eq_false (by omega)
      have e224 : (b == 224) = false := beq_eq_false_iff_ne.2 (by omega)
      have e237 : (b == 237) = false := beq_eq_false_iff_ne.2 (by omega)
      have e240 : (b == 240) = false := beq_eq_false_iff_ne.2 (by omega)
      have e244 : (b == 244) = false := beq_eq_false_iff_ne.2 (by omega)
      have hE : rstep ⟨0, low, high⟩ b = (true, ⟨3, 128, 191⟩) := by
        unfold rstep
        dsimp only
        rw [if_neg (show ¬ ((0 : Int) < 0) by omega), if_neg (show ¬ b < 128 by omega), if_neg (show ¬ (b < 194 ∨ 244 < b) by omega), if_neg (show ¬ b < 224 by omega), if_neg (show ¬ b < 240 by omega), if_neg (show ¬ b = 224 by omega), if_neg (show ¬ b = 240 by omega), if_neg (show ¬ b = 237 by omega), if_neg (show ¬ b = 244 by omega)]
      rw [hE]
      clear hE
      go_enter Tryd.func39, Tryd.ntmps39
      go_wp2
      go_ret
      exact ⟨rfl, (blk_put (blk_put (blk_put HRN.out 1 (.int .u8 128) rfl) 2 (.int .u8 191) rfl) 0 (.int .u8 3) rfl), (below_st (p := ⟨R, 0, none⟩) hR0 (below_st (p := ⟨R, 2, none⟩) hR0 (below_st (p := ⟨R, 1, none⟩) hR0 HB.out)))⟩
    · subst h
      have hE : rstep ⟨0, low, high⟩ 244 = (true, ⟨3, 128, 143⟩) := by
        unfold rstep
        simp
      rw [hE]
      clear hE
      go_enter Tryd.func39, Tryd.ntmps39
      go_wp2
      go_ret
      exact ⟨rfl, (blk_put (blk_put (blk_put (blk_put HRN.out 1 (.int .u8 128) rfl) 2 (.int .u8 191) rfl) 0 (.int .u8 3) rfl) 2 (.int .u8 143) rfl), (below_st (p := ⟨R, 2, none⟩) hR0 (below_st (p := ⟨R, 0, none⟩) hR0 (below_st (p := ⟨R, 2, none⟩) hR0 (below_st (p := ⟨R, 1, none⟩) hR0 HB.out))))⟩
end Go.Proofs.YtcnhnpkbklakoaaDoor.Runes
