/- code.Reader.next by contract. -/
import Derived.Test.YtcnhnpkbklakoaaDoorBase64
import Derived.Test.YtcnhnpkbklakoaaDoorCodeValue
namespace Go.Proofs.YtcnhnpkbklakoaaDoor.Code
open Go.RowKit Go.Proofs.YtcnhnpkbklakoaaDoorW.PrintWords Go.Proofs.YtcnhnpkbklakoaaDoorW.PrintLast Go.Proofs.YtcnhnpkbklakoaaDoorW.PrintMore Go.Proofs.YtcnhnpkbklakoaaDoor.PWordEncodes
attribute [local go_sem] max2_int min2_int max_two min_two max_three min_three max_four min_four
set_option linter.unusedVariables false
set_option linter.unusedSimpArgs false
/-- does the text go on with this letter: 0, or the error -/
def nextV (q1 q2 : Int) (n : Nat) (over : Bool) (v : Int) : Int :=
  if v = 65 then 40 else if over = true then 41 else if n = 3 ∧ q2 = 64 then (if v ≠ 64 then 41 else 0) else if v ≠ 64 then 0 else if n < 2 then 41 else if n = 2 ∧ q1 % 16 ≠ 0 then 41 else if n = 3 ∧ q2 % 4 ≠ 0 then 41 else 0
def rd8 (w : World) (R : Nat) (q0 q1 q2 q3 : Int) (n : Nat) (over : Bool) : Prop := w.heap[R]? = some (.cells #[.bool true, .int .u8 q0, .int .u8 q1, .int .u8 q2, .int .u8 q3, .int .i64 n, .bool over, .int .i64 0] 105 (0, 0))
set_option maxHeartbeats 2000000 in
set_option maxRecDepth 100000 in
theorem next_calls (R : Nat) (q0 q1 q2 q3 : Int) (n : Nat) (over : Bool) (v : Int) (w : World) (hR : rd8 w R q0 q1 q2 q3 n over) (hn : n ≤ 3) (h1 : 0 ≤ q1 ∧ q1 < 256) (h2 : 0 ≤ q2 ∧ q2 < 256) :
    Calls Tryd.prog 99 #[.pointer (some ⟨R, 0, none⟩), .int .u8 v] w fun e w' => e = .returned (.int .i64 (nextV q1 q2 n over v)) ∧ Drawn0 w w' := by
  have x1 := blk_cell hR 1
  have x2 := blk_cell hR 2
  have x3 := blk_cell hR 3
  have x4 := blk_cell hR 4
  have x5 := blk_cell hR 5
  have x6 := blk_cell hR 6
  simp only [List.getElem?_toArray, List.getElem?_cons_succ, List.getElem?_cons_zero] at x1 x2 x3 x4 x5 x6
  clear hR
  have a0 : (0 ≤ (n : Int)) = True := eq_true (by omega)
  have a1 : ((n : Int) ≤ 4) = True := eq_true (by omega)
  have b1 := u8_and15 q1 h1.1 h1.2
  have b2 := u8_and3 h2.1 h2.2
  by_cases hv : v = 65
  · subst hv
    go_enter Tryd.func99, Tryd.ntmps99
    go_wp2
    go_quiet (fail)
    go_wp2
    go_ret
    exact ⟨by simp [nextV, *], by repeat (first | exact Drawn0.refl _ | apply Drawn0.step)⟩
  · have hv0 : (v == 65) = false := beq_eq_false_iff_ne.2 hv
    cases over
    · by_cases hc : v = 64
      · subst hc
        obtain rfl | rfl | rfl | rfl : n = 0 ∨ n = 1 ∨ n = 2 ∨ n = 3 := by omega
        · go_enter Tryd.func99, Tryd.ntmps99
          go_wp2
          go_quiet (fail)
          go_wp2
          go_ret
          exact ⟨by simp [nextV, *], by repeat (first | exact Drawn0.refl _ | apply Drawn0.step)⟩
        · go_enter Tryd.func99, Tryd.ntmps99
          go_wp2
          go_quiet (fail)
          go_wp2
          go_ret
          exact ⟨by simp [nextV, *], by repeat (first | exact Drawn0.refl _ | apply Drawn0.step)⟩
        · by_cases hq : q1 % 16 = 0
          · have hq0 : (q1 % 16 == 0) = true := beq_iff_eq.2 hq
            have hq1 : (q1 % 16 != 0) = false := bne_eq_false_iff_eq.2 hq
            go_enter Tryd.func99, Tryd.ntmps99
            go_wp2
            go_quiet (fail)
            go_wp2
            go_ret
            exact ⟨by simp [nextV, *], by repeat (first | exact Drawn0.refl _ | apply Drawn0.step)⟩
          · have hq0 : (q1 % 16 == 0) = false := beq_eq_false_iff_ne.2 hq
            have hq1 : (q1 % 16 != 0) = true := bne_iff_ne.2 hq
            go_enter Tryd.func99, Tryd.ntmps99
            go_wp2
            go_quiet (fail)
            go_wp2
            go_ret
            exact ⟨by simp [nextV, *], by repeat (first | exact Drawn0.refl _ | apply Drawn0.step)⟩
        · by_cases hp : q2 = 64
          · subst hp
            go_enter Tryd.func99, Tryd.ntmps99
            go_wp2
            go_quiet (fail)
            go_wp2
            go_ret
            exact ⟨by simp [nextV, *], by repeat (first | exact Drawn0.refl _ | apply Drawn0.step)⟩
          · have hp0 : (q2 == 64) = false := beq_eq_false_iff_ne.2 hp
            by_cases hq : q2 % 4 = 0
            · have hq0 : (q2 % 4 == 0) = true := beq_iff_eq.2 hq
              have hq1 : (q2 % 4 != 0) = false := bne_eq_false_iff_eq.2 hq
              go_enter Tryd.func99, Tryd.ntmps99
              go_wp2
              go_quiet (fail)
              go_wp2
              go_ret
              exact ⟨by simp [nextV, *], by repeat (first | exact Drawn0.refl _ | apply Drawn0.step)⟩
            · have hq0 : (q2 % 4 == 0) = false := beq_eq_false_iff_ne.2 hq
              have hq1 : (q2 % 4 != 0) = true := bne_iff_ne.2 hq
              go_enter Tryd.func99, Tryd.ntmps99
              go_wp2
              go_quiet (fail)
              go_wp2
              go_ret
              exact ⟨by simp [nextV, *], by repeat (first | exact Drawn0.refl _ | apply Drawn0.step)⟩
      · have hc0 : (v == 64) = false := beq_eq_false_iff_ne.2 hc
        have hc1 : (v != 64) = true := bne_iff_ne.2 hc
        obtain rfl | rfl | rfl | rfl : n = 0 ∨ n = 1 ∨ n = 2 ∨ n = 3 := by omega
        · go_enter Tryd.func99, Tryd.ntmps99
          go_wp2
          go_quiet (fail)
          go_wp2
          go_ret
          exact ⟨by simp [nextV, *], by repeat (first | exact Drawn0.refl _ | apply Drawn0.step)⟩
        · go_enter Tryd.func99, Tryd.ntmps99
          go_wp2
          go_quiet (fail)
          go_wp2
          go_ret
          exact ⟨by simp [nextV, *], by repeat (first | exact Drawn0.refl _ | apply Drawn0.step)⟩
        · go_enter Tryd.func99, Tryd.ntmps99
          go_wp2
          go_quiet (fail)
          go_wp2
          go_ret
          exact ⟨by simp [nextV, *], by repeat (first | exact Drawn0.refl _ | apply Drawn0.step)⟩
        · by_cases hp : q2 = 64
          · subst hp
            go_enter Tryd.func99, Tryd.ntmps99
            go_wp2
            go_quiet (fail)
            go_wp2
            go_ret
            exact ⟨by simp [nextV, *], by repeat (first | exact Drawn0.refl _ | apply Drawn0.step)⟩
          · have hp0 : (q2 == 64) = false := beq_eq_false_iff_ne.2 hp
            go_enter Tryd.func99, Tryd.ntmps99
            go_wp2
            go_quiet (fail)
            go_wp2
            go_ret
            exact ⟨by simp [nextV, *], by repeat (first | exact Drawn0.refl _ | apply Drawn0.step)⟩
    · go_enter Tryd.func99, Tryd.ntmps99
      go_wp2
      go_quiet (fail)
      go_wp2
      go_ret
      exact ⟨by simp [nextV, *], by repeat (first | exact Drawn0.refl _ | apply Drawn0.step)⟩
end Go.Proofs.YtcnhnpkbklakoaaDoor.Code
