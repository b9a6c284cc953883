/- The reference's Fold by contract: print.sh wrote this text (its file falls at one place, which is mended here: the lengths' sum in its plain form). -/
import Derived.Test.YtammhcfifnffeaaDoorPFieldFoldsx0
import Derived.Test.YtammhcfifnffeaaDoorPFieldFoldsx2
namespace Go.Proofs.YtammhcfifnffeaaDoor.PFieldFolds
open Go.RowKit Go.Proofs.YtammhcfifnffeaaDoorW.PrintWords Go.Proofs.YtammhcfifnffeaaDoorW.PrintLast Go.Proofs.YtammhcfifnffeaaDoorW.PrintMore
attribute [local go_sem] max2_int min2_int max_two min_two max_three min_three max_four min_four   -- for this text's walks alone
set_option linter.unusedVariables false
set_option linter.unusedSimpArgs false

/-! ### posthornref16_joint: function 43 -/
def posthornref16_joint.f (k : Nat) (a0 : ByteArray) (a1 : Int) : Option (Bool) := if a1 > 0 then (if a1 < (a0.size : Int) then (if 0 ≤ a1 then ((posthornref16_blank.f (bt a0 a1)).bind fun t129 => (if t129 = true then (if 0 ≤ (wrap64 (a1 - 1)) then (if (wrap64 (a1 - 1)) < (a0.size : Int) then ((posthornref16_blank.f (bt a0 (wrap64 (a1 - 1)))).bind fun t130 => (if t130 = true then (some false) else (if a1 ≤ (a0.size : Int) then ((posthornref16_blanks.f k (a0.extract (a1 : Int).toNat a0.size)).bind fun t131 => (some (!t131))) else (none)))) else (none)) else (none)) else (some false))) else (none)) else (some false)) else (some false)
theorem posthornref16_joint.mono : ∀ a0 a1 k, LeO (posthornref16_joint.f k a0 a1) (posthornref16_joint.f (k + 1) a0 a1) := by
  intro a0 a1 k
  unfold posthornref16_joint.f
  repeat' first
      | (with_reducible exact posthornref16_blanks.mono _ _)
      | (with_reducible exact LeO.refl _)
      | (with_reducible exact LeO.none _)
      | (with_reducible refine LeO.ite ?_ ?_)
      | (with_reducible refine LeO.bind ?_ (fun _ => ?_))
      | exact posthornref16_blanks.mono _ _
      | exact LeO.none _
      | refine LeO.ite ?_ ?_
      | refine LeO.bind ?_ (fun _ => ?_)
set_option maxHeartbeats 8000000 in
set_option maxRecDepth 100000 in
theorem posthornref16_joint.calls (k : Nat) (a0 : ByteArray) (a1 : Int) (r : Bool) (w : World) (h : posthornref16_joint.f k a0 a1 = some r) :
    Calls Tryd.prog 43 #[.string a0, .int .i64 a1] w fun e w' => e = .returned (.bool r) ∧ Drawn0 w w' := by
  have H : (if a1 > 0 then (if a1 < (a0.size : Int) then (if 0 ≤ a1 then ((posthornref16_blank.f (bt a0 a1)).bind fun t129 => (if t129 = true then (if 0 ≤ (wrap64 (a1 - 1)) then (if (wrap64 (a1 - 1)) < (a0.size : Int) then ((posthornref16_blank.f (bt a0 (wrap64 (a1 - 1)))).bind fun t130 => (if t130 = true then (some false) else (if a1 ≤ (a0.size : Int) then ((posthornref16_blanks.f k (a0.extract (a1 : Int).toNat a0.size)).bind fun t131 => (some (!t131))) else (none)))) else (none)) else (none)) else (some false))) else (none)) else (some false)) else (some false)) = some r := h
  clear h
  by_cases c3 : a1 > 0
  · rw [if_pos c3] at H
    have c3b0 : decide (0 < a1) = true := decide_eq_true c3
    clear c3
    by_cases c4 : a1 < (a0.size : Int)
    · rw [if_pos c4] at H
      have c4b0 : decide (a1 < (a0.size : Int)) = true := decide_eq_true c4
      clear c4
      by_cases c5 : 0 ≤ a1
      · rw [if_pos c5] at H
        have c5b0 : decide (0 ≤ a1) = true := decide_eq_true c5
        clear c5
        replace H := Option.bind_eq_some_iff.mp H
        obtain ⟨t129, A70, H⟩ := H
        replace H : (if t129 = true then (if 0 ≤ (wrap64 (a1 - 1)) then (if (wrap64 (a1 - 1)) < (a0.size : Int) then ((posthornref16_blank.f (bt a0 (wrap64 (a1 - 1)))).bind fun t130 => (if t130 = true then (some false) else (if a1 ≤ (a0.size : Int) then ((posthornref16_blanks.f k (a0.extract (a1 : Int).toNat a0.size)).bind fun t131 => (some (!t131))) else (none)))) else (none)) else (none)) else (some false)) = some r := H
        have A7 := Aside0.mk A70
        clear A70
        by_cases c8 : t129 = true
        · subst c8
          have H1 : (if 0 ≤ (wrap64 (a1 - 1)) then (if (wrap64 (a1 - 1)) < (a0.size : Int) then ((posthornref16_blank.f (bt a0 (wrap64 (a1 - 1)))).bind fun t130 => (if t130 = true then (some false) else (if a1 ≤ (a0.size : Int) then ((posthornref16_blanks.f k (a0.extract (a1 : Int).toNat a0.size)).bind fun t131 => (some (!t131))) else (none)))) else (none)) else (none)) = some r := by rw [if_pos rfl] at H; exact H
          clear H
          have H := H1
          clear H1
          obtain ⟨ji9, hji9⟩ : ∃ j_ : Int, (wrap64 (a1 - 1)) = j_ := ⟨_, rfl⟩
          replace H : (if 0 ≤ (ji9) then (if (ji9) < (a0.size : Int) then ((posthornref16_blank.f (bt a0 (ji9))).bind fun t130 => (if t130 = true then (some false) else (if a1 ≤ (a0.size : Int) then ((posthornref16_blanks.f k (a0.extract (a1 : Int).toNat a0.size)).bind fun t131 => (some (!t131))) else (none)))) else (none)) else (none)) = some r := by first | (rw [hji9] at H; exact H) | (simp only [hji9] at H ⊢; exact H)
          (try rw [hji9] at A7)
          have hji9w : (IntKind.i64.wrap (a1 - 1)) = ji9 := (i64_w _).trans hji9
          by_cases c10 : 0 ≤ (ji9)
          · rw [if_pos c10] at H
            have c10b0 : decide (0 ≤ (ji9)) = true := decide_eq_true c10
            clear c10
            by_cases c11 : (ji9) < (a0.size : Int)
            · rw [if_pos c11] at H
              have c11b0 : decide ((ji9) < (a0.size : Int)) = true := decide_eq_true c11
              clear c11
              replace H := Option.bind_eq_some_iff.mp H
              obtain ⟨t130, A130, H⟩ := H
              replace H : (if t130 = true then (some false) else (if a1 ≤ (a0.size : Int) then ((posthornref16_blanks.f k (a0.extract (a1 : Int).toNat a0.size)).bind fun t131 => (some (!t131))) else (none))) = some r := H
              have A13 := Aside0.mk A130
              clear A130
              by_cases c14 : t130 = true
              · subst c14
                have H1 : (some false) = some r := by rw [if_pos rfl] at H; exact H
                clear H
                have H := H1
                clear H1
                obtain rfl := Option.some.inj H
                have p6 : 0 ≤ (a1 : Int) := of_decide_eq_true (by first | (with_reducible assumption) | assumption)
                have q6 : a1 < (a0.size : Int) := of_decide_eq_true (by first | (with_reducible assumption) | assumption)
                have hx6 := bt_at a0 a1
                replace p6 := eq_true p6
                replace q6 := eq_true q6
                go_enter Tryd.func43, Tryd.ntmps43
                go_wp2_with (first | (go_at_call 40; (with_reducible refine (posthornref16_blank.calls (bt a0 a1) true _ A7.out).mono ?_); rintro e w' ⟨rfl, ⟨nd, rfl⟩⟩; have p12 : 0 ≤ ((ji9) : Int) := of_decide_eq_true (by first | (with_reducible assumption) | assumption); have q12 : (ji9) < (a0.size : Int) := of_decide_eq_true (by first | (with_reducible assumption) | assumption); have hx12 := bt_at a0 (ji9); replace p12 := eq_true p12; replace q12 := eq_true q12) | (go_at_call 40; (with_reducible refine (posthornref16_blank.calls (bt a0 (ji9)) true _ A13.out).mono ?_); rintro e w' ⟨rfl, ⟨nd, rfl⟩⟩))
                go_ret
                exact ⟨by first | rfl | (simp; done) | (simp only [← hji9] <;> (first | rfl | simp)) | (simp [*]; done), by repeat (first | exact Drawn0.refl _ | apply Drawn0.step)⟩
              · replace c14 := Bool.eq_false_iff.mpr c14
                subst c14
                have H1 : (if a1 ≤ (a0.size : Int) then ((posthornref16_blanks.f k (a0.extract (a1 : Int).toNat a0.size)).bind fun t131 => (some (!t131))) else (none)) = some r := by rw [if_neg (show ¬ (false = true) by decide)] at H; exact H
                clear H
                have H := H1
                clear H1
                have c15b0 := eq_true (of_decide_eq_true (by first | (with_reducible assumption) | assumption) : 0 ≤ a1)
                by_cases c16 : a1 ≤ (a0.size : Int)
                · rw [if_pos c16] at H
                  have c16b0 := eq_true c16
                  have c16b1 : decide (a1 ≤ (a0.size : Int)) = true := decide_eq_true c16
                  clear c16
                  replace H := Option.bind_eq_some_iff.mp H
                  obtain ⟨t131, A170, H⟩ := H
                  replace H : (some (!t131)) = some r := H
                  have A17 := Aside0.mk A170
                  clear A170
                  obtain rfl := Option.some.inj H
                  have p6 : 0 ≤ (a1 : Int) := of_decide_eq_true (by first | (with_reducible assumption) | assumption)
                  have q6 : a1 < (a0.size : Int) := of_decide_eq_true (by first | (with_reducible assumption) | assumption)
                  have hx6 := bt_at a0 a1
                  replace p6 := eq_true p6
                  replace q6 := eq_true q6
                  go_enter Tryd.func43, Tryd.ntmps43
                  go_wp2_with (first | (go_at_call 40; (with_reducible refine (posthornref16_blank.calls (bt a0 a1) true _ A7.out).mono ?_); rintro e w' ⟨rfl, ⟨nd, rfl⟩⟩; have p12 : 0 ≤ ((ji9) : Int) := of_decide_eq_true (by first | (with_reducible assumption) | assumption); have q12 : (ji9) < (a0.size : Int) := of_decide_eq_true (by first | (with_reducible assumption) | assumption); have hx12 := bt_at a0 (ji9); replace p12 := eq_true p12; replace q12 := eq_true q12) | (go_at_call 40; (with_reducible refine (posthornref16_blank.calls (bt a0 (ji9)) false _ A13.out).mono ?_); rintro e w' ⟨rfl, ⟨nd, rfl⟩⟩) | (go_at_call 39; (with_reducible refine (posthornref16_blanks.calls k (a0.extract (a1 : Int).toNat a0.size) t131 _ A17.out).mono ?_); rintro e w' ⟨rfl, ⟨nd, rfl⟩⟩))
                  go_ret
                  exact ⟨by first | rfl | (simp; done) | (simp only [← hji9] <;> (first | rfl | simp)) | (simp [*]; done), by repeat (first | exact Drawn0.refl _ | apply Drawn0.step)⟩
                · rw [if_neg c16] at H
                  exact absurd H (by simp)
            · rw [if_neg c11] at H
              exact absurd H (by simp)
          · rw [if_neg c10] at H
            exact absurd H (by simp)
        · replace c8 := Bool.eq_false_iff.mpr c8
          subst c8
          have H1 : (some false) = some r := by rw [if_neg (show ¬ (false = true) by decide)] at H; exact H
          clear H
          have H := H1
          clear H1
          obtain rfl := Option.some.inj H
          have p6 : 0 ≤ (a1 : Int) := of_decide_eq_true (by first | (with_reducible assumption) | assumption)
          have q6 : a1 < (a0.size : Int) := of_decide_eq_true (by first | (with_reducible assumption) | assumption)
          have hx6 := bt_at a0 a1
          replace p6 := eq_true p6
          replace q6 := eq_true q6
          go_enter Tryd.func43, Tryd.ntmps43
          go_wp2_with (first | (go_at_call 40; (with_reducible refine (posthornref16_blank.calls (bt a0 a1) false _ A7.out).mono ?_); rintro e w' ⟨rfl, ⟨nd, rfl⟩⟩))
          go_ret
          exact ⟨by first | rfl | (simp; done) | (simp [*]; done), by repeat (first | exact Drawn0.refl _ | apply Drawn0.step)⟩
      · rw [if_neg c5] at H
        exact absurd H (by simp)
    · rw [if_neg c4] at H
      have c4b0 : decide (a1 < (a0.size : Int)) = false := decide_eq_false c4
      clear c4
      obtain rfl := Option.some.inj H
      go_enter Tryd.func43, Tryd.ntmps43
      go_wp2
      go_ret
      exact ⟨by first | rfl | (simp; done) | (simp [*]; done), by repeat (first | exact Drawn0.refl _ | apply Drawn0.step)⟩
  · rw [if_neg c3] at H
    have c3b0 : decide (0 < a1) = false := decide_eq_false c3
    clear c3
    obtain rfl := Option.some.inj H
    go_enter Tryd.func43, Tryd.ntmps43
    go_wp2
    go_ret
    exact ⟨by first | rfl | (simp; done) | (simp [*]; done), by repeat (first | exact Drawn0.refl _ | apply Drawn0.step)⟩

/-! ### posthornref16_Fold: function 19 -/
mutual
def posthornref16_Fold.j0 : Nat → ByteArray → ByteArray → Int → Bool → Option (ByteArray × ByteArray × Int)
  | 0, _, _, _, _ => none
  | k + 1, x0, x1, x2, x25 => if x25 = true then (some ((⟨#[]⟩ : ByteArray), (⟨#[]⟩ : ByteArray), 160)) else (if x2 < 1 then (posthornref16_Fold.j1 k x0 x1 x2 true) else (posthornref16_Fold.j1 k x0 x1 x2 (decide (x2 > 998))))
def posthornref16_Fold.j1 : Nat → ByteArray → ByteArray → Int → Bool → Option (ByteArray × ByteArray × Int)
  | 0, _, _, _, _ => none
  | k + 1, x0, x1, x2, x32 => if x32 = true then (some ((⟨#[]⟩ : ByteArray), (⟨#[]⟩ : ByteArray), 2)) else (posthornref16_Fold.l0 k x0 x1 x2 (⟨#[]⟩ : ByteArray) 0 (wrap64 ((x0.size : Int) + 1)))
def posthornref16_Fold.l0 : Nat → ByteArray → ByteArray → Int → ByteArray → Int → Int → Option (ByteArray × ByteArray × Int)
  | 0, _, _, _, _, _, _ => none
  | k + 1, x0, x1, x2, x8, x9, x10 => posthornref16_Fold.l1 k x0 x1 x2 x8 x9 x10 (-1) (-1) (wrap64 (x9 + 1))
def posthornref16_Fold.l1 : Nat → ByteArray → ByteArray → Int → ByteArray → Int → Int → Int → Int → Int → Option (ByteArray × ByteArray × Int)
  | 0, _, _, _, _, _, _, _, _, _ => none
  | k + 1, x0, x1, x2, x8, x9, x10, x11, x12, x13 => if x13 < (x1.size : Int) then ((posthornref16_joint.f k x1 x13).bind fun t135 => (if t135 = true then (if x11 < 0 then (if (wrap64 ((wrap64 (x10 + x13)) - x9)) ≤ x2 then (posthornref16_Fold.l1 k x0 x1 x2 x8 x9 x10 x13 x13 (wrap64 (x13 + 1))) else (posthornref16_Fold.l1 k x0 x1 x2 x8 x9 x10 x13 x12 (wrap64 (x13 + 1)))) else (if (wrap64 ((wrap64 (x10 + x13)) - x9)) ≤ x2 then (posthornref16_Fold.l1 k x0 x1 x2 x8 x9 x10 x11 x13 (wrap64 (x13 + 1))) else (posthornref16_Fold.l1 k x0 x1 x2 x8 x9 x10 x11 x12 (wrap64 (x13 + 1))))) else (posthornref16_Fold.l1 k x0 x1 x2 x8 x9 x10 x11 x12 (wrap64 (x13 + 1))))) else (if (wrap64 ((wrap64 (x10 + (x1.size : Int))) - x9)) > x2 then (posthornref16_Fold.j4 k x0 x1 x2 x8 x9 x10 x11 x12 (x1.size : Int) (decide (x11 ≥ 0))) else (posthornref16_Fold.j4 k x0 x1 x2 x8 x9 x10 x11 x12 (x1.size : Int) false))
def posthornref16_Fold.j4 : Nat → ByteArray → ByteArray → Int → ByteArray → Int → Int → Int → Int → Int → Bool → Option (ByteArray × ByteArray × Int)
  | 0, _, _, _, _, _, _, _, _, _, _ => none
  | k + 1, x0, x1, x2, x8, x9, x10, x11, x12, x14, x71 => if x71 = true then (posthornref16_Fold.j5 k x0 x1 x2 x8 x9 x10 (mx x11 x12)) else (posthornref16_Fold.j5 k x0 x1 x2 x8 x9 x10 x14)
def posthornref16_Fold.j5 : Nat → ByteArray → ByteArray → Int → ByteArray → Int → Int → Int → Option (ByteArray × ByteArray × Int)
  | 0, _, _, _, _, _, _, _ => none
  | k + 1, x0, x1, x2, x8, x9, x10, x14 => if (wrap64 ((wrap64 (x10 + x14)) - x9)) > 998 then (some ((⟨#[]⟩ : ByteArray), (⟨#[]⟩ : ByteArray), 160)) else (if 0 ≤ x9 then (if x9 ≤ x14 then (if x14 ≤ (x1.size : Int) then (if x8.size + (x1.extract (x9 : Int).toNat (x14 : Int).toNat).size ≤ 9223372036854775807 then (if x14 = (x1.size : Int) then (some (x0, x8 ++ (x1.extract (x9 : Int).toNat (x14 : Int).toNat), 0)) else (if (x8 ++ (x1.extract (x9 : Int).toNat (x14 : Int).toNat)).size + 2 ≤ 9223372036854775807 then (posthornref16_Fold.l0 k x0 x1 x2 ((x8 ++ (x1.extract (x9 : Int).toNat (x14 : Int).toNat)) ++ (⟨#[13, 10]⟩ : ByteArray)) x14 0) else (none))) else (none)) else (none)) else (none)) else (none))
end
def posthornref16_Fold.f (k : Nat) (a0 : ByteArray) (a1 : ByteArray) (a2 : Int) : Option (ByteArray × ByteArray × Int) := (posthornref16_name.f k a0).bind fun t133 => (if t133 = true then ((posthornref16_row.f k a1 0).bind fun t134 => (posthornref16_Fold.j0 k a0 a1 a2 (decide ((t134.size : Int) < (a1.size : Int))))) else (posthornref16_Fold.j0 k a0 a1 a2 true))
theorem posthornref16_Fold.mono_l : ∀ k, (∀ y0 y1 y2 y3, LeO (posthornref16_Fold.j0 k y0 y1 y2 y3) (posthornref16_Fold.j0 (k + 1) y0 y1 y2 y3)) ∧ (∀ y0 y1 y2 y3, LeO (posthornref16_Fold.j1 k y0 y1 y2 y3) (posthornref16_Fold.j1 (k + 1) y0 y1 y2 y3)) ∧ (∀ y0 y1 y2 y3 y4 y5, LeO (posthornref16_Fold.l0 k y0 y1 y2 y3 y4 y5) (posthornref16_Fold.l0 (k + 1) y0 y1 y2 y3 y4 y5)) ∧ (∀ y0 y1 y2 y3 y4 y5 y6 y7 y8, LeO (posthornref16_Fold.l1 k y0 y1 y2 y3 y4 y5 y6 y7 y8) (posthornref16_Fold.l1 (k + 1) y0 y1 y2 y3 y4 y5 y6 y7 y8)) ∧ (∀ y0 y1 y2 y3 y4 y5 y6 y7 y8 y9, LeO (posthornref16_Fold.j4 k y0 y1 y2 y3 y4 y5 y6 y7 y8 y9) (posthornref16_Fold.j4 (k + 1) y0 y1 y2 y3 y4 y5 y6 y7 y8 y9)) ∧ (∀ y0 y1 y2 y3 y4 y5 y6, LeO (posthornref16_Fold.j5 k y0 y1 y2 y3 y4 y5 y6) (posthornref16_Fold.j5 (k + 1) y0 y1 y2 y3 y4 y5 y6))
  | 0 => ⟨fun _ _ _ _ r h => by simp [posthornref16_Fold.j0] at h, fun _ _ _ _ r h => by simp [posthornref16_Fold.j1] at h, fun _ _ _ _ _ _ r h => by simp [posthornref16_Fold.l0] at h, fun _ _ _ _ _ _ _ _ _ r h => by simp [posthornref16_Fold.l1] at h, fun _ _ _ _ _ _ _ _ _ _ r h => by simp [posthornref16_Fold.j4] at h, fun _ _ _ _ _ _ _ r h => by simp [posthornref16_Fold.j5] at h⟩
  | k + 1 => by
    obtain ⟨ih0, ih1, ih2, ih3, ih4, ih5⟩ := posthornref16_Fold.mono_l k
    refine ⟨?_, ?_, ?_, ?_, ?_, ?_⟩
    · intro y0 y1 y2 y3
      unfold posthornref16_Fold.j0
      repeat' first
      | (with_reducible exact ih0 _ _ _ _)
      | (with_reducible exact ih1 _ _ _ _)
      | (with_reducible exact ih2 _ _ _ _ _ _)
      | (with_reducible exact ih3 _ _ _ _ _ _ _ _ _)
      | (with_reducible exact ih4 _ _ _ _ _ _ _ _ _ _)
      | (with_reducible exact ih5 _ _ _ _ _ _ _)
      | (with_reducible exact posthornref16_joint.mono _ _ _)
      | (with_reducible exact posthornref16_name.mono _ _)
      | (with_reducible exact posthornref16_row.mono _ _ _)
      | (with_reducible exact LeO.refl _)
      | (with_reducible exact LeO.none _)
      | (with_reducible refine LeO.ite ?_ ?_)
      | (with_reducible refine LeO.bind ?_ (fun _ => ?_))
      | exact ih0 _ _ _ _
      | exact ih1 _ _ _ _
      | exact ih2 _ _ _ _ _ _
      | exact ih3 _ _ _ _ _ _ _ _ _
      | exact ih4 _ _ _ _ _ _ _ _ _ _
      | exact ih5 _ _ _ _ _ _ _
      | exact posthornref16_joint.mono _ _ _
      | exact posthornref16_name.mono _ _
      | exact posthornref16_row.mono _ _ _
      | exact LeO.none _
      | refine LeO.ite ?_ ?_
      | refine LeO.bind ?_ (fun _ => ?_)
    · intro y0 y1 y2 y3
      unfold posthornref16_Fold.j1
      repeat' first
      | (with_reducible exact ih0 _ _ _ _)
      | (with_reducible exact ih1 _ _ _ _)
      | (with_reducible exact ih2 _ _ _ _ _ _)
      | (with_reducible exact ih3 _ _ _ _ _ _ _ _ _)
      | (with_reducible exact ih4 _ _ _ _ _ _ _ _ _ _)
      | (with_reducible exact ih5 _ _ _ _ _ _ _)
      | (with_reducible exact posthornref16_joint.mono _ _ _)
      | (with_reducible exact posthornref16_name.mono _ _)
      | (with_reducible exact posthornref16_row.mono _ _ _)
      | (with_reducible exact LeO.refl _)
      | (with_reducible exact LeO.none _)
      | (with_reducible refine LeO.ite ?_ ?_)
      | (with_reducible refine LeO.bind ?_ (fun _ => ?_))
      | exact ih0 _ _ _ _
      | exact ih1 _ _ _ _
      | exact ih2 _ _ _ _ _ _
      | exact ih3 _ _ _ _ _ _ _ _ _
      | exact ih4 _ _ _ _ _ _ _ _ _ _
      | exact ih5 _ _ _ _ _ _ _
      | exact posthornref16_joint.mono _ _ _
      | exact posthornref16_name.mono _ _
      | exact posthornref16_row.mono _ _ _
      | exact LeO.none _
      | refine LeO.ite ?_ ?_
      | refine LeO.bind ?_ (fun _ => ?_)
    · intro y0 y1 y2 y3 y4 y5
      unfold posthornref16_Fold.l0
      repeat' first
      | (with_reducible exact ih0 _ _ _ _)
      | (with_reducible exact ih1 _ _ _ _)
      | (with_reducible exact ih2 _ _ _ _ _ _)
      | (with_reducible exact ih3 _ _ _ _ _ _ _ _ _)
      | (with_reducible exact ih4 _ _ _ _ _ _ _ _ _ _)
      | (with_reducible exact ih5 _ _ _ _ _ _ _)
      | (with_reducible exact posthornref16_joint.mono _ _ _)
      | (with_reducible exact posthornref16_name.mono _ _)
      | (with_reducible exact posthornref16_row.mono _ _ _)
      | (with_reducible exact LeO.refl _)
      | (with_reducible exact LeO.none _)
      | (with_reducible refine LeO.ite ?_ ?_)
      | (with_reducible refine LeO.bind ?_ (fun _ => ?_))
      | exact ih0 _ _ _ _
      | exact ih1 _ _ _ _
      | exact ih2 _ _ _ _ _ _
      | exact ih3 _ _ _ _ _ _ _ _ _
      | exact ih4 _ _ _ _ _ _ _ _ _ _
      | exact ih5 _ _ _ _ _ _ _
      | exact posthornref16_joint.mono _ _ _
      | exact posthornref16_name.mono _ _
      | exact posthornref16_row.mono _ _ _
      | exact LeO.none _
      | refine LeO.ite ?_ ?_
      | refine LeO.bind ?_ (fun _ => ?_)
    · intro y0 y1 y2 y3 y4 y5 y6 y7 y8
      unfold posthornref16_Fold.l1
      repeat' first
      | (with_reducible exact ih0 _ _ _ _)
      | (with_reducible exact ih1 _ _ _ _)
      | (with_reducible exact ih2 _ _ _ _ _ _)
      | (with_reducible exact ih3 _ _ _ _ _ _ _ _ _)
      | (with_reducible exact ih4 _ _ _ _ _ _ _ _ _ _)
      | (with_reducible exact ih5 _ _ _ _ _ _ _)
      | (with_reducible exact posthornref16_joint.mono _ _ _)
      | (with_reducible exact posthornref16_name.mono _ _)
      | (with_reducible exact posthornref16_row.mono _ _ _)
      | (with_reducible exact LeO.refl _)
      | (with_reducible exact LeO.none _)
      | (with_reducible refine LeO.ite ?_ ?_)
      | (with_reducible refine LeO.bind ?_ (fun _ => ?_))
      | exact ih0 _ _ _ _
      | exact ih1 _ _ _ _
      | exact ih2 _ _ _ _ _ _
      | exact ih3 _ _ _ _ _ _ _ _ _
      | exact ih4 _ _ _ _ _ _ _ _ _ _
      | exact ih5 _ _ _ _ _ _ _
      | exact posthornref16_joint.mono _ _ _
      | exact posthornref16_name.mono _ _
      | exact posthornref16_row.mono _ _ _
      | exact LeO.none _
      | refine LeO.ite ?_ ?_
      | refine LeO.bind ?_ (fun _ => ?_)
    · intro y0 y1 y2 y3 y4 y5 y6 y7 y8 y9
      unfold posthornref16_Fold.j4
      repeat' first
      | (with_reducible exact ih0 _ _ _ _)
      | (with_reducible exact ih1 _ _ _ _)
      | (with_reducible exact ih2 _ _ _ _ _ _)
      | (with_reducible exact ih3 _ _ _ _ _ _ _ _ _)
      | (with_reducible exact ih4 _ _ _ _ _ _ _ _ _ _)
      | (with_reducible exact ih5 _ _ _ _ _ _ _)
      | (with_reducible exact posthornref16_joint.mono _ _ _)
      | (with_reducible exact posthornref16_name.mono _ _)
      | (with_reducible exact posthornref16_row.mono _ _ _)
      | (with_reducible exact LeO.refl _)
      | (with_reducible exact LeO.none _)
      | (with_reducible refine LeO.ite ?_ ?_)
      | (with_reducible refine LeO.bind ?_ (fun _ => ?_))
      | exact ih0 _ _ _ _
      | exact ih1 _ _ _ _
      | exact ih2 _ _ _ _ _ _
      | exact ih3 _ _ _ _ _ _ _ _ _
      | exact ih4 _ _ _ _ _ _ _ _ _ _
      | exact ih5 _ _ _ _ _ _ _
      | exact posthornref16_joint.mono _ _ _
      | exact posthornref16_name.mono _ _
      | exact posthornref16_row.mono _ _ _
      | exact LeO.none _
      | refine LeO.ite ?_ ?_
      | refine LeO.bind ?_ (fun _ => ?_)
    · intro y0 y1 y2 y3 y4 y5 y6
      unfold posthornref16_Fold.j5
      repeat' first
      | (with_reducible exact ih0 _ _ _ _)
      | (with_reducible exact ih1 _ _ _ _)
      | (with_reducible exact ih2 _ _ _ _ _ _)
      | (with_reducible exact ih3 _ _ _ _ _ _ _ _ _)
      | (with_reducible exact ih4 _ _ _ _ _ _ _ _ _ _)
      | (with_reducible exact ih5 _ _ _ _ _ _ _)
      | (with_reducible exact posthornref16_joint.mono _ _ _)
      | (with_reducible exact posthornref16_name.mono _ _)
      | (with_reducible exact posthornref16_row.mono _ _ _)
      | (with_reducible exact LeO.refl _)
      | (with_reducible exact LeO.none _)
      | (with_reducible refine LeO.ite ?_ ?_)
      | (with_reducible refine LeO.bind ?_ (fun _ => ?_))
      | exact ih0 _ _ _ _
      | exact ih1 _ _ _ _
      | exact ih2 _ _ _ _ _ _
      | exact ih3 _ _ _ _ _ _ _ _ _
      | exact ih4 _ _ _ _ _ _ _ _ _ _
      | exact ih5 _ _ _ _ _ _ _
      | exact posthornref16_joint.mono _ _ _
      | exact posthornref16_name.mono _ _
      | exact posthornref16_row.mono _ _ _
      | exact LeO.none _
      | refine LeO.ite ?_ ?_
      | refine LeO.bind ?_ (fun _ => ?_)
theorem posthornref16_Fold.mono : ∀ a0 a1 a2 k, LeO (posthornref16_Fold.f k a0 a1 a2) (posthornref16_Fold.f (k + 1) a0 a1 a2) := by
  intro a0 a1 a2 k
  obtain ⟨ih0, ih1, ih2, ih3, ih4, ih5⟩ := posthornref16_Fold.mono_l k
  unfold posthornref16_Fold.f
  repeat' first
      | (with_reducible exact ih0 _ _ _ _)
      | (with_reducible exact ih1 _ _ _ _)
      | (with_reducible exact ih2 _ _ _ _ _ _)
      | (with_reducible exact ih3 _ _ _ _ _ _ _ _ _)
      | (with_reducible exact ih4 _ _ _ _ _ _ _ _ _ _)
      | (with_reducible exact ih5 _ _ _ _ _ _ _)
      | (with_reducible exact posthornref16_joint.mono _ _ _)
      | (with_reducible exact posthornref16_name.mono _ _)
      | (with_reducible exact posthornref16_row.mono _ _ _)
      | (with_reducible exact LeO.refl _)
      | (with_reducible exact LeO.none _)
      | (with_reducible refine LeO.ite ?_ ?_)
      | (with_reducible refine LeO.bind ?_ (fun _ => ?_))
      | exact ih0 _ _ _ _
      | exact ih1 _ _ _ _
      | exact ih2 _ _ _ _ _ _
      | exact ih3 _ _ _ _ _ _ _ _ _
      | exact ih4 _ _ _ _ _ _ _ _ _ _
      | exact ih5 _ _ _ _ _ _ _
      | exact posthornref16_joint.mono _ _ _
      | exact posthornref16_name.mono _ _
      | exact posthornref16_row.mono _ _ _
      | exact LeO.none _
      | refine LeO.ite ?_ ?_
      | refine LeO.bind ?_ (fun _ => ?_)
set_option maxHeartbeats 8000000 in
set_option maxRecDepth 100000 in
theorem posthornref16_Fold.calls (k : Nat) (a0 : ByteArray) (a1 : ByteArray) (a2 : Int) (r1 : ByteArray) (r2 : ByteArray) (r3 : Int) (w : World) (h : posthornref16_Fold.f k a0 a1 a2 = some (r1, r2, r3)) :
    Calls Tryd.prog 19 #[.string a0, .string a1, .int .i64 a2] w fun e w' => e = .returned (.tuple #[.agg #[.string r1, .string r2], .int .i64 r3]) ∧ Below w.heap.size w w' := by
  have hu30 := Tryd.underlying30
  have HB := Aside0.mk (Below.refl w.heap.size w)
  have H : ((posthornref16_name.f k a0).bind fun t133 => (if t133 = true then ((posthornref16_row.f k a1 0).bind fun t134 => (posthornref16_Fold.j0 k a0 a1 a2 (decide ((t134.size : Int) < (a1.size : Int))))) else (posthornref16_Fold.j0 k a0 a1 a2 true))) = some (r1, r2, r3) := h
  clear h
  have HC4 := Aside0.mk H
  clear H
  go_enter Tryd.func19, Tryd.ntmps19
  go_upto_region 1 with (first | ((with_reducible refine gate_dst (N := 6) rfl ?_); (try (refine gate_guard (by rfl) ?_; dsimp only)); refine box_event ?hg (N := 6) ?hd (cs := #[.string (⟨#[]⟩ : ByteArray), .string (⟨#[]⟩ : ByteArray)]) (t := 30) ?hr ?_; (case hd => rfl); (case hg => rfl); (case hr => first | (go_simp; done) | (go_simp; rfl)); intro gb132 hg w5 hbox hb; have n0_ := Aside0.mk (below_step (by repeat (first | (with_reducible first | exact HB.out | apply below_alloc | apply pw_below_drewN | apply below_drew1) | exact HB.out)) hb); have n1_ := Aside0.mk (hbox); have n2_ := Aside0.mk ((by rw [hg]; exact (below_size (by repeat (first | (with_reducible first | exact HB.out | apply below_alloc | apply pw_below_drewN | apply below_drew1) | exact HB.out))) : w.heap.size ≤ gb132)); have n3_ := Aside0.mk ((by rw [hg]; exact (below_size (by repeat (first | (with_reducible first | exact HB.out | apply below_alloc | apply pw_below_drewN | apply below_drew1) | exact HB.out))) : w.heap.size ≤ gb132)); clear HB; have HB := n0_; have BK132 := n1_; have GW132 := n2_; have GE132 := n3_; clear n0_ n1_ n2_ n3_; clear hb hbox hg))
  (try simp only [Act.put, List.setIfInBounds_toArray, List.set_cons_zero, List.set_cons_succ])
  go_cut [25] (fun v25 wc => ∃ (kq : Nat) (x25_3 : Bool), v25 = .bool x25_3 ∧ Aside0 (posthornref16_Fold.j0 kq a0 a1 a2 x25_3 = some (r1, r2, r3)) ∧ Aside0 (kq ≤ k) ∧ Aside0 (wc.heap[gb132]? = some (.cells #[.string (⟨#[]⟩ : ByteArray), .string (⟨#[]⟩ : ByteArray)] 30 (0, 0))) ∧ Aside0 (Below w.heap.size w wc))
  case first =>
    have H := HC4.out
    clear HC4
    replace H := Option.bind_eq_some_iff.mp H
    obtain ⟨t133, A60, H⟩ := H
    replace H : (if t133 = true then ((posthornref16_row.f k a1 0).bind fun t134 => (posthornref16_Fold.j0 k a0 a1 a2 (decide ((t134.size : Int) < (a1.size : Int))))) else (posthornref16_Fold.j0 k a0 a1 a2 true)) = some (r1, r2, r3) := H
    have A6 := Aside0.mk A60
    clear A60
    by_cases c7 : t133 = true
    · subst c7
      have H1 : ((posthornref16_row.f k a1 0).bind fun t134 => (posthornref16_Fold.j0 k a0 a1 a2 (decide ((t134.size : Int) < (a1.size : Int))))) = some (r1, r2, r3) := by rw [if_pos rfl] at H; exact H
      clear H
      have H := H1
      clear H1
      replace H := Option.bind_eq_some_iff.mp H
      obtain ⟨t134, A80, H⟩ := H
      replace H : (posthornref16_Fold.j0 k a0 a1 a2 (decide ((t134.size : Int) < (a1.size : Int)))) = some (r1, r2, r3) := H
      have A8 := Aside0.mk A80
      clear A80
      have H' := Aside0.mk H
      clear H
      go_wp2_with (first | ((with_reducible refine gate_callee (f := 36) rfl ?_); refine goesL_ (some 16) rfl rfl Tryd.func36 (by kernel_rfl) rfl #[.string a0] rfl (by (try simp only [List.map_toArray, List.map_cons, List.map_nil]); first | done | rfl | (simp only [List.length_drop, List.length_take]; rfl)) ?_; (with_reducible refine (posthornref16_name.calls k a0 true _ A6.out).mono ?_); rintro e w' ⟨rfl, ⟨nd, rfl⟩⟩; refine ⟨_, rfl, ?_⟩) | (go_at_call 38; (with_reducible refine (posthornref16_row.calls k a1 0 t134 _ A8.out).mono ?_); rintro e w' ⟨rfl, ⟨nd, rfl⟩⟩))
      go_meet
      case rel => exact ⟨_, (decide ((t134.size : Int) < (a1.size : Int))), (by first | rfl | (simp; done) | (simp [*]; done)), H', ⟨by first | omega | exact Nat.le_refl _⟩, ⟨by (with_reducible repeat (first | refine blk_drewN ?_ _ | refine blk_drew ?_ | refine blk_alloc ?_ _)); exact BK132.out⟩, ⟨by repeat (first | (with_reducible first | exact HB.out | apply below_alloc | apply pw_below_drewN | apply below_drew1 | refine below_set ?_ GE132.out) | exact HB.out)⟩⟩
    · replace c7 := Bool.eq_false_iff.mpr c7
      subst c7
      have H1 : (posthornref16_Fold.j0 k a0 a1 a2 true) = some (r1, r2, r3) := by rw [if_neg (show ¬ (false = true) by decide)] at H; exact H
      clear H
      have H := H1
      clear H1
      have H' := Aside0.mk H
      clear H
      go_wp2_with (first | ((with_reducible refine gate_callee (f := 36) rfl ?_); refine goesL_ (some 16) rfl rfl Tryd.func36 (by kernel_rfl) rfl #[.string a0] rfl (by (try simp only [List.map_toArray, List.map_cons, List.map_nil]); first | done | rfl | (simp only [List.length_drop, List.length_take]; rfl)) ?_; (with_reducible refine (posthornref16_name.calls k a0 false _ A6.out).mono ?_); rintro e w' ⟨rfl, ⟨nd, rfl⟩⟩; refine ⟨_, rfl, ?_⟩))
      go_meet
      case rel => exact ⟨_, (true), (by first | rfl | (simp; done) | (simp [*]; done)), H', ⟨by first | omega | exact Nat.le_refl _⟩, ⟨by (with_reducible repeat (first | refine blk_drewN ?_ _ | refine blk_drew ?_ | refine blk_alloc ?_ _)); exact BK132.out⟩, ⟨by repeat (first | (with_reducible first | exact HB.out | apply below_alloc | apply pw_below_drewN | apply below_drew1 | refine below_set ?_ GE132.out) | exact HB.out)⟩⟩
  case rest =>
    clear HC4
    try clear c1
    try clear p2
    try clear c3
    try clear c7
    obtain ⟨kq, x25_3, rfl, HA, HJ3, BK132, HB⟩ := hcut
    cases kq with
    | zero => exact absurd HA.out (by simp [posthornref16_Fold.j0])
    | succ kj3 =>
      have H := HA.out
      clear HA
      simp only [posthornref16_Fold.j0] at H
      by_cases c9 : x25_3 = true
      · subst c9
        have H1 : (some ((⟨#[]⟩ : ByteArray), (⟨#[]⟩ : ByteArray), 160)) = some (r1, r2, r3) := by rw [if_pos rfl] at H; exact H
        clear H
        have H := H1
        clear H1
        simp only [Option.some.injEq, Prod.mk.injEq] at H
        obtain ⟨rfl, rfl, rfl⟩ := H
        have hcz10_0 : wc.cell? ⟨gb132, 0, none⟩ = some (.string (⟨#[]⟩ : ByteArray)) := (blk_cell BK132.out 0).trans rfl
        have hcz10_1 : wc.cell? ⟨gb132, 1, none⟩ = some (.string (⟨#[]⟩ : ByteArray)) := (blk_cell BK132.out 1).trans rfl
        have hfz10_0 := blk_frozen BK132.out 0
        have hfz10_1 := blk_frozen BK132.out 1
        go_wp2
        refine bodyPost_ret (results_ct rfl _ _ gb132 30 #[.string (⟨#[]⟩ : ByteArray), .string (⟨#[]⟩ : ByteArray)] (0, 0) _ rfl (by (with_reducible repeat (first | refine blk_drewN ?_ _ | refine blk_drew ?_ | refine blk_alloc ?_ _)); refine blk_put (cs := #[.string (⟨#[]⟩ : ByteArray), .string (⟨#[]⟩ : ByteArray)]) ?_ 1 _ rfl; (with_reducible repeat (first | refine blk_drewN ?_ _ | refine blk_drew ?_ | refine blk_alloc ?_ _)); refine blk_put (cs := #[.string (⟨#[]⟩ : ByteArray), .string (⟨#[]⟩ : ByteArray)]) ?_ 0 _ rfl; (with_reducible repeat (first | refine blk_drewN ?_ _ | refine blk_drew ?_ | refine blk_alloc ?_ _)); exact BK132.out) Tryd.underlying30 rfl (by kernel_rfl)) rfl ?_
        exact ⟨by first | rfl | (simp [errW_none, errW_some] <;> rfl) | (simp [*, errW_none, errW_some] <;> rfl), by repeat (first | (with_reducible first | exact HB.out | apply below_alloc | apply pw_below_drewN | apply below_drew1 | refine below_set ?_ GE132.out) | exact HB.out)⟩
      · replace c9 := Bool.eq_false_iff.mpr c9
        subst c9
        have H1 : (if a2 < 1 then (posthornref16_Fold.j1 kj3 a0 a1 a2 true) else (posthornref16_Fold.j1 kj3 a0 a1 a2 (decide (a2 > 998)))) = some (r1, r2, r3) := by rw [if_neg (show ¬ (false = true) by decide)] at H; exact H
        clear H
        have H := H1
        clear H1
        have HC11 := Aside0.mk H
        clear H
        go_upto_region 3 with (fail)
        go_cut [32] (fun v32 wc => ∃ (kq : Nat) (x32_10 : Bool), v32 = .bool x32_10 ∧ Aside0 (posthornref16_Fold.j1 kq a0 a1 a2 x32_10 = some (r1, r2, r3)) ∧ Aside0 (kq ≤ kj3) ∧ Aside0 (wc.heap[gb132]? = some (.cells #[.string (⟨#[]⟩ : ByteArray), .string (⟨#[]⟩ : ByteArray)] 30 (0, 0))) ∧ Aside0 (Below w.heap.size w wc))
        case first =>
          have H := HC11.out
          clear HC11
          by_cases c12 : a2 < 1
          · rw [if_pos c12] at H
            have c12b0 : decide (a2 < 1) = true := decide_eq_true c12
            clear c12
            (first | rw [c12b0] | (simp only [i64_w, i32_w]; rw [c12b0]) | skip)
            have H' := Aside0.mk H
            clear H
            go_wp2
            go_meet
            case rel => exact ⟨_, (true), (by first | rfl | (simp; done) | (simp [*]; done)), H', ⟨by have := HJ3.out; first | omega | exact Nat.le_refl _⟩, ⟨by (with_reducible repeat (first | refine blk_drewN ?_ _ | refine blk_drew ?_ | refine blk_alloc ?_ _)); exact BK132.out⟩, ⟨by repeat (first | (with_reducible first | exact HB.out | apply below_alloc | apply pw_below_drewN | apply below_drew1 | refine below_set ?_ GE132.out) | exact HB.out)⟩⟩
          · rw [if_neg c12] at H
            have c12b0 : decide (a2 < 1) = false := decide_eq_false c12
            clear c12
            (first | rw [c12b0] | (simp only [i64_w, i32_w]; rw [c12b0]) | skip)
            have H' := Aside0.mk H
            clear H
            go_wp2
            go_meet
            case rel => exact ⟨_, (decide (a2 > 998)), (by first | rfl | (simp; done) | (simp [*]; done)), H', ⟨by have := HJ3.out; first | omega | exact Nat.le_refl _⟩, ⟨by (with_reducible repeat (first | refine blk_drewN ?_ _ | refine blk_drew ?_ | refine blk_alloc ?_ _)); exact BK132.out⟩, ⟨by repeat (first | (with_reducible first | exact HB.out | apply below_alloc | apply pw_below_drewN | apply below_drew1 | refine below_set ?_ GE132.out) | exact HB.out)⟩⟩
        case rest =>
          clear HC11
          try clear c1
          try clear p2
          try clear c3
          try clear c7
          try clear c9
          try clear c12
          try clear c12b0
          try clear hcz10_0
          try clear hcz10_1
          try clear hfz10_0
          try clear hfz10_1
          try clear p2
          obtain ⟨kq, x32_10, rfl, HA, HJ10, BK132, HB⟩ := hcut
          cases kq with
          | zero => exact absurd HA.out (by simp [posthornref16_Fold.j1])
          | succ kj10 =>
            have H := HA.out
            clear HA
            simp only [posthornref16_Fold.j1] at H
            by_cases c13 : x32_10 = true
            · subst c13
              have H1 : (some ((⟨#[]⟩ : ByteArray), (⟨#[]⟩ : ByteArray), 2)) = some (r1, r2, r3) := by rw [if_pos rfl] at H; exact H
              clear H
              have H := H1
              clear H1
              simp only [Option.some.injEq, Prod.mk.injEq] at H
              obtain ⟨rfl, rfl, rfl⟩ := H
              have hcz14_0 : wc.cell? ⟨gb132, 0, none⟩ = some (.string (⟨#[]⟩ : ByteArray)) := (blk_cell BK132.out 0).trans rfl
              have hcz14_1 : wc.cell? ⟨gb132, 1, none⟩ = some (.string (⟨#[]⟩ : ByteArray)) := (blk_cell BK132.out 1).trans rfl
              have hfz14_0 := blk_frozen BK132.out 0
              have hfz14_1 := blk_frozen BK132.out 1
              go_wp2
              refine bodyPost_ret (results_ct rfl _ _ gb132 30 #[.string (⟨#[]⟩ : ByteArray), .string (⟨#[]⟩ : ByteArray)] (0, 0) _ rfl (by (with_reducible repeat (first | refine blk_drewN ?_ _ | refine blk_drew ?_ | refine blk_alloc ?_ _)); refine blk_put (cs := #[.string (⟨#[]⟩ : ByteArray), .string (⟨#[]⟩ : ByteArray)]) ?_ 1 _ rfl; (with_reducible repeat (first | refine blk_drewN ?_ _ | refine blk_drew ?_ | refine blk_alloc ?_ _)); refine blk_put (cs := #[.string (⟨#[]⟩ : ByteArray), .string (⟨#[]⟩ : ByteArray)]) ?_ 0 _ rfl; (with_reducible repeat (first | refine blk_drewN ?_ _ | refine blk_drew ?_ | refine blk_alloc ?_ _)); exact BK132.out) Tryd.underlying30 rfl (by kernel_rfl)) rfl ?_
              exact ⟨by first | rfl | (simp [errW_none, errW_some] <;> rfl) | (simp [*, errW_none, errW_some] <;> rfl), by repeat (first | (with_reducible first | exact HB.out | apply below_alloc | apply pw_below_drewN | apply below_drew1 | refine below_set ?_ GE132.out) | exact HB.out)⟩
            · replace c13 := Bool.eq_false_iff.mpr c13
              subst c13
              have H1 : (posthornref16_Fold.l0 kj10 a0 a1 a2 (⟨#[]⟩ : ByteArray) 0 (wrap64 ((a0.size : Int) + 1))) = some (r1, r2, r3) := by rw [if_neg (show ¬ (false = true) by decide)] at H; exact H
              clear H
              have H := H1
              clear H1
              have H' := Aside0.mk H
              clear H
              go_wp2
              go_loopg [8, 9, 10] kj10 (fun kq v8 v9 v10 w' => ∃ (x8_3 : ByteArray) (x9_3 : Int) (x10_3 : Int) (x133000_3 : ByteArray) (x133001_3 : ByteArray), v8 = .string x8_3 ∧ v9 = .int .i64 x9_3 ∧ v10 = .int .i64 x10_3 ∧ Aside0 (posthornref16_Fold.l0 kq a0 a1 a2 x8_3 x9_3 x10_3 = some (r1, r2, r3)) ∧ Aside0 (kq ≤ kj10) ∧ Aside0 (w'.heap[gb132]? = some (.cells #[.string x133000_3, .string x133001_3] 30 (0, 0))) ∧ Aside0 (Below w.heap.size w w'))
              case atStart => exact ⟨((⟨#[]⟩ : ByteArray)), (0), (wrap64 ((a0.size : Int) + 1)), ((⟨#[]⟩ : ByteArray)), ((⟨#[]⟩ : ByteArray)), (by first | rfl | (simp; done) | (simp [*]; done)), (by first | rfl | (simp; done) | (simp [*]; done)), (by first | rfl | (simp; done) | (simp [*]; done)), H', ⟨Nat.le_refl _⟩, ⟨by (with_reducible repeat (first | refine blk_drewN ?_ _ | refine blk_drew ?_ | refine blk_alloc ?_ _)); exact BK132.out⟩, ⟨by repeat (first | (with_reducible first | exact HB.out | apply below_alloc | apply pw_below_drewN | apply below_drew1 | refine below_set ?_ GE132.out) | exact HB.out)⟩⟩
              case round =>
                clear H'
                try clear c1
                try clear p2
                try clear c3
                try clear p6
                try clear c7
                try clear c9
                try clear c12
                try clear c12b0
                try clear c13
                try clear hcz10_0
                try clear hcz10_1
                try clear hcz14_0
                try clear hcz14_1
                try clear hfz10_0
                try clear hfz10_1
                try clear hfz14_0
                try clear hfz14_1
                try clear p2
                obtain ⟨x8_3, x9_3, x10_3, x133000_3, x133001_3, rfl, rfl, rfl, HA, HK3, BK132, HB⟩ := hrel
                cases gk with
                | zero => exact absurd HA.out (by simp [posthornref16_Fold.l0])
                | succ k3 =>
                  have H := HA.out
                  clear HA
                  simp only [posthornref16_Fold.l0] at H
                  have H' := Aside0.mk H
                  clear H
                  go_wp2
                  go_loopg [11, 12, 13] k3 (fun kq v11 v12 v13 w' => ∃ (x11_4 : Int) (x12_4 : Int) (x13_4 : Int), v11 = .int .i64 x11_4 ∧ v12 = .int .i64 x12_4 ∧ v13 = .int .i64 x13_4 ∧ Aside0 (posthornref16_Fold.l1 kq a0 a1 a2 x8_3 x9_3 x10_3 x11_4 x12_4 x13_4 = some (r1, r2, r3)) ∧ Aside0 (kq ≤ k3) ∧ Aside0 (w'.heap[gb132]? = some (.cells #[.string x133000_3, .string x133001_3] 30 (0, 0))) ∧ Aside0 (Below w.heap.size w w'))
                  case atStart => exact ⟨((-1)), ((-1)), (wrap64 (x9_3 + 1)), (by first | rfl | (simp; done) | (simp [*]; done)), (by first | rfl | (simp; done) | (simp [*]; done)), (by first | rfl | (simp; done) | (simp [*]; done)), H', ⟨Nat.le_refl _⟩, ⟨by (with_reducible repeat (first | refine blk_drewN ?_ _ | refine blk_drew ?_ | refine blk_alloc ?_ _)); exact BK132.out⟩, ⟨by repeat (first | (with_reducible first | exact HB.out | apply below_alloc | apply pw_below_drewN | apply below_drew1 | refine below_set ?_ GE132.out) | exact HB.out)⟩⟩
                  case round =>
                    clear H'
                    try clear c1
                    try clear p2
                    try clear c3
                    try clear p6
                    try clear c7
                    try clear c9
                    try clear c12
                    try clear c12b0
                    try clear c13
                    try clear hcz10_0
                    try clear hcz10_1
                    try clear hcz14_0
                    try clear hcz14_1
                    try clear hfz10_0
                    try clear hfz10_1
                    try clear hfz14_0
                    try clear hfz14_1
                    try clear p2
                    try clear p6
                    obtain ⟨x11_4, x12_4, x13_4, rfl, rfl, rfl, HA, HK4, BK132, HB⟩ := hrel
                    cases gk with
                    | zero => exact absurd HA.out (by simp [posthornref16_Fold.l1])
                    | succ k4 =>
                      have H := HA.out
                      clear HA
                      simp only [posthornref16_Fold.l1] at H
                      by_cases c15 : x13_4 < (a1.size : Int)
                      · rw [if_pos c15] at H
                        have c15b0 : decide (x13_4 < (a1.size : Int)) = true := decide_eq_true c15
                        clear c15
                        replace H := Option.bind_eq_some_iff.mp H
                        obtain ⟨t135, A160, H⟩ := H
                        replace H : (if t135 = true then (if x11_4 < 0 then (if (wrap64 ((wrap64 (x10_3 + x13_4)) - x9_3)) ≤ a2 then (posthornref16_Fold.l1 k4 a0 a1 a2 x8_3 x9_3 x10_3 x13_4 x13_4 (wrap64 (x13_4 + 1))) else (posthornref16_Fold.l1 k4 a0 a1 a2 x8_3 x9_3 x10_3 x13_4 x12_4 (wrap64 (x13_4 + 1)))) else (if (wrap64 ((wrap64 (x10_3 + x13_4)) - x9_3)) ≤ a2 then (posthornref16_Fold.l1 k4 a0 a1 a2 x8_3 x9_3 x10_3 x11_4 x13_4 (wrap64 (x13_4 + 1))) else (posthornref16_Fold.l1 k4 a0 a1 a2 x8_3 x9_3 x10_3 x11_4 x12_4 (wrap64 (x13_4 + 1))))) else (posthornref16_Fold.l1 k4 a0 a1 a2 x8_3 x9_3 x10_3 x11_4 x12_4 (wrap64 (x13_4 + 1)))) = some (r1, r2, r3) := H
                        have A16 := Aside0.mk A160
                        clear A160
                        by_cases c17 : t135 = true
                        · subst c17
                          have H1 : (if x11_4 < 0 then (if (wrap64 ((wrap64 (x10_3 + x13_4)) - x9_3)) ≤ a2 then (posthornref16_Fold.l1 k4 a0 a1 a2 x8_3 x9_3 x10_3 x13_4 x13_4 (wrap64 (x13_4 + 1))) else (posthornref16_Fold.l1 k4 a0 a1 a2 x8_3 x9_3 x10_3 x13_4 x12_4 (wrap64 (x13_4 + 1)))) else (if (wrap64 ((wrap64 (x10_3 + x13_4)) - x9_3)) ≤ a2 then (posthornref16_Fold.l1 k4 a0 a1 a2 x8_3 x9_3 x10_3 x11_4 x13_4 (wrap64 (x13_4 + 1))) else (posthornref16_Fold.l1 k4 a0 a1 a2 x8_3 x9_3 x10_3 x11_4 x12_4 (wrap64 (x13_4 + 1))))) = some (r1, r2, r3) := by rw [if_pos rfl] at H; exact H
                          clear H
                          have H := H1
                          clear H1
                          by_cases c18 : x11_4 < 0
                          · rw [if_pos c18] at H
                            have c18b0 : decide (x11_4 < 0) = true := decide_eq_true c18
                            clear c18
                            by_cases c19 : (wrap64 ((wrap64 (x10_3 + x13_4)) - x9_3)) ≤ a2
                            · rw [if_pos c19] at H
                              have c19b0 : decide ((wrap64 ((wrap64 (x10_3 + x13_4)) - x9_3)) ≤ a2) = true := decide_eq_true c19
                              clear c19
                              have H' := Aside0.mk H
                              clear H
                              go_wp2_with (first | ((with_reducible refine gate_callee (f := 43) rfl ?_); refine goesL_ (some 47) rfl rfl Tryd.func43 (by kernel_rfl) rfl #[.string a1, .int .i64 x13_4] rfl (by (try simp only [List.map_toArray, List.map_cons, List.map_nil]); first | done | rfl | (simp only [List.length_drop, List.length_take]; rfl)) ?_; (with_reducible refine (posthornref16_joint.calls k4 a1 x13_4 true _ A16.out).mono ?_); rintro e w' ⟨rfl, ⟨nd, rfl⟩⟩; refine ⟨_, rfl, ?_⟩))
                              go_roundg k4
                              case measure => have := HJ3.out; have := HJ10.out; have := HK3.out; have := HK4.out; omega
                              case rel => exact ⟨(x13_4), (x13_4), (wrap64 (x13_4 + 1)), (by first | rfl | (simp; done) | (simp [*]; done)), (by first | rfl | (simp; done) | (simp [*]; done)), (by first | rfl | (simp; done) | (simp [*]; done)), H', ⟨by have := HJ3.out; have := HJ10.out; have := HK3.out; have := HK4.out; omega⟩, ⟨by (with_reducible repeat (first | refine blk_drewN ?_ _ | refine blk_drew ?_ | refine blk_alloc ?_ _)); exact BK132.out⟩, ⟨by repeat (first | (with_reducible first | exact HB.out | apply below_alloc | apply pw_below_drewN | apply below_drew1 | refine below_set ?_ GE132.out) | exact HB.out)⟩⟩
                            · rw [if_neg c19] at H
                              have c19b0 : decide ((wrap64 ((wrap64 (x10_3 + x13_4)) - x9_3)) ≤ a2) = false := decide_eq_false c19
                              clear c19
                              have H' := Aside0.mk H
                              clear H
                              go_wp2_with (first | ((with_reducible refine gate_callee (f := 43) rfl ?_); refine goesL_ (some 47) rfl rfl Tryd.func43 (by kernel_rfl) rfl #[.string a1, .int .i64 x13_4] rfl (by (try simp only [List.map_toArray, List.map_cons, List.map_nil]); first | done | rfl | (simp only [List.length_drop, List.length_take]; rfl)) ?_; (with_reducible refine (posthornref16_joint.calls k4 a1 x13_4 true _ A16.out).mono ?_); rintro e w' ⟨rfl, ⟨nd, rfl⟩⟩; refine ⟨_, rfl, ?_⟩))
                              go_roundg k4
                              case measure => have := HJ3.out; have := HJ10.out; have := HK3.out; have := HK4.out; omega
                              case rel => exact ⟨(x13_4), (x12_4), (wrap64 (x13_4 + 1)), (by first | rfl | (simp; done) | (simp [*]; done)), (by first | rfl | (simp; done) | (simp [*]; done)), (by first | rfl | (simp; done) | (simp [*]; done)), H', ⟨by have := HJ3.out; have := HJ10.out; have := HK3.out; have := HK4.out; omega⟩, ⟨by (with_reducible repeat (first | refine blk_drewN ?_ _ | refine blk_drew ?_ | refine blk_alloc ?_ _)); exact BK132.out⟩, ⟨by repeat (first | (with_reducible first | exact HB.out | apply below_alloc | apply pw_below_drewN | apply below_drew1 | refine below_set ?_ GE132.out) | exact HB.out)⟩⟩
                          · rw [if_neg c18] at H
                            have c18b0 : decide (x11_4 < 0) = false := decide_eq_false c18
                            clear c18
                            by_cases c20 : (wrap64 ((wrap64 (x10_3 + x13_4)) - x9_3)) ≤ a2
                            · rw [if_pos c20] at H
                              have c20b0 : decide ((wrap64 ((wrap64 (x10_3 + x13_4)) - x9_3)) ≤ a2) = true := decide_eq_true c20
                              clear c20
                              have H' := Aside0.mk H
                              clear H
                              go_wp2_with (first | ((with_reducible refine gate_callee (f := 43) rfl ?_); refine goesL_ (some 47) rfl rfl Tryd.func43 (by kernel_rfl) rfl #[.string a1, .int .i64 x13_4] rfl (by (try simp only [List.map_toArray, List.map_cons, List.map_nil]); first | done | rfl | (simp only [List.length_drop, List.length_take]; rfl)) ?_; (with_reducible refine (posthornref16_joint.calls k4 a1 x13_4 true _ A16.out).mono ?_); rintro e w' ⟨rfl, ⟨nd, rfl⟩⟩; refine ⟨_, rfl, ?_⟩))
                              go_roundg k4
                              case measure => have := HJ3.out; have := HJ10.out; have := HK3.out; have := HK4.out; omega
                              case rel => exact ⟨(x11_4), (x13_4), (wrap64 (x13_4 + 1)), (by first | rfl | (simp; done) | (simp [*]; done)), (by first | rfl | (simp; done) | (simp [*]; done)), (by first | rfl | (simp; done) | (simp [*]; done)), H', ⟨by have := HJ3.out; have := HJ10.out; have := HK3.out; have := HK4.out; omega⟩, ⟨by (with_reducible repeat (first | refine blk_drewN ?_ _ | refine blk_drew ?_ | refine blk_alloc ?_ _)); exact BK132.out⟩, ⟨by repeat (first | (with_reducible first | exact HB.out | apply below_alloc | apply pw_below_drewN | apply below_drew1 | refine below_set ?_ GE132.out) | exact HB.out)⟩⟩
                            · rw [if_neg c20] at H
                              have c20b0 : decide ((wrap64 ((wrap64 (x10_3 + x13_4)) - x9_3)) ≤ a2) = false := decide_eq_false c20
                              clear c20
                              have H' := Aside0.mk H
                              clear H
                              go_wp2_with (first | ((with_reducible refine gate_callee (f := 43) rfl ?_); refine goesL_ (some 47) rfl rfl Tryd.func43 (by kernel_rfl) rfl #[.string a1, .int .i64 x13_4] rfl (by (try simp only [List.map_toArray, List.map_cons, List.map_nil]); first | done | rfl | (simp only [List.length_drop, List.length_take]; rfl)) ?_; (with_reducible refine (posthornref16_joint.calls k4 a1 x13_4 true _ A16.out).mono ?_); rintro e w' ⟨rfl, ⟨nd, rfl⟩⟩; refine ⟨_, rfl, ?_⟩))
                              go_roundg k4
                              case measure => have := HJ3.out; have := HJ10.out; have := HK3.out; have := HK4.out; omega
                              case rel => exact ⟨(x11_4), (x12_4), (wrap64 (x13_4 + 1)), (by first | rfl | (simp; done) | (simp [*]; done)), (by first | rfl | (simp; done) | (simp [*]; done)), (by first | rfl | (simp; done) | (simp [*]; done)), H', ⟨by have := HJ3.out; have := HJ10.out; have := HK3.out; have := HK4.out; omega⟩, ⟨by (with_reducible repeat (first | refine blk_drewN ?_ _ | refine blk_drew ?_ | refine blk_alloc ?_ _)); exact BK132.out⟩, ⟨by repeat (first | (with_reducible first | exact HB.out | apply below_alloc | apply pw_below_drewN | apply below_drew1 | refine below_set ?_ GE132.out) | exact HB.out)⟩⟩
                        · replace c17 := Bool.eq_false_iff.mpr c17
                          subst c17
                          have H1 : (posthornref16_Fold.l1 k4 a0 a1 a2 x8_3 x9_3 x10_3 x11_4 x12_4 (wrap64 (x13_4 + 1))) = some (r1, r2, r3) := by rw [if_neg (show ¬ (false = true) by decide)] at H; exact H
                          clear H
                          have H := H1
                          clear H1
                          have H' := Aside0.mk H
                          clear H
                          go_wp2_with (first | ((with_reducible refine gate_callee (f := 43) rfl ?_); refine goesL_ (some 47) rfl rfl Tryd.func43 (by kernel_rfl) rfl #[.string a1, .int .i64 x13_4] rfl (by (try simp only [List.map_toArray, List.map_cons, List.map_nil]); first | done | rfl | (simp only [List.length_drop, List.length_take]; rfl)) ?_; (with_reducible refine (posthornref16_joint.calls k4 a1 x13_4 false _ A16.out).mono ?_); rintro e w' ⟨rfl, ⟨nd, rfl⟩⟩; refine ⟨_, rfl, ?_⟩))
                          go_roundg k4
                          case measure => have := HJ3.out; have := HJ10.out; have := HK3.out; have := HK4.out; omega
                          case rel => exact ⟨(x11_4), (x12_4), (wrap64 (x13_4 + 1)), (by first | rfl | (simp; done) | (simp [*]; done)), (by first | rfl | (simp; done) | (simp [*]; done)), (by first | rfl | (simp; done) | (simp [*]; done)), H', ⟨by have := HJ3.out; have := HJ10.out; have := HK3.out; have := HK4.out; omega⟩, ⟨by (with_reducible repeat (first | refine blk_drewN ?_ _ | refine blk_drew ?_ | refine blk_alloc ?_ _)); exact BK132.out⟩, ⟨by repeat (first | (with_reducible first | exact HB.out | apply below_alloc | apply pw_below_drewN | apply below_drew1 | refine below_set ?_ GE132.out) | exact HB.out)⟩⟩
                      · rw [if_neg c15] at H
                        have c15b0 : decide (x13_4 < (a1.size : Int)) = false := decide_eq_false c15
                        clear c15
                        have HC21 := Aside0.mk H
                        clear H
                        go_upto_region 19 with (fail)
                        go_cut [71] (fun v71 wc => ∃ (kq : Nat) (x71_20 : Bool), v71 = .bool x71_20 ∧ Aside0 (posthornref16_Fold.j4 kq a0 a1 a2 x8_3 x9_3 x10_3 x11_4 x12_4 (a1.size : Int) x71_20 = some (r1, r2, r3)) ∧ Aside0 (kq ≤ k4) ∧ Aside0 (wc.heap[gb132]? = some (.cells #[.string x133000_3, .string x133001_3] 30 (0, 0))) ∧ Aside0 (Below w.heap.size w wc))
                        case first =>
                          have H := HC21.out
                          clear HC21
                          by_cases c22 : (wrap64 ((wrap64 (x10_3 + (a1.size : Int))) - x9_3)) > a2
                          · rw [if_pos c22] at H
                            have c22b0 : decide (a2 < (wrap64 ((wrap64 (x10_3 + (a1.size : Int))) - x9_3))) = true := decide_eq_true c22
                            clear c22
                            (first | rw [c22b0] | (simp only [i64_w, i32_w]; rw [c22b0]) | skip)
                            have H' := Aside0.mk H
                            clear H
                            go_wp2
                            go_meet
                            case rel => exact ⟨_, (decide (x11_4 ≥ 0)), (by first | rfl | (simp; done) | (simp [*]; done)), H', ⟨by have := HJ3.out; have := HJ10.out; have := HK3.out; have := HK4.out; first | omega | exact Nat.le_refl _⟩, ⟨by (with_reducible repeat (first | refine blk_drewN ?_ _ | refine blk_drew ?_ | refine blk_alloc ?_ _)); exact BK132.out⟩, ⟨by repeat (first | (with_reducible first | exact HB.out | apply below_alloc | apply pw_below_drewN | apply below_drew1 | refine below_set ?_ GE132.out) | exact HB.out)⟩⟩
                          · rw [if_neg c22] at H
                            have c22b0 : decide (a2 < (wrap64 ((wrap64 (x10_3 + (a1.size : Int))) - x9_3))) = false := decide_eq_false c22
                            clear c22
                            (first | rw [c22b0] | (simp only [i64_w, i32_w]; rw [c22b0]) | skip)
                            have H' := Aside0.mk H
                            clear H
                            go_wp2
                            go_meet
                            case rel => exact ⟨_, (false), (by first | rfl | (simp; done) | (simp [*]; done)), H', ⟨by have := HJ3.out; have := HJ10.out; have := HK3.out; have := HK4.out; first | omega | exact Nat.le_refl _⟩, ⟨by (with_reducible repeat (first | refine blk_drewN ?_ _ | refine blk_drew ?_ | refine blk_alloc ?_ _)); exact BK132.out⟩, ⟨by repeat (first | (with_reducible first | exact HB.out | apply below_alloc | apply pw_below_drewN | apply below_drew1 | refine below_set ?_ GE132.out) | exact HB.out)⟩⟩
                        case rest =>
                          clear HC21
                          try clear c1
                          try clear c2
                          try clear p2
                          try clear c3
                          try clear c4
                          try clear p6
                          try clear c7
                          try clear c9
                          try clear c12
                          try clear c12b0
                          try clear c13
                          try clear c15
                          try clear c15b0
                          try clear c17
                          try clear c18
                          try clear c18b0
                          try clear c19
                          try clear c19b0
                          try clear c20
                          try clear c20b0
                          try clear c22
                          try clear c22b0
                          try clear hcz10_0
                          try clear hcz10_1
                          try clear hcz14_0
                          try clear hcz14_1
                          try clear hfz10_0
                          try clear hfz10_1
                          try clear hfz14_0
                          try clear hfz14_1
                          try clear p2
                          try clear p6
                          obtain ⟨kq, x71_20, rfl, HA, HJ20, BK132, HB⟩ := hcut
                          cases kq with
                          | zero => exact absurd HA.out (by simp [posthornref16_Fold.j4])
                          | succ kj20 =>
                            have H := HA.out
                            clear HA
                            simp only [posthornref16_Fold.j4] at H
                            have HC23 := Aside0.mk H
                            clear H
                            go_upto_if 71 with (fail)
                            go_cut [14] (fun v14 wc => ∃ (kq : Nat) (x14_22 : Int), v14 = .int .i64 x14_22 ∧ Aside0 (posthornref16_Fold.j5 kq a0 a1 a2 x8_3 x9_3 x10_3 x14_22 = some (r1, r2, r3)) ∧ Aside0 (kq ≤ kj20) ∧ Aside0 (wc.heap[gb132]? = some (.cells #[.string x133000_3, .string x133001_3] 30 (0, 0))) ∧ Aside0 (Below w.heap.size w wc))
                            case first =>
                              have H := HC23.out
                              clear HC23
                              by_cases c24 : x71_20 = true
                              · subst c24
                                have H1 : (posthornref16_Fold.j5 kj20 a0 a1 a2 x8_3 x9_3 x10_3 (mx x11_4 x12_4)) = some (r1, r2, r3) := by rw [if_pos rfl] at H; exact H
                                clear H
                                have H := H1
                                clear H1
                                obtain ⟨ji25, hji25⟩ : ∃ j_ : Int, (mx x11_4 x12_4) = j_ := ⟨_, rfl⟩
                                replace H : (posthornref16_Fold.j5 kj20 a0 a1 a2 x8_3 x9_3 x10_3 ji25) = some (r1, r2, r3) := by first | (rw [hji25] at H; exact H) | (simp only [hji25] at H ⊢; exact H)
                                have hji25_ : (if x11_4 < x12_4 then x12_4 else x11_4) = ji25 := hji25
                                have H' := Aside0.mk H
                                clear H
                                go_wp2
                                go_meet
                                case rel => exact ⟨_, (ji25), (by first | rfl | (simp; done) | (simp only [← hji25] <;> (first | rfl | simp)) | (simp [*]; done)), H', ⟨by have := HJ3.out; have := HJ10.out; have := HK3.out; have := HK4.out; have := HJ20.out; first | omega | exact Nat.le_refl _⟩, ⟨by (with_reducible repeat (first | refine blk_drewN ?_ _ | refine blk_drew ?_ | refine blk_alloc ?_ _)); exact BK132.out⟩, ⟨by repeat (first | (with_reducible first | exact HB.out | apply below_alloc | apply pw_below_drewN | apply below_drew1 | refine below_set ?_ GE132.out) | exact HB.out)⟩⟩
                              · replace c24 := Bool.eq_false_iff.mpr c24
                                subst c24
                                have H1 : (posthornref16_Fold.j5 kj20 a0 a1 a2 x8_3 x9_3 x10_3 (a1.size : Int)) = some (r1, r2, r3) := by rw [if_neg (show ¬ (false = true) by decide)] at H; exact H
                                clear H
                                have H := H1
                                clear H1
                                have H' := Aside0.mk H
                                clear H
                                go_wp2
                                go_meet
                                case rel => exact ⟨_, ((a1.size : Int)), (by first | rfl | (simp; done) | (simp [*]; done)), H', ⟨by have := HJ3.out; have := HJ10.out; have := HK3.out; have := HK4.out; have := HJ20.out; first | omega | exact Nat.le_refl _⟩, ⟨by (with_reducible repeat (first | refine blk_drewN ?_ _ | refine blk_drew ?_ | refine blk_alloc ?_ _)); exact BK132.out⟩, ⟨by repeat (first | (with_reducible first | exact HB.out | apply below_alloc | apply pw_below_drewN | apply below_drew1 | refine below_set ?_ GE132.out) | exact HB.out)⟩⟩
                            case rest =>
                              clear HC23
                              try clear c1
                              try clear c2
                              try clear p2
                              try clear c3
                              try clear c4
                              try clear p6
                              try clear c7
                              try clear c9
                              try clear c12
                              try clear c12b0
                              try clear c13
                              try clear c15
                              try clear c15b0
                              try clear c17
                              try clear c18
                              try clear c18b0
                              try clear c19
                              try clear c19b0
                              try clear c20
                              try clear c20b0
                              try clear c22
                              try clear c22b0
                              try clear c24
                              try clear hcz10_0
                              try clear hcz10_1
                              try clear hcz14_0
                              try clear hcz14_1
                              try clear hfz10_0
                              try clear hfz10_1
                              try clear hfz14_0
                              try clear hfz14_1
                              try clear p2
                              try clear p6
                              obtain ⟨kq, x14_22, rfl, HA, HJ22, BK132, HB⟩ := hcut
                              cases kq with
                              | zero => exact absurd HA.out (by simp [posthornref16_Fold.j5])
                              | succ kj22 =>
                                have H := HA.out
                                clear HA
                                simp only [posthornref16_Fold.j5] at H
                                by_cases c26 : (wrap64 ((wrap64 (x10_3 + x14_22)) - x9_3)) > 998
                                · rw [if_pos c26] at H
                                  have c26b0 : decide (998 < (wrap64 ((wrap64 (x10_3 + x14_22)) - x9_3))) = true := decide_eq_true c26
                                  clear c26
                                  simp only [Option.some.injEq, Prod.mk.injEq] at H
                                  obtain ⟨rfl, rfl, rfl⟩ := H
                                  have hcz27_0 : wc.cell? ⟨gb132, 0, none⟩ = some (.string x133000_3) := (blk_cell BK132.out 0).trans rfl
                                  have hcz27_1 : wc.cell? ⟨gb132, 1, none⟩ = some (.string x133001_3) := (blk_cell BK132.out 1).trans rfl
                                  have hfz27_0 := blk_frozen BK132.out 0
                                  have hfz27_1 := blk_frozen BK132.out 1
                                  go_wp2
                                  refine bodyPost_ret (results_ct rfl _ _ gb132 30 #[.string (⟨#[]⟩ : ByteArray), .string (⟨#[]⟩ : ByteArray)] (0, 0) _ rfl (by (with_reducible repeat (first | refine blk_drewN ?_ _ | refine blk_drew ?_ | refine blk_alloc ?_ _)); refine blk_put (cs := #[.string (⟨#[]⟩ : ByteArray), .string x133001_3]) ?_ 1 _ rfl; (with_reducible repeat (first | refine blk_drewN ?_ _ | refine blk_drew ?_ | refine blk_alloc ?_ _)); refine blk_put (cs := #[.string x133000_3, .string x133001_3]) ?_ 0 _ rfl; (with_reducible repeat (first | refine blk_drewN ?_ _ | refine blk_drew ?_ | refine blk_alloc ?_ _)); exact BK132.out) Tryd.underlying30 rfl (by kernel_rfl)) rfl ?_
                                  exact ⟨by first | rfl | (simp [errW_none, errW_some] <;> rfl) | (simp [*, errW_none, errW_some] <;> rfl), by repeat (first | (with_reducible first | exact HB.out | apply below_alloc | apply pw_below_drewN | apply below_drew1 | refine below_set ?_ GE132.out) | exact HB.out)⟩
                                · rw [if_neg c26] at H
                                  have c26b0 : decide (998 < (wrap64 ((wrap64 (x10_3 + x14_22)) - x9_3))) = false := decide_eq_false c26
                                  clear c26
                                  by_cases c28 : 0 ≤ x9_3
                                  · rw [if_pos c28] at H
                                    have c28b0 := eq_true c28
                                    have c28b1 : decide (0 ≤ x9_3) = true := decide_eq_true c28
                                    clear c28
                                    by_cases c29 : x9_3 ≤ x14_22
                                    · rw [if_pos c29] at H
                                      have c29b0 := eq_true c29
                                      have c29b1 : decide (x9_3 ≤ x14_22) = true := decide_eq_true c29
                                      clear c29
                                      by_cases c30 : x14_22 ≤ (a1.size : Int)
                                      · rw [if_pos c30] at H
                                        have c30b0 := eq_true c30
                                        have c30b1 : decide (x14_22 ≤ (a1.size : Int)) = true := decide_eq_true c30
                                        clear c30
                                        by_cases c31 : x8_3.size + (a1.extract (x9_3 : Int).toNat (x14_22 : Int).toNat).size ≤ 9223372036854775807
                                        · rw [if_pos c31] at H
                                          have c31b0 := eq_true c31
                                          have c31b1 : decide (x8_3.size + (a1.extract (x9_3 : Int).toNat (x14_22 : Int).toNat).size ≤ 9223372036854775807) = true := decide_eq_true c31
                                          try have c31b2 : (9223372036854775807 < x8_3.size + (a1.extract (x9_3 : Int).toNat (x14_22 : Int).toNat).size) = False := eq_false (Nat.not_lt.2 c31)
                                          by_cases c32 : x14_22 = (a1.size : Int)
                                          · rw [if_pos c32] at H
                                            have c32b0 : (x14_22 == (a1.size : Int)) = true := beq_iff_eq.mpr c32
                                            have c32b1 : (x14_22 != (a1.size : Int)) = false := bne_eq_false_iff_eq.mpr c32
                                            clear c32
                                            simp only [Option.some.injEq, Prod.mk.injEq] at H
                                            obtain ⟨rfl, rfl, rfl⟩ := H
                                            have hcz33_0 : wc.cell? ⟨gb132, 0, none⟩ = some (.string x133000_3) := (blk_cell BK132.out 0).trans rfl
                                            have hcz33_1 : wc.cell? ⟨gb132, 1, none⟩ = some (.string x133001_3) := (blk_cell BK132.out 1).trans rfl
                                            have hfz33_0 := blk_frozen BK132.out 0
                                            have hfz33_1 := blk_frozen BK132.out 1
                                            go_wp2
                                            refine bodyPost_ret (results_ct rfl _ _ gb132 30 #[.string a0, .string (x8_3 ++ (a1.extract (x9_3 : Int).toNat (x14_22 : Int).toNat))] (0, 0) _ rfl (by (with_reducible repeat (first | refine blk_drewN ?_ _ | refine blk_drew ?_ | refine blk_alloc ?_ _)); refine blk_put (cs := #[.string a0, .string x133001_3]) ?_ 1 _ rfl; (with_reducible repeat (first | refine blk_drewN ?_ _ | refine blk_drew ?_ | refine blk_alloc ?_ _)); refine blk_put (cs := #[.string x133000_3, .string x133001_3]) ?_ 0 _ rfl; (with_reducible repeat (first | refine blk_drewN ?_ _ | refine blk_drew ?_ | refine blk_alloc ?_ _)); exact BK132.out) Tryd.underlying30 rfl (by kernel_rfl)) rfl ?_
                                            exact ⟨by first | rfl | (simp [errW_none, errW_some] <;> rfl) | (simp [*, errW_none, errW_some] <;> rfl), by repeat (first | (with_reducible first | exact HB.out | apply below_alloc | apply pw_below_drewN | apply below_drew1 | refine below_set ?_ GE132.out) | exact HB.out)⟩
                                          · rw [if_neg c32] at H
                                            have c32b0 : (x14_22 == (a1.size : Int)) = false := beq_eq_false_iff_ne.mpr c32
                                            have c32b1 : (x14_22 != (a1.size : Int)) = true := bne_iff_ne.mpr c32
                                            by_cases c34 : (x8_3 ++ (a1.extract (x9_3 : Int).toNat (x14_22 : Int).toNat)).size + 2 ≤ 9223372036854775807
                                            · rw [if_pos c34] at H
                                              have c34b0 := eq_true c34
                                              have c34b1 : decide ((x8_3 ++ (a1.extract (x9_3 : Int).toNat (x14_22 : Int).toNat)).size + 2 ≤ 9223372036854775807) = true := decide_eq_true c34
                                              try have c34b2 : (9223372036854775807 < (x8_3 ++ (a1.extract (x9_3 : Int).toNat (x14_22 : Int).toNat)).size + 2) = False := eq_false (Nat.not_lt.2 c34)
                                              have c34d : ¬ (9223372036854775807 < x8_3.size + (x14_22.toNat - x9_3.toNat) + 2) := by
                                                have e : (a1.extract x9_3.toNat x14_22.toNat).size = min x14_22.toNat a1.size - x9_3.toNat := by simp
                                                have h30 : x14_22 ≤ (a1.size : Int) := by first | assumption | exact of_decide_eq_true (by assumption)
                                                rw [ByteArray.size_append] at c34
                                                omega
                                              have H' := Aside0.mk H
                                              clear H
                                              go_wp2
                                              go_roundg kj22
                                              case measure => have := HJ3.out; have := HJ10.out; have := HK3.out; have := HK4.out; have := HJ20.out; have := HJ22.out; omega
                                              case rel => exact ⟨((x8_3 ++ (a1.extract (x9_3 : Int).toNat (x14_22 : Int).toNat)) ++ (⟨#[13, 10]⟩ : ByteArray)), (x14_22), (0), (x133000_3), (x133001_3), (by first | rfl | (simp; done) | (simp [*]; done)), (by first | rfl | (simp; done) | (simp [*]; done)), (by first | rfl | (simp; done) | (simp [*]; done)), H', ⟨by have := HJ3.out; have := HJ10.out; have := HK3.out; have := HK4.out; have := HJ20.out; have := HJ22.out; omega⟩, ⟨by (with_reducible repeat (first | refine blk_drewN ?_ _ | refine blk_drew ?_ | refine blk_alloc ?_ _)); exact BK132.out⟩, ⟨by repeat (first | (with_reducible first | exact HB.out | apply below_alloc | apply pw_below_drewN | apply below_drew1 | refine below_set ?_ GE132.out) | exact HB.out)⟩⟩
                                            · rw [if_neg c34] at H
                                              exact absurd H (by simp)
                                        · rw [if_neg c31] at H
                                          exact absurd H (by simp)
                                      · rw [if_neg c30] at H
                                        exact absurd H (by simp)
                                    · rw [if_neg c29] at H
                                      exact absurd H (by simp)
                                  · rw [if_neg c28] at H
                                    exact absurd H (by simp)

-- NOT PRINTED: function 4 (posthornlaw16_FieldFolds)

end Go.Proofs.YtammhcfifnffeaaDoor.PFieldFolds
