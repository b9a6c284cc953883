/- posthornref17.word (as printed by print.sh; the import turned). -/
import Derived.Test.YtcnhnpkbklakoaaDoorEncB64
import Derived.Test.YtcnhnpkbklakoaaDoorEncQ
namespace Go.Proofs.YtcnhnpkbklakoaaDoor.PWordEncodes
open Go.RowKit Go.Proofs.YtcnhnpkbklakoaaDoorW.PrintWords Go.Proofs.YtcnhnpkbklakoaaDoorW.PrintLast Go.Proofs.YtcnhnpkbklakoaaDoorW.PrintMore
attribute [local go_sem] max2_int min2_int max_two min_two max_three min_three max_four min_four   -- for this text's walks alone
set_option linter.unusedVariables false
set_option linter.unusedSimpArgs false

/-! ### posthornref17_word: function 58 -/
def posthornref17_word.l0 : Nat → ByteArray → List Int → Int → Int → Option (ByteArray)
  | 0, _, _, _, _ => none
  | k + 1, x5, x14, x15, x16 => if x16 < x15 then (if 0 ≤ x16 then (if x16 < (x14.length : Int) then ((posthornref17_q.f k (rd x14 x16)).bind fun t198 => (if x5.size + t198.size ≤ 9223372036854775807 then (posthornref17_word.l0 k (x5 ++ t198) x14 x15 (wrap64 (x16 + 1))) else (none))) else (none)) else (none)) else (if 10 + x5.size ≤ 9223372036854775807 then (if ((⟨#[61, 63, 85, 84, 70, 45, 56, 63, 81, 63]⟩ : ByteArray) ++ x5).size + 2 ≤ 9223372036854775807 then (some (((⟨#[61, 63, 85, 84, 70, 45, 56, 63, 81, 63]⟩ : ByteArray) ++ x5) ++ (⟨#[63, 61]⟩ : ByteArray))) else (none)) else (none))
def posthornref17_word.f (k : Nat) (l0 : List Int) (a1 : Bool) : Option (ByteArray) := if a1 = true then (posthornref17_word.l0 k (⟨#[]⟩ : ByteArray) l0 (l0.length : Int) 0) else ((posthornref04_Base64.f k l0).bind fun t196 => (if 10 + t196.size ≤ 9223372036854775807 then (if ((⟨#[61, 63, 85, 84, 70, 45, 56, 63, 66, 63]⟩ : ByteArray) ++ t196).size + 2 ≤ 9223372036854775807 then (some (((⟨#[61, 63, 85, 84, 70, 45, 56, 63, 66, 63]⟩ : ByteArray) ++ t196) ++ (⟨#[63, 61]⟩ : ByteArray))) else (none)) else (none)))
theorem posthornref17_word.mono_l : ∀ k, (∀ y0 y1 y2 y3, LeO (posthornref17_word.l0 k y0 y1 y2 y3) (posthornref17_word.l0 (k + 1) y0 y1 y2 y3))
  | 0 => fun _ _ _ _ r h => by simp [posthornref17_word.l0] at h
  | k + 1 => by
    have ih0 := posthornref17_word.mono_l k
    · intro y0 y1 y2 y3
      unfold posthornref17_word.l0
      repeat' first
      | (with_reducible exact ih0 _ _ _ _)
      | (with_reducible exact posthornref04_Base64.mono _ _)
      | (with_reducible exact posthornref17_q.mono _ _)
      | (with_reducible exact LeO.refl _)
      | (with_reducible exact LeO.none _)
      | (with_reducible refine LeO.ite ?_ ?_)
      | (with_reducible refine LeO.bind ?_ (fun _ => ?_))
      | exact ih0 _ _ _ _
      | exact posthornref04_Base64.mono _ _
      | exact posthornref17_q.mono _ _
      | exact LeO.none _
      | refine LeO.ite ?_ ?_
      | refine LeO.bind ?_ (fun _ => ?_)
theorem posthornref17_word.mono : ∀ a0 a1 k, LeO (posthornref17_word.f k a0 a1) (posthornref17_word.f (k + 1) a0 a1) := by
  intro a0 a1 k
  have ih0 := posthornref17_word.mono_l k
  unfold posthornref17_word.f
  repeat' first
      | (with_reducible exact ih0 _ _ _ _)
      | (with_reducible exact posthornref04_Base64.mono _ _)
      | (with_reducible exact posthornref17_q.mono _ _)
      | (with_reducible exact LeO.refl _)
      | (with_reducible exact LeO.none _)
      | (with_reducible refine LeO.ite ?_ ?_)
      | (with_reducible refine LeO.bind ?_ (fun _ => ?_))
      | exact ih0 _ _ _ _
      | exact posthornref04_Base64.mono _ _
      | exact posthornref17_q.mono _ _
      | exact LeO.none _
      | refine LeO.ite ?_ ?_
      | refine LeO.bind ?_ (fun _ => ?_)
set_option maxHeartbeats 8000000 in
set_option maxRecDepth 100000 in
theorem posthornref17_word.calls (k : Nat) (A0 : Option Addr) (c0 : Nat) (l0 : List Int) (a1 : Bool) (r : ByteArray) (w : World) (hr0 : Kd.C (Kd.int .u8) w A0 l0.length l0) (hc0 : l0.length ≤ c0) (h : posthornref17_word.f k l0 a1 = some r) :
    Calls Tryd.prog 58 #[.slice A0 l0.length c0, .bool a1] w fun e w' => e = .returned (.string r) ∧ Below w.heap.size w w' := by
  have HR0 := Aside0.mk hr0
  have HC0 := Aside0.mk hc0
  clear hr0 hc0
  have HB := Aside0.mk (Below.refl w.heap.size w)
  have H : (if a1 = true then (posthornref17_word.l0 k (⟨#[]⟩ : ByteArray) l0 (l0.length : Int) 0) else ((posthornref04_Base64.f k l0).bind fun t196 => (if 10 + t196.size ≤ 9223372036854775807 then (if ((⟨#[61, 63, 85, 84, 70, 45, 56, 63, 66, 63]⟩ : ByteArray) ++ t196).size + 2 ≤ 9223372036854775807 then (some (((⟨#[61, 63, 85, 84, 70, 45, 56, 63, 66, 63]⟩ : ByteArray) ++ t196) ++ (⟨#[63, 61]⟩ : ByteArray))) else (none)) else (none)))) = some r := h
  clear h
  by_cases c3 : a1 = true
  · subst c3
    have H1 : (posthornref17_word.l0 k (⟨#[]⟩ : ByteArray) l0 (l0.length : Int) 0) = some r := by rw [if_pos rfl] at H; exact H
    clear H
    have H := H1
    clear H1
    have H' := Aside0.mk H
    clear H
    go_enter Tryd.func58, Tryd.ntmps58
    go_wp2
    go_loopg [5, 16] k (fun kq v5 v16 w' => ∃ (x5_1 : ByteArray) (x16_1 : Int), v5 = .string x5_1 ∧ v16 = .int .i64 x16_1 ∧ Aside0 (posthornref17_word.l0 kq x5_1 l0 (l0.length : Int) x16_1 = some r) ∧ Aside0 (kq ≤ k) ∧ Aside0 (Below w.heap.size w w'))
    case atStart => exact ⟨((⟨#[]⟩ : ByteArray)), (0), (by first | rfl | (simp; done) | (simp [*]; done)), (by first | rfl | (simp; done) | (simp [*]; done)), H', ⟨Nat.le_refl _⟩, ⟨by repeat (first | (with_reducible first | exact HB.out | apply below_alloc | apply pw_below_drewN | apply below_drew1) | exact HB.out)⟩⟩
    case round =>
      clear H'
      try clear p2
      try clear c3
      obtain ⟨x5_1, x16_1, rfl, rfl, HA, HK1, HB⟩ := hrel
      cases gk with
      | zero => exact absurd HA.out (by simp [posthornref17_word.l0])
      | succ k1 =>
        have H := HA.out
        clear HA
        simp only [posthornref17_word.l0] at H
        by_cases c4 : x16_1 < (l0.length : Int)
        · rw [if_pos c4] at H
          have c4b0 : decide (x16_1 < (l0.length : Int)) = true := decide_eq_true c4
          clear c4
          by_cases c5 : 0 ≤ x16_1
          · rw [if_pos c5] at H
            have c5b0 : decide (0 ≤ x16_1) = true := decide_eq_true c5
            clear c5
            by_cases c6 : x16_1 < (l0.length : Int)
            · rw [if_pos c6] at H
              have c6b0 : decide (x16_1 < (l0.length : Int)) = true := decide_eq_true c6
              clear c6
              replace H := Option.bind_eq_some_iff.mp H
              obtain ⟨t198, A70, H⟩ := H
              replace H : (if x5_1.size + t198.size ≤ 9223372036854775807 then (posthornref17_word.l0 k1 (x5_1 ++ t198) l0 (l0.length : Int) (wrap64 (x16_1 + 1))) else (none)) = some r := H
              have A7 := Aside0.mk A70
              clear A70
              by_cases c8 : x5_1.size + t198.size ≤ 9223372036854775807
              · rw [if_pos c8] at H
                have c8b0 := eq_true c8
                have c8b1 : decide (x5_1.size + t198.size ≤ 9223372036854775807) = true := decide_eq_true c8
                try have c8b2 : (9223372036854775807 < x5_1.size + t198.size) = False := eq_false (Nat.not_lt.2 c8)
                have H' := Aside0.mk H
                clear H
                have p197 : 0 ≤ (x16_1 : Int) := of_decide_eq_true (by first | (with_reducible assumption) | assumption)
                have q197 : x16_1 < (l0.length : Int) := of_decide_eq_true (by first | (with_reducible assumption) | assumption)
                obtain ⟨ad197, e197, hx197_0⟩ := Kd.at_int HR0.out x16_1 p197 q197
                cases e197
                replace hx197_0 := (HB.out.cell (World.block_lt_of_cell? w _ hx197_0)).trans hx197_0
                replace p197 := eq_true p197
                replace q197 := eq_true q197
                go_wp2_with (first | ((with_reducible refine gate_callee (f := 87) rfl ?_); refine goesL_ (some 22) rfl rfl Tryd.func87 (by kernel_rfl) rfl #[.int .u8 (rd l0 x16_1)] rfl (by (try simp only [List.map_toArray, List.map_cons, List.map_nil]); first | done | rfl | (simp only [List.length_drop, List.length_take]; rfl)) ?_; (with_reducible refine (posthornref17_q.calls k1 (rd l0 x16_1) t198 _ A7.out).mono ?_); rintro e w9 ⟨rfl, hb⟩; refine ⟨_, rfl, ?_⟩; have n0_ := Aside0.mk (below_step (by repeat (first | (with_reducible first | exact HB.out | apply below_alloc | apply pw_below_drewN | apply below_drew1) | exact HB.out)) hb); clear HB; have HB := n0_; clear n0_; (try clear hb); (try clear hb2); (try clear hk); (try clear hi)))
                go_roundg k1
                case measure => have := HK1.out; omega
                case rel => exact ⟨(x5_1 ++ t198), (wrap64 (x16_1 + 1)), (by first | rfl | (simp; done) | (simp [*]; done)), (by first | rfl | (simp; done) | (simp [*]; done)), H', ⟨by have := HK1.out; omega⟩, ⟨by repeat (first | (with_reducible first | exact HB.out | apply below_alloc | apply pw_below_drewN | apply below_drew1) | exact HB.out)⟩⟩
              · rw [if_neg c8] at H
                exact absurd H (by simp)
            · rw [if_neg c6] at H
              exact absurd H (by simp)
          · rw [if_neg c5] at H
            exact absurd H (by simp)
        · rw [if_neg c4] at H
          have c4b0 : decide (x16_1 < (l0.length : Int)) = false := decide_eq_false c4
          clear c4
          by_cases c10 : 10 + x5_1.size ≤ 9223372036854775807
          · rw [if_pos c10] at H
            have c10b0 := eq_true c10
            have c10b1 : decide (10 + x5_1.size ≤ 9223372036854775807) = true := decide_eq_true c10
            try have c10b2 : (9223372036854775807 < 10 + x5_1.size) = False := eq_false (Nat.not_lt.2 c10)
            by_cases c11 : ((⟨#[61, 63, 85, 84, 70, 45, 56, 63, 81, 63]⟩ : ByteArray) ++ x5_1).size + 2 ≤ 9223372036854775807
            · rw [if_pos c11] at H
              have c11b0 := eq_true c11
              have c11b1 : decide (((⟨#[61, 63, 85, 84, 70, 45, 56, 63, 81, 63]⟩ : ByteArray) ++ x5_1).size + 2 ≤ 9223372036854775807) = true := decide_eq_true c11
              try have c11b2 : (9223372036854775807 < ((⟨#[61, 63, 85, 84, 70, 45, 56, 63, 81, 63]⟩ : ByteArray) ++ x5_1).size + 2) = False := eq_false (Nat.not_lt.2 c11)
              have c11b3 : (9223372036854775807 < 10 + x5_1.size + 2) = False := eq_false (by have h_ := c11; rw [ByteArray.size_append] at h_; change 10 + x5_1.size + 2 ≤ _ at h_; omega)
              obtain rfl := Option.some.inj H
              go_wp2
              go_ret
              exact ⟨by first | rfl | (simp [errW_none, errW_some] <;> rfl) | (simp [*, errW_none, errW_some] <;> rfl), by repeat (first | (with_reducible first | exact HB.out | apply below_alloc | apply pw_below_drewN | apply below_drew1) | exact HB.out)⟩
            · rw [if_neg c11] at H
              exact absurd H (by simp)
          · rw [if_neg c10] at H
            exact absurd H (by simp)
  · replace c3 := Bool.eq_false_iff.mpr c3
    subst c3
    have H1 : ((posthornref04_Base64.f k l0).bind fun t196 => (if 10 + t196.size ≤ 9223372036854775807 then (if ((⟨#[61, 63, 85, 84, 70, 45, 56, 63, 66, 63]⟩ : ByteArray) ++ t196).size + 2 ≤ 9223372036854775807 then (some (((⟨#[61, 63, 85, 84, 70, 45, 56, 63, 66, 63]⟩ : ByteArray) ++ t196) ++ (⟨#[63, 61]⟩ : ByteArray))) else (none)) else (none))) = some r := by rw [if_neg (show ¬ (false = true) by decide)] at H; exact H
    clear H
    have H := H1
    clear H1
    replace H := Option.bind_eq_some_iff.mp H
    obtain ⟨t196, A120, H⟩ := H
    replace H : (if 10 + t196.size ≤ 9223372036854775807 then (if ((⟨#[61, 63, 85, 84, 70, 45, 56, 63, 66, 63]⟩ : ByteArray) ++ t196).size + 2 ≤ 9223372036854775807 then (some (((⟨#[61, 63, 85, 84, 70, 45, 56, 63, 66, 63]⟩ : ByteArray) ++ t196) ++ (⟨#[63, 61]⟩ : ByteArray))) else (none)) else (none)) = some r := H
    have A12 := Aside0.mk A120
    clear A120
    by_cases c13 : 10 + t196.size ≤ 9223372036854775807
    · rw [if_pos c13] at H
      have c13b0 := eq_true c13
      have c13b1 : decide (10 + t196.size ≤ 9223372036854775807) = true := decide_eq_true c13
      try have c13b2 : (9223372036854775807 < 10 + t196.size) = False := eq_false (Nat.not_lt.2 c13)
      by_cases c14 : ((⟨#[61, 63, 85, 84, 70, 45, 56, 63, 66, 63]⟩ : ByteArray) ++ t196).size + 2 ≤ 9223372036854775807
      · rw [if_pos c14] at H
        have c14b0 := eq_true c14
        have c14b1 : decide (((⟨#[61, 63, 85, 84, 70, 45, 56, 63, 66, 63]⟩ : ByteArray) ++ t196).size + 2 ≤ 9223372036854775807) = true := decide_eq_true c14
        try have c14b2 : (9223372036854775807 < ((⟨#[61, 63, 85, 84, 70, 45, 56, 63, 66, 63]⟩ : ByteArray) ++ t196).size + 2) = False := eq_false (Nat.not_lt.2 c14)
        have c14b3 : (9223372036854775807 < 10 + t196.size + 2) = False := eq_false (by have h_ := c14; rw [ByteArray.size_append] at h_; change 10 + t196.size + 2 ≤ _ at h_; omega)
        obtain rfl := Option.some.inj H
        go_enter Tryd.func58, Tryd.ntmps58
        go_wp2_with (first | ((with_reducible refine gate_callee (f := 86) rfl ?_); refine goesL_ (some 11) rfl rfl Tryd.func86 (by kernel_rfl) rfl #[.slice A0 l0.length c0] rfl (by (try simp only [List.map_toArray, List.map_cons, List.map_nil]); first | done | rfl | (simp only [List.length_drop, List.length_take]; rfl)) ?_; (with_reducible refine (posthornref04_Base64.calls k _ _ l0 t196 _ ?side1 ?side2 A12.out).mono ?_); (case side1 => repeat (first | exact HR0.out | (with_reducible refine Kd.C_alloc ?_ _) | (with_reducible refine Kd.C_drewN ?_ _) | (with_reducible refine Kd.C_drew ?_))); (case side2 => exact HC0.out); rintro e w15 ⟨rfl, hb⟩; refine ⟨_, rfl, ?_⟩; have n0_ := Aside0.mk (below_step (by repeat (first | (with_reducible first | exact HB.out | apply below_alloc | apply pw_below_drewN | apply below_drew1) | exact HB.out)) hb); clear HB; have HB := n0_; clear n0_; (try clear hb); (try clear hb2); (try clear hk); (try clear hi)))
        go_ret
        exact ⟨by first | rfl | (simp [errW_none, errW_some] <;> rfl) | (simp [*, errW_none, errW_some] <;> rfl), by repeat (first | (with_reducible first | exact HB.out | apply below_alloc | apply pw_below_drewN | apply below_drew1) | exact HB.out)⟩
      · rw [if_neg c14] at H
        exact absurd H (by simp)
    · rw [if_neg c13] at H
      exact absurd H (by simp)

end Go.Proofs.YtcnhnpkbklakoaaDoor.PWordEncodes
