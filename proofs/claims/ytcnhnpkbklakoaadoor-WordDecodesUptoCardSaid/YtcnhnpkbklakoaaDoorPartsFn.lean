/- posthornref17.Parts (as printed by print.sh; the import turned). -/
import Derived.Test.YtcnhnpkbklakoaaDoorX0
namespace Go.Proofs.YtcnhnpkbklakoaaDoor.PWordDecodes
open Go.RowKit Go.Proofs.YtcnhnpkbklakoaaDoorW.PrintWords Go.Proofs.YtcnhnpkbklakoaaDoorW.PrintLast Go.Proofs.YtcnhnpkbklakoaaDoorW.PrintMore
attribute [local go_sem] max2_int min2_int max_two min_two max_three min_three max_four min_four   -- for this text's walks alone
set_option linter.unusedVariables false
set_option linter.unusedSimpArgs false

/-! ### posthornref17_Parts: function 35 -/
mutual
def posthornref17_Parts.l0 : Nat → ByteArray → List Int → Int → Option (ByteArray × ByteArray × ByteArray × Bool)
  | 0, _, _, _ => none
  | k + 1, x0, x6, x7 => if x7 < (x0.size : Int) then (if 0 ≤ x7 then (if (bt x0 x7) < 33 then (posthornref17_Parts.j1 k x0 x6 x7 true) else (posthornref17_Parts.j1 k x0 x6 x7 (decide ((bt x0 x7) > 126)))) else (none)) else (if (x6.length : Int) = 4 then (if 0 < (x6.length : Int) then (if (rd x6 0) = 1 then (if 3 < (x6.length : Int) then (if (rd x6 3) = (wrap64 ((x0.size : Int) - 2)) then (if 0 < (x0.size : Int) then (if (bt x0 0) = 61 then (if 0 ≤ (wrap64 ((x0.size : Int) - 1)) then (if (wrap64 ((x0.size : Int) - 1)) < (x0.size : Int) then (if (bt x0 (wrap64 ((x0.size : Int) - 1))) = 61 then (if 1 < (x6.length : Int) then (if 2 ≤ (rd x6 1) then (if (rd x6 1) ≤ (x0.size : Int) then (if 2 < (x6.length : Int) then (if 0 ≤ (wrap64 ((rd x6 1) + 1)) then (if (wrap64 ((rd x6 1) + 1)) ≤ (rd x6 2) then (if (rd x6 2) ≤ (x0.size : Int) then (if 0 ≤ (wrap64 ((rd x6 2) + 1)) then (if (wrap64 ((rd x6 2) + 1)) ≤ (rd x6 3) then (if (rd x6 3) ≤ (x0.size : Int) then (if (x0.extract ((wrap64 ((rd x6 1) + 1)) : Int).toNat ((rd x6 2) : Int).toNat).toList = ([66] : List UInt8) then (if (x0.extract 2 ((rd x6 1) : Int).toNat).toList = ([] : List UInt8) then (some (x0.extract 2 ((rd x6 1) : Int).toNat, x0.extract ((wrap64 ((rd x6 1) + 1)) : Int).toNat ((rd x6 2) : Int).toNat, x0.extract ((wrap64 ((rd x6 2) + 1)) : Int).toNat ((rd x6 3) : Int).toNat, false)) else (some (x0.extract 2 ((rd x6 1) : Int).toNat, x0.extract ((wrap64 ((rd x6 1) + 1)) : Int).toNat ((rd x6 2) : Int).toNat, x0.extract ((wrap64 ((rd x6 2) + 1)) : Int).toNat ((rd x6 3) : Int).toNat, true))) else (if (x0.extract ((wrap64 ((rd x6 1) + 1)) : Int).toNat ((rd x6 2) : Int).toNat).toList = ([98] : List UInt8) then (if (x0.extract 2 ((rd x6 1) : Int).toNat).toList = ([] : List UInt8) then (some (x0.extract 2 ((rd x6 1) : Int).toNat, x0.extract ((wrap64 ((rd x6 1) + 1)) : Int).toNat ((rd x6 2) : Int).toNat, x0.extract ((wrap64 ((rd x6 2) + 1)) : Int).toNat ((rd x6 3) : Int).toNat, false)) else (some (x0.extract 2 ((rd x6 1) : Int).toNat, x0.extract ((wrap64 ((rd x6 1) + 1)) : Int).toNat ((rd x6 2) : Int).toNat, x0.extract ((wrap64 ((rd x6 2) + 1)) : Int).toNat ((rd x6 3) : Int).toNat, true))) else (if (x0.extract ((wrap64 ((rd x6 1) + 1)) : Int).toNat ((rd x6 2) : Int).toNat).toList = ([81] : List UInt8) then (if (x0.extract 2 ((rd x6 1) : Int).toNat).toList = ([] : List UInt8) then (some (x0.extract 2 ((rd x6 1) : Int).toNat, x0.extract ((wrap64 ((rd x6 1) + 1)) : Int).toNat ((rd x6 2) : Int).toNat, x0.extract ((wrap64 ((rd x6 2) + 1)) : Int).toNat ((rd x6 3) : Int).toNat, false)) else (some (x0.extract 2 ((rd x6 1) : Int).toNat, x0.extract ((wrap64 ((rd x6 1) + 1)) : Int).toNat ((rd x6 2) : Int).toNat, x0.extract ((wrap64 ((rd x6 2) + 1)) : Int).toNat ((rd x6 3) : Int).toNat, true))) else (if (x0.extract 2 ((rd x6 1) : Int).toNat).toList = ([] : List UInt8) then (some (x0.extract 2 ((rd x6 1) : Int).toNat, x0.extract ((wrap64 ((rd x6 1) + 1)) : Int).toNat ((rd x6 2) : Int).toNat, x0.extract ((wrap64 ((rd x6 2) + 1)) : Int).toNat ((rd x6 3) : Int).toNat, false)) else (some (x0.extract 2 ((rd x6 1) : Int).toNat, x0.extract ((wrap64 ((rd x6 1) + 1)) : Int).toNat ((rd x6 2) : Int).toNat, x0.extract ((wrap64 ((rd x6 2) + 1)) : Int).toNat ((rd x6 3) : Int).toNat, ((x0.extract ((wrap64 ((rd x6 1) + 1)) : Int).toNat ((rd x6 2) : Int).toNat).toList == ([113] : List UInt8)))))))) else (none)) else (none)) else (none)) else (none)) else (none)) else (none)) else (none)) else (none)) else (none)) else (none)) else (some ((⟨#[]⟩ : ByteArray), (⟨#[]⟩ : ByteArray), (⟨#[]⟩ : ByteArray), false))) else (none)) else (none)) else (some ((⟨#[]⟩ : ByteArray), (⟨#[]⟩ : ByteArray), (⟨#[]⟩ : ByteArray), false))) else (none)) else (some ((⟨#[]⟩ : ByteArray), (⟨#[]⟩ : ByteArray), (⟨#[]⟩ : ByteArray), false))) else (none)) else (some ((⟨#[]⟩ : ByteArray), (⟨#[]⟩ : ByteArray), (⟨#[]⟩ : ByteArray), false))) else (none)) else (some ((⟨#[]⟩ : ByteArray), (⟨#[]⟩ : ByteArray), (⟨#[]⟩ : ByteArray), false)))
def posthornref17_Parts.j1 : Nat → ByteArray → List Int → Int → Bool → Option (ByteArray × ByteArray × ByteArray × Bool)
  | 0, _, _, _, _ => none
  | k + 1, x0, x6, x7, x27 => if x27 = true then (some ((⟨#[]⟩ : ByteArray), (⟨#[]⟩ : ByteArray), (⟨#[]⟩ : ByteArray), false)) else (if 0 ≤ x7 then (if x7 < (x0.size : Int) then (if (bt x0 x7) = 63 then (if x6.length < 17592186044416 then (posthornref17_Parts.l0 k x0 (x6 ++ [x7]) (wrap64 (x7 + 1))) else (none)) else (posthornref17_Parts.l0 k x0 x6 (wrap64 (x7 + 1)))) else (none)) else (none))
end
def posthornref17_Parts.f (k : Nat) (a0 : ByteArray) : Option (ByteArray × ByteArray × ByteArray × Bool) := posthornref17_Parts.l0 k a0 ([] : List Int) 0
theorem posthornref17_Parts.mono_l : ∀ k, (∀ y0 y1 y2, LeO (posthornref17_Parts.l0 k y0 y1 y2) (posthornref17_Parts.l0 (k + 1) y0 y1 y2)) ∧ (∀ y0 y1 y2 y3, LeO (posthornref17_Parts.j1 k y0 y1 y2 y3) (posthornref17_Parts.j1 (k + 1) y0 y1 y2 y3))
  | 0 => ⟨fun _ _ _ r h => by simp [posthornref17_Parts.l0] at h, fun _ _ _ _ r h => by simp [posthornref17_Parts.j1] at h⟩
  | k + 1 => by
    obtain ⟨ih0, ih1⟩ := posthornref17_Parts.mono_l k
    refine ⟨?_, ?_⟩
    · intro y0 y1 y2
      unfold posthornref17_Parts.l0
      repeat' first
      | (with_reducible exact ih0 _ _ _)
      | (with_reducible exact ih1 _ _ _ _)
      | (with_reducible exact LeO.refl _)
      | (with_reducible exact LeO.none _)
      | (with_reducible refine LeO.ite ?_ ?_)
      | (with_reducible refine LeO.bind ?_ (fun _ => ?_))
      | exact ih0 _ _ _
      | exact ih1 _ _ _ _
      | exact LeO.none _
      | refine LeO.ite ?_ ?_
      | refine LeO.bind ?_ (fun _ => ?_)
    · intro y0 y1 y2 y3
      unfold posthornref17_Parts.j1
      repeat' first
      | (with_reducible exact ih0 _ _ _)
      | (with_reducible exact ih1 _ _ _ _)
      | (with_reducible exact LeO.refl _)
      | (with_reducible exact LeO.none _)
      | (with_reducible refine LeO.ite ?_ ?_)
      | (with_reducible refine LeO.bind ?_ (fun _ => ?_))
      | exact ih0 _ _ _
      | exact ih1 _ _ _ _
      | exact LeO.none _
      | refine LeO.ite ?_ ?_
      | refine LeO.bind ?_ (fun _ => ?_)
theorem posthornref17_Parts.mono : ∀ a0 k, LeO (posthornref17_Parts.f k a0) (posthornref17_Parts.f (k + 1) a0) := by
  intro a0 k
  obtain ⟨ih0, ih1⟩ := posthornref17_Parts.mono_l k
  unfold posthornref17_Parts.f
  repeat' first
      | (with_reducible exact ih0 _ _ _)
      | (with_reducible exact ih1 _ _ _ _)
      | (with_reducible exact LeO.refl _)
      | (with_reducible exact LeO.none _)
      | (with_reducible refine LeO.ite ?_ ?_)
      | (with_reducible refine LeO.bind ?_ (fun _ => ?_))
      | exact ih0 _ _ _
      | exact ih1 _ _ _ _
      | exact LeO.none _
      | refine LeO.ite ?_ ?_
      | refine LeO.bind ?_ (fun _ => ?_)
set_option maxHeartbeats 8000000 in
set_option maxRecDepth 100000 in
theorem posthornref17_Parts.calls (k : Nat) (a0 : ByteArray) (r1 : ByteArray) (r2 : ByteArray) (r3 : ByteArray) (r4 : Bool) (w : World) (h : posthornref17_Parts.f k a0 = some (r1, r2, r3, r4)) :
    Calls Tryd.prog 35 #[.string a0] w fun e w' => e = .returned (.tuple #[.string r1, .string r2, .string r3, .bool r4]) ∧ Below w.heap.size w w' := by
  have HB := Aside0.mk (Below.refl w.heap.size w)
  have H : (posthornref17_Parts.l0 k a0 ([] : List Int) 0) = some (r1, r2, r3, r4) := h
  clear h
  have H' := Aside0.mk H
  clear H
  go_enter Tryd.func35, Tryd.ntmps35
  go_wp2
  repeat (go_quiet (fail); try go_wp2)
  go_loopg [6, 7] k (fun kq v6 v7 w' => ∃ (x6_1 : List Int) (x7_1 : Int), v7 = .int .i64 x7_1 ∧ Aside0 (posthornref17_Parts.l0 kq a0 x6_1 x7_1 = some (r1, r2, r3, r4)) ∧ Aside0 (kq ≤ k) ∧ Aside0 (Kd.R (Kd.int .i64) 3 w' w.heap.size (fun _ => True) v6 x6_1) ∧ Aside0 (Below w.heap.size w w'))
  case atStart => exact ⟨(([] : List Int)), (0), (by first | rfl | (simp; done) | (simp [*]; done)), H', ⟨Nat.le_refl _⟩, ⟨by first | exact Kd.R_nil _ _ _ _ _ | exact Kd.N_nil _ _ _ _ _ | exact Kd.V_nil _ _ _ _ _ | exact Kd.Q_nil _ _ _ _ _ | exact Kd.S_nil _ _ _ _ _⟩, ⟨by repeat (first | (with_reducible first | exact HB.out | apply below_alloc | apply pw_below_drewN | apply below_drew1) | exact HB.out)⟩⟩
  case round =>
    clear H'
    obtain ⟨x6_1, x7_1, rfl, HA, HK1, HO_6, HB⟩ := hrel
    cases gk with
    | zero => exact absurd HA.out (by simp [posthornref17_Parts.l0])
    | succ k1 =>
      have H := HA.out
      clear HA
      simp only [posthornref17_Parts.l0] at H
      by_cases c2 : x7_1 < (a0.size : Int)
      · rw [if_pos c2] at H
        have c2b0 : decide (x7_1 < (a0.size : Int)) = true := decide_eq_true c2
        clear c2
        have HC3 := Aside0.mk H
        clear H
        go_upto_region 5 with (fail)
        repeat (go_quiet (fail); go_upto_region 5 with (fail))
        go_cut [27] (fun v27 wc => ∃ (kq : Nat) (x27_2 : Bool), v27 = .bool x27_2 ∧ Aside0 (posthornref17_Parts.j1 kq a0 x6_1 x7_1 x27_2 = some (r1, r2, r3, r4)) ∧ Aside0 (kq ≤ k1) ∧ Aside0 (Kd.R (Kd.int .i64) 3 wc w.heap.size (fun _ => True) u6 x6_1) ∧ Aside0 (Below w.heap.size w wc))
        case first =>
          have H := HC3.out
          clear HC3
          by_cases c4 : 0 ≤ x7_1
          · rw [if_pos c4] at H
            have c4b0 : decide (0 ≤ x7_1) = true := decide_eq_true c4
            clear c4
            (first | rw [c4b0] | (simp only [i64_w, i32_w]; rw [c4b0]) | skip)
            by_cases c6 : (bt a0 x7_1) < 33
            · rw [if_pos c6] at H
              have c6b0 : decide ((bt a0 x7_1) < 33) = true := decide_eq_true c6
              clear c6
              have H' := Aside0.mk H
              clear H
              have p5 : 0 ≤ (x7_1 : Int) := of_decide_eq_true (by first | (with_reducible assumption) | assumption)
              have q5 : x7_1 < (a0.size : Int) := of_decide_eq_true (by first | (with_reducible assumption) | assumption)
              have hx5 := bt_at a0 x7_1
              replace p5 := eq_true p5
              replace q5 := eq_true q5
              go_wp2
              repeat (go_quiet (fail); try go_wp2)
              go_meet
              case rel => exact ⟨_, (true), (by first | rfl | (simp; done) | (simp [*]; done)), H', ⟨by have := HK1.out; first | omega | exact Nat.le_refl _⟩, ⟨by (with_reducible repeat (first | apply Kd.R_alloc | apply Kd.R_drewN | apply Kd.R_drew)); exact HO_6.out⟩, ⟨by repeat (first | (with_reducible first | exact HB.out | apply below_alloc | apply pw_below_drewN | apply below_drew1) | exact HB.out)⟩⟩
            · rw [if_neg c6] at H
              have c6b0 : decide ((bt a0 x7_1) < 33) = false := decide_eq_false c6
              clear c6
              have H' := Aside0.mk H
              clear H
              have p5 : 0 ≤ (x7_1 : Int) := of_decide_eq_true (by first | (with_reducible assumption) | assumption)
              have q5 : x7_1 < (a0.size : Int) := of_decide_eq_true (by first | (with_reducible assumption) | assumption)
              have hx5 := bt_at a0 x7_1
              replace p5 := eq_true p5
              replace q5 := eq_true q5
              have p7 : 0 ≤ (x7_1 : Int) := of_decide_eq_true (by first | (with_reducible assumption) | assumption)
              have q7 : x7_1 < (a0.size : Int) := of_decide_eq_true (by first | (with_reducible assumption) | assumption)
              have hx7 := bt_at a0 x7_1
              replace p7 := eq_true p7
              replace q7 := eq_true q7
              go_wp2
              repeat (go_quiet (fail); try go_wp2)
              go_meet
              case rel => exact ⟨_, (decide ((bt a0 x7_1) > 126)), (by first | rfl | (simp; done) | (simp [*]; done)), H', ⟨by have := HK1.out; first | omega | exact Nat.le_refl _⟩, ⟨by (with_reducible repeat (first | apply Kd.R_alloc | apply Kd.R_drewN | apply Kd.R_drew)); exact HO_6.out⟩, ⟨by repeat (first | (with_reducible first | exact HB.out | apply below_alloc | apply pw_below_drewN | apply below_drew1) | exact HB.out)⟩⟩
          · rw [if_neg c4] at H
            exact absurd H (by simp)
        case rest =>
          clear HC3
          try clear c2
          try clear c2b0
          try clear p2
          try clear c3
          try clear c4
          try clear c4b0
          try clear p5
          try clear q5
          try clear hx5
          try clear c6
          try clear c6b0
          try clear p7
          try clear q7
          try clear hx7
          try clear p5
          try clear p7
          try clear q5
          try clear q7
          obtain ⟨kq, x27_2, rfl, HA, HJ2, HO_6, HB⟩ := hcut
          cases kq with
          | zero => exact absurd HA.out (by simp [posthornref17_Parts.j1])
          | succ kj2 =>
            have H := HA.out
            clear HA
            simp only [posthornref17_Parts.j1] at H
            by_cases c8 : x27_2 = true
            · subst c8
              have H1 : (some ((⟨#[]⟩ : ByteArray), (⟨#[]⟩ : ByteArray), (⟨#[]⟩ : ByteArray), false)) = some (r1, r2, r3, r4) := by rw [if_pos rfl] at H; exact H
              clear H
              have H := H1
              clear H1
              simp only [Option.some.injEq, Prod.mk.injEq] at H
              obtain ⟨rfl, rfl, rfl, rfl⟩ := H
              go_wp2
              repeat (go_quiet (fail); try go_wp2)
              refine bodyPost_ret (results_list (rs := [.tmp 2, .tmp 3, .tmp 4, .tmp 5]) rfl (by simp) (.tmp (.tmp (.tmp (.tmp .nil))))) rfl ?_
              exact ⟨by first | rfl | (simp [errW_none, errW_some] <;> rfl) | (simp [*, errW_none, errW_some] <;> rfl), by repeat (first | (with_reducible first | exact HB.out | apply below_alloc | apply pw_below_drewN | apply below_drew1) | exact HB.out)⟩
            · replace c8 := Bool.eq_false_iff.mpr c8
              subst c8
              have H1 : (if 0 ≤ x7_1 then (if x7_1 < (a0.size : Int) then (if (bt a0 x7_1) = 63 then (if x6_1.length < 17592186044416 then (posthornref17_Parts.l0 kj2 a0 (x6_1 ++ [x7_1]) (wrap64 (x7_1 + 1))) else (none)) else (posthornref17_Parts.l0 kj2 a0 x6_1 (wrap64 (x7_1 + 1)))) else (none)) else (none)) = some (r1, r2, r3, r4) := by rw [if_neg (show ¬ (false = true) by decide)] at H; exact H
              clear H
              have H := H1
              clear H1
              by_cases c9 : 0 ≤ x7_1
              · rw [if_pos c9] at H
                have c9b0 : decide (0 ≤ x7_1) = true := decide_eq_true c9
                clear c9
                by_cases c10 : x7_1 < (a0.size : Int)
                · rw [if_pos c10] at H
                  have c10b0 : decide (x7_1 < (a0.size : Int)) = true := decide_eq_true c10
                  clear c10
                  by_cases c12 : (bt a0 x7_1) = 63
                  · rw [if_pos c12] at H
                    have c12b0 : ((bt a0 x7_1) == 63) = true := beq_iff_eq.mpr c12
                    have c12b1 : ((bt a0 x7_1) != 63) = false := bne_eq_false_iff_eq.mpr c12
                    clear c12
                    by_cases c13 : x6_1.length < 17592186044416
                    · rw [if_pos c13] at H
                      have LMc13 := Aside0.mk c13
                      clear c13
                      obtain ⟨y166, hy166⟩ : ∃ y_ : List Int, y_ = (x6_1 ++ [x7_1]) := ⟨_, rfl⟩
                      replace H : (posthornref17_Parts.l0 kj2 a0 y166 (wrap64 (x7_1 + 1))) = some (r1, r2, r3, r4) := by first | (rw [hy166]; with_reducible exact H) | (have H2_ := (Option.bind_some _ _).symm.trans H; rw [hy166]; with_reducible exact H2_) | (have H2_ := (Option.bind_some _ _).symm.trans H; with_reducible exact H2_) | with_reducible exact H | (rw [hy166]; exact H) | exact H
                      have Ny166 := Aside0.mk hy166
                      clear hy166
                      have H' := Aside0.mk H
                      clear H
                      have p11 : 0 ≤ (x7_1 : Int) := of_decide_eq_true (by first | (with_reducible assumption) | assumption)
                      have q11 : x7_1 < (a0.size : Int) := of_decide_eq_true (by first | (with_reducible assumption) | assumption)
                      have hx11 := bt_at a0 x7_1
                      replace p11 := eq_true p11
                      replace q11 := eq_true q11
                      go_wp2_with (first | ((with_reducible refine gate_builtin (b := .append) (xs := #[.tmp 32, .tmp 34]) rfl ?_); (try (refine gate_guard (by rfl) ?_; dsimp only)); at_builtin; refine Kd.R_append (Kd.int .i64) (w0 := w) w.heap.size rfl (.tmp 32) (.tmp 34) 86 3 (.int .i64 0) 8 rfl Tryd.underlying86 info3 rfl (by decide) (by omega) u6 x6_1 x7_1 [.int .i64 x7_1] (fun _ => True) (fun _ => False) rfl rfl ?aP (fun _ hk => hk.elim) ?aF ?aO ?aB ?aS ?aL ?_; (case aP => exact rfl); (case aB => exact (by repeat (first | (with_reducible first | exact HB.out | apply below_alloc | apply pw_below_drewN | apply below_drew1) | exact HB.out))); (case aF => exact (fun _ _ => trivial)); (case aO => exact (by (with_reducible repeat (first | apply Kd.R_alloc | apply Kd.R_drewN | apply Kd.R_drew)); exact HO_6.out)); (case aS => exact (below_size (by repeat (first | (with_reducible first | exact HB.out | apply below_alloc | apply pw_below_drewN | apply below_drew1) | exact HB.out)))); (case aL => have := LMc13.out; omega); intro v167 w14 ho hb hg hat; rw [← Ny166.out] at ho; have n0_ := Aside0.mk (hb); have n1_ := Aside0.mk (ho); clear HB; clear HO_6; have HB := n0_; have HO168 := n1_; clear n0_ n1_; clear ho hb hg hat))
                      repeat (go_quiet (first | ((with_reducible refine gate_builtin (b := .append) (xs := #[.tmp 32, .tmp 34]) rfl ?_); (try (refine gate_guard (by rfl) ?_; dsimp only)); at_builtin; refine Kd.R_append (Kd.int .i64) (w0 := w) w.heap.size rfl (.tmp 32) (.tmp 34) 86 3 (.int .i64 0) 8 rfl Tryd.underlying86 info3 rfl (by decide) (by omega) u6 x6_1 x7_1 [.int .i64 x7_1] (fun _ => True) (fun _ => False) rfl rfl ?aP (fun _ hk => hk.elim) ?aF ?aO ?aB ?aS ?aL ?_; (case aP => exact rfl); (case aB => exact (by repeat (first | (with_reducible first | exact HB.out | apply below_alloc | apply pw_below_drewN | apply below_drew1) | exact HB.out))); (case aF => exact (fun _ _ => trivial)); (case aO => exact (by (with_reducible repeat (first | apply Kd.R_alloc | apply Kd.R_drewN | apply Kd.R_drew)); exact HO_6.out)); (case aS => exact (below_size (by repeat (first | (with_reducible first | exact HB.out | apply below_alloc | apply pw_below_drewN | apply below_drew1) | exact HB.out)))); (case aL => have := LMc13.out; omega); intro v167 w14 ho hb hg hat; rw [← Ny166.out] at ho; have n0_ := Aside0.mk (hb); have n1_ := Aside0.mk (ho); clear HB; clear HO_6; have HB := n0_; have HO168 := n1_; clear n0_ n1_; clear ho hb hg hat)); try go_wp2_with (first | ((with_reducible refine gate_builtin (b := .append) (xs := #[.tmp 32, .tmp 34]) rfl ?_); (try (refine gate_guard (by rfl) ?_; dsimp only)); at_builtin; refine Kd.R_append (Kd.int .i64) (w0 := w) w.heap.size rfl (.tmp 32) (.tmp 34) 86 3 (.int .i64 0) 8 rfl Tryd.underlying86 info3 rfl (by decide) (by omega) u6 x6_1 x7_1 [.int .i64 x7_1] (fun _ => True) (fun _ => False) rfl rfl ?aP (fun _ hk => hk.elim) ?aF ?aO ?aB ?aS ?aL ?_; (case aP => exact rfl); (case aB => exact (by repeat (first | (with_reducible first | exact HB.out | apply below_alloc | apply pw_below_drewN | apply below_drew1) | exact HB.out))); (case aF => exact (fun _ _ => trivial)); (case aO => exact (by (with_reducible repeat (first | apply Kd.R_alloc | apply Kd.R_drewN | apply Kd.R_drew)); exact HO_6.out)); (case aS => exact (below_size (by repeat (first | (with_reducible first | exact HB.out | apply below_alloc | apply pw_below_drewN | apply below_drew1) | exact HB.out)))); (case aL => have := LMc13.out; omega); intro v167 w14 ho hb hg hat; rw [← Ny166.out] at ho; have n0_ := Aside0.mk (hb); have n1_ := Aside0.mk (ho); clear HB; clear HO_6; have HB := n0_; have HO168 := n1_; clear n0_ n1_; clear ho hb hg hat)))
                      go_roundg kj2
                      case measure => have := HK1.out; have := HJ2.out; omega
                      case rel => exact ⟨(y166), (wrap64 (x7_1 + 1)), (by first | rfl | (simp; done) | (simp [*]; done)), H', ⟨by have := HK1.out; have := HJ2.out; omega⟩, ⟨by (with_reducible repeat (first | apply Kd.R_alloc | apply Kd.R_drewN | apply Kd.R_drew)); exact HO168.out⟩, ⟨by repeat (first | (with_reducible first | exact HB.out | apply below_alloc | apply pw_below_drewN | apply below_drew1) | exact HB.out)⟩⟩
                    · rw [if_neg c13] at H
                      exact absurd H (by simp)
                  · rw [if_neg c12] at H
                    have c12b0 : ((bt a0 x7_1) == 63) = false := beq_eq_false_iff_ne.mpr c12
                    have c12b1 : ((bt a0 x7_1) != 63) = true := bne_iff_ne.mpr c12
                    have H' := Aside0.mk H
                    clear H
                    have p11 : 0 ≤ (x7_1 : Int) := of_decide_eq_true (by first | (with_reducible assumption) | assumption)
                    have q11 : x7_1 < (a0.size : Int) := of_decide_eq_true (by first | (with_reducible assumption) | assumption)
                    have hx11 := bt_at a0 x7_1
                    replace p11 := eq_true p11
                    replace q11 := eq_true q11
                    go_wp2
                    repeat (go_quiet (fail); try go_wp2)
                    go_roundg kj2
                    case measure => have := HK1.out; have := HJ2.out; omega
                    case rel => exact ⟨(x6_1), (wrap64 (x7_1 + 1)), (by first | rfl | (simp; done) | (simp [*]; done)), H', ⟨by have := HK1.out; have := HJ2.out; omega⟩, ⟨by (with_reducible repeat (first | apply Kd.R_alloc | apply Kd.R_drewN | apply Kd.R_drew)); exact HO_6.out⟩, ⟨by repeat (first | (with_reducible first | exact HB.out | apply below_alloc | apply pw_below_drewN | apply below_drew1) | exact HB.out)⟩⟩
                · rw [if_neg c10] at H
                  exact absurd H (by simp)
              · rw [if_neg c9] at H
                exact absurd H (by simp)
      · rw [if_neg c2] at H
        have c2b0 : decide (x7_1 < (a0.size : Int)) = false := decide_eq_false c2
        clear c2
        by_cases c15 : (x6_1.length : Int) = 4
        · rw [if_pos c15] at H
          have c15b0 : ((x6_1.length : Int) == 4) = true := beq_iff_eq.mpr c15
          have c15b1 : ((x6_1.length : Int) != 4) = false := bne_eq_false_iff_eq.mpr c15
          clear c15
          by_cases c16 : 0 < (x6_1.length : Int)
          · rw [if_pos c16] at H
            have c16b0 : decide (0 < (x6_1.length : Int)) = true := decide_eq_true c16
            have c16b1 : decide (0 < x6_1.length) = true := decide_eq_true (by omega)
            clear c16
            by_cases c17 : (rd x6_1 0) = 1
            · rw [if_pos c17] at H
              have c17b0 : ((rd x6_1 0) == 1) = true := beq_iff_eq.mpr c17
              have c17b1 : ((rd x6_1 0) != 1) = false := bne_eq_false_iff_eq.mpr c17
              clear c17
              by_cases c18 : 3 < (x6_1.length : Int)
              · rw [if_pos c18] at H
                have c18b0 : decide (3 < (x6_1.length : Int)) = true := decide_eq_true c18
                have c18b1 : decide (3 < x6_1.length) = true := decide_eq_true (by omega)
                clear c18
                by_cases c19 : (rd x6_1 3) = (wrap64 ((a0.size : Int) - 2))
                · rw [if_pos c19] at H
                  have c19b0 : ((rd x6_1 3) == (wrap64 ((a0.size : Int) - 2))) = true := beq_iff_eq.mpr c19
                  have c19b1 : ((rd x6_1 3) != (wrap64 ((a0.size : Int) - 2))) = false := bne_eq_false_iff_eq.mpr c19
                  clear c19
                  by_cases c20 : 0 < (a0.size : Int)
                  · rw [if_pos c20] at H
                    have c20b0 : decide (0 < (a0.size : Int)) = true := decide_eq_true c20
                    have c20b1 : decide (0 < a0.size) = true := decide_eq_true (by omega)
                    clear c20
                    by_cases c22 : (bt a0 0) = 61
                    · rw [if_pos c22] at H
                      have c22b0 : ((bt a0 0) == 61) = true := beq_iff_eq.mpr c22
                      have c22b1 : ((bt a0 0) != 61) = false := bne_eq_false_iff_eq.mpr c22
                      clear c22
                      obtain ⟨ji23, hji23⟩ : ∃ j_ : Int, (wrap64 ((a0.size : Int) - 1)) = j_ := ⟨_, rfl⟩
                      replace H : (if 0 ≤ (ji23) then (if (ji23) < (a0.size : Int) then (if (bt a0 (ji23)) = 61 then (if 1 < (x6_1.length : Int) then (if 2 ≤ (rd x6_1 1) then (if (rd x6_1 1) ≤ (a0.size : Int) then (if 2 < (x6_1.length : Int) then (if 0 ≤ (wrap64 ((rd x6_1 1) + 1)) then (if (wrap64 ((rd x6_1 1) + 1)) ≤ (rd x6_1 2) then (if (rd x6_1 2) ≤ (a0.size : Int) then (if 0 ≤ (wrap64 ((rd x6_1 2) + 1)) then (if (wrap64 ((rd x6_1 2) + 1)) ≤ (rd x6_1 3) then (if (rd x6_1 3) ≤ (a0.size : Int) then (if (a0.extract ((wrap64 ((rd x6_1 1) + 1)) : Int).toNat ((rd x6_1 2) : Int).toNat).toList = ([66] : List UInt8) then (if (a0.extract 2 ((rd x6_1 1) : Int).toNat).toList = ([] : List UInt8) then (some (a0.extract 2 ((rd x6_1 1) : Int).toNat, a0.extract ((wrap64 ((rd x6_1 1) + 1)) : Int).toNat ((rd x6_1 2) : Int).toNat, a0.extract ((wrap64 ((rd x6_1 2) + 1)) : Int).toNat ((rd x6_1 3) : Int).toNat, false)) else (some (a0.extract 2 ((rd x6_1 1) : Int).toNat, a0.extract ((wrap64 ((rd x6_1 1) + 1)) : Int).toNat ((rd x6_1 2) : Int).toNat, a0.extract ((wrap64 ((rd x6_1 2) + 1)) : Int).toNat ((rd x6_1 3) : Int).toNat, true))) else (if (a0.extract ((wrap64 ((rd x6_1 1) + 1)) : Int).toNat ((rd x6_1 2) : Int).toNat).toList = ([98] : List UInt8) then (if (a0.extract 2 ((rd x6_1 1) : Int).toNat).toList = ([] : List UInt8) then (some (a0.extract 2 ((rd x6_1 1) : Int).toNat, a0.extract ((wrap64 ((rd x6_1 1) + 1)) : Int).toNat ((rd x6_1 2) : Int).toNat, a0.extract ((wrap64 ((rd x6_1 2) + 1)) : Int).toNat ((rd x6_1 3) : Int).toNat, false)) else (some (a0.extract 2 ((rd x6_1 1) : Int).toNat, a0.extract ((wrap64 ((rd x6_1 1) + 1)) : Int).toNat ((rd x6_1 2) : Int).toNat, a0.extract ((wrap64 ((rd x6_1 2) + 1)) : Int).toNat ((rd x6_1 3) : Int).toNat, true))) else (if (a0.extract ((wrap64 ((rd x6_1 1) + 1)) : Int).toNat ((rd x6_1 2) : Int).toNat).toList = ([81] : List UInt8) then (if (a0.extract 2 ((rd x6_1 1) : Int).toNat).toList = ([] : List UInt8) then (some (a0.extract 2 ((rd x6_1 1) : Int).toNat, a0.extract ((wrap64 ((rd x6_1 1) + 1)) : Int).toNat ((rd x6_1 2) : Int).toNat, a0.extract ((wrap64 ((rd x6_1 2) + 1)) : Int).toNat ((rd x6_1 3) : Int).toNat, false)) else (some (a0.extract 2 ((rd x6_1 1) : Int).toNat, a0.extract ((wrap64 ((rd x6_1 1) + 1)) : Int).toNat ((rd x6_1 2) : Int).toNat, a0.extract ((wrap64 ((rd x6_1 2) + 1)) : Int).toNat ((rd x6_1 3) : Int).toNat, true))) else (if (a0.extract 2 ((rd x6_1 1) : Int).toNat).toList = ([] : List UInt8) then (some (a0.extract 2 ((rd x6_1 1) : Int).toNat, a0.extract ((wrap64 ((rd x6_1 1) + 1)) : Int).toNat ((rd x6_1 2) : Int).toNat, a0.extract ((wrap64 ((rd x6_1 2) + 1)) : Int).toNat ((rd x6_1 3) : Int).toNat, false)) else (some (a0.extract 2 ((rd x6_1 1) : Int).toNat, a0.extract ((wrap64 ((rd x6_1 1) + 1)) : Int).toNat ((rd x6_1 2) : Int).toNat, a0.extract ((wrap64 ((rd x6_1 2) + 1)) : Int).toNat ((rd x6_1 3) : Int).toNat, ((a0.extract ((wrap64 ((rd x6_1 1) + 1)) : Int).toNat ((rd x6_1 2) : Int).toNat).toList == ([113] : List UInt8)))))))) else (none)) else (none)) else (none)) else (none)) else (none)) else (none)) else (none)) else (none)) else (none)) else (none)) else (some ((⟨#[]⟩ : ByteArray), (⟨#[]⟩ : ByteArray), (⟨#[]⟩ : ByteArray), false))) else (none)) else (none)) = some (r1, r2, r3, r4) := by first | (rw [hji23] at H; exact H) | (simp only [hji23] at H ⊢; exact H)
                      have hji23w : (IntKind.i64.wrap ((a0.size : Int) - 1)) = ji23 := (i64_w _).trans hji23
                      by_cases c24 : 0 ≤ (ji23)
                      · rw [if_pos c24] at H
                        have c24b0 : decide (0 ≤ (ji23)) = true := decide_eq_true c24
                        clear c24
                        by_cases c25 : (ji23) < (a0.size : Int)
                        · rw [if_pos c25] at H
                          have c25b0 : decide ((ji23) < (a0.size : Int)) = true := decide_eq_true c25
                          clear c25
                          by_cases c27 : (bt a0 (ji23)) = 61
                          · rw [if_pos c27] at H
                            have c27b0 : ((bt a0 (ji23)) == 61) = true := beq_iff_eq.mpr c27
                            have c27b1 : ((bt a0 (ji23)) != 61) = false := bne_eq_false_iff_eq.mpr c27
                            clear c27
                            by_cases c28 : 1 < (x6_1.length : Int)
                            · rw [if_pos c28] at H
                              have c28b0 : decide (1 < (x6_1.length : Int)) = true := decide_eq_true c28
                              have c28b1 : decide (1 < x6_1.length) = true := decide_eq_true (by omega)
                              clear c28
                              by_cases c29 : 2 ≤ (rd x6_1 1)
                              · rw [if_pos c29] at H
                                have c29b0 := eq_true c29
                                have c29b1 : decide (2 ≤ (rd x6_1 1)) = true := decide_eq_true c29
                                clear c29
                                by_cases c30 : (rd x6_1 1) ≤ (a0.size : Int)
                                · rw [if_pos c30] at H
                                  have c30b0 := eq_true c30
                                  have c30b1 : decide ((rd x6_1 1) ≤ (a0.size : Int)) = true := decide_eq_true c30
                                  clear c30
                                  by_cases c31 : 2 < (x6_1.length : Int)
                                  · rw [if_pos c31] at H
                                    have c31b0 : decide (2 < (x6_1.length : Int)) = true := decide_eq_true c31
                                    have c31b1 : decide (2 < x6_1.length) = true := decide_eq_true (by omega)
                                    clear c31
                                    obtain ⟨ji32, hji32⟩ : ∃ j_ : Int, (wrap64 ((rd x6_1 1) + 1)) = j_ := ⟨_, rfl⟩
                                    replace H : (if 0 ≤ (ji32) then (if (ji32) ≤ (rd x6_1 2) then (if (rd x6_1 2) ≤ (a0.size : Int) then (if 0 ≤ (wrap64 ((rd x6_1 2) + 1)) then (if (wrap64 ((rd x6_1 2) + 1)) ≤ (rd x6_1 3) then (if (rd x6_1 3) ≤ (a0.size : Int) then (if (a0.extract ((ji32) : Int).toNat ((rd x6_1 2) : Int).toNat).toList = ([66] : List UInt8) then (if (a0.extract 2 ((rd x6_1 1) : Int).toNat).toList = ([] : List UInt8) then (some (a0.extract 2 ((rd x6_1 1) : Int).toNat, a0.extract ((ji32) : Int).toNat ((rd x6_1 2) : Int).toNat, a0.extract ((wrap64 ((rd x6_1 2) + 1)) : Int).toNat ((rd x6_1 3) : Int).toNat, false)) else (some (a0.extract 2 ((rd x6_1 1) : Int).toNat, a0.extract ((ji32) : Int).toNat ((rd x6_1 2) : Int).toNat, a0.extract ((wrap64 ((rd x6_1 2) + 1)) : Int).toNat ((rd x6_1 3) : Int).toNat, true))) else (if (a0.extract ((ji32) : Int).toNat ((rd x6_1 2) : Int).toNat).toList = ([98] : List UInt8) then (if (a0.extract 2 ((rd x6_1 1) : Int).toNat).toList = ([] : List UInt8) then (some (a0.extract 2 ((rd x6_1 1) : Int).toNat, a0.extract ((ji32) : Int).toNat ((rd x6_1 2) : Int).toNat, a0.extract ((wrap64 ((rd x6_1 2) + 1)) : Int).toNat ((rd x6_1 3) : Int).toNat, false)) else (some (a0.extract 2 ((rd x6_1 1) : Int).toNat, a0.extract ((ji32) : Int).toNat ((rd x6_1 2) : Int).toNat, a0.extract ((wrap64 ((rd x6_1 2) + 1)) : Int).toNat ((rd x6_1 3) : Int).toNat, true))) else (if (a0.extract ((ji32) : Int).toNat ((rd x6_1 2) : Int).toNat).toList = ([81] : List UInt8) then (if (a0.extract 2 ((rd x6_1 1) : Int).toNat).toList = ([] : List UInt8) then (some (a0.extract 2 ((rd x6_1 1) : Int).toNat, a0.extract ((ji32) : Int).toNat ((rd x6_1 2) : Int).toNat, a0.extract ((wrap64 ((rd x6_1 2) + 1)) : Int).toNat ((rd x6_1 3) : Int).toNat, false)) else (some (a0.extract 2 ((rd x6_1 1) : Int).toNat, a0.extract ((ji32) : Int).toNat ((rd x6_1 2) : Int).toNat, a0.extract ((wrap64 ((rd x6_1 2) + 1)) : Int).toNat ((rd x6_1 3) : Int).toNat, true))) else (if (a0.extract 2 ((rd x6_1 1) : Int).toNat).toList = ([] : List UInt8) then (some (a0.extract 2 ((rd x6_1 1) : Int).toNat, a0.extract ((ji32) : Int).toNat ((rd x6_1 2) : Int).toNat, a0.extract ((wrap64 ((rd x6_1 2) + 1)) : Int).toNat ((rd x6_1 3) : Int).toNat, false)) else (some (a0.extract 2 ((rd x6_1 1) : Int).toNat, a0.extract ((ji32) : Int).toNat ((rd x6_1 2) : Int).toNat, a0.extract ((wrap64 ((rd x6_1 2) + 1)) : Int).toNat ((rd x6_1 3) : Int).toNat, ((a0.extract ((ji32) : Int).toNat ((rd x6_1 2) : Int).toNat).toList == ([113] : List UInt8)))))))) else (none)) else (none)) else (none)) else (none)) else (none)) else (none)) = some (r1, r2, r3, r4) := by first | (rw [hji32] at H; exact H) | (simp only [hji32] at H ⊢; exact H)
                                    have hji32w : (IntKind.i64.wrap ((rd x6_1 1) + 1)) = ji32 := (i64_w _).trans hji32
                                    by_cases c33 : 0 ≤ (ji32)
                                    · rw [if_pos c33] at H
                                      have c33b0 := eq_true c33
                                      have c33b1 : decide (0 ≤ (ji32)) = true := decide_eq_true c33
                                      clear c33
                                      by_cases c34 : (ji32) ≤ (rd x6_1 2)
                                      · rw [if_pos c34] at H
                                        have c34b0 := eq_true c34
                                        have c34b1 : decide ((ji32) ≤ (rd x6_1 2)) = true := decide_eq_true c34
                                        clear c34
                                        by_cases c35 : (rd x6_1 2) ≤ (a0.size : Int)
                                        · rw [if_pos c35] at H
                                          have c35b0 := eq_true c35
                                          have c35b1 : decide ((rd x6_1 2) ≤ (a0.size : Int)) = true := decide_eq_true c35
                                          clear c35
                                          obtain ⟨ji36, hji36⟩ : ∃ j_ : Int, (wrap64 ((rd x6_1 2) + 1)) = j_ := ⟨_, rfl⟩
                                          replace H : (if 0 ≤ (ji36) then (if (ji36) ≤ (rd x6_1 3) then (if (rd x6_1 3) ≤ (a0.size : Int) then (if (a0.extract ((ji32) : Int).toNat ((rd x6_1 2) : Int).toNat).toList = ([66] : List UInt8) then (if (a0.extract 2 ((rd x6_1 1) : Int).toNat).toList = ([] : List UInt8) then (some (a0.extract 2 ((rd x6_1 1) : Int).toNat, a0.extract ((ji32) : Int).toNat ((rd x6_1 2) : Int).toNat, a0.extract ((ji36) : Int).toNat ((rd x6_1 3) : Int).toNat, false)) else (some (a0.extract 2 ((rd x6_1 1) : Int).toNat, a0.extract ((ji32) : Int).toNat ((rd x6_1 2) : Int).toNat, a0.extract ((ji36) : Int).toNat ((rd x6_1 3) : Int).toNat, true))) else (if (a0.extract ((ji32) : Int).toNat ((rd x6_1 2) : Int).toNat).toList = ([98] : List UInt8) then (if (a0.extract 2 ((rd x6_1 1) : Int).toNat).toList = ([] : List UInt8) then (some (a0.extract 2 ((rd x6_1 1) : Int).toNat, a0.extract ((ji32) : Int).toNat ((rd x6_1 2) : Int).toNat, a0.extract ((ji36) : Int).toNat ((rd x6_1 3) : Int).toNat, false)) else (some (a0.extract 2 ((rd x6_1 1) : Int).toNat, a0.extract ((ji32) : Int).toNat ((rd x6_1 2) : Int).toNat, a0.extract ((ji36) : Int).toNat ((rd x6_1 3) : Int).toNat, true))) else (if (a0.extract ((ji32) : Int).toNat ((rd x6_1 2) : Int).toNat).toList = ([81] : List UInt8) then (if (a0.extract 2 ((rd x6_1 1) : Int).toNat).toList = ([] : List UInt8) then (some (a0.extract 2 ((rd x6_1 1) : Int).toNat, a0.extract ((ji32) : Int).toNat ((rd x6_1 2) : Int).toNat, a0.extract ((ji36) : Int).toNat ((rd x6_1 3) : Int).toNat, false)) else (some (a0.extract 2 ((rd x6_1 1) : Int).toNat, a0.extract ((ji32) : Int).toNat ((rd x6_1 2) : Int).toNat, a0.extract ((ji36) : Int).toNat ((rd x6_1 3) : Int).toNat, true))) else (if (a0.extract 2 ((rd x6_1 1) : Int).toNat).toList = ([] : List UInt8) then (some (a0.extract 2 ((rd x6_1 1) : Int).toNat, a0.extract ((ji32) : Int).toNat ((rd x6_1 2) : Int).toNat, a0.extract ((ji36) : Int).toNat ((rd x6_1 3) : Int).toNat, false)) else (some (a0.extract 2 ((rd x6_1 1) : Int).toNat, a0.extract ((ji32) : Int).toNat ((rd x6_1 2) : Int).toNat, a0.extract ((ji36) : Int).toNat ((rd x6_1 3) : Int).toNat, ((a0.extract ((ji32) : Int).toNat ((rd x6_1 2) : Int).toNat).toList == ([113] : List UInt8)))))))) else (none)) else (none)) else (none)) = some (r1, r2, r3, r4) := by first | (rw [hji36] at H; exact H) | (simp only [hji36] at H ⊢; exact H)
                                          have hji36w : (IntKind.i64.wrap ((rd x6_1 2) + 1)) = ji36 := (i64_w _).trans hji36
                                          by_cases c37 : 0 ≤ (ji36)
                                          · rw [if_pos c37] at H
                                            have c37b0 := eq_true c37
                                            have c37b1 : decide (0 ≤ (ji36)) = true := decide_eq_true c37
                                            clear c37
                                            by_cases c38 : (ji36) ≤ (rd x6_1 3)
                                            · rw [if_pos c38] at H
                                              have c38b0 := eq_true c38
                                              have c38b1 : decide ((ji36) ≤ (rd x6_1 3)) = true := decide_eq_true c38
                                              clear c38
                                              by_cases c39 : (rd x6_1 3) ≤ (a0.size : Int)
                                              · rw [if_pos c39] at H
                                                have c39b0 := eq_true c39
                                                have c39b1 : decide ((rd x6_1 3) ≤ (a0.size : Int)) = true := decide_eq_true c39
                                                clear c39
                                                by_cases c40 : (a0.extract ((ji32) : Int).toNat ((rd x6_1 2) : Int).toNat).toList = ([66] : List UInt8)
                                                · rw [if_pos c40] at H
                                                  have c40b0 : ((a0.extract ((ji32) : Int).toNat ((rd x6_1 2) : Int).toNat).toList == ([66] : List UInt8)) = true := beq_iff_eq.mpr c40
                                                  have c40b1 : ((a0.extract ((ji32) : Int).toNat ((rd x6_1 2) : Int).toNat).toList != ([66] : List UInt8)) = false := bne_eq_false_iff_eq.mpr c40
                                                  clear c40
                                                  by_cases c41 : (a0.extract 2 ((rd x6_1 1) : Int).toNat).toList = ([] : List UInt8)
                                                  · rw [if_pos c41] at H
                                                    have c41b0 : ((a0.extract 2 ((rd x6_1 1) : Int).toNat).toList == ([] : List UInt8)) = true := beq_iff_eq.mpr c41
                                                    have c41b1 : ((a0.extract 2 ((rd x6_1 1) : Int).toNat).toList != ([] : List UInt8)) = false := bne_eq_false_iff_eq.mpr c41
                                                    clear c41
                                                    simp only [Option.some.injEq, Prod.mk.injEq] at H
                                                    obtain ⟨rfl, rfl, rfl, rfl⟩ := H
                                                    obtain ⟨Ao42, co42, eo42⟩ := Kd.R_slice HO_6.out
                                                    subst eo42
                                                    have p159 : 0 ≤ (0 : Int) := (by omega)
                                                    have q159 : 0 < (x6_1.length : Int) := of_decide_eq_true (by first | (with_reducible assumption) | assumption)
                                                    obtain ⟨ad159, e159, hx159_0⟩ := Kd.at_int (Kd.R_reads' HO_6.out).2.2 0 p159 q159
                                                    cases e159
                                                    have qi159 : (0 < x6_1.length) = True := eq_true (by omega)
                                                    (try rw [show ((0 : Int)).toNat = 0 from rfl] at hx159_0)
                                                    (try rw [Addr.add_zero'] at hx159_0)
                                                    replace p159 := eq_true p159
                                                    replace q159 := eq_true q159
                                                    have p160 : 0 ≤ (3 : Int) := (by omega)
                                                    have q160 : 3 < (x6_1.length : Int) := of_decide_eq_true (by first | (with_reducible assumption) | assumption)
                                                    obtain ⟨ad160, e160, hx160_0⟩ := Kd.at_int (Kd.R_reads' HO_6.out).2.2 3 p160 q160
                                                    obtain rfl : ad159 = ad160 := (by injection e160)
                                                    (try simp only [show (3 : Int).toNat = 3 from rfl, Nat.reduceMul, Nat.reduceEqDiff, Go.Addr.add, ↓reduceIte] at hx160_0)
                                                    have qi160 : (3 < x6_1.length) = True := eq_true (by omega)
                                                    (try rw [show ((3 : Int)).toNat = 3 from rfl] at hx160_0)
                                                    replace p160 := eq_true p160
                                                    replace q160 := eq_true q160
                                                    have p21 : 0 ≤ (0 : Int) := (by omega)
                                                    have q21 : 0 < a0.size := (by have : (0 : Int) < (a0.size : Int) := of_decide_eq_true (by first | (with_reducible assumption) | assumption); omega)
                                                    have hx21 : ∀ h : 0 < a0.size, ((a0[0]'h).toNat : Int) = bt a0 0 := bt_at a0 0
                                                    clear p21
                                                    have qi21 : (0 < (a0.size : Int)) = True := eq_true (of_decide_eq_true (by first | (with_reducible assumption) | assumption))
                                                    replace q21 := eq_true q21
                                                    have p26 : 0 ≤ ((ji23) : Int) := of_decide_eq_true (by first | (with_reducible assumption) | assumption)
                                                    have q26 : (ji23) < (a0.size : Int) := of_decide_eq_true (by first | (with_reducible assumption) | assumption)
                                                    have hx26 := bt_at a0 (ji23)
                                                    replace p26 := eq_true p26
                                                    replace q26 := eq_true q26
                                                    have p161 : 0 ≤ (1 : Int) := (by omega)
                                                    have q161 : 1 < (x6_1.length : Int) := of_decide_eq_true (by first | (with_reducible assumption) | assumption)
                                                    obtain ⟨ad161, e161, hx161_0⟩ := Kd.at_int (Kd.R_reads' HO_6.out).2.2 1 p161 q161
                                                    obtain rfl : ad159 = ad161 := (by injection e161)
                                                    (try simp only [show (1 : Int).toNat = 1 from rfl, Nat.reduceMul, Nat.reduceEqDiff, Go.Addr.add, ↓reduceIte] at hx161_0)
                                                    have qi161 : (1 < x6_1.length) = True := eq_true (by omega)
                                                    (try rw [show ((1 : Int)).toNat = 1 from rfl] at hx161_0)
                                                    replace p161 := eq_true p161
                                                    replace q161 := eq_true q161
                                                    have p162 : 0 ≤ (1 : Int) := (by omega)
                                                    have q162 : 1 < (x6_1.length : Int) := of_decide_eq_true (by first | (with_reducible assumption) | assumption)
                                                    obtain ⟨ad162, e162, hx162_0⟩ := Kd.at_int (Kd.R_reads' HO_6.out).2.2 1 p162 q162
                                                    obtain rfl : ad159 = ad162 := (by injection e162)
                                                    (try simp only [show (1 : Int).toNat = 1 from rfl, Nat.reduceMul, Nat.reduceEqDiff, Go.Addr.add, ↓reduceIte] at hx162_0)
                                                    have qi162 : (1 < x6_1.length) = True := eq_true (by omega)
                                                    (try rw [show ((1 : Int)).toNat = 1 from rfl] at hx162_0)
                                                    replace p162 := eq_true p162
                                                    replace q162 := eq_true q162
                                                    have p163 : 0 ≤ (2 : Int) := (by omega)
                                                    have q163 : 2 < (x6_1.length : Int) := of_decide_eq_true (by first | (with_reducible assumption) | assumption)
                                                    obtain ⟨ad163, e163, hx163_0⟩ := Kd.at_int (Kd.R_reads' HO_6.out).2.2 2 p163 q163
                                                    obtain rfl : ad159 = ad163 := (by injection e163)
                                                    (try simp only [show (2 : Int).toNat = 2 from rfl, Nat.reduceMul, Nat.reduceEqDiff, Go.Addr.add, ↓reduceIte] at hx163_0)
                                                    have qi163 : (2 < x6_1.length) = True := eq_true (by omega)
                                                    (try rw [show ((2 : Int)).toNat = 2 from rfl] at hx163_0)
                                                    replace p163 := eq_true p163
                                                    replace q163 := eq_true q163
                                                    have p164 : 0 ≤ (2 : Int) := (by omega)
                                                    have q164 : 2 < (x6_1.length : Int) := of_decide_eq_true (by first | (with_reducible assumption) | assumption)
                                                    obtain ⟨ad164, e164, hx164_0⟩ := Kd.at_int (Kd.R_reads' HO_6.out).2.2 2 p164 q164
                                                    obtain rfl : ad159 = ad164 := (by injection e164)
                                                    (try simp only [show (2 : Int).toNat = 2 from rfl, Nat.reduceMul, Nat.reduceEqDiff, Go.Addr.add, ↓reduceIte] at hx164_0)
                                                    have qi164 : (2 < x6_1.length) = True := eq_true (by omega)
                                                    (try rw [show ((2 : Int)).toNat = 2 from rfl] at hx164_0)
                                                    replace p164 := eq_true p164
                                                    replace q164 := eq_true q164
                                                    have p165 : 0 ≤ (3 : Int) := (by omega)
                                                    have q165 : 3 < (x6_1.length : Int) := of_decide_eq_true (by first | (with_reducible assumption) | assumption)
                                                    obtain ⟨ad165, e165, hx165_0⟩ := Kd.at_int (Kd.R_reads' HO_6.out).2.2 3 p165 q165
                                                    obtain rfl : ad159 = ad165 := (by injection e165)
                                                    (try simp only [show (3 : Int).toNat = 3 from rfl, Nat.reduceMul, Nat.reduceEqDiff, Go.Addr.add, ↓reduceIte] at hx165_0)
                                                    have qi165 : (3 < x6_1.length) = True := eq_true (by omega)
                                                    (try rw [show ((3 : Int)).toNat = 3 from rfl] at hx165_0)
                                                    replace p165 := eq_true p165
                                                    replace q165 := eq_true q165
                                                    go_wp2
                                                    repeat (go_quiet (fail); try go_wp2)
                                                    refine bodyPost_ret (results_list (rs := [.tmp 2, .tmp 3, .tmp 4, .tmp 5]) rfl (by simp) (.tmp (.tmp (.tmp (.tmp .nil))))) rfl ?_
                                                    exact ⟨by first | rfl | (simp [errW_none, errW_some] <;> rfl) | (simp only [← hji23, ← hji32, ← hji36]; first | rfl | (simp [errW_none, errW_some] <;> rfl)) | (simp [*, errW_none, errW_some] <;> rfl), by repeat (first | (with_reducible first | exact HB.out | apply below_alloc | apply pw_below_drewN | apply below_drew1) | exact HB.out)⟩
                                                  · rw [if_neg c41] at H
                                                    have c41b0 : ((a0.extract 2 ((rd x6_1 1) : Int).toNat).toList == ([] : List UInt8)) = false := beq_eq_false_iff_ne.mpr c41
                                                    have c41b1 : ((a0.extract 2 ((rd x6_1 1) : Int).toNat).toList != ([] : List UInt8)) = true := bne_iff_ne.mpr c41
                                                    simp only [Option.some.injEq, Prod.mk.injEq] at H
                                                    obtain ⟨rfl, rfl, rfl, rfl⟩ := H
                                                    obtain ⟨Ao43, co43, eo43⟩ := Kd.R_slice HO_6.out
                                                    subst eo43
                                                    have p159 : 0 ≤ (0 : Int) := (by omega)
                                                    have q159 : 0 < (x6_1.length : Int) := of_decide_eq_true (by first | (with_reducible assumption) | assumption)
                                                    obtain ⟨ad159, e159, hx159_0⟩ := Kd.at_int (Kd.R_reads' HO_6.out).2.2 0 p159 q159
                                                    cases e159
                                                    have qi159 : (0 < x6_1.length) = True := eq_true (by omega)
                                                    (try rw [show ((0 : Int)).toNat = 0 from rfl] at hx159_0)
                                                    (try rw [Addr.add_zero'] at hx159_0)
                                                    replace p159 := eq_true p159
                                                    replace q159 := eq_true q159
                                                    have p160 : 0 ≤ (3 : Int) := (by omega)
                                                    have q160 : 3 < (x6_1.length : Int) := of_decide_eq_true (by first | (with_reducible assumption) | assumption)
                                                    obtain ⟨ad160, e160, hx160_0⟩ := Kd.at_int (Kd.R_reads' HO_6.out).2.2 3 p160 q160
                                                    obtain rfl : ad159 = ad160 := (by injection e160)
                                                    (try simp only [show (3 : Int).toNat = 3 from rfl, Nat.reduceMul, Nat.reduceEqDiff, Go.Addr.add, ↓reduceIte] at hx160_0)
                                                    have qi160 : (3 < x6_1.length) = True := eq_true (by omega)
                                                    (try rw [show ((3 : Int)).toNat = 3 from rfl] at hx160_0)
                                                    replace p160 := eq_true p160
                                                    replace q160 := eq_true q160
                                                    have p21 : 0 ≤ (0 : Int) := (by omega)
                                                    have q21 : 0 < a0.size := (by have : (0 : Int) < (a0.size : Int) := of_decide_eq_true (by first | (with_reducible assumption) | assumption); omega)
                                                    have hx21 : ∀ h : 0 < a0.size, ((a0[0]'h).toNat : Int) = bt a0 0 := bt_at a0 0
                                                    clear p21
                                                    have qi21 : (0 < (a0.size : Int)) = True := eq_true (of_decide_eq_true (by first | (with_reducible assumption) | assumption))
                                                    replace q21 := eq_true q21
                                                    have p26 : 0 ≤ ((ji23) : Int) := of_decide_eq_true (by first | (with_reducible assumption) | assumption)
                                                    have q26 : (ji23) < (a0.size : Int) := of_decide_eq_true (by first | (with_reducible assumption) | assumption)
                                                    have hx26 := bt_at a0 (ji23)
                                                    replace p26 := eq_true p26
                                                    replace q26 := eq_true q26
                                                    have p161 : 0 ≤ (1 : Int) := (by omega)
                                                    have q161 : 1 < (x6_1.length : Int) := of_decide_eq_true (by first | (with_reducible assumption) | assumption)
                                                    obtain ⟨ad161, e161, hx161_0⟩ := Kd.at_int (Kd.R_reads' HO_6.out).2.2 1 p161 q161
                                                    obtain rfl : ad159 = ad161 := (by injection e161)
                                                    (try simp only [show (1 : Int).toNat = 1 from rfl, Nat.reduceMul, Nat.reduceEqDiff, Go.Addr.add, ↓reduceIte] at hx161_0)
                                                    have qi161 : (1 < x6_1.length) = True := eq_true (by omega)
                                                    (try rw [show ((1 : Int)).toNat = 1 from rfl] at hx161_0)
                                                    replace p161 := eq_true p161
                                                    replace q161 := eq_true q161
                                                    have p162 : 0 ≤ (1 : Int) := (by omega)
                                                    have q162 : 1 < (x6_1.length : Int) := of_decide_eq_true (by first | (with_reducible assumption) | assumption)
                                                    obtain ⟨ad162, e162, hx162_0⟩ := Kd.at_int (Kd.R_reads' HO_6.out).2.2 1 p162 q162
                                                    obtain rfl : ad159 = ad162 := (by injection e162)
                                                    (try simp only [show (1 : Int).toNat = 1 from rfl, Nat.reduceMul, Nat.reduceEqDiff, Go.Addr.add, ↓reduceIte] at hx162_0)
                                                    have qi162 : (1 < x6_1.length) = True := eq_true (by omega)
                                                    (try rw [show ((1 : Int)).toNat = 1 from rfl] at hx162_0)
                                                    replace p162 := eq_true p162
                                                    replace q162 := eq_true q162
                                                    have p163 : 0 ≤ (2 : Int) := (by omega)
                                                    have q163 : 2 < (x6_1.length : Int) := of_decide_eq_true (by first | (with_reducible assumption) | assumption)
                                                    obtain ⟨ad163, e163, hx163_0⟩ := Kd.at_int (Kd.R_reads' HO_6.out).2.2 2 p163 q163
                                                    obtain rfl : ad159 = ad163 := (by injection e163)
                                                    (try simp only [show (2 : Int).toNat = 2 from rfl, Nat.reduceMul, Nat.reduceEqDiff, Go.Addr.add, ↓reduceIte] at hx163_0)
                                                    have qi163 : (2 < x6_1.length) = True := eq_true (by omega)
                                                    (try rw [show ((2 : Int)).toNat = 2 from rfl] at hx163_0)
                                                    replace p163 := eq_true p163
                                                    replace q163 := eq_true q163
                                                    have p164 : 0 ≤ (2 : Int) := (by omega)
                                                    have q164 : 2 < (x6_1.length : Int) := of_decide_eq_true (by first | (with_reducible assumption) | assumption)
                                                    obtain ⟨ad164, e164, hx164_0⟩ := Kd.at_int (Kd.R_reads' HO_6.out).2.2 2 p164 q164
                                                    obtain rfl : ad159 = ad164 := (by injection e164)
                                                    (try simp only [show (2 : Int).toNat = 2 from rfl, Nat.reduceMul, Nat.reduceEqDiff, Go.Addr.add, ↓reduceIte] at hx164_0)
                                                    have qi164 : (2 < x6_1.length) = True := eq_true (by omega)
                                                    (try rw [show ((2 : Int)).toNat = 2 from rfl] at hx164_0)
                                                    replace p164 := eq_true p164
                                                    replace q164 := eq_true q164
                                                    have p165 : 0 ≤ (3 : Int) := (by omega)
                                                    have q165 : 3 < (x6_1.length : Int) := of_decide_eq_true (by first | (with_reducible assumption) | assumption)
                                                    obtain ⟨ad165, e165, hx165_0⟩ := Kd.at_int (Kd.R_reads' HO_6.out).2.2 3 p165 q165
                                                    obtain rfl : ad159 = ad165 := (by injection e165)
                                                    (try simp only [show (3 : Int).toNat = 3 from rfl, Nat.reduceMul, Nat.reduceEqDiff, Go.Addr.add, ↓reduceIte] at hx165_0)
                                                    have qi165 : (3 < x6_1.length) = True := eq_true (by omega)
                                                    (try rw [show ((3 : Int)).toNat = 3 from rfl] at hx165_0)
                                                    replace p165 := eq_true p165
                                                    replace q165 := eq_true q165
                                                    go_wp2
                                                    repeat (go_quiet (fail); try go_wp2)
                                                    refine bodyPost_ret (results_list (rs := [.tmp 2, .tmp 3, .tmp 4, .tmp 5]) rfl (by simp) (.tmp (.tmp (.tmp (.tmp .nil))))) rfl ?_
                                                    exact ⟨by first | rfl | (simp [errW_none, errW_some] <;> rfl) | (simp only [← hji23, ← hji32, ← hji36]; first | rfl | (simp [errW_none, errW_some] <;> rfl)) | (simp [*, errW_none, errW_some] <;> rfl), by repeat (first | (with_reducible first | exact HB.out | apply below_alloc | apply pw_below_drewN | apply below_drew1) | exact HB.out)⟩
                                                · rw [if_neg c40] at H
                                                  have c40b0 : ((a0.extract ((ji32) : Int).toNat ((rd x6_1 2) : Int).toNat).toList == ([66] : List UInt8)) = false := beq_eq_false_iff_ne.mpr c40
                                                  have c40b1 : ((a0.extract ((ji32) : Int).toNat ((rd x6_1 2) : Int).toNat).toList != ([66] : List UInt8)) = true := bne_iff_ne.mpr c40
                                                  by_cases c44 : (a0.extract ((ji32) : Int).toNat ((rd x6_1 2) : Int).toNat).toList = ([98] : List UInt8)
                                                  · rw [if_pos c44] at H
                                                    have c44b0 : ((a0.extract ((ji32) : Int).toNat ((rd x6_1 2) : Int).toNat).toList == ([98] : List UInt8)) = true := beq_iff_eq.mpr c44
                                                    have c44b1 : ((a0.extract ((ji32) : Int).toNat ((rd x6_1 2) : Int).toNat).toList != ([98] : List UInt8)) = false := bne_eq_false_iff_eq.mpr c44
                                                    clear c44
                                                    by_cases c45 : (a0.extract 2 ((rd x6_1 1) : Int).toNat).toList = ([] : List UInt8)
                                                    · rw [if_pos c45] at H
                                                      have c45b0 : ((a0.extract 2 ((rd x6_1 1) : Int).toNat).toList == ([] : List UInt8)) = true := beq_iff_eq.mpr c45
                                                      have c45b1 : ((a0.extract 2 ((rd x6_1 1) : Int).toNat).toList != ([] : List UInt8)) = false := bne_eq_false_iff_eq.mpr c45
                                                      clear c45
                                                      simp only [Option.some.injEq, Prod.mk.injEq] at H
                                                      obtain ⟨rfl, rfl, rfl, rfl⟩ := H
                                                      obtain ⟨Ao46, co46, eo46⟩ := Kd.R_slice HO_6.out
                                                      subst eo46
                                                      have p159 : 0 ≤ (0 : Int) := (by omega)
                                                      have q159 : 0 < (x6_1.length : Int) := of_decide_eq_true (by first | (with_reducible assumption) | assumption)
                                                      obtain ⟨ad159, e159, hx159_0⟩ := Kd.at_int (Kd.R_reads' HO_6.out).2.2 0 p159 q159
                                                      cases e159
                                                      have qi159 : (0 < x6_1.length) = True := eq_true (by omega)
                                                      (try rw [show ((0 : Int)).toNat = 0 from rfl] at hx159_0)
                                                      (try rw [Addr.add_zero'] at hx159_0)
                                                      replace p159 := eq_true p159
                                                      replace q159 := eq_true q159
                                                      have p160 : 0 ≤ (3 : Int) := (by omega)
                                                      have q160 : 3 < (x6_1.length : Int) := of_decide_eq_true (by first | (with_reducible assumption) | assumption)
                                                      obtain ⟨ad160, e160, hx160_0⟩ := Kd.at_int (Kd.R_reads' HO_6.out).2.2 3 p160 q160
                                                      obtain rfl : ad159 = ad160 := (by injection e160)
                                                      (try simp only [show (3 : Int).toNat = 3 from rfl, Nat.reduceMul, Nat.reduceEqDiff, Go.Addr.add, ↓reduceIte] at hx160_0)
                                                      have qi160 : (3 < x6_1.length) = True := eq_true (by omega)
                                                      (try rw [show ((3 : Int)).toNat = 3 from rfl] at hx160_0)
                                                      replace p160 := eq_true p160
                                                      replace q160 := eq_true q160
                                                      have p21 : 0 ≤ (0 : Int) := (by omega)
                                                      have q21 : 0 < a0.size := (by have : (0 : Int) < (a0.size : Int) := of_decide_eq_true (by first | (with_reducible assumption) | assumption); omega)
                                                      have hx21 : ∀ h : 0 < a0.size, ((a0[0]'h).toNat : Int) = bt a0 0 := bt_at a0 0
                                                      clear p21
                                                      have qi21 : (0 < (a0.size : Int)) = True := eq_true (of_decide_eq_true (by first | (with_reducible assumption) | assumption))
                                                      replace q21 := eq_true q21
                                                      have p26 : 0 ≤ ((ji23) : Int) := of_decide_eq_true (by first | (with_reducible assumption) | assumption)
                                                      have q26 : (ji23) < (a0.size : Int) := of_decide_eq_true (by first | (with_reducible assumption) | assumption)
                                                      have hx26 := bt_at a0 (ji23)
                                                      replace p26 := eq_true p26
                                                      replace q26 := eq_true q26
                                                      have p161 : 0 ≤ (1 : Int) := (by omega)
                                                      have q161 : 1 < (x6_1.length : Int) := of_decide_eq_true (by first | (with_reducible assumption) | assumption)
                                                      obtain ⟨ad161, e161, hx161_0⟩ := Kd.at_int (Kd.R_reads' HO_6.out).2.2 1 p161 q161
                                                      obtain rfl : ad159 = ad161 := (by injection e161)
                                                      (try simp only [show (1 : Int).toNat = 1 from rfl, Nat.reduceMul, Nat.reduceEqDiff, Go.Addr.add, ↓reduceIte] at hx161_0)
                                                      have qi161 : (1 < x6_1.length) = True := eq_true (by omega)
                                                      (try rw [show ((1 : Int)).toNat = 1 from rfl] at hx161_0)
                                                      replace p161 := eq_true p161
                                                      replace q161 := eq_true q161
                                                      have p162 : 0 ≤ (1 : Int) := (by omega)
                                                      have q162 : 1 < (x6_1.length : Int) := of_decide_eq_true (by first | (with_reducible assumption) | assumption)
                                                      obtain ⟨ad162, e162, hx162_0⟩ := Kd.at_int (Kd.R_reads' HO_6.out).2.2 1 p162 q162
                                                      obtain rfl : ad159 = ad162 := (by injection e162)
                                                      (try simp only [show (1 : Int).toNat = 1 from rfl, Nat.reduceMul, Nat.reduceEqDiff, Go.Addr.add, ↓reduceIte] at hx162_0)
                                                      have qi162 : (1 < x6_1.length) = True := eq_true (by omega)
                                                      (try rw [show ((1 : Int)).toNat = 1 from rfl] at hx162_0)
                                                      replace p162 := eq_true p162
                                                      replace q162 := eq_true q162
                                                      have p163 : 0 ≤ (2 : Int) := (by omega)
                                                      have q163 : 2 < (x6_1.length : Int) := of_decide_eq_true (by first | (with_reducible assumption) | assumption)
                                                      obtain ⟨ad163, e163, hx163_0⟩ := Kd.at_int (Kd.R_reads' HO_6.out).2.2 2 p163 q163
                                                      obtain rfl : ad159 = ad163 := (by injection e163)
                                                      (try simp only [show (2 : Int).toNat = 2 from rfl, Nat.reduceMul, Nat.reduceEqDiff, Go.Addr.add, ↓reduceIte] at hx163_0)
                                                      have qi163 : (2 < x6_1.length) = True := eq_true (by omega)
                                                      (try rw [show ((2 : Int)).toNat = 2 from rfl] at hx163_0)
                                                      replace p163 := eq_true p163
                                                      replace q163 := eq_true q163
                                                      have p164 : 0 ≤ (2 : Int) := (by omega)
                                                      have q164 : 2 < (x6_1.length : Int) := of_decide_eq_true (by first | (with_reducible assumption) | assumption)
                                                      obtain ⟨ad164, e164, hx164_0⟩ := Kd.at_int (Kd.R_reads' HO_6.out).2.2 2 p164 q164
                                                      obtain rfl : ad159 = ad164 := (by injection e164)
                                                      (try simp only [show (2 : Int).toNat = 2 from rfl, Nat.reduceMul, Nat.reduceEqDiff, Go.Addr.add, ↓reduceIte] at hx164_0)
                                                      have qi164 : (2 < x6_1.length) = True := eq_true (by omega)
                                                      (try rw [show ((2 : Int)).toNat = 2 from rfl] at hx164_0)
                                                      replace p164 := eq_true p164
                                                      replace q164 := eq_true q164
                                                      have p165 : 0 ≤ (3 : Int) := (by omega)
                                                      have q165 : 3 < (x6_1.length : Int) := of_decide_eq_true (by first | (with_reducible assumption) | assumption)
                                                      obtain ⟨ad165, e165, hx165_0⟩ := Kd.at_int (Kd.R_reads' HO_6.out).2.2 3 p165 q165
                                                      obtain rfl : ad159 = ad165 := (by injection e165)
                                                      (try simp only [show (3 : Int).toNat = 3 from rfl, Nat.reduceMul, Nat.reduceEqDiff, Go.Addr.add, ↓reduceIte] at hx165_0)
                                                      have qi165 : (3 < x6_1.length) = True := eq_true (by omega)
                                                      (try rw [show ((3 : Int)).toNat = 3 from rfl] at hx165_0)
                                                      replace p165 := eq_true p165
                                                      replace q165 := eq_true q165
                                                      go_wp2
                                                      repeat (go_quiet (fail); try go_wp2)
                                                      refine bodyPost_ret (results_list (rs := [.tmp 2, .tmp 3, .tmp 4, .tmp 5]) rfl (by simp) (.tmp (.tmp (.tmp (.tmp .nil))))) rfl ?_
                                                      exact ⟨by first | rfl | (simp [errW_none, errW_some] <;> rfl) | (simp only [← hji23, ← hji32, ← hji36]; first | rfl | (simp [errW_none, errW_some] <;> rfl)) | (simp [*, errW_none, errW_some] <;> rfl), by repeat (first | (with_reducible first | exact HB.out | apply below_alloc | apply pw_below_drewN | apply below_drew1) | exact HB.out)⟩
                                                    · rw [if_neg c45] at H
                                                      have c45b0 : ((a0.extract 2 ((rd x6_1 1) : Int).toNat).toList == ([] : List UInt8)) = false := beq_eq_false_iff_ne.mpr c45
                                                      have c45b1 : ((a0.extract 2 ((rd x6_1 1) : Int).toNat).toList != ([] : List UInt8)) = true := bne_iff_ne.mpr c45
                                                      simp only [Option.some.injEq, Prod.mk.injEq] at H
                                                      obtain ⟨rfl, rfl, rfl, rfl⟩ := H
                                                      obtain ⟨Ao47, co47, eo47⟩ := Kd.R_slice HO_6.out
                                                      subst eo47
                                                      have p159 : 0 ≤ (0 : Int) := (by omega)
                                                      have q159 : 0 < (x6_1.length : Int) := of_decide_eq_true (by first | (with_reducible assumption) | assumption)
                                                      obtain ⟨ad159, e159, hx159_0⟩ := Kd.at_int (Kd.R_reads' HO_6.out).2.2 0 p159 q159
                                                      cases e159
                                                      have qi159 : (0 < x6_1.length) = True := eq_true (by omega)
                                                      (try rw [show ((0 : Int)).toNat = 0 from rfl] at hx159_0)
                                                      (try rw [Addr.add_zero'] at hx159_0)
                                                      replace p159 := eq_true p159
                                                      replace q159 := eq_true q159
                                                      have p160 : 0 ≤ (3 : Int) := (by omega)
                                                      have q160 : 3 < (x6_1.length : Int) := of_decide_eq_true (by first | (with_reducible assumption) | assumption)
                                                      obtain ⟨ad160, e160, hx160_0⟩ := Kd.at_int (Kd.R_reads' HO_6.out).2.2 3 p160 q160
                                                      obtain rfl : ad159 = ad160 := (by injection e160)
                                                      (try simp only [show (3 : Int).toNat = 3 from rfl, Nat.reduceMul, Nat.reduceEqDiff, Go.Addr.add, ↓reduceIte] at hx160_0)
                                                      have qi160 : (3 < x6_1.length) = True := eq_true (by omega)
                                                      (try rw [show ((3 : Int)).toNat = 3 from rfl] at hx160_0)
                                                      replace p160 := eq_true p160
                                                      replace q160 := eq_true q160
                                                      have p21 : 0 ≤ (0 : Int) := (by omega)
                                                      have q21 : 0 < a0.size := (by have : (0 : Int) < (a0.size : Int) := of_decide_eq_true (by first | (with_reducible assumption) | assumption); omega)
                                                      have hx21 : ∀ h : 0 < a0.size, ((a0[0]'h).toNat : Int) = bt a0 0 := bt_at a0 0
                                                      clear p21
                                                      have qi21 : (0 < (a0.size : Int)) = True := eq_true (of_decide_eq_true (by first | (with_reducible assumption) | assumption))
                                                      replace q21 := eq_true q21
                                                      have p26 : 0 ≤ ((ji23) : Int) := of_decide_eq_true (by first | (with_reducible assumption) | assumption)
                                                      have q26 : (ji23) < (a0.size : Int) := of_decide_eq_true (by first | (with_reducible assumption) | assumption)
                                                      have hx26 := bt_at a0 (ji23)
                                                      replace p26 := eq_true p26
                                                      replace q26 := eq_true q26
                                                      have p161 : 0 ≤ (1 : Int) := (by omega)
                                                      have q161 : 1 < (x6_1.length : Int) := of_decide_eq_true (by first | (with_reducible assumption) | assumption)
                                                      obtain ⟨ad161, e161, hx161_0⟩ := Kd.at_int (Kd.R_reads' HO_6.out).2.2 1 p161 q161
                                                      obtain rfl : ad159 = ad161 := (by injection e161)
                                                      (try simp only [show (1 : Int).toNat = 1 from rfl, Nat.reduceMul, Nat.reduceEqDiff, Go.Addr.add, ↓reduceIte] at hx161_0)
                                                      have qi161 : (1 < x6_1.length) = True := eq_true (by omega)
                                                      (try rw [show ((1 : Int)).toNat = 1 from rfl] at hx161_0)
                                                      replace p161 := eq_true p161
                                                      replace q161 := eq_true q161
                                                      have p162 : 0 ≤ (1 : Int) := (by omega)
                                                      have q162 : 1 < (x6_1.length : Int) := of_decide_eq_true (by first | (with_reducible assumption) | assumption)
                                                      obtain ⟨ad162, e162, hx162_0⟩ := Kd.at_int (Kd.R_reads' HO_6.out).2.2 1 p162 q162
                                                      obtain rfl : ad159 = ad162 := (by injection e162)
                                                      (try simp only [show (1 : Int).toNat = 1 from rfl, Nat.reduceMul, Nat.reduceEqDiff, Go.Addr.add, ↓reduceIte] at hx162_0)
                                                      have qi162 : (1 < x6_1.length) = True := eq_true (by omega)
                                                      (try rw [show ((1 : Int)).toNat = 1 from rfl] at hx162_0)
                                                      replace p162 := eq_true p162
                                                      replace q162 := eq_true q162
                                                      have p163 : 0 ≤ (2 : Int) := (by omega)
                                                      have q163 : 2 < (x6_1.length : Int) := of_decide_eq_true (by first | (with_reducible assumption) | assumption)
                                                      obtain ⟨ad163, e163, hx163_0⟩ := Kd.at_int (Kd.R_reads' HO_6.out).2.2 2 p163 q163
                                                      obtain rfl : ad159 = ad163 := (by injection e163)
                                                      (try simp only [show (2 : Int).toNat = 2 from rfl, Nat.reduceMul, Nat.reduceEqDiff, Go.Addr.add, ↓reduceIte] at hx163_0)
                                                      have qi163 : (2 < x6_1.length) = True := eq_true (by omega)
                                                      (try rw [show ((2 : Int)).toNat = 2 from rfl] at hx163_0)
                                                      replace p163 := eq_true p163
                                                      replace q163 := eq_true q163
                                                      have p164 : 0 ≤ (2 : Int) := (by omega)
                                                      have q164 : 2 < (x6_1.length : Int) := of_decide_eq_true (by first | (with_reducible assumption) | assumption)
                                                      obtain ⟨ad164, e164, hx164_0⟩ := Kd.at_int (Kd.R_reads' HO_6.out).2.2 2 p164 q164
                                                      obtain rfl : ad159 = ad164 := (by injection e164)
                                                      (try simp only [show (2 : Int).toNat = 2 from rfl, Nat.reduceMul, Nat.reduceEqDiff, Go.Addr.add, ↓reduceIte] at hx164_0)
                                                      have qi164 : (2 < x6_1.length) = True := eq_true (by omega)
                                                      (try rw [show ((2 : Int)).toNat = 2 from rfl] at hx164_0)
                                                      replace p164 := eq_true p164
                                                      replace q164 := eq_true q164
                                                      have p165 : 0 ≤ (3 : Int) := (by omega)
                                                      have q165 : 3 < (x6_1.length : Int) := of_decide_eq_true (by first | (with_reducible assumption) | assumption)
                                                      obtain ⟨ad165, e165, hx165_0⟩ := Kd.at_int (Kd.R_reads' HO_6.out).2.2 3 p165 q165
                                                      obtain rfl : ad159 = ad165 := (by injection e165)
                                                      (try simp only [show (3 : Int).toNat = 3 from rfl, Nat.reduceMul, Nat.reduceEqDiff, Go.Addr.add, ↓reduceIte] at hx165_0)
                                                      have qi165 : (3 < x6_1.length) = True := eq_true (by omega)
                                                      (try rw [show ((3 : Int)).toNat = 3 from rfl] at hx165_0)
                                                      replace p165 := eq_true p165
                                                      replace q165 := eq_true q165
                                                      go_wp2
                                                      repeat (go_quiet (fail); try go_wp2)
                                                      refine bodyPost_ret (results_list (rs := [.tmp 2, .tmp 3, .tmp 4, .tmp 5]) rfl (by simp) (.tmp (.tmp (.tmp (.tmp .nil))))) rfl ?_
                                                      exact ⟨by first | rfl | (simp [errW_none, errW_some] <;> rfl) | (simp only [← hji23, ← hji32, ← hji36]; first | rfl | (simp [errW_none, errW_some] <;> rfl)) | (simp [*, errW_none, errW_some] <;> rfl), by repeat (first | (with_reducible first | exact HB.out | apply below_alloc | apply pw_below_drewN | apply below_drew1) | exact HB.out)⟩
                                                  · rw [if_neg c44] at H
                                                    have c44b0 : ((a0.extract ((ji32) : Int).toNat ((rd x6_1 2) : Int).toNat).toList == ([98] : List UInt8)) = false := beq_eq_false_iff_ne.mpr c44
                                                    have c44b1 : ((a0.extract ((ji32) : Int).toNat ((rd x6_1 2) : Int).toNat).toList != ([98] : List UInt8)) = true := bne_iff_ne.mpr c44
                                                    by_cases c48 : (a0.extract ((ji32) : Int).toNat ((rd x6_1 2) : Int).toNat).toList = ([81] : List UInt8)
                                                    · rw [if_pos c48] at H
                                                      have c48b0 : ((a0.extract ((ji32) : Int).toNat ((rd x6_1 2) : Int).toNat).toList == ([81] : List UInt8)) = true := beq_iff_eq.mpr c48
                                                      have c48b1 : ((a0.extract ((ji32) : Int).toNat ((rd x6_1 2) : Int).toNat).toList != ([81] : List UInt8)) = false := bne_eq_false_iff_eq.mpr c48
                                                      clear c48
                                                      by_cases c49 : (a0.extract 2 ((rd x6_1 1) : Int).toNat).toList = ([] : List UInt8)
                                                      · rw [if_pos c49] at H
                                                        have c49b0 : ((a0.extract 2 ((rd x6_1 1) : Int).toNat).toList == ([] : List UInt8)) = true := beq_iff_eq.mpr c49
                                                        have c49b1 : ((a0.extract 2 ((rd x6_1 1) : Int).toNat).toList != ([] : List UInt8)) = false := bne_eq_false_iff_eq.mpr c49
                                                        clear c49
                                                        simp only [Option.some.injEq, Prod.mk.injEq] at H
                                                        obtain ⟨rfl, rfl, rfl, rfl⟩ := H
                                                        obtain ⟨Ao50, co50, eo50⟩ := Kd.R_slice HO_6.out
                                                        subst eo50
                                                        have p159 : 0 ≤ (0 : Int) := (by omega)
                                                        have q159 : 0 < (x6_1.length : Int) := of_decide_eq_true (by first | (with_reducible assumption) | assumption)
                                                        obtain ⟨ad159, e159, hx159_0⟩ := Kd.at_int (Kd.R_reads' HO_6.out).2.2 0 p159 q159
                                                        cases e159
                                                        have qi159 : (0 < x6_1.length) = True := eq_true (by omega)
                                                        (try rw [show ((0 : Int)).toNat = 0 from rfl] at hx159_0)
                                                        (try rw [Addr.add_zero'] at hx159_0)
                                                        replace p159 := eq_true p159
                                                        replace q159 := eq_true q159
                                                        have p160 : 0 ≤ (3 : Int) := (by omega)
                                                        have q160 : 3 < (x6_1.length : Int) := of_decide_eq_true (by first | (with_reducible assumption) | assumption)
                                                        obtain ⟨ad160, e160, hx160_0⟩ := Kd.at_int (Kd.R_reads' HO_6.out).2.2 3 p160 q160
                                                        obtain rfl : ad159 = ad160 := (by injection e160)
                                                        (try simp only [show (3 : Int).toNat = 3 from rfl, Nat.reduceMul, Nat.reduceEqDiff, Go.Addr.add, ↓reduceIte] at hx160_0)
                                                        have qi160 : (3 < x6_1.length) = True := eq_true (by omega)
                                                        (try rw [show ((3 : Int)).toNat = 3 from rfl] at hx160_0)
                                                        replace p160 := eq_true p160
                                                        replace q160 := eq_true q160
                                                        have p21 : 0 ≤ (0 : Int) := (by omega)
                                                        have q21 : 0 < a0.size := (by have : (0 : Int) < (a0.size : Int) := of_decide_eq_true (by first | (with_reducible assumption) | assumption); omega)
                                                        have hx21 : ∀ h : 0 < a0.size, ((a0[0]'h).toNat : Int) = bt a0 0 := bt_at a0 0
                                                        clear p21
                                                        have qi21 : (0 < (a0.size : Int)) = True := eq_true (of_decide_eq_true (by first | (with_reducible assumption) | assumption))
                                                        replace q21 := eq_true q21
                                                        have p26 : 0 ≤ ((ji23) : Int) := of_decide_eq_true (by first | (with_reducible assumption) | assumption)
                                                        have q26 : (ji23) < (a0.size : Int) := of_decide_eq_true (by first | (with_reducible assumption) | assumption)
                                                        have hx26 := bt_at a0 (ji23)
                                                        replace p26 := eq_true p26
                                                        replace q26 := eq_true q26
                                                        have p161 : 0 ≤ (1 : Int) := (by omega)
                                                        have q161 : 1 < (x6_1.length : Int) := of_decide_eq_true (by first | (with_reducible assumption) | assumption)
                                                        obtain ⟨ad161, e161, hx161_0⟩ := Kd.at_int (Kd.R_reads' HO_6.out).2.2 1 p161 q161
                                                        obtain rfl : ad159 = ad161 := (by injection e161)
                                                        (try simp only [show (1 : Int).toNat = 1 from rfl, Nat.reduceMul, Nat.reduceEqDiff, Go.Addr.add, ↓reduceIte] at hx161_0)
                                                        have qi161 : (1 < x6_1.length) = True := eq_true (by omega)
                                                        (try rw [show ((1 : Int)).toNat = 1 from rfl] at hx161_0)
                                                        replace p161 := eq_true p161
                                                        replace q161 := eq_true q161
                                                        have p162 : 0 ≤ (1 : Int) := (by omega)
                                                        have q162 : 1 < (x6_1.length : Int) := of_decide_eq_true (by first | (with_reducible assumption) | assumption)
                                                        obtain ⟨ad162, e162, hx162_0⟩ := Kd.at_int (Kd.R_reads' HO_6.out).2.2 1 p162 q162
                                                        obtain rfl : ad159 = ad162 := (by injection e162)
                                                        (try simp only [show (1 : Int).toNat = 1 from rfl, Nat.reduceMul, Nat.reduceEqDiff, Go.Addr.add, ↓reduceIte] at hx162_0)
                                                        have qi162 : (1 < x6_1.length) = True := eq_true (by omega)
                                                        (try rw [show ((1 : Int)).toNat = 1 from rfl] at hx162_0)
                                                        replace p162 := eq_true p162
                                                        replace q162 := eq_true q162
                                                        have p163 : 0 ≤ (2 : Int) := (by omega)
                                                        have q163 : 2 < (x6_1.length : Int) := of_decide_eq_true (by first | (with_reducible assumption) | assumption)
                                                        obtain ⟨ad163, e163, hx163_0⟩ := Kd.at_int (Kd.R_reads' HO_6.out).2.2 2 p163 q163
                                                        obtain rfl : ad159 = ad163 := (by injection e163)
                                                        (try simp only [show (2 : Int).toNat = 2 from rfl, Nat.reduceMul, Nat.reduceEqDiff, Go.Addr.add, ↓reduceIte] at hx163_0)
                                                        have qi163 : (2 < x6_1.length) = True := eq_true (by omega)
                                                        (try rw [show ((2 : Int)).toNat = 2 from rfl] at hx163_0)
                                                        replace p163 := eq_true p163
                                                        replace q163 := eq_true q163
                                                        have p164 : 0 ≤ (2 : Int) := (by omega)
                                                        have q164 : 2 < (x6_1.length : Int) := of_decide_eq_true (by first | (with_reducible assumption) | assumption)
                                                        obtain ⟨ad164, e164, hx164_0⟩ := Kd.at_int (Kd.R_reads' HO_6.out).2.2 2 p164 q164
                                                        obtain rfl : ad159 = ad164 := (by injection e164)
                                                        (try simp only [show (2 : Int).toNat = 2 from rfl, Nat.reduceMul, Nat.reduceEqDiff, Go.Addr.add, ↓reduceIte] at hx164_0)
                                                        have qi164 : (2 < x6_1.length) = True := eq_true (by omega)
                                                        (try rw [show ((2 : Int)).toNat = 2 from rfl] at hx164_0)
                                                        replace p164 := eq_true p164
                                                        replace q164 := eq_true q164
                                                        have p165 : 0 ≤ (3 : Int) := (by omega)
                                                        have q165 : 3 < (x6_1.length : Int) := of_decide_eq_true (by first | (with_reducible assumption) | assumption)
                                                        obtain ⟨ad165, e165, hx165_0⟩ := Kd.at_int (Kd.R_reads' HO_6.out).2.2 3 p165 q165
                                                        obtain rfl : ad159 = ad165 := (by injection e165)
                                                        (try simp only [show (3 : Int).toNat = 3 from rfl, Nat.reduceMul, Nat.reduceEqDiff, Go.Addr.add, ↓reduceIte] at hx165_0)
                                                        have qi165 : (3 < x6_1.length) = True := eq_true (by omega)
                                                        (try rw [show ((3 : Int)).toNat = 3 from rfl] at hx165_0)
                                                        replace p165 := eq_true p165
                                                        replace q165 := eq_true q165
                                                        go_wp2
                                                        repeat (go_quiet (fail); try go_wp2)
                                                        refine bodyPost_ret (results_list (rs := [.tmp 2, .tmp 3, .tmp 4, .tmp 5]) rfl (by simp) (.tmp (.tmp (.tmp (.tmp .nil))))) rfl ?_
                                                        exact ⟨by first | rfl | (simp [errW_none, errW_some] <;> rfl) | (simp only [← hji23, ← hji32, ← hji36]; first | rfl | (simp [errW_none, errW_some] <;> rfl)) | (simp [*, errW_none, errW_some] <;> rfl), by repeat (first | (with_reducible first | exact HB.out | apply below_alloc | apply pw_below_drewN | apply below_drew1) | exact HB.out)⟩
                                                      · rw [if_neg c49] at H
                                                        have c49b0 : ((a0.extract 2 ((rd x6_1 1) : Int).toNat).toList == ([] : List UInt8)) = false := beq_eq_false_iff_ne.mpr c49
                                                        have c49b1 : ((a0.extract 2 ((rd x6_1 1) : Int).toNat).toList != ([] : List UInt8)) = true := bne_iff_ne.mpr c49
                                                        simp only [Option.some.injEq, Prod.mk.injEq] at H
                                                        obtain ⟨rfl, rfl, rfl, rfl⟩ := H
                                                        obtain ⟨Ao51, co51, eo51⟩ := Kd.R_slice HO_6.out
                                                        subst eo51
                                                        have p159 : 0 ≤ (0 : Int) := (by omega)
                                                        have q159 : 0 < (x6_1.length : Int) := of_decide_eq_true (by first | (with_reducible assumption) | assumption)
                                                        obtain ⟨ad159, e159, hx159_0⟩ := Kd.at_int (Kd.R_reads' HO_6.out).2.2 0 p159 q159
                                                        cases e159
                                                        have qi159 : (0 < x6_1.length) = True := eq_true (by omega)
                                                        (try rw [show ((0 : Int)).toNat = 0 from rfl] at hx159_0)
                                                        (try rw [Addr.add_zero'] at hx159_0)
                                                        replace p159 := eq_true p159
                                                        replace q159 := eq_true q159
                                                        have p160 : 0 ≤ (3 : Int) := (by omega)
                                                        have q160 : 3 < (x6_1.length : Int) := of_decide_eq_true (by first | (with_reducible assumption) | assumption)
                                                        obtain ⟨ad160, e160, hx160_0⟩ := Kd.at_int (Kd.R_reads' HO_6.out).2.2 3 p160 q160
                                                        obtain rfl : ad159 = ad160 := (by injection e160)
                                                        (try simp only [show (3 : Int).toNat = 3 from rfl, Nat.reduceMul, Nat.reduceEqDiff, Go.Addr.add, ↓reduceIte] at hx160_0)
                                                        have qi160 : (3 < x6_1.length) = True := eq_true (by omega)
                                                        (try rw [show ((3 : Int)).toNat = 3 from rfl] at hx160_0)
                                                        replace p160 := eq_true p160
                                                        replace q160 := eq_true q160
                                                        have p21 : 0 ≤ (0 : Int) := (by omega)
                                                        have q21 : 0 < a0.size := (by have : (0 : Int) < (a0.size : Int) := of_decide_eq_true (by first | (with_reducible assumption) | assumption); omega)
                                                        have hx21 : ∀ h : 0 < a0.size, ((a0[0]'h).toNat : Int) = bt a0 0 := bt_at a0 0
                                                        clear p21
                                                        have qi21 : (0 < (a0.size : Int)) = True := eq_true (of_decide_eq_true (by first | (with_reducible assumption) | assumption))
                                                        replace q21 := eq_true q21
                                                        have p26 : 0 ≤ ((ji23) : Int) := of_decide_eq_true (by first | (with_reducible assumption) | assumption)
                                                        have q26 : (ji23) < (a0.size : Int) := of_decide_eq_true (by first | (with_reducible assumption) | assumption)
                                                        have hx26 := bt_at a0 (ji23)
                                                        replace p26 := eq_true p26
                                                        replace q26 := eq_true q26
                                                        have p161 : 0 ≤ (1 : Int) := (by omega)
                                                        have q161 : 1 < (x6_1.length : Int) := of_decide_eq_true (by first | (with_reducible assumption) | assumption)
                                                        obtain ⟨ad161, e161, hx161_0⟩ := Kd.at_int (Kd.R_reads' HO_6.out).2.2 1 p161 q161
                                                        obtain rfl : ad159 = ad161 := (by injection e161)
                                                        (try simp only [show (1 : Int).toNat = 1 from rfl, Nat.reduceMul, Nat.reduceEqDiff, Go.Addr.add, ↓reduceIte] at hx161_0)
                                                        have qi161 : (1 < x6_1.length) = True := eq_true (by omega)
                                                        (try rw [show ((1 : Int)).toNat = 1 from rfl] at hx161_0)
                                                        replace p161 := eq_true p161
                                                        replace q161 := eq_true q161
                                                        have p162 : 0 ≤ (1 : Int) := (by omega)
                                                        have q162 : 1 < (x6_1.length : Int) := of_decide_eq_true (by first | (with_reducible assumption) | assumption)
                                                        obtain ⟨ad162, e162, hx162_0⟩ := Kd.at_int (Kd.R_reads' HO_6.out).2.2 1 p162 q162
                                                        obtain rfl : ad159 = ad162 := (by injection e162)
                                                        (try simp only [show (1 : Int).toNat = 1 from rfl, Nat.reduceMul, Nat.reduceEqDiff, Go.Addr.add, ↓reduceIte] at hx162_0)
                                                        have qi162 : (1 < x6_1.length) = True := eq_true (by omega)
                                                        (try rw [show ((1 : Int)).toNat = 1 from rfl] at hx162_0)
                                                        replace p162 := eq_true p162
                                                        replace q162 := eq_true q162
                                                        have p163 : 0 ≤ (2 : Int) := (by omega)
                                                        have q163 : 2 < (x6_1.length : Int) := of_decide_eq_true (by first | (with_reducible assumption) | assumption)
                                                        obtain ⟨ad163, e163, hx163_0⟩ := Kd.at_int (Kd.R_reads' HO_6.out).2.2 2 p163 q163
                                                        obtain rfl : ad159 = ad163 := (by injection e163)
                                                        (try simp only [show (2 : Int).toNat = 2 from rfl, Nat.reduceMul, Nat.reduceEqDiff, Go.Addr.add, ↓reduceIte] at hx163_0)
                                                        have qi163 : (2 < x6_1.length) = True := eq_true (by omega)
                                                        (try rw [show ((2 : Int)).toNat = 2 from rfl] at hx163_0)
                                                        replace p163 := eq_true p163
                                                        replace q163 := eq_true q163
                                                        have p164 : 0 ≤ (2 : Int) := (by omega)
                                                        have q164 : 2 < (x6_1.length : Int) := of_decide_eq_true (by first | (with_reducible assumption) | assumption)
                                                        obtain ⟨ad164, e164, hx164_0⟩ := Kd.at_int (Kd.R_reads' HO_6.out).2.2 2 p164 q164
                                                        obtain rfl : ad159 = ad164 := (by injection e164)
                                                        (try simp only [show (2 : Int).toNat = 2 from rfl, Nat.reduceMul, Nat.reduceEqDiff, Go.Addr.add, ↓reduceIte] at hx164_0)
                                                        have qi164 : (2 < x6_1.length) = True := eq_true (by omega)
                                                        (try rw [show ((2 : Int)).toNat = 2 from rfl] at hx164_0)
                                                        replace p164 := eq_true p164
                                                        replace q164 := eq_true q164
                                                        have p165 : 0 ≤ (3 : Int) := (by omega)
                                                        have q165 : 3 < (x6_1.length : Int) := of_decide_eq_true (by first | (with_reducible assumption) | assumption)
                                                        obtain ⟨ad165, e165, hx165_0⟩ := Kd.at_int (Kd.R_reads' HO_6.out).2.2 3 p165 q165
                                                        obtain rfl : ad159 = ad165 := (by injection e165)
                                                        (try simp only [show (3 : Int).toNat = 3 from rfl, Nat.reduceMul, Nat.reduceEqDiff, Go.Addr.add, ↓reduceIte] at hx165_0)
                                                        have qi165 : (3 < x6_1.length) = True := eq_true (by omega)
                                                        (try rw [show ((3 : Int)).toNat = 3 from rfl] at hx165_0)
                                                        replace p165 := eq_true p165
                                                        replace q165 := eq_true q165
                                                        go_wp2
                                                        repeat (go_quiet (fail); try go_wp2)
                                                        refine bodyPost_ret (results_list (rs := [.tmp 2, .tmp 3, .tmp 4, .tmp 5]) rfl (by simp) (.tmp (.tmp (.tmp (.tmp .nil))))) rfl ?_
                                                        exact ⟨by first | rfl | (simp [errW_none, errW_some] <;> rfl) | (simp only [← hji23, ← hji32, ← hji36]; first | rfl | (simp [errW_none, errW_some] <;> rfl)) | (simp [*, errW_none, errW_some] <;> rfl), by repeat (first | (with_reducible first | exact HB.out | apply below_alloc | apply pw_below_drewN | apply below_drew1) | exact HB.out)⟩
                                                    · rw [if_neg c48] at H
                                                      have c48b0 : ((a0.extract ((ji32) : Int).toNat ((rd x6_1 2) : Int).toNat).toList == ([81] : List UInt8)) = false := beq_eq_false_iff_ne.mpr c48
                                                      have c48b1 : ((a0.extract ((ji32) : Int).toNat ((rd x6_1 2) : Int).toNat).toList != ([81] : List UInt8)) = true := bne_iff_ne.mpr c48
                                                      by_cases c52 : (a0.extract 2 ((rd x6_1 1) : Int).toNat).toList = ([] : List UInt8)
                                                      · rw [if_pos c52] at H
                                                        have c52b0 : ((a0.extract 2 ((rd x6_1 1) : Int).toNat).toList == ([] : List UInt8)) = true := beq_iff_eq.mpr c52
                                                        have c52b1 : ((a0.extract 2 ((rd x6_1 1) : Int).toNat).toList != ([] : List UInt8)) = false := bne_eq_false_iff_eq.mpr c52
                                                        clear c52
                                                        simp only [Option.some.injEq, Prod.mk.injEq] at H
                                                        obtain ⟨rfl, rfl, rfl, rfl⟩ := H
                                                        obtain ⟨Ao53, co53, eo53⟩ := Kd.R_slice HO_6.out
                                                        subst eo53
                                                        have p159 : 0 ≤ (0 : Int) := (by omega)
                                                        have q159 : 0 < (x6_1.length : Int) := of_decide_eq_true (by first | (with_reducible assumption) | assumption)
                                                        obtain ⟨ad159, e159, hx159_0⟩ := Kd.at_int (Kd.R_reads' HO_6.out).2.2 0 p159 q159
                                                        cases e159
                                                        have qi159 : (0 < x6_1.length) = True := eq_true (by omega)
                                                        (try rw [show ((0 : Int)).toNat = 0 from rfl] at hx159_0)
                                                        (try rw [Addr.add_zero'] at hx159_0)
                                                        replace p159 := eq_true p159
                                                        replace q159 := eq_true q159
                                                        have p160 : 0 ≤ (3 : Int) := (by omega)
                                                        have q160 : 3 < (x6_1.length : Int) := of_decide_eq_true (by first | (with_reducible assumption) | assumption)
                                                        obtain ⟨ad160, e160, hx160_0⟩ := Kd.at_int (Kd.R_reads' HO_6.out).2.2 3 p160 q160
                                                        obtain rfl : ad159 = ad160 := (by injection e160)
                                                        (try simp only [show (3 : Int).toNat = 3 from rfl, Nat.reduceMul, Nat.reduceEqDiff, Go.Addr.add, ↓reduceIte] at hx160_0)
                                                        have qi160 : (3 < x6_1.length) = True := eq_true (by omega)
                                                        (try rw [show ((3 : Int)).toNat = 3 from rfl] at hx160_0)
                                                        replace p160 := eq_true p160
                                                        replace q160 := eq_true q160
                                                        have p21 : 0 ≤ (0 : Int) := (by omega)
                                                        have q21 : 0 < a0.size := (by have : (0 : Int) < (a0.size : Int) := of_decide_eq_true (by first | (with_reducible assumption) | assumption); omega)
                                                        have hx21 : ∀ h : 0 < a0.size, ((a0[0]'h).toNat : Int) = bt a0 0 := bt_at a0 0
                                                        clear p21
                                                        have qi21 : (0 < (a0.size : Int)) = True := eq_true (of_decide_eq_true (by first | (with_reducible assumption) | assumption))
                                                        replace q21 := eq_true q21
                                                        have p26 : 0 ≤ ((ji23) : Int) := of_decide_eq_true (by first | (with_reducible assumption) | assumption)
                                                        have q26 : (ji23) < (a0.size : Int) := of_decide_eq_true (by first | (with_reducible assumption) | assumption)
                                                        have hx26 := bt_at a0 (ji23)
                                                        replace p26 := eq_true p26
                                                        replace q26 := eq_true q26
                                                        have p161 : 0 ≤ (1 : Int) := (by omega)
                                                        have q161 : 1 < (x6_1.length : Int) := of_decide_eq_true (by first | (with_reducible assumption) | assumption)
                                                        obtain ⟨ad161, e161, hx161_0⟩ := Kd.at_int (Kd.R_reads' HO_6.out).2.2 1 p161 q161
                                                        obtain rfl : ad159 = ad161 := (by injection e161)
                                                        (try simp only [show (1 : Int).toNat = 1 from rfl, Nat.reduceMul, Nat.reduceEqDiff, Go.Addr.add, ↓reduceIte] at hx161_0)
                                                        have qi161 : (1 < x6_1.length) = True := eq_true (by omega)
                                                        (try rw [show ((1 : Int)).toNat = 1 from rfl] at hx161_0)
                                                        replace p161 := eq_true p161
                                                        replace q161 := eq_true q161
                                                        have p162 : 0 ≤ (1 : Int) := (by omega)
                                                        have q162 : 1 < (x6_1.length : Int) := of_decide_eq_true (by first | (with_reducible assumption) | assumption)
                                                        obtain ⟨ad162, e162, hx162_0⟩ := Kd.at_int (Kd.R_reads' HO_6.out).2.2 1 p162 q162
                                                        obtain rfl : ad159 = ad162 := (by injection e162)
                                                        (try simp only [show (1 : Int).toNat = 1 from rfl, Nat.reduceMul, Nat.reduceEqDiff, Go.Addr.add, ↓reduceIte] at hx162_0)
                                                        have qi162 : (1 < x6_1.length) = True := eq_true (by omega)
                                                        (try rw [show ((1 : Int)).toNat = 1 from rfl] at hx162_0)
                                                        replace p162 := eq_true p162
                                                        replace q162 := eq_true q162
                                                        have p163 : 0 ≤ (2 : Int) := (by omega)
                                                        have q163 : 2 < (x6_1.length : Int) := of_decide_eq_true (by first | (with_reducible assumption) | assumption)
                                                        obtain ⟨ad163, e163, hx163_0⟩ := Kd.at_int (Kd.R_reads' HO_6.out).2.2 2 p163 q163
                                                        obtain rfl : ad159 = ad163 := (by injection e163)
                                                        (try simp only [show (2 : Int).toNat = 2 from rfl, Nat.reduceMul, Nat.reduceEqDiff, Go.Addr.add, ↓reduceIte] at hx163_0)
                                                        have qi163 : (2 < x6_1.length) = True := eq_true (by omega)
                                                        (try rw [show ((2 : Int)).toNat = 2 from rfl] at hx163_0)
                                                        replace p163 := eq_true p163
                                                        replace q163 := eq_true q163
                                                        have p164 : 0 ≤ (2 : Int) := (by omega)
                                                        have q164 : 2 < (x6_1.length : Int) := of_decide_eq_true (by first | (with_reducible assumption) | assumption)
                                                        obtain ⟨ad164, e164, hx164_0⟩ := Kd.at_int (Kd.R_reads' HO_6.out).2.2 2 p164 q164
                                                        obtain rfl : ad159 = ad164 := (by injection e164)
                                                        (try simp only [show (2 : Int).toNat = 2 from rfl, Nat.reduceMul, Nat.reduceEqDiff, Go.Addr.add, ↓reduceIte] at hx164_0)
                                                        have qi164 : (2 < x6_1.length) = True := eq_true (by omega)
                                                        (try rw [show ((2 : Int)).toNat = 2 from rfl] at hx164_0)
                                                        replace p164 := eq_true p164
                                                        replace q164 := eq_true q164
                                                        have p165 : 0 ≤ (3 : Int) := (by omega)
                                                        have q165 : 3 < (x6_1.length : Int) := of_decide_eq_true (by first | (with_reducible assumption) | assumption)
                                                        obtain ⟨ad165, e165, hx165_0⟩ := Kd.at_int (Kd.R_reads' HO_6.out).2.2 3 p165 q165
                                                        obtain rfl : ad159 = ad165 := (by injection e165)
                                                        (try simp only [show (3 : Int).toNat = 3 from rfl, Nat.reduceMul, Nat.reduceEqDiff, Go.Addr.add, ↓reduceIte] at hx165_0)
                                                        have qi165 : (3 < x6_1.length) = True := eq_true (by omega)
                                                        (try rw [show ((3 : Int)).toNat = 3 from rfl] at hx165_0)
                                                        replace p165 := eq_true p165
                                                        replace q165 := eq_true q165
                                                        go_wp2
                                                        repeat (go_quiet (fail); try go_wp2)
                                                        refine bodyPost_ret (results_list (rs := [.tmp 2, .tmp 3, .tmp 4, .tmp 5]) rfl (by simp) (.tmp (.tmp (.tmp (.tmp .nil))))) rfl ?_
                                                        exact ⟨by first | rfl | (simp [errW_none, errW_some] <;> rfl) | (simp only [← hji23, ← hji32, ← hji36]; first | rfl | (simp [errW_none, errW_some] <;> rfl)) | (simp [*, errW_none, errW_some] <;> rfl), by repeat (first | (with_reducible first | exact HB.out | apply below_alloc | apply pw_below_drewN | apply below_drew1) | exact HB.out)⟩
                                                      · rw [if_neg c52] at H
                                                        have c52b0 : ((a0.extract 2 ((rd x6_1 1) : Int).toNat).toList == ([] : List UInt8)) = false := beq_eq_false_iff_ne.mpr c52
                                                        have c52b1 : ((a0.extract 2 ((rd x6_1 1) : Int).toNat).toList != ([] : List UInt8)) = true := bne_iff_ne.mpr c52
                                                        simp only [Option.some.injEq, Prod.mk.injEq] at H
                                                        obtain ⟨rfl, rfl, rfl, rfl⟩ := H
                                                        obtain ⟨Ao54, co54, eo54⟩ := Kd.R_slice HO_6.out
                                                        subst eo54
                                                        have p159 : 0 ≤ (0 : Int) := (by omega)
                                                        have q159 : 0 < (x6_1.length : Int) := of_decide_eq_true (by first | (with_reducible assumption) | assumption)
                                                        obtain ⟨ad159, e159, hx159_0⟩ := Kd.at_int (Kd.R_reads' HO_6.out).2.2 0 p159 q159
                                                        cases e159
                                                        have qi159 : (0 < x6_1.length) = True := eq_true (by omega)
                                                        (try rw [show ((0 : Int)).toNat = 0 from rfl] at hx159_0)
                                                        (try rw [Addr.add_zero'] at hx159_0)
                                                        replace p159 := eq_true p159
                                                        replace q159 := eq_true q159
                                                        have p160 : 0 ≤ (3 : Int) := (by omega)
                                                        have q160 : 3 < (x6_1.length : Int) := of_decide_eq_true (by first | (with_reducible assumption) | assumption)
                                                        obtain ⟨ad160, e160, hx160_0⟩ := Kd.at_int (Kd.R_reads' HO_6.out).2.2 3 p160 q160
                                                        obtain rfl : ad159 = ad160 := (by injection e160)
                                                        (try simp only [show (3 : Int).toNat = 3 from rfl, Nat.reduceMul, Nat.reduceEqDiff, Go.Addr.add, ↓reduceIte] at hx160_0)
                                                        have qi160 : (3 < x6_1.length) = True := eq_true (by omega)
                                                        (try rw [show ((3 : Int)).toNat = 3 from rfl] at hx160_0)
                                                        replace p160 := eq_true p160
                                                        replace q160 := eq_true q160
                                                        have p21 : 0 ≤ (0 : Int) := (by omega)
                                                        have q21 : 0 < a0.size := (by have : (0 : Int) < (a0.size : Int) := of_decide_eq_true (by first | (with_reducible assumption) | assumption); omega)
                                                        have hx21 : ∀ h : 0 < a0.size, ((a0[0]'h).toNat : Int) = bt a0 0 := bt_at a0 0
                                                        clear p21
                                                        have qi21 : (0 < (a0.size : Int)) = True := eq_true (of_decide_eq_true (by first | (with_reducible assumption) | assumption))
                                                        replace q21 := eq_true q21
                                                        have p26 : 0 ≤ ((ji23) : Int) := of_decide_eq_true (by first | (with_reducible assumption) | assumption)
                                                        have q26 : (ji23) < (a0.size : Int) := of_decide_eq_true (by first | (with_reducible assumption) | assumption)
                                                        have hx26 := bt_at a0 (ji23)
                                                        replace p26 := eq_true p26
                                                        replace q26 := eq_true q26
                                                        have p161 : 0 ≤ (1 : Int) := (by omega)
                                                        have q161 : 1 < (x6_1.length : Int) := of_decide_eq_true (by first | (with_reducible assumption) | assumption)
                                                        obtain ⟨ad161, e161, hx161_0⟩ := Kd.at_int (Kd.R_reads' HO_6.out).2.2 1 p161 q161
                                                        obtain rfl : ad159 = ad161 := (by injection e161)
                                                        (try simp only [show (1 : Int).toNat = 1 from rfl, Nat.reduceMul, Nat.reduceEqDiff, Go.Addr.add, ↓reduceIte] at hx161_0)
                                                        have qi161 : (1 < x6_1.length) = True := eq_true (by omega)
                                                        (try rw [show ((1 : Int)).toNat = 1 from rfl] at hx161_0)
                                                        replace p161 := eq_true p161
                                                        replace q161 := eq_true q161
                                                        have p162 : 0 ≤ (1 : Int) := (by omega)
                                                        have q162 : 1 < (x6_1.length : Int) := of_decide_eq_true (by first | (with_reducible assumption) | assumption)
                                                        obtain ⟨ad162, e162, hx162_0⟩ := Kd.at_int (Kd.R_reads' HO_6.out).2.2 1 p162 q162
                                                        obtain rfl : ad159 = ad162 := (by injection e162)
                                                        (try simp only [show (1 : Int).toNat = 1 from rfl, Nat.reduceMul, Nat.reduceEqDiff, Go.Addr.add, ↓reduceIte] at hx162_0)
                                                        have qi162 : (1 < x6_1.length) = True := eq_true (by omega)
                                                        (try rw [show ((1 : Int)).toNat = 1 from rfl] at hx162_0)
                                                        replace p162 := eq_true p162
                                                        replace q162 := eq_true q162
                                                        have p163 : 0 ≤ (2 : Int) := (by omega)
                                                        have q163 : 2 < (x6_1.length : Int) := of_decide_eq_true (by first | (with_reducible assumption) | assumption)
                                                        obtain ⟨ad163, e163, hx163_0⟩ := Kd.at_int (Kd.R_reads' HO_6.out).2.2 2 p163 q163
                                                        obtain rfl : ad159 = ad163 := (by injection e163)
                                                        (try simp only [show (2 : Int).toNat = 2 from rfl, Nat.reduceMul, Nat.reduceEqDiff, Go.Addr.add, ↓reduceIte] at hx163_0)
                                                        have qi163 : (2 < x6_1.length) = True := eq_true (by omega)
                                                        (try rw [show ((2 : Int)).toNat = 2 from rfl] at hx163_0)
                                                        replace p163 := eq_true p163
                                                        replace q163 := eq_true q163
                                                        have p164 : 0 ≤ (2 : Int) := (by omega)
                                                        have q164 : 2 < (x6_1.length : Int) := of_decide_eq_true (by first | (with_reducible assumption) | assumption)
                                                        obtain ⟨ad164, e164, hx164_0⟩ := Kd.at_int (Kd.R_reads' HO_6.out).2.2 2 p164 q164
                                                        obtain rfl : ad159 = ad164 := (by injection e164)
                                                        (try simp only [show (2 : Int).toNat = 2 from rfl, Nat.reduceMul, Nat.reduceEqDiff, Go.Addr.add, ↓reduceIte] at hx164_0)
                                                        have qi164 : (2 < x6_1.length) = True := eq_true (by omega)
                                                        (try rw [show ((2 : Int)).toNat = 2 from rfl] at hx164_0)
                                                        replace p164 := eq_true p164
                                                        replace q164 := eq_true q164
                                                        have p165 : 0 ≤ (3 : Int) := (by omega)
                                                        have q165 : 3 < (x6_1.length : Int) := of_decide_eq_true (by first | (with_reducible assumption) | assumption)
                                                        obtain ⟨ad165, e165, hx165_0⟩ := Kd.at_int (Kd.R_reads' HO_6.out).2.2 3 p165 q165
                                                        obtain rfl : ad159 = ad165 := (by injection e165)
                                                        (try simp only [show (3 : Int).toNat = 3 from rfl, Nat.reduceMul, Nat.reduceEqDiff, Go.Addr.add, ↓reduceIte] at hx165_0)
                                                        have qi165 : (3 < x6_1.length) = True := eq_true (by omega)
                                                        (try rw [show ((3 : Int)).toNat = 3 from rfl] at hx165_0)
                                                        replace p165 := eq_true p165
                                                        replace q165 := eq_true q165
                                                        go_wp2
                                                        repeat (go_quiet (fail); try go_wp2)
                                                        refine bodyPost_ret (results_list (rs := [.tmp 2, .tmp 3, .tmp 4, .tmp 5]) rfl (by simp) (.tmp (.tmp (.tmp (.tmp .nil))))) rfl ?_
                                                        exact ⟨by first | rfl | (simp [errW_none, errW_some] <;> rfl) | (simp only [← hji23, ← hji32, ← hji36]; first | rfl | (simp [errW_none, errW_some] <;> rfl)) | (simp [*, errW_none, errW_some] <;> rfl), by repeat (first | (with_reducible first | exact HB.out | apply below_alloc | apply pw_below_drewN | apply below_drew1) | exact HB.out)⟩
                                              · rw [if_neg c39] at H
                                                exact absurd H (by simp)
                                            · rw [if_neg c38] at H
                                              exact absurd H (by simp)
                                          · rw [if_neg c37] at H
                                            exact absurd H (by simp)
                                        · rw [if_neg c35] at H
                                          exact absurd H (by simp)
                                      · rw [if_neg c34] at H
                                        exact absurd H (by simp)
                                    · rw [if_neg c33] at H
                                      exact absurd H (by simp)
                                  · rw [if_neg c31] at H
                                    exact absurd H (by simp)
                                · rw [if_neg c30] at H
                                  exact absurd H (by simp)
                              · rw [if_neg c29] at H
                                exact absurd H (by simp)
                            · rw [if_neg c28] at H
                              exact absurd H (by simp)
                          · rw [if_neg c27] at H
                            have c27b0 : ((bt a0 (ji23)) == 61) = false := beq_eq_false_iff_ne.mpr c27
                            have c27b1 : ((bt a0 (ji23)) != 61) = true := bne_iff_ne.mpr c27
                            simp only [Option.some.injEq, Prod.mk.injEq] at H
                            obtain ⟨rfl, rfl, rfl, rfl⟩ := H
                            obtain ⟨Ao55, co55, eo55⟩ := Kd.R_slice HO_6.out
                            subst eo55
                            have p159 : 0 ≤ (0 : Int) := (by omega)
                            have q159 : 0 < (x6_1.length : Int) := of_decide_eq_true (by first | (with_reducible assumption) | assumption)
                            obtain ⟨ad159, e159, hx159_0⟩ := Kd.at_int (Kd.R_reads' HO_6.out).2.2 0 p159 q159
                            cases e159
                            have qi159 : (0 < x6_1.length) = True := eq_true (by omega)
                            (try rw [show ((0 : Int)).toNat = 0 from rfl] at hx159_0)
                            (try rw [Addr.add_zero'] at hx159_0)
                            replace p159 := eq_true p159
                            replace q159 := eq_true q159
                            have p160 : 0 ≤ (3 : Int) := (by omega)
                            have q160 : 3 < (x6_1.length : Int) := of_decide_eq_true (by first | (with_reducible assumption) | assumption)
                            obtain ⟨ad160, e160, hx160_0⟩ := Kd.at_int (Kd.R_reads' HO_6.out).2.2 3 p160 q160
                            obtain rfl : ad159 = ad160 := (by injection e160)
                            (try simp only [show (3 : Int).toNat = 3 from rfl, Nat.reduceMul, Nat.reduceEqDiff, Go.Addr.add, ↓reduceIte] at hx160_0)
                            have qi160 : (3 < x6_1.length) = True := eq_true (by omega)
                            (try rw [show ((3 : Int)).toNat = 3 from rfl] at hx160_0)
                            replace p160 := eq_true p160
                            replace q160 := eq_true q160
                            have p21 : 0 ≤ (0 : Int) := (by omega)
                            have q21 : 0 < a0.size := (by have : (0 : Int) < (a0.size : Int) := of_decide_eq_true (by first | (with_reducible assumption) | assumption); omega)
                            have hx21 : ∀ h : 0 < a0.size, ((a0[0]'h).toNat : Int) = bt a0 0 := bt_at a0 0
                            clear p21
                            have qi21 : (0 < (a0.size : Int)) = True := eq_true (of_decide_eq_true (by first | (with_reducible assumption) | assumption))
                            replace q21 := eq_true q21
                            have p26 : 0 ≤ ((ji23) : Int) := of_decide_eq_true (by first | (with_reducible assumption) | assumption)
                            have q26 : (ji23) < (a0.size : Int) := of_decide_eq_true (by first | (with_reducible assumption) | assumption)
                            have hx26 := bt_at a0 (ji23)
                            replace p26 := eq_true p26
                            replace q26 := eq_true q26
                            go_wp2
                            repeat (go_quiet (fail); try go_wp2)
                            refine bodyPost_ret (results_list (rs := [.tmp 2, .tmp 3, .tmp 4, .tmp 5]) rfl (by simp) (.tmp (.tmp (.tmp (.tmp .nil))))) rfl ?_
                            exact ⟨by first | rfl | (simp [errW_none, errW_some] <;> rfl) | (simp only [← hji23]; first | rfl | (simp [errW_none, errW_some] <;> rfl)) | (simp [*, errW_none, errW_some] <;> rfl), by repeat (first | (with_reducible first | exact HB.out | apply below_alloc | apply pw_below_drewN | apply below_drew1) | exact HB.out)⟩
                        · rw [if_neg c25] at H
                          exact absurd H (by simp)
                      · rw [if_neg c24] at H
                        exact absurd H (by simp)
                    · rw [if_neg c22] at H
                      have c22b0 : ((bt a0 0) == 61) = false := beq_eq_false_iff_ne.mpr c22
                      have c22b1 : ((bt a0 0) != 61) = true := bne_iff_ne.mpr c22
                      simp only [Option.some.injEq, Prod.mk.injEq] at H
                      obtain ⟨rfl, rfl, rfl, rfl⟩ := H
                      obtain ⟨Ao56, co56, eo56⟩ := Kd.R_slice HO_6.out
                      subst eo56
                      have p159 : 0 ≤ (0 : Int) := (by omega)
                      have q159 : 0 < (x6_1.length : Int) := of_decide_eq_true (by first | (with_reducible assumption) | assumption)
                      obtain ⟨ad159, e159, hx159_0⟩ := Kd.at_int (Kd.R_reads' HO_6.out).2.2 0 p159 q159
                      cases e159
                      have qi159 : (0 < x6_1.length) = True := eq_true (by omega)
                      (try rw [show ((0 : Int)).toNat = 0 from rfl] at hx159_0)
                      (try rw [Addr.add_zero'] at hx159_0)
                      replace p159 := eq_true p159
                      replace q159 := eq_true q159
                      have p160 : 0 ≤ (3 : Int) := (by omega)
                      have q160 : 3 < (x6_1.length : Int) := of_decide_eq_true (by first | (with_reducible assumption) | assumption)
                      obtain ⟨ad160, e160, hx160_0⟩ := Kd.at_int (Kd.R_reads' HO_6.out).2.2 3 p160 q160
                      obtain rfl : ad159 = ad160 := (by injection e160)
                      (try simp only [show (3 : Int).toNat = 3 from rfl, Nat.reduceMul, Nat.reduceEqDiff, Go.Addr.add, ↓reduceIte] at hx160_0)
                      have qi160 : (3 < x6_1.length) = True := eq_true (by omega)
                      (try rw [show ((3 : Int)).toNat = 3 from rfl] at hx160_0)
                      replace p160 := eq_true p160
                      replace q160 := eq_true q160
                      have p21 : 0 ≤ (0 : Int) := (by omega)
                      have q21 : 0 < a0.size := (by have : (0 : Int) < (a0.size : Int) := of_decide_eq_true (by first | (with_reducible assumption) | assumption); omega)
                      have hx21 : ∀ h : 0 < a0.size, ((a0[0]'h).toNat : Int) = bt a0 0 := bt_at a0 0
                      clear p21
                      have qi21 : (0 < (a0.size : Int)) = True := eq_true (of_decide_eq_true (by first | (with_reducible assumption) | assumption))
                      replace q21 := eq_true q21
                      go_wp2
                      repeat (go_quiet (fail); try go_wp2)
                      refine bodyPost_ret (results_list (rs := [.tmp 2, .tmp 3, .tmp 4, .tmp 5]) rfl (by simp) (.tmp (.tmp (.tmp (.tmp .nil))))) rfl ?_
                      exact ⟨by first | rfl | (simp [errW_none, errW_some] <;> rfl) | (simp [*, errW_none, errW_some] <;> rfl), by repeat (first | (with_reducible first | exact HB.out | apply below_alloc | apply pw_below_drewN | apply below_drew1) | exact HB.out)⟩
                  · rw [if_neg c20] at H
                    exact absurd H (by simp)
                · rw [if_neg c19] at H
                  have c19b0 : ((rd x6_1 3) == (wrap64 ((a0.size : Int) - 2))) = false := beq_eq_false_iff_ne.mpr c19
                  have c19b1 : ((rd x6_1 3) != (wrap64 ((a0.size : Int) - 2))) = true := bne_iff_ne.mpr c19
                  simp only [Option.some.injEq, Prod.mk.injEq] at H
                  obtain ⟨rfl, rfl, rfl, rfl⟩ := H
                  obtain ⟨Ao57, co57, eo57⟩ := Kd.R_slice HO_6.out
                  subst eo57
                  have p159 : 0 ≤ (0 : Int) := (by omega)
                  have q159 : 0 < (x6_1.length : Int) := of_decide_eq_true (by first | (with_reducible assumption) | assumption)
                  obtain ⟨ad159, e159, hx159_0⟩ := Kd.at_int (Kd.R_reads' HO_6.out).2.2 0 p159 q159
                  cases e159
                  have qi159 : (0 < x6_1.length) = True := eq_true (by omega)
                  (try rw [show ((0 : Int)).toNat = 0 from rfl] at hx159_0)
                  (try rw [Addr.add_zero'] at hx159_0)
                  replace p159 := eq_true p159
                  replace q159 := eq_true q159
                  have p160 : 0 ≤ (3 : Int) := (by omega)
                  have q160 : 3 < (x6_1.length : Int) := of_decide_eq_true (by first | (with_reducible assumption) | assumption)
                  obtain ⟨ad160, e160, hx160_0⟩ := Kd.at_int (Kd.R_reads' HO_6.out).2.2 3 p160 q160
                  obtain rfl : ad159 = ad160 := (by injection e160)
                  (try simp only [show (3 : Int).toNat = 3 from rfl, Nat.reduceMul, Nat.reduceEqDiff, Go.Addr.add, ↓reduceIte] at hx160_0)
                  have qi160 : (3 < x6_1.length) = True := eq_true (by omega)
                  (try rw [show ((3 : Int)).toNat = 3 from rfl] at hx160_0)
                  replace p160 := eq_true p160
                  replace q160 := eq_true q160
                  go_wp2
                  repeat (go_quiet (fail); try go_wp2)
                  refine bodyPost_ret (results_list (rs := [.tmp 2, .tmp 3, .tmp 4, .tmp 5]) rfl (by simp) (.tmp (.tmp (.tmp (.tmp .nil))))) rfl ?_
                  exact ⟨by first | rfl | (simp [errW_none, errW_some] <;> rfl) | (simp [*, errW_none, errW_some] <;> rfl), by repeat (first | (with_reducible first | exact HB.out | apply below_alloc | apply pw_below_drewN | apply below_drew1) | exact HB.out)⟩
              · rw [if_neg c18] at H
                exact absurd H (by simp)
            · rw [if_neg c17] at H
              have c17b0 : ((rd x6_1 0) == 1) = false := beq_eq_false_iff_ne.mpr c17
              have c17b1 : ((rd x6_1 0) != 1) = true := bne_iff_ne.mpr c17
              simp only [Option.some.injEq, Prod.mk.injEq] at H
              obtain ⟨rfl, rfl, rfl, rfl⟩ := H
              obtain ⟨Ao58, co58, eo58⟩ := Kd.R_slice HO_6.out
              subst eo58
              have p159 : 0 ≤ (0 : Int) := (by omega)
              have q159 : 0 < (x6_1.length : Int) := of_decide_eq_true (by first | (with_reducible assumption) | assumption)
              obtain ⟨ad159, e159, hx159_0⟩ := Kd.at_int (Kd.R_reads' HO_6.out).2.2 0 p159 q159
              cases e159
              have qi159 : (0 < x6_1.length) = True := eq_true (by omega)
              (try rw [show ((0 : Int)).toNat = 0 from rfl] at hx159_0)
              (try rw [Addr.add_zero'] at hx159_0)
              replace p159 := eq_true p159
              replace q159 := eq_true q159
              go_wp2
              repeat (go_quiet (fail); try go_wp2)
              refine bodyPost_ret (results_list (rs := [.tmp 2, .tmp 3, .tmp 4, .tmp 5]) rfl (by simp) (.tmp (.tmp (.tmp (.tmp .nil))))) rfl ?_
              exact ⟨by first | rfl | (simp [errW_none, errW_some] <;> rfl) | (simp [*, errW_none, errW_some] <;> rfl), by repeat (first | (with_reducible first | exact HB.out | apply below_alloc | apply pw_below_drewN | apply below_drew1) | exact HB.out)⟩
          · rw [if_neg c16] at H
            exact absurd H (by simp)
        · rw [if_neg c15] at H
          have c15b0 : ((x6_1.length : Int) == 4) = false := beq_eq_false_iff_ne.mpr c15
          have c15b1 : ((x6_1.length : Int) != 4) = true := bne_iff_ne.mpr c15
          simp only [Option.some.injEq, Prod.mk.injEq] at H
          obtain ⟨rfl, rfl, rfl, rfl⟩ := H
          obtain ⟨Ao59, co59, eo59⟩ := Kd.R_slice HO_6.out
          subst eo59
          go_wp2
          repeat (go_quiet (fail); try go_wp2)
          refine bodyPost_ret (results_list (rs := [.tmp 2, .tmp 3, .tmp 4, .tmp 5]) rfl (by simp) (.tmp (.tmp (.tmp (.tmp .nil))))) rfl ?_
          exact ⟨by first | rfl | (simp [errW_none, errW_some] <;> rfl) | (simp [*, errW_none, errW_some] <;> rfl), by repeat (first | (with_reducible first | exact HB.out | apply below_alloc | apply pw_below_drewN | apply below_drew1) | exact HB.out)⟩

end Go.Proofs.YtcnhnpkbklakoaaDoor.PWordDecodes
