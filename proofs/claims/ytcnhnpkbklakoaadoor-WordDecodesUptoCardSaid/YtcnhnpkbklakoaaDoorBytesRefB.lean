/- posthornref17.bytes: the B coding, by the reference's Unbase64. -/
import Derived.Test.YtcnhnpkbklakoaaDoorBytesRef
import Derived.Test.YtcnhnpkbklakoaaDoorRefUnb
namespace Go.Proofs.YtcnhnpkbklakoaaDoor.Word
open Go.RowKit Go.Shelf Go.Proofs.YtcnhnpkbklakoaaDoorW.PrintWords Go.Proofs.YtcnhnpkbklakoaaDoorW.PrintLast Go.Proofs.YtcnhnpkbklakoaaDoorW.PrintMore Go.Proofs.YtcnhnpkbklakoaaDoor.PWordDecodes
open Go.Proofs.YtcnhnpkbklakoaaDoor.Code Go.Proofs.YtcnhnpkbklakoaaDoor.Runes Go.Proofs.YtcnhnpkbklakoaaDoor.Pieces Go.Proofs.YtcnhnpkbklakoaaDoor.Unhex
attribute [local go_sem] max2_int min2_int max_two min_two max_three min_three max_four min_four
set_option linter.unusedVariables false
set_option linter.unusedSimpArgs false
set_option maxHeartbeats 8000000 in
set_option maxRecDepth 100000 in
theorem refbytesB_calls (t : ByteArray) (c : UInt8) (hc : c = 66 ∨ c = 98) (w : World) (k : Nat) (L : List Int) (er a : Int) (h : posthornref04_Unbase64.f k t = some (L, er, a)) :
    Calls Tryd.prog 37 #[.string ⟨#[c]⟩, .string t] w fun e w' => ∃ V, e = .returned (.tuple #[V, .int .i64 (if er = 0 then -1 else a)]) ∧ w'.ownsRow w.heap.size 5 1 V (if er = 0 then L else []).length (nums .u8 (if er = 0 then L else [])) ∧ Below w.heap.size w w' := by
  have hu25 := Tryd.underlying25
  have HSM : Hid (∀ W, Calls Tryd.prog 60 #[.string ⟨#[c]⟩] W fun e w' => e = .returned (.string ⟨#[98]⟩) ∧ Below W.heap.size W w') := Lib.hid (fun W => by
    have h := small_calls ⟨#[c]⟩ W (by show 1 ≤ _; decide)
    have e : lowV ⟨#[c]⟩ = ⟨#[98]⟩ := by rcases hc with rfl | rfl <;> kernel_rfl
    rwa [e] at h)
  have HU := Lib.hid (fun W => posthornref04_Unbase64.calls k t L er a W h)
  clear hc h
  by_cases he : er = 0
  · subst he
    simp only [if_true]
    go_enter Tryd.func37, Tryd.ntmps37
    go_wp2_with fail
    refine (HSM.out w).mono ?_
    rintro e w1 ⟨rfl, hb1⟩
    have HB1 := Lib.hid hb1
    clear hb1
    go_wp2_with fail
    refine (HU.out w1).mono ?_
    rintro e w2 ⟨V, rfl, hr, hb2⟩
    have HO := Lib.hid (own_low (Kd.own_of_R hr) HB1.out.size)
    have HB2 := Lib.hid (HB1.out.trans (hb2.mono HB1.out.size))
    clear hr hb2
    go_wp2
    refine bodyPost_ret (results_list (rs := [.tmp 4, .tmp 5]) rfl (by simp) (.tmp (.tmp .nil))) rfl ?_
    exact ⟨_, rfl, HO.out.alloc _, HB2.out.alloc HB2.out.size _⟩
  · rw [if_neg he, if_neg he]
    have hne : (er == 0) = false := beq_eq_false_iff_ne.2 he
    have hne2 : (er != 0) = true := bne_iff_ne.2 he
    go_enter Tryd.func37, Tryd.ntmps37
    go_wp2_with fail
    refine (HSM.out w).mono ?_
    rintro e w1 ⟨rfl, hb1⟩
    have HB1 := Lib.hid hb1
    clear hb1
    go_wp2_with fail
    refine (HU.out w1).mono ?_
    rintro e w2 ⟨V, rfl, hr, hb2⟩
    have HB2 := Lib.hid (HB1.out.trans (hb2.mono HB1.out.size))
    clear hr hb2
    go_wp2
    go_region
    go_wp2
    refine bodyPost_ret (results_list (rs := [.tmp 4, .tmp 5]) rfl (by simp) (.tmp (.tmp .nil))) rfl ?_
    exact ⟨_, rfl, own_nil _ _ _ _, (HB2.out.alloc HB2.out.size _).drew⟩
end Go.Proofs.YtcnhnpkbklakoaaDoor.Word
