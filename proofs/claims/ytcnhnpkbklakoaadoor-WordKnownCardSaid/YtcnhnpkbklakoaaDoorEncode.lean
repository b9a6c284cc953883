/- word.Encode by contract. -/
import Derived.Test.YtcnhnpkbklakoaaDoorInQ
import Derived.Deep.QuietTactic
import Derived.BigQuiet
import Derived.Lib.DecodeN
namespace Go.Proofs.YtcnhnpkbklakoaaDoor.Word
open Go.RowKit Go.Proofs.YtcnhnpkbklakoaaDoorW.PrintWords Go.Proofs.YtcnhnpkbklakoaaDoorW.PrintLast Go.Proofs.YtcnhnpkbklakoaaDoorW.PrintMore Go.Proofs.YtcnhnpkbklakoaaDoor.PWordEncodes
open Go.Proofs.YtcnhnpkbklakoaaDoor.Code Go.Proofs.YtcnhnpkbklakoaaDoor.Runes
attribute [local go_sem] max2_int min2_int max_two min_two max_three min_three max_four min_four
set_option linter.unusedVariables false
set_option linter.unusedSimpArgs false
/-- what Encode tells -/
def encV (t : ByteArray) (short : Bool) : ByteArray × Int :=
  if (decV t).2.1 ≠ 0 then (⟨#[]⟩, (decV t).2.1) else if (decV t).1 = [] then (⟨#[]⟩, 0) else
  if short = true ∧ (inQV (decV t).1).size < (inBV (decV t).1).size then (inQV (decV t).1, 0) else (inBV (decV t).1, 0)
theorem decode_rune (s : ByteArray) (i : Nat) : (Utf8.decode s i).1 < 1114112 := by
  rw [Lib.decode_at]
  have h0 : (s.get! i).toNat < 256 := UInt8.toNat_lt _
  unfold Lib.decodeN
  repeat' split
  all_goals (simp only; omega)
theorem runesAt_ok (s : ByteArray) : ∀ (d i : Nat), s.size - i ≤ d → (∀ r ∈ runesAt s i, 0 ≤ r ∧ r < 1114112) ∧ (runesAt s i).length ≤ s.size - i
  | 0, i, h => by
    rw [runesAt_ge s i (by omega)]
    exact ⟨fun r hr => (by cases hr), by simp⟩
  | d + 1, i, h => by
    by_cases hi : i < s.size
    · rw [runesAt_lt s i hi]
      have hp := decode_pos s i
      obtain ⟨h1, h2⟩ := runesAt_ok s d (i + (Utf8.decode s i).2) (by omega)
      have hd := decode_rune s i
      refine ⟨fun r hr => ?_, by simp only [List.length_cons]; omega⟩
      rcases List.mem_cons.1 hr with rfl | hr
      · omega
      · exact h1 r hr
    · rw [runesAt_ge s i hi]
      exact ⟨fun r hr => (by cases hr), by simp⟩
theorem own_CR {w : World} {b n : Nat} {v : Value} {l : List Int} (hn : l.length = n) (h : w.ownsRow b 21 1 v n (nums .i32 l)) : ∃ A c, v = .slice A n c ∧ n ≤ c ∧ Kd.C (Kd.int .i32) w A n l := by
  subst hn
  exact Kd.R_reads (Kd.R_of_own (enc := Value.int .i32) (h1 := fun _ => rfl) (ok := fun _ => True) h (fun _ _ => trivial))
theorem below_drewN' {b : Nat} {w W : World} (h : Below b w W) (m : Nat) : Below b w (W.drewN m) := ⟨h.os, h.tape, h.output, h.size, h.block⟩
set_option maxHeartbeats 4000000 in
set_option maxRecDepth 100000 in
theorem encode_calls (t : ByteArray) (short : Bool) (w : World) (ht : t.size ≤ 3000000000) (hT : Octet.Laid w) :
    Calls Tryd.prog 12 #[.string t, .bool short] w fun e w' => e = .returned (.tuple #[.string (encV t short).1, .int .i64 (encV t short).2]) ∧ Below w.heap.size w w' := by
  have HDC := Lib.hid (decode_calls t w ht)
  have hu25 := Tryd.underlying25
  have HT := Lib.hid hT
  clear hT
  by_cases hbad : runesBad t.data.toList < t.size
  · obtain ⟨N, hN⟩ : ∃ N : Nat, runesBad t.data.toList = N := ⟨_, rfl⟩
    have hd : decV t = ([], 50, N) := by unfold decV; rw [if_pos hbad, hN]
    have he : encV t short = (⟨#[]⟩, 50) := by unfold encV; rw [hd]; rfl
    rw [he]
    rw [hd] at HDC
    clear hd he hN hbad
    go_enter Tryd.func12, Tryd.ntmps12
    go_wp2_with fail
    refine HDC.out.mono ?_
    rintro e w1 ⟨V, rfl, ho, hb⟩
    obtain ⟨A, c, rfl, hc, hC⟩ := own_CR rfl ho
    have HB := Lib.hid hb
    clear ho hC hb
    go_wp2
    go_quiet (fail)
    go_wp2
    go_ret2
    exact ⟨rfl, below_drewN' (HB.out.alloc HB.out.size _) _⟩
  · obtain ⟨L, hL⟩ : ∃ L, runesAt t 0 = L := ⟨_, rfl⟩
    have hd : decV t = (L, 0, 0) := by unfold decV; rw [if_neg hbad, hL]
    obtain ⟨hv, hlen⟩ := runesAt_ok t t.size 0 (by omega)
    rw [hL] at hv hlen
    rw [hd] at HDC
    by_cases h0 : L = []
    · have he : encV t short = (⟨#[]⟩, 0) := by unfold encV; rw [hd]; simp [h0]
      rw [he]
      clear hd he hL hbad hv hlen
      subst h0
      go_enter Tryd.func12, Tryd.ntmps12
      go_wp2_with fail
      refine HDC.out.mono ?_
      rintro e w1 ⟨V, rfl, ho, hb⟩
      obtain ⟨A, c, rfl, hc, hC⟩ := own_CR rfl ho
      have HB := Lib.hid hb
      clear ho hC hb
      go_wp2
      go_quiet (fail)
      go_wp2
      go_ret2
      exact ⟨rfl, below_drewN' (HB.out.alloc HB.out.size _) _⟩
    · obtain ⟨n, hn⟩ : ∃ n, L.length = n := ⟨_, rfl⟩
      have hn0 : 0 < n := by rw [← hn]; exact List.length_pos_iff.2 h0
      have hnl : n ≤ t.size := by omega
      have hne0 : (n == 0) = false := by simp; omega
      have HN := Lib.hid hn
      have HV := Lib.hid hv
      have HDV := Lib.hid hd
      clear hd hL hbad hv hlen hn
      cases short
      · have he : encV t false = (inBV L, 0) := by unfold encV; rw [HDV.out]; simp [h0]
        rw [he]
        clear he h0
        go_enter Tryd.func12, Tryd.ntmps12
        go_wp2_with fail
        refine HDC.out.mono ?_
        rintro e w1 ⟨V, rfl, ho, hb⟩
        rw [HN.out] at ho
        obtain ⟨A, c, rfl, hc, hC⟩ := own_CR HN.out ho
        have HB := Lib.hid hb
        have HC := Lib.hid hC
        clear ho hC hb
        go_wp2_with fail
        refine (inB_calls A c n L _ HN.out (Kd.C_below HC.out ((Below.refl _ _).alloc (Nat.le_refl _) _)) hc (by omega)).mono ?_
        rintro e w2 ⟨rfl, hb2⟩
        go_wp2
        go_ret2
        exact ⟨rfl, (HB.out.alloc HB.out.size _).trans (hb2.mono (HB.out.alloc HB.out.size _).size)⟩
      · obtain ⟨R, hR⟩ : ∃ R, R = if (inQV L).size < (inBV L).size then inQV L else inBV L := ⟨_, rfl⟩
        have he : encV t true = (R, 0) := by
          unfold encV
          rw [HDV.out, hR]
          simp only [ne_eq, not_true_eq_false, if_false, if_neg h0, true_and]
          split <;> rfl
        rw [he]
        have HRR := Lib.hid hR
        clear h0 he hR
        go_enter Tryd.func12, Tryd.ntmps12
        go_wp2_with fail
        refine HDC.out.mono ?_
        rintro e w1 ⟨V, rfl, ho, hb⟩
        rw [HN.out] at ho
        obtain ⟨A, c, rfl, hc, hC⟩ := own_CR HN.out ho
        have HB := Lib.hid hb
        have HC := Lib.hid hC
        clear ho hC hb
        go_wp2_with fail
        have hba := (Below.refl w1.heap.size w1).alloc (Nat.le_refl _) (.cells #[.int .i64 0, .int .i64 0] 25)
        have HBa := Lib.hid hba
        clear hba
        refine (inB_calls A c n L _ HN.out (Kd.C_below HC.out HBa.out) hc (by omega)).mono ?_
        rintro e w2 ⟨rfl, hb2⟩
        have HB2 := Lib.hid ((HB.out.alloc HB.out.size (.cells #[.int .i64 0, .int .i64 0] 25)).trans (hb2.mono (HB.out.alloc HB.out.size (.cells #[.int .i64 0, .int .i64 0] 25)).size))
        have HBb := Lib.hid (HBa.out.trans (hb2.mono HBa.out.size))
        clear hb2
        obtain ⟨b, hb⟩ : ∃ b, b = inBV L := ⟨_, rfl⟩
        rw [← hb]
        have HBV := Lib.hid hb
        clear hb
        go_wp2_with fail
        refine (inQ_calls A c n L _ HN.out (Kd.C_below HC.out HBb.out) hc (by omega) HV.out (HT.out.below HT.out.size HB2.out)).mono ?_
        rintro e w3 ⟨rfl, hb3⟩
        have HB3 := Lib.hid (HB2.out.trans (hb3.mono HB2.out.size))
        obtain ⟨q, hq⟩ : ∃ q, q = inQV L := ⟨_, rfl⟩
        rw [← hq]
        have HQV := Lib.hid hq
        clear hb3 hq
        by_cases hlt : q.size < b.size
        · go_wp2
          go_ret2
          exact ⟨by rw [HRR.out, ← HBV.out, ← HQV.out, if_pos hlt]; rfl, HB3.out⟩
        · go_wp2
          go_ret2
          exact ⟨by rw [HRR.out, ← HBV.out, ← HQV.out, if_neg hlt]; rfl, HB3.out⟩
end Go.Proofs.YtcnhnpkbklakoaaDoor.Word
