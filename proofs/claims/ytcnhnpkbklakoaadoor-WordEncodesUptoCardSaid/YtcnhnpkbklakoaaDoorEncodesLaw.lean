/- posthornlaw17.WordEncodes: the reference's Encode; the law's walk. -/
import Derived.Test.YtcnhnpkbklakoaaDoorEncDec
import Derived.Test.YtcnhnpkbklakoaaDoorEncRows
namespace Go.Proofs.YtcnhnpkbklakoaaDoor.Word
open Go.RowKit Go.Shelf Go.Proofs.YtcnhnpkbklakoaaDoorW.PrintWords Go.Proofs.YtcnhnpkbklakoaaDoorW.PrintLast Go.Proofs.YtcnhnpkbklakoaaDoorW.PrintMore Go.Proofs.YtcnhnpkbklakoaaDoor.PWordEncodes
open Go.Proofs.YtcnhnpkbklakoaaDoor.Code Go.Proofs.YtcnhnpkbklakoaaDoor.Runes Go.Proofs.YtcnhnpkbklakoaaDoor.Pieces
attribute [local go_sem] max2_int min2_int max_two min_two max_three min_three max_four min_four
set_option linter.unusedVariables false
set_option linter.unusedSimpArgs false
theorem runes_len (s : ByteArray) : (decV s).1.length ≤ s.size := by
  unfold decV
  split
  · exact Nat.zero_le _
  · have := (runesAt_ok s s.size 0 (by omega)).2
    omega
set_option maxHeartbeats 8000000 in
set_option maxRecDepth 100000 in
theorem refencode_calls (s : ByteArray) (short : Bool) (w : World) (hs : s.size ≤ 100000000) :
    Calls Tryd.prog 14 #[.string s, .bool short] w fun e w' => e = .returned (.tuple #[.string (encV s short).1, .int .i64 (encV s short).2]) ∧ Below w.heap.size w w' := by
  have hu25 := Tryd.underlying25
  rw [← ref_enc]
  unfold refEnc
  have hgd := decV_gd s
  have hln := runes_len s
  have HRU := Lib.hid (refrunes_calls s w (by omega))
  obtain ⟨D, hD⟩ : ∃ D, D = decV s := ⟨_, rfl⟩
  rw [← hD] at hgd hln HRU ⊢
  obtain ⟨L, er, pl⟩ := D
  simp only at hgd hln HRU ⊢
  clear hD
  by_cases he : er ≠ 0
  · rw [if_pos he]
    have hne : (er == 0) = false := beq_eq_false_iff_ne.2 he
    have hne2 : (er != 0) = true := bne_iff_ne.2 he
    go_enter Tryd.func14, Tryd.ntmps14
    go_wp2_with fail
    refine HRU.out.mono ?_
    rintro e w1 ⟨V, a, rfl, ho, hb1⟩
    have H7 := Lib.hid (heap_alloc_new w1 (.cells #[.int .i64 er, .int .i64 a] 25))
    have HB1 := Lib.hid (hb1.alloc hb1.size (.cells #[.int .i64 er, .int .i64 a] 25))
    have x0 := blk_cell H7.out 0
    have x1 := blk_cell H7.out 1
    simp only [List.getElem?_toArray, List.getElem?_cons_succ, List.getElem?_cons_zero] at x0 x1
    clear ho hb1
    go_wp2
    go_region
    go_wp2
    refine bodyPost_ret (results_list (rs := [.tmp 4, .tmp 5]) rfl (by simp) (.tmp (.tmp .nil))) rfl ?_
    exact ⟨rfl, HB1.out.drew⟩
  · rw [if_neg he]
    have he0 : er = 0 := Decidable.not_not.1 he
    subst he0
    obtain ⟨kB, hkB⟩ := written_f ok_B L hgd (by omega)
    obtain ⟨kQ, hkQ⟩ := written_f ok_Q L hgd (by omega)
    rw [← inB_g] at hkB
    rw [← inQ_g L hgd] at hkQ
    obtain ⟨XB, hXB⟩ : ∃ X, X = (if L = [] then (⟨#[]⟩ : ByteArray) else inBV L) := ⟨_, rfl⟩
    obtain ⟨XQ, hXQ⟩ : ∃ X, X = (if L = [] then (⟨#[]⟩ : ByteArray) else inQV L) := ⟨_, rfl⟩
    rw [← hXB] at hkB ⊢
    rw [← hXQ] at hkQ ⊢
    obtain ⟨n, hn⟩ : ∃ n, n = L.length := ⟨_, rfl⟩
    have HWB := Lib.hid (fun (A : Option Addr) (c : Nat) W (hC : Kd.C (Kd.int .i32) W A n L) (hc : n ≤ c) => (show Calls Tryd.prog 32 #[.slice A n c, .bool false] W fun e w' => e = .returned (.string XB) ∧ Below W.heap.size W w' from by
      subst hn
      exact posthornref17_written.calls kB A c L false XB W hC hc hkB))
    have HWQ := Lib.hid (fun (A : Option Addr) (c : Nat) W (hC : Kd.C (Kd.int .i32) W A n L) (hc : n ≤ c) => (show Calls Tryd.prog 32 #[.slice A n c, .bool true] W fun e w' => e = .returned (.string XQ) ∧ Below W.heap.size W w' from by
      subst hn
      exact posthornref17_written.calls kQ A c L true XQ W hC hc hkQ))
    rw [← hn] at HRU
    obtain ⟨F, hF⟩ : ∃ F, F = (if short = true ∧ XQ.size < XB.size then (XQ, (0 : Int)) else (XB, 0)) := ⟨_, rfl⟩
    rw [← hF]
    obtain ⟨f0, f1⟩ := F
    have HF := Lib.hid hF
    have HN := Lib.hid hn
    clear hF hkB hkQ hXB hXQ he hgd hln hn
    go_enter Tryd.func14, Tryd.ntmps14
    go_wp2_with fail
    refine HRU.out.mono ?_
    rintro e w1 ⟨V, a, rfl, ho, hb1⟩
    obtain ⟨A, c, rfl, hc, hC1⟩ := own_CR HN.out.symm ho
    have H7 := Lib.hid (heap_alloc_new w1 (.cells #[.int .i64 0, .int .i64 a] 25))
    have HB1 := Lib.hid (hb1.alloc hb1.size (.cells #[.int .i64 0, .int .i64 a] 25))
    have HC1 := Lib.hid (Kd.C_below hC1 ((Below.refl w1.heap.size w1).alloc (Nat.le_refl _) (.cells #[.int .i64 0, .int .i64 a] 25)))
    obtain ⟨W1, hW1⟩ : ∃ W1, W1 = w1.alloc (.cells #[.int .i64 0, .int .i64 a] 25) := ⟨_, rfl⟩
    have x0 := blk_cell H7.out 0
    have x1 := blk_cell H7.out 1
    simp only [List.getElem?_toArray, List.getElem?_cons_succ, List.getElem?_cons_zero] at x0 x1
    rw [← hW1] at HB1 HC1
    have HW1 := Lib.hid hW1
    clear ho hb1 hC1 hW1
    go_wp2_with fail
    rw [← HW1.out]
    refine (HWB.out A c W1 HC1.out hc).mono ?_
    rintro e w2 ⟨rfl, hb2⟩
    have HB2 := Lib.hid (HB1.out.trans (hb2.mono HB1.out.size))
    have HC2 := Lib.hid (Kd.C_below HC1.out hb2)
    clear hb2 x0 x1
    go_wp2_with fail
    refine (HWQ.out A c w2 HC2.out hc).mono ?_
    rintro e w3 ⟨rfl, hb3⟩
    have HB3 := Lib.hid (HB2.out.trans (hb3.mono HB2.out.size))
    clear hb3
    cases short
    · have hF := HF.out
      rw [if_neg (fun h => by cases h.1)] at hF
      cases hF
      go_wp2
      refine bodyPost_ret (results_list (rs := [.tmp 4, .tmp 5]) rfl (by simp) (.tmp (.tmp .nil))) rfl ?_
      exact ⟨rfl, HB3.out⟩
    · by_cases hlt : XQ.size < XB.size
      · have hF := HF.out
        rw [if_pos ⟨rfl, hlt⟩] at hF
        cases hF
        have q1 : decide ((XQ.size : Int) < (XB.size : Int)) = true := decide_eq_true (by omega)
        go_wp2
        refine bodyPost_ret (results_list (rs := [.tmp 4, .tmp 5]) rfl (by simp) (.tmp (.tmp .nil))) rfl ?_
        exact ⟨rfl, HB3.out⟩
      · have hF := HF.out
        rw [if_neg (fun h => hlt h.2)] at hF
        cases hF
        have q1 : decide ((XQ.size : Int) < (XB.size : Int)) = false := decide_eq_false (by omega)
        go_wp2
        refine bodyPost_ret (results_list (rs := [.tmp 4, .tmp 5]) rfl (by simp) (.tmp (.tmp .nil))) rfl ?_
        exact ⟨rfl, HB3.out⟩
set_option maxHeartbeats 4000000 in
set_option maxRecDepth 100000 in
theorem lawencodes_calls (s : ByteArray) (short : Bool) (m : Int) (w : World) (hs : s.size ≤ 1048576) (hm : w.cell? ⟨1, 0, none⟩ = some (.int .i64 m)) (hT : Octet.Laid w) :
    Calls Tryd.prog 4 #[.string s, .bool short] w fun e w' => e = .returned (.bool true) ∧ Below w.heap.size w w' := by
  have h1lt := World.block_lt_of_cell? w _ hm
  have HM := Lib.hid hm
  have HT := Lib.hid hT
  have HWK := Lib.hid (fun W h k => wakes_calls m W h k)
  have HRE := Lib.hid (refencode_calls s short w (by omega))
  have HE := Lib.hid (fun W k => encode_calls s short W (by omega) k)
  obtain ⟨R, hR⟩ : ∃ R, R = encV s short := ⟨_, rfl⟩
  rw [← hR] at HRE HE
  obtain ⟨r0, r1⟩ := R
  clear hm hT hR
  go_enter Tryd.func4, Tryd.ntmps4
  go_wp2_with fail
  refine HRE.out.mono ?_
  rintro e w1 ⟨rfl, hb1⟩
  have HB1 := Lib.hid hb1
  clear hb1
  go_wp2_with fail
  refine (HE.out w1 (HT.out.below HT.out.size HB1.out)).mono ?_
  rintro e w3 ⟨rfl, hb3⟩
  have HB3 := Lib.hid (HB1.out.trans (hb3.mono HB1.out.size))
  clear hb3
  go_wp2_with fail
  refine (HWK.out _ ((HB3.out.cell h1lt).trans HM.out) (HT.out.below HT.out.size HB3.out)).mono ?_
  rintro e w6 ⟨rfl, hb6⟩
  have HB6 := Lib.hid (HB3.out.trans (hb6.mono HB3.out.size))
  clear hb6
  go_wp2
  go_ret
  exact ⟨rfl, HB6.out⟩
end Go.Proofs.YtcnhnpkbklakoaaDoor.Word
