/- posthornlaw17.WordPlain: its walk. -/
import Derived.Test.YtcnhnpkbklakoaaDoorG5
import Derived.Test.YtcnhnpkbklakoaaDoorRefNeeds
import Derived.Laws.StructEq
namespace Go.Proofs.YtcnhnpkbklakoaaDoor.Word
open Go.RowKit Go.Proofs.YtcnhnpkbklakoaaDoorW.PrintWords Go.Proofs.YtcnhnpkbklakoaaDoorW.PrintLast Go.Proofs.YtcnhnpkbklakoaaDoorW.PrintMore Go.Proofs.YtcnhnpkbklakoaaDoor.PWordEncodes
open Go.Proofs.YtcnhnpkbklakoaaDoor.Code Go.Proofs.YtcnhnpkbklakoaaDoor.Runes Go.Proofs.YtcnhnpkbklakoaaDoor.Pieces
attribute [local go_sem] max2_int min2_int max_two min_two max_three min_three max_four min_four
set_option linter.unusedVariables false
set_option linter.unusedSimpArgs false
theorem take_ext (s : ByteArray) (i j : Nat) (hij : i ≤ j) : natsOf (s.data.toList.take i) ++ bytesOf (s.extract i j) = natsOf (s.data.toList.take j) := by
  have h : bytesOf (s.extract i j) = natsOf ((s.data.toList.drop i).take (j - i)) := by
    rw [← Lib.extract_data]; rfl
  rw [h, ← natsOf_app, ← List.take_add, Nat.add_sub_cancel' hij]
theorem dec_none (s : ByteArray) : ∀ (d i : Nat) (last : Bool), i ≤ s.size → s.size - i ≤ d → needsGo s d i = false → decGo s d i (natsOf (s.data.toList.take i)) last = (s, 0, 0) := by
  have hend : strOfNums (natsOf (s.data.toList.take s.size)) = s := by
    rw [str_natsOf]
    exact ba_ext (by rw [List.take_of_length_le (by rw [data_length]; exact Nat.le_refl _)])
  intro d
  induction d with
  | zero =>
    intro i last hi hd _
    obtain rfl : i = s.size := by omega
    rw [decGo, hend]
  | succ d ih =>
    intro i last hi hd hn
    by_cases hlt : i < s.size
    · rw [needsGo, if_pos hlt] at hn
      have hl := at_le s i hi
      have hm := eAt_more s i hlt
      by_cases hc : (cutV (s.extract (wAt s i) (eAt s i))).2.2.2 = true
      · rw [if_pos hc] at hn
        cases hn
      · rw [if_neg hc] at hn
        rw [decGo, if_pos hlt, if_pos (Bool.eq_false_iff.2 hc), take_ext s _ _ hl.1, take_ext s _ _ hl.2.1]
        exact ih _ _ hl.2.2 (by omega) hn
    · obtain rfl : i = s.size := by omega
      rw [decGo_end _ _ _ _ _ hlt, hend]
theorem plain_pure (s : ByteArray) (h : needsV s = false) : wdecV s = (s, 0, 0) := by
  unfold needsV at h
  split at h
  · cases h
  · exact dec_none s s.size 0 false (Nat.zero_le _) (by omega) h
set_option maxHeartbeats 4000000 in
set_option maxRecDepth 100000 in
theorem lawplain_calls (s : ByteArray) (m : Int) (w : World) (hs : s.size ≤ 1048576) (hm : w.cell? ⟨1, 0, none⟩ = some (.int .i64 m)) (hT : Octet.Laid w) :
    Calls Tryd.prog 7 #[.string s] w fun e w' => e = .returned (.bool true) ∧ Below w.heap.size w w' := by
  have hu25 := Tryd.underlying25
  have h1lt := World.block_lt_of_cell? w _ hm
  have HM := Lib.hid hm
  have HT := Lib.hid hT
  have HWK := Lib.hid (fun W h k => wakes_calls m W h k)
  have HRN := Lib.hid (refneeds_calls s w (by omega))
  clear hm hT
  cases hb : needsV s
  · have hd := plain_pure s hb
    have HD := Lib.hid (fun W h k => hd ▸ wdecode_calls s m W (by omega) h k)
    rw [hb] at HRN
    clear hd hb
    go_enter Tryd.func7, Tryd.ntmps7
    go_wp2_with fail
    refine HRN.out.mono ?_
    rintro e w1 ⟨rfl, hb1⟩
    have HB1 := Lib.hid hb1
    clear hb1
    go_wp2_with fail
    refine (HD.out w1 ((HB1.out.cell h1lt).trans HM.out) (HT.out.below HT.out.size HB1.out)).mono ?_
    rintro e w3 ⟨rfl, hb3⟩
    have HB3 := Lib.hid ((HB1.out.trans (hb3.mono HB1.out.size)).alloc (HB1.out.trans (hb3.mono HB1.out.size)).size (.cells #[.int .i64 0, .int .i64 0] 25))
    clear hb3
    go_wp2_with fail
    refine (HWK.out _ ((HB3.out.cell h1lt).trans HM.out) (HT.out.below HT.out.size HB3.out)).mono ?_
    rintro e w4 ⟨rfl, hb4⟩
    have HB4 := Lib.hid (HB3.out.trans (hb4.mono HB3.out.size))
    clear hb4
    go_wp2
    go_ret
    exact ⟨rfl, HB4.out⟩
  · rw [hb] at HRN
    clear hb
    go_enter Tryd.func7, Tryd.ntmps7
    go_wp2_with fail
    refine HRN.out.mono ?_
    rintro e w1 ⟨rfl, hb1⟩
    have HB1 := Lib.hid hb1
    clear hb1
    go_wp2_with fail
    refine (HWK.out _ ((HB1.out.cell h1lt).trans HM.out) (HT.out.below HT.out.size HB1.out)).mono ?_
    rintro e w4 ⟨rfl, hb4⟩
    have HB4 := Lib.hid (HB1.out.trans (hb4.mono HB1.out.size))
    clear hb4
    go_wp2
    go_ret
    exact ⟨rfl, HB4.out⟩
end Go.Proofs.YtcnhnpkbklakoaaDoor.Word
