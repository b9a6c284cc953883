/- posthornlaw17.WordAmong: its walk. -/
import Derived.Test.YtcnhnpkbklakoaaDoorAmongPure
import Derived.Test.YtcnhnpkbklakoaaDoorRefNeeds
import Derived.Test.YtcnhnpkbklakoaaDoorFitLaw
import Derived.Laws.StructEq
namespace Go.Proofs.YtcnhnpkbklakoaaDoor.Word
open Go.RowKit Go.Shelf Go.Proofs.YtcnhnpkbklakoaaDoorW.PrintWords Go.Proofs.YtcnhnpkbklakoaaDoorW.PrintLast Go.Proofs.YtcnhnpkbklakoaaDoorW.PrintMore Go.Proofs.YtcnhnpkbklakoaaDoor.PWordEncodes
open Go.Proofs.YtcnhnpkbklakoaaDoor.Code Go.Proofs.YtcnhnpkbklakoaaDoor.Runes Go.Proofs.YtcnhnpkbklakoaaDoor.Pieces
attribute [local go_sem] max2_int min2_int max_two min_two max_three min_three max_four min_four
set_option linter.unusedVariables false
set_option linter.unusedSimpArgs false
set_option maxHeartbeats 2000000 in
theorem full_calls (s : ByteArray) (hs : s.size ≤ 1048576) : ∃ b, ∀ w, Calls Tryd.prog 21 #[.string s] w fun e w' => e = .returned (.bool b) ∧ Below w.heap.size w w' := by
  have hcon := fun w => Any.strings_Trim_laid Tryd.lays160 (by kernel_rfl) s ⟨#[32, 9]⟩ w (by omega) (by decide) (ascii_of_all (by decide))
  replace hcon : ∀ w, Calls Tryd.prog 43 #[.string s, .string ⟨#[32, 9]⟩] w (fun e w' => e = .returned (.string ⟨(Lib.trimS s.data.toList [32, 9]).toArray⟩) ∧ Below w.heap.size w w') := hcon
  obtain ⟨r, hr⟩ : ∃ r : ByteArray, r = ⟨(Lib.trimS s.data.toList [32, 9]).toArray⟩ := ⟨_, rfl⟩
  rw [← hr] at hcon
  have HC := Lib.hid hcon
  clear hcon hr
  rcases Nat.eq_zero_or_pos r.size with h0 | h0
  · obtain ⟨e1, e2⟩ := empty_list h0
    refine ⟨false, fun w => ?_⟩
    go_enter Tryd.func21, Tryd.ntmps21
    go_wp2_with fail
    refine (HC.out w).mono ?_
    rintro e w1 ⟨rfl, hb1⟩
    have HB1 := Lib.hid hb1
    clear hb1
    go_wp2
    go_ret
    exact ⟨rfl, HB1.out⟩
  · obtain ⟨e1, e2⟩ := full_list h0
    refine ⟨true, fun w => ?_⟩
    go_enter Tryd.func21, Tryd.ntmps21
    go_wp2_with fail
    refine (HC.out w).mono ?_
    rintro e w1 ⟨rfl, hb1⟩
    have HB1 := Lib.hid hb1
    clear hb1
    go_wp2
    go_ret
    exact ⟨rfl, HB1.out⟩
theorem among_back (a t b : ByteArray) (short : Bool) (ha : needsV a = false) (hb : needsV b = false) (h0 : 0 < t.size) (h : runesBad t.data.toList = t.size) :
    ∃ x, encV t short = (x, 0) ∧ wdecV (a ++ ⟨#[32]⟩ ++ x ++ ⟨#[32]⟩ ++ b) = (a ++ ⟨#[32]⟩ ++ t ++ ⟨#[32]⟩ ++ b, 0, 0) := by
  rcases enc_shape t short h with ⟨hz, _⟩ | ⟨_, y, x, ws, p, ps, he, hy, hw, hws, ht, _⟩
  · omega
  · refine ⟨y, he, ?_⟩
    rw [among_pure (a ++ ⟨#[32]⟩ ++ y ++ ⟨#[32]⟩ ++ b) a.data.toList b.data.toList t.data.toList x p ws ps (plain_text a ha) (plain_text b hb) hw hws ht (by simp [ByteArray.data_append, hy])]
    congr 1
    exact ba_ext (by simp [ByteArray.data_append])
set_option maxHeartbeats 8000000 in
set_option maxRecDepth 100000 in
theorem among_calls (a t b : ByteArray) (short : Bool) (m : Int) (w : World) (hs : a.size + t.size + b.size ≤ 1048576) (hm : w.cell? ⟨1, 0, none⟩ = some (.int .i64 m)) (hT : Octet.Laid w) :
    Calls Tryd.prog 9 #[.string a, .string t, .string b, .bool short] w fun e w' => e = .returned (.bool true) ∧ Below w.heap.size w w' := by
  have hu25 := Tryd.underlying25
  have h1lt := World.block_lt_of_cell? w _ hm
  have HM := Lib.hid hm
  have HT := Lib.hid hT
  have HWK := Lib.hid (fun W h k => wakes_calls m W h k)
  have HNA := Lib.hid (fun W => refneeds_calls a W (by omega))
  have HNB := Lib.hid (fun W => refneeds_calls b W (by omega))
  obtain ⟨fa, hfa⟩ := full_calls a (by omega)
  obtain ⟨fb, hfb⟩ := full_calls b (by omega)
  have HFA := Lib.hid hfa
  have HFB := Lib.hid hfb
  have HENC := Lib.hid (fun W h => encode_calls t short W (by omega) h)
  have HBAD := Lib.hid (fun W => bad_calls t W (by omega))
  have HDEC := Lib.hid (fun (S : ByteArray) (h : S.size ≤ 1000000000) W k l => wdecode_calls S m W h k l)
  have HAB := Lib.hid (fun ha hb => among_back a t b short ha hb)
  have HEB := Lib.hid (enc_bad t short)
  have hsz := enc_size t short
  have hle := runesBad_le t.data.toList
  rw [data_length] at hle
  obtain ⟨na, hna⟩ : ∃ x, x = needsV a := ⟨_, rfl⟩
  obtain ⟨nb, hnb⟩ : ∃ x, x = needsV b := ⟨_, rfl⟩
  rw [← hna] at HNA HAB
  rw [← hnb] at HNB HAB
  clear hm hT hfa hfb hna hnb
  go_enter Tryd.func9, Tryd.ntmps9
  go_wp2_with fail
  refine (HNA.out w).mono ?_
  rintro e w1 ⟨rfl, hb1⟩
  have HB1 := Lib.hid hb1
  clear hb1
  cases na
  case true =>
    go_wp2_with fail
    refine (HWK.out _ ((HB1.out.cell h1lt).trans HM.out) (HT.out.below HT.out.size HB1.out)).mono ?_
    rintro e w9 ⟨rfl, hb9⟩
    have HB9 := Lib.hid (HB1.out.trans (hb9.mono HB1.out.size))
    clear hb9
    go_wp2
    go_ret
    exact ⟨rfl, HB9.out⟩
  go_wp2_with fail
  refine (HNB.out w1).mono ?_
  rintro e w2 ⟨rfl, hb2⟩
  have HB2 := Lib.hid (HB1.out.trans (hb2.mono HB1.out.size))
  clear hb2
  cases nb
  case true =>
    go_wp2_with fail
    refine (HWK.out _ ((HB2.out.cell h1lt).trans HM.out) (HT.out.below HT.out.size HB2.out)).mono ?_
    rintro e w9 ⟨rfl, hb9⟩
    have HB9 := Lib.hid (HB2.out.trans (hb9.mono HB2.out.size))
    clear hb9
    go_wp2
    go_ret
    exact ⟨rfl, HB9.out⟩
  go_wp2_with fail
  refine (HFA.out w2).mono ?_
  rintro e w3 ⟨rfl, hb3⟩
  have HB3 := Lib.hid (HB2.out.trans (hb3.mono HB2.out.size))
  clear hb3
  cases fa
  case false =>
    go_wp2_with fail
    refine (HWK.out _ ((HB3.out.cell h1lt).trans HM.out) (HT.out.below HT.out.size HB3.out)).mono ?_
    rintro e w9 ⟨rfl, hb9⟩
    have HB9 := Lib.hid (HB3.out.trans (hb9.mono HB3.out.size))
    clear hb9
    go_wp2
    go_ret
    exact ⟨rfl, HB9.out⟩
  go_wp2_with fail
  refine (HFB.out w3).mono ?_
  rintro e w4 ⟨rfl, hb4⟩
  have HB4 := Lib.hid (HB3.out.trans (hb4.mono HB3.out.size))
  clear hb4
  cases fb
  case false =>
    go_wp2_with fail
    refine (HWK.out _ ((HB4.out.cell h1lt).trans HM.out) (HT.out.below HT.out.size HB4.out)).mono ?_
    rintro e w9 ⟨rfl, hb9⟩
    have HB9 := Lib.hid (HB4.out.trans (hb9.mono HB4.out.size))
    clear hb9
    go_wp2
    go_ret
    exact ⟨rfl, HB9.out⟩
  rcases Nat.eq_zero_or_pos t.size with h0 | h0
  · obtain ⟨e1, e2⟩ := empty_list h0
    go_wp2_with fail
    refine (HWK.out _ ((HB4.out.cell h1lt).trans HM.out) (HT.out.below HT.out.size HB4.out)).mono ?_
    rintro e w9 ⟨rfl, hb9⟩
    have HB9 := Lib.hid (HB4.out.trans (hb9.mono HB4.out.size))
    clear hb9
    go_wp2
    go_ret
    exact ⟨rfl, HB9.out⟩
  · obtain ⟨e1, e2⟩ := full_list h0
    by_cases hb : runesBad t.data.toList = t.size
    · obtain ⟨x, hx, hd⟩ := HAB.out (by trivial) (by trivial) h0 hb
      rw [hx] at HENC hsz
      simp only at hsz
      have HD := Lib.hid (fun W k l => hd ▸ HDEC.out (a ++ (⟨#[32]⟩ : ByteArray) ++ x ++ (⟨#[32]⟩ : ByteArray) ++ b) (by simp only [ByteArray.size_append]; have : (⟨#[32]⟩ : ByteArray).size = 1 := rfl; omega) W k l)
      clear hx hd hb
      go_wp2_with fail
      refine (HENC.out w4 (HT.out.below HT.out.size HB4.out)).mono ?_
      rintro e w5 ⟨rfl, hb5⟩
      have HB5 := Lib.hid (HB4.out.trans (hb5.mono HB4.out.size))
      clear hb5
      go_wp2_with fail
      refine (HD.out w5 ((HB5.out.cell h1lt).trans HM.out) (HT.out.below HT.out.size HB5.out)).mono ?_
      rintro e w6 ⟨rfl, hb6⟩
      have HB6 := Lib.hid ((HB5.out.trans (hb6.mono HB5.out.size)).alloc (HB5.out.trans (hb6.mono HB5.out.size)).size (.cells #[.int .i64 0, .int .i64 0] 25))
      clear hb6
      go_wp2_with fail
      refine (HWK.out _ ((HB6.out.cell h1lt).trans HM.out) (HT.out.below HT.out.size HB6.out)).mono ?_
      rintro e w7 ⟨rfl, hb7⟩
      have HB7 := Lib.hid (HB6.out.trans (hb7.mono HB6.out.size))
      clear hb7
      go_wp2
      go_ret
      exact ⟨rfl, HB7.out⟩
    · have hlt : runesBad t.data.toList < t.size := by omega
      rw [HEB.out hlt] at HENC
      obtain ⟨n, hn⟩ : ∃ n, n = runesBad t.data.toList := ⟨_, rfl⟩
      rw [← hn] at hlt HBAD
      clear hn hb hle hsz HEB
      go_wp2_with fail
      refine (HENC.out w4 (HT.out.below HT.out.size HB4.out)).mono ?_
      rintro e w5 ⟨rfl, hb5⟩
      have HB5 := Lib.hid (HB4.out.trans (hb5.mono HB4.out.size))
      clear hb5
      go_wp2_with fail
      refine (HBAD.out w5).mono ?_
      rintro e w6 ⟨rfl, hb6⟩
      have HB6 := Lib.hid (HB5.out.trans (hb6.mono HB5.out.size))
      clear hb6
      go_wp2_with fail
      refine (HWK.out _ ((HB6.out.cell h1lt).trans HM.out) (HT.out.below HT.out.size HB6.out)).mono ?_
      rintro e w7 ⟨rfl, hb7⟩
      have HB7 := Lib.hid (HB6.out.trans (hb7.mono HB6.out.size))
      clear hb7
      go_wp2
      go_ret
      exact ⟨rfl, HB7.out⟩
end Go.Proofs.YtcnhnpkbklakoaaDoor.Word
