/- posthornlaw17.WordBack: its walk. -/
import Derived.Test.YtcnhnpkbklakoaaDoorG5
import Derived.Test.YtcnhnpkbklakoaaDoorG4
import Derived.Laws.StructEq
namespace Go.Proofs.YtcnhnpkbklakoaaDoor.Word
open Go.RowKit Go.Proofs.YtcnhnpkbklakoaaDoorW.PrintWords Go.Proofs.YtcnhnpkbklakoaaDoorW.PrintLast Go.Proofs.YtcnhnpkbklakoaaDoorW.PrintMore Go.Proofs.YtcnhnpkbklakoaaDoor.PWordEncodes
open Go.Proofs.YtcnhnpkbklakoaaDoor.Code Go.Proofs.YtcnhnpkbklakoaaDoor.Runes Go.Proofs.YtcnhnpkbklakoaaDoor.Pieces
attribute [local go_sem] max2_int min2_int max_two min_two max_three min_three max_four min_four
set_option linter.unusedVariables false
set_option linter.unusedSimpArgs false
theorem enc_err (s : ByteArray) (short : Bool) (h : runesBad s.data.toList = s.size) : (encV s short).2 = 0 := by
  rcases enc_shape s short h with ⟨_, e⟩ | ⟨_, t, x, ws, p, ps, e, _⟩ <;> rw [e]
set_option maxHeartbeats 4000000 in
set_option maxRecDepth 100000 in
theorem back_calls (s : ByteArray) (short : Bool) (m : Int) (w : World) (hs : s.size ≤ 1048576) (hm : w.cell? ⟨1, 0, none⟩ = some (.int .i64 m)) (hT : Octet.Laid w) :
    Calls Tryd.prog 6 #[.string s, .bool short] w fun e w' => e = .returned (.bool true) ∧ Below w.heap.size w w' := by
  have hu25 := Tryd.underlying25
  have h1lt := World.block_lt_of_cell? w _ hm
  have HM := Lib.hid hm
  have HT := Lib.hid hT
  have HWK := Lib.hid (fun W h k => wakes_calls m W h k)
  have hle := runesBad_le s.data.toList
  rw [data_length] at hle
  have HENC := Lib.hid (encode_calls s short w (by omega) hT)
  have HBAD := Lib.hid (fun W => bad_calls s W (by omega))
  have hsz := enc_size s short
  clear hm hT
  by_cases hb : runesBad s.data.toList = s.size
  · have hd := back_pure s short hb
    have he := enc_err s short hb
    obtain ⟨t, ht⟩ : ∃ t, t = encV s short := ⟨_, rfl⟩
    rw [← ht] at HENC hd he hsz
    obtain ⟨t, er⟩ := t
    simp only at hd he hsz
    subst he
    have HD := Lib.hid (fun W h k => hd ▸ wdecode_calls t m W (by omega) h k)
    rw [hb] at HBAD
    clear hd hb hle hsz ht
    go_enter Tryd.func6, Tryd.ntmps6
    go_wp2_with fail
    refine HENC.out.mono ?_
    rintro e w1 ⟨rfl, hb1⟩
    have HB1 := Lib.hid hb1
    clear hb1
    go_wp2_with fail
    refine (HBAD.out w1).mono ?_
    rintro e w2 ⟨rfl, hb2⟩
    have HB2 := Lib.hid (HB1.out.trans (hb2.mono HB1.out.size))
    clear hb2
    go_wp2_with fail
    refine (HD.out w2 ((HB2.out.cell h1lt).trans HM.out) (HT.out.below HT.out.size HB2.out)).mono ?_
    rintro e w3 ⟨rfl, hb3⟩
    have HB3 := Lib.hid ((HB2.out.trans (hb3.mono HB2.out.size)).alloc (HB2.out.trans (hb3.mono HB2.out.size)).size (.cells #[.int .i64 0, .int .i64 0] 25))
    clear hb3
    go_wp2_with fail
    refine (HWK.out _ ((HB3.out.cell h1lt).trans HM.out) (HT.out.below HT.out.size HB3.out)).mono ?_
    rintro e w4 ⟨rfl, hb4⟩
    have HB4 := Lib.hid (HB3.out.trans (hb4.mono HB3.out.size))
    clear hb4
    go_wp2
    go_ret
    exact ⟨rfl, HB4.out⟩
  · have hlt : runesBad s.data.toList < s.size := by omega
    rw [enc_bad s short hlt] at HENC
    obtain ⟨n, hn⟩ : ∃ n, n = runesBad s.data.toList := ⟨_, rfl⟩
    rw [← hn] at hlt HBAD
    have hne : ((n : Int) == (s.size : Int)) = false := beq_eq_false_iff_ne.2 (by omega)
    have hne2 : (n == s.size) = false := beq_eq_false_iff_ne.2 (by omega)
    clear hn hb hle hsz
    go_enter Tryd.func6, Tryd.ntmps6
    go_wp2_with fail
    refine HENC.out.mono ?_
    rintro e w1 ⟨rfl, hb1⟩
    have HB1 := Lib.hid hb1
    clear hb1
    go_wp2_with fail
    refine (HBAD.out w1).mono ?_
    rintro e w2 ⟨rfl, hb2⟩
    have HB2 := Lib.hid (HB1.out.trans (hb2.mono HB1.out.size))
    clear hb2
    go_wp2_with fail
    refine (HWK.out _ ((HB2.out.cell h1lt).trans HM.out) (HT.out.below HT.out.size HB2.out)).mono ?_
    rintro e w4 ⟨rfl, hb4⟩
    have HB4 := Lib.hid (HB2.out.trans (hb4.mono HB2.out.size))
    clear hb4
    go_wp2
    go_ret
    exact ⟨rfl, HB4.out⟩
end Go.Proofs.YtcnhnpkbklakoaaDoor.Word
