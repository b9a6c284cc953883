/- word.Needs by contract. -/
import Derived.Test.YtcnhnpkbklakoaaDoorMeans
namespace Go.Proofs.YtcnhnpkbklakoaaDoor.Word
open Go.RowKit Go.Proofs.YtcnhnpkbklakoaaDoorW.PrintWords Go.Proofs.YtcnhnpkbklakoaaDoorW.PrintLast Go.Proofs.YtcnhnpkbklakoaaDoorW.PrintMore Go.Proofs.YtcnhnpkbklakoaaDoor.PWordEncodes
open Go.Proofs.YtcnhnpkbklakoaaDoor.Code Go.Proofs.YtcnhnpkbklakoaaDoor.Runes Go.Proofs.YtcnhnpkbklakoaaDoor.Pieces
attribute [local go_sem] max2_int min2_int max_two min_two max_three min_three max_four min_four
set_option linter.unusedVariables false
set_option linter.unusedSimpArgs false
/-- the word that begins at a place or behind the blanks there: its begin, its end -/
def wAt (s : ByteArray) (i : Nat) : Nat := rowV s i true
def eAt (s : ByteArray) (i : Nat) : Nat := rowV s (wAt s i) false
def needsGo (s : ByteArray) : Nat → Nat → Bool
  | 0, _ => false
  | d + 1, i => if i < s.size then (if (cutV (s.extract (wAt s i) (eAt s i))).2.2.2 = true then true else needsGo s d (eAt s i)) else false
def needsV (s : ByteArray) : Bool := if Octet.badAt 12 s.data.toList < s.size then true else needsGo s s.size 0
theorem rowV_more (s : ByteArray) (i : Nat) (b : Bool) (h : i < s.size) (hb : (blankB (s[i]'h) == b) = true) : i < rowV s i b := by
  unfold rowV
  rw [Code.drop_at s i h, List.takeWhile_cons, if_pos hb]
  simp
theorem at_le (s : ByteArray) (i : Nat) (h : i ≤ s.size) : i ≤ wAt s i ∧ wAt s i ≤ eAt s i ∧ eAt s i ≤ s.size := by
  have h1 := rowV_le s i true h
  have h2 := rowV_le s (wAt s i) false h1.2
  exact ⟨h1.1, h2.1, h2.2⟩
theorem eAt_more (s : ByteArray) (i : Nat) (h : i < s.size) : i < eAt s i := by
  have hl := at_le s i (Nat.le_of_lt h)
  cases hb : blankB (s[i]'h)
  · by_cases hw : i < wAt s i
    · omega
    · have hwi : wAt s i = i := by omega
      have := rowV_more s i false h (by rw [hb]; rfl)
      unfold eAt
      rw [hwi]
      exact this
  · have : i < wAt s i := rowV_more s i true h (by rw [hb]; rfl)
    omega
theorem needsGo_end (s : ByteArray) (d i : Nat) (h : ¬ i < s.size) : needsGo s d i = false := by
  cases d with
  | zero => rfl
  | succ d => rw [needsGo, if_neg h]
theorem slice_str (s : ByteArray) (i j : Nat) (hij : i ≤ j) (hj : j ≤ s.size) (W : World) : (Instr.slice 9 (.string s) (some (.int .i64 (i : Int))) (some (.int .i64 (j : Int))) none).run Tryd.prog W = .ok (.string (s.extract i j)) W := by
  rw [run_slice_string_if W 9 s .i64 .i64 _ _ Tryd.underlying9, if_pos ⟨by omega, by omega⟩, if_pos ⟨by omega, by omega⟩]
  rfl
theorem drawn_below {w w' : World} (h : Drawn0 w w') : Below w.heap.size w w' := h.below
set_option maxHeartbeats 8000000 in
set_option maxRecDepth 100000 in
theorem needs_calls (s : ByteArray) (m : Int) (w : World) (hs : s.size ≤ 3000000000) (hm : w.cell? ⟨1, 0, none⟩ = some (.int .i64 m)) (hT : Octet.Laid w) :
    Calls Tryd.prog 13 #[.string s] w fun e w' => e = .returned (.bool (needsV s)) ∧ Below w.heap.size w w' := by
  have hu42 := Tryd.underlying42
  have h1lt := World.block_lt_of_cell? w _ hm
  have HM := Lib.hid hm
  have HT := Lib.hid hT
  have HBAD := Lib.hid (Octet.Bad_calls 12 (by decide) (by decide) s (by omega) w hT)
  obtain ⟨n, hn⟩ : ∃ n, Octet.badAt 12 s.data.toList = n := ⟨_, rfl⟩
  have hnv : needsV s = if n < s.size then true else needsGo s s.size 0 := by unfold needsV; rw [hn]
  obtain ⟨b, hb⟩ : ∃ b, b = needsV s := ⟨_, rfl⟩
  rw [← hb]
  rw [hn] at HBAD
  rw [hnv] at hb
  have HN := Lib.hid hb
  clear hm hT hn hnv hb
  by_cases hlt : n < s.size
  · have hbt : b = true := by rw [HN.out, if_pos hlt]
    subst hbt
    go_enter Tryd.func13, Tryd.ntmps13
    go_wp2_with fail
    refine HBAD.out.mono ?_
    rintro e w1 ⟨rfl, hb1⟩
    go_wp2
    go_ret
    exact ⟨rfl, hb1⟩
  · have HG := Lib.hid (show b = needsGo s s.size 0 by rw [HN.out, if_neg hlt])
    go_enter Tryd.func13, Tryd.ntmps13
    go_wp2_with fail
    refine HBAD.out.mono ?_
    rintro e w1 ⟨rfl, hb1⟩
    have HB1 := Lib.hid hb1
    clear hb1
    go_wp2
    go_loopw [3] (fun v wr => ∃ (k d : Nat), k ≤ s.size ∧ v = .int .i64 k ∧ s.size - k ≤ d ∧ b = needsGo s d k ∧ Below w.heap.size w wr) (fun v _ => s.size - (intOf v).toNat)
    case atStart => exact ⟨0, s.size, by omega, rfl, by omega, HG.out, HB1.out⟩
    case round =>
      obtain ⟨k, d, hk, rfl, hd, hg, hB⟩ := hrel
      have HGG := Lib.hid hg
      have HB := Lib.hid hB
      clear hg hB
      by_cases hlk : k < s.size
      · obtain ⟨d, rfl⟩ : ∃ d', d = d' + 1 := ⟨d - 1, by omega⟩
        have hla := at_le s k hk
        have hmo := eAt_more s k hlk
        obtain ⟨W, hW⟩ : ∃ W, W = wAt s k := ⟨_, rfl⟩
        obtain ⟨E, hE⟩ : ∃ E, E = eAt s k := ⟨_, rfl⟩
        rw [← hW, ← hE] at hla
        rw [← hE] at hmo
        have hb' : b = if (cutV (s.extract W E)).2.2.2 = true then true else needsGo s d E := by rw [HGG.out, needsGo, if_pos hlk, ← hW, ← hE]
        have HR1 := Lib.hid (show Calls Tryd.prog 22 #[.string s, .int .i64 (k : Int), .bool true] wr fun e w' => e = .returned (.int .i64 (W : Nat)) ∧ Drawn0 wr w' from hW ▸ row_calls s k true wr hk (by omega))
        have HR2 := Lib.hid (fun w2 => (show Calls Tryd.prog 22 #[.string s, .int .i64 (W : Int), .bool false] w2 fun e w' => e = .returned (.int .i64 (E : Nat)) ∧ Drawn0 w2 w' by rw [hE, eAt, ← hW]; exact row_calls s W false w2 (by omega) (by omega)))
        have hsl := fun W' => slice_str s W E hla.2.1 hla.2.2 W'
        obtain ⟨x, hx⟩ : ∃ x, x = s.extract W E := ⟨_, rfl⟩
        rw [← hx] at hsl hb'
        have hxs : x.size ≤ s.size := by rw [hx, ByteArray.size_extract]; omega
        have HBB := Lib.hid hb'
        clear hW hE hx hb'
        go_wp2_with fail
        refine HR1.out.mono ?_
        rintro e w2 ⟨rfl, hd2⟩
        have hb2 := HB.out.trans ((drawn_below hd2).mono HB.out.size)
        have HB2 := Lib.hid hb2
        clear hd2 hb2
        go_wp2_with fail
        refine (HR2.out _).mono ?_
        rintro e w3 ⟨rfl, hd3⟩
        have hb3 := HB2.out.trans ((drawn_below hd3).mono HB2.out.size)
        have HB3 := Lib.hid hb3
        clear hd3 hb3
        go_wp2_with fail
        refine (cut_calls x m w3 (by omega) ((HB3.out.cell h1lt).trans HM.out)).mono ?_
        rintro e w4 ⟨rfl, hb4⟩
        have HB4 := Lib.hid (HB3.out.trans (hb4.mono HB3.out.size))
        clear hb4
        obtain ⟨c, hc⟩ : ∃ c, c = cutV x := ⟨_, rfl⟩
        rw [← hc]
        have HCC := Lib.hid hc
        clear hc
        obtain ⟨c0, c1, c2, c3⟩ := c
        have HB5 := Lib.hid (HB4.out.alloc HB4.out.size (.cells #[.string c0, .string c1, .string c2] 42))
        cases c3
        · have HF := Lib.hid (show b = needsGo s d E by rw [HBB.out, ← HCC.out]; rfl)
          go_wp2
          go_roundw
          case rel => exact ⟨E, d, by omega, by go_num, by omega, HF.out, HB5.out⟩
          case measure => simp [intOf]; omega
        · have hbt : b = true := by rw [HBB.out, ← HCC.out]; rfl
          subst hbt
          go_wp2
          go_ret
          exact ⟨rfl, HB5.out⟩
      · have hbf : b = false := by rw [HGG.out, needsGo_end _ _ _ hlk]
        subst hbf
        go_wp2
        go_ret
        exact ⟨rfl, HB.out⟩
end Go.Proofs.YtcnhnpkbklakoaaDoor.Word
