/- runes.Bad (of a string) by contract. -/
import Derived.Test.YtcnhnpkbklakoaaDoorRunes
namespace Go.Proofs.YtcnhnpkbklakoaaDoor.Runes
open Go.RowKit Go.Proofs.YtcnhnpkbklakoaaDoorW.PrintWords Go.Proofs.YtcnhnpkbklakoaaDoorW.PrintLast Go.Proofs.YtcnhnpkbklakoaaDoorW.PrintMore Go.Proofs.YtcnhnpkbklakoaaDoor.PWordEncodes
attribute [local go_sem] max2_int min2_int max_two min_two max_three min_three max_four min_four
set_option linter.unusedVariables false
set_option linter.unusedSimpArgs false
def place1 (s : RS) (i pl : Nat) : Nat := if s.need = 0 then i else pl
def rGo (n : Nat) : List UInt8 → Nat → Nat → RS → Nat
  | [], i, pl, s => if 0 < s.need then pl else n
  | c :: r, i, pl, s => if (rstep s (c.toNat : Int)).1 = false then place1 s i pl else rGo n r (i + 1) (place1 s i pl) (rstep s (c.toNat : Int)).2
/-- the place of the first byte that is no UTF-8; the length, if there is none -/
def runesBad (l : List UInt8) : Nat := rGo l.length l 0 0 ⟨0, 0, 0⟩
theorem rGo_cons (n : Nat) (c : UInt8) (r : List UInt8) (i pl : Nat) (s : RS) : rGo n (c :: r) i pl s = if (rstep s (c.toNat : Int)).1 = false then place1 s i pl else rGo n r (i + 1) (place1 s i pl) (rstep s (c.toNat : Int)).2 := rfl
theorem rGo_nil (n i pl : Nat) (s : RS) : rGo n [] i pl s = if 0 < s.need then pl else n := rfl
theorem rstep_need {s : RS} (h : 0 ≤ s.need ∧ s.need ≤ 3) (b : Int) : 0 ≤ (rstep s b).2.need ∧ (rstep s b).2.need ≤ 3 := by
  unfold rstep
  repeat' split
  all_goals (dsimp only; first | exact h | omega)
theorem getD_at (s : ByteArray) (i : Nat) (h : i < s.size) : s.data.toList.getD i 0 = s[i]'h := by
  rw [List.getD_eq_getElem?_getD, List.getElem?_eq_getElem (by rw [data_length]; exact h)]
  rfl
theorem drop_at (s : ByteArray) (i : Nat) (h : i < s.size) : s.data.toList.drop i = s[i]'h :: s.data.toList.drop (i + 1) := by
  rw [List.drop_eq_getElem_cons (by rw [data_length]; exact h), ← getD_at s i h, List.getD_eq_getElem?_getD, List.getElem?_eq_getElem (by rw [data_length]; exact h)]
  rfl
set_option maxHeartbeats 4000000 in
set_option maxRecDepth 100000 in
theorem bad_calls (t : ByteArray) (w : World) (ht : t.size ≤ 9223372036854775806) :
    Calls Tryd.prog 17 #[.string t] w fun e w' => e = .returned (.int .i64 ((runesBad t.data.toList : Nat) : Int)) ∧ Below w.heap.size w w' := by
  have hu68 := Tryd.underlying68
  have hlen : t.data.toList.length = t.size := data_length t
  have hB0 : Below w.heap.size w (w.alloc (.cells #[.int .u8 0, .int .u8 0, .int .u8 0] 68)) := (Below.refl _ _).alloc (Nat.le_refl _) _
  have hR0 : rdR (w.alloc (.cells #[.int .u8 0, .int .u8 0, .int .u8 0] 68)) w.heap.size ⟨0, 0, 0⟩ := heap_alloc_new w _
  obtain ⟨N, hN⟩ : ∃ N, N = runesBad t.data.toList := ⟨_, rfl⟩
  rw [← hN]
  unfold runesBad at hN
  rw [hlen] at hN
  have HN := Lib.hid hN
  have HL := Lib.hid hlen
  clear hN hlen
  go_enter Tryd.func17, Tryd.ntmps17
  go_wp2
  go_loopw [8, 4] (fun v p wr => ∃ (k pl : Nat) (s : RS), k ≤ t.size ∧ v = .int .i64 k ∧ p = .int .i64 pl ∧ N = rGo t.size (t.data.toList.drop k) k pl s ∧ rdR wr w.heap.size s ∧ (0 ≤ s.need ∧ s.need ≤ 3) ∧ Below w.heap.size w wr) (fun v _ _ => t.size - (intOf v).toNat)
  case atStart => exact ⟨0, 0, ⟨0, 0, 0⟩, by omega, rfl, rfl, HN.out, hR0, ⟨by decide, by decide⟩, hB0⟩
  case round =>
    obtain ⟨k, pl, s, hk, rfl, rfl, hg, hrd, hnd, hB⟩ := hrel
    have HG := Lib.hid hg
    have HRD := Lib.hid hrd
    have HB := Lib.hid hB
    clear hg hrd hB hR0 hB0
    have x0 := blk_cell (show wr.heap[w.heap.size]? = some (.cells #[.int .u8 s.need, .int .u8 s.low, .int .u8 s.high] 68 (0, 0)) from HRD.out) 0
    simp only [List.getElem?_toArray, List.getElem?_cons_zero] at x0
    by_cases hlt : k < t.size
    · obtain ⟨c, hc⟩ : ∃ c : UInt8, t[k]'hlt = c := ⟨_, rfl⟩
      have hdrop := drop_at t k hlt
      rw [hc] at hdrop
      have HD := Lib.hid hdrop
      have hc256 := c.toNat_lt
      have HT := Lib.hid (rtake_calls w w.heap.size s (c.toNat : Int) wr HRD.out HB.out (Nat.le_refl _) ⟨by omega, by omega⟩ hnd)
      clear hdrop
      by_cases h0 : s.need = 0
      · have h1 : (s.need == 0) = true := beq_iff_eq.2 h0
        have hpl : place1 s k pl = k := if_pos h0
        have HPL := Lib.hid hpl
        have HZ := Lib.hid h0
        clear hpl h0
        go_wp2_with fail
        refine HT.out.mono ?_
        rintro e w2 ⟨rfl, hrd2, hB2⟩
        have HRD2 := Lib.hid hrd2
        have HB2 := Lib.hid hB2
        clear hrd2 hB2 x0
        cases hok : (rstep s (c.toNat : Int)).1
        · go_wp2
          go_ret
          exact ⟨by rw [HG.out, HD.out, rGo_cons, if_pos hok, HPL.out]; rfl, HB2.out⟩
        · go_wp2
          go_roundw
          case rel => exact ⟨k + 1, k, (rstep s (c.toNat : Int)).2, by omega, by go_num, rfl, by rw [HG.out, HD.out, rGo_cons, if_neg (by rw [hok]; simp), HPL.out], HRD2.out, rstep_need hnd _, HB2.out⟩
          case measure => simp [intOf]; omega
      · have h1 : (s.need == 0) = false := beq_eq_false_iff_ne.2 h0
        have hpl : place1 s k pl = pl := if_neg h0
        have HPL := Lib.hid hpl
        have HZ := Lib.hid h0
        clear hpl h0
        go_wp2_with fail
        refine HT.out.mono ?_
        rintro e w2 ⟨rfl, hrd2, hB2⟩
        have HRD2 := Lib.hid hrd2
        have HB2 := Lib.hid hB2
        clear hrd2 hB2 x0
        cases hok : (rstep s (c.toNat : Int)).1
        · go_wp2
          go_ret
          exact ⟨by rw [HG.out, HD.out, rGo_cons, if_pos hok, HPL.out]; rfl, HB2.out⟩
        · go_wp2
          go_roundw
          case rel => exact ⟨k + 1, pl, (rstep s (c.toNat : Int)).2, by omega, by go_num, rfl, by rw [HG.out, HD.out, rGo_cons, if_neg (by rw [hok]; simp), HPL.out], HRD2.out, rstep_need hnd _, HB2.out⟩
          case measure => simp [intOf]; omega
    · obtain rfl : k = t.size := by omega
      by_cases h0 : 0 < s.need
      · have h1 : decide (0 < s.need) = true := decide_eq_true h0
        go_wp2
        go_ret
        exact ⟨by rw [HG.out, List.drop_eq_nil_of_le (by rw [HL.out]; exact Nat.le_refl _), rGo_nil, if_pos h0]; rfl, HB.out⟩
      · have h1 : decide (0 < s.need) = false := decide_eq_false h0
        go_wp2
        go_ret
        exact ⟨by rw [HG.out, List.drop_eq_nil_of_le (by rw [HL.out]; exact Nat.le_refl _), rGo_nil, if_neg (by omega)]; rfl, HB.out⟩
end Go.Proofs.YtcnhnpkbklakoaaDoor.Runes
