/- the reference's parts of a word: what stands behind its loop; plain. -/
import Derived.Test.YtcnhnpkbklakoaaDoorPartsPure
namespace Go.Proofs.YtcnhnpkbklakoaaDoor.Word
open Go.RowKit Go.Proofs.YtcnhnpkbklakoaaDoorW.PrintWords
open Go.Proofs.YtcnhnpkbklakoaaDoor.Code Go.Proofs.YtcnhnpkbklakoaaDoor.Runes Go.Proofs.YtcnhnpkbklakoaaDoor.Pieces
open Go.Proofs.YtcnhnpkbklakoaaDoor.PWordDecodes (posthornref17_Parts.l0 posthornref17_Parts.j1 posthornref17_Parts.f)
set_option linter.unusedVariables false
set_option linter.unusedSimpArgs false
def no4 : ByteArray × ByteArray × ByteArray × Bool := (⟨#[]⟩, ⟨#[]⟩, ⟨#[]⟩, false)
theorem end_count (s : ByteArray) (m : List Int) (h : ¬ m.length = 4) : partsEnd s m = some no4 := by
  unfold partsEnd
  rw [posthornref17_Parts.l0, if_neg (Int.lt_irrefl _), if_neg (by omega)]
  rfl
def codB (co : ByteArray) : Bool := co.toList == [66] || co.toList == [98] || co.toList == [81] || co.toList == [113]
theorem wrap_id (x : Int) (h0 : 0 ≤ x) (h1 : x ≤ 1000000000) : wrap64 x = x := by unfold wrap64; omega
theorem end_four (s : ByteArray) (hs : s.size ≤ 1000000000) (m0 m1 m2 m3 : Nat) (h1 : m0 < m1) (h2 : m1 < m2) (h3 : m2 < m3) (h4 : m3 < s.size) :
    partsEnd s [(m0 : Int), m1, m2, m3] = some (if m0 = 1 ∧ m3 + 2 = s.size ∧ bt s 0 = 61 ∧ bt s ((s.size : Int) - 1) = 61 then
      (s.extract 2 m1, s.extract (m1 + 1) m2, s.extract (m2 + 1) m3, !(s.extract 2 m1).toList.isEmpty && codB (s.extract (m1 + 1) m2)) else no4) := by
  unfold partsEnd
  have w1 : wrap64 ((s.size : Int) - 2) = (s.size : Int) - 2 := wrap_id _ (by omega) (by omega)
  have w2 : wrap64 ((s.size : Int) - 1) = (s.size : Int) - 1 := wrap_id _ (by omega) (by omega)
  have w3 : wrap64 ((m1 : Int) + 1) = ((m1 + 1 : Nat) : Int) := by rw [wrap_id _ (by omega) (by omega)]; omega
  have w4 : wrap64 ((m2 : Int) + 1) = ((m2 + 1 : Nat) : Int) := by rw [wrap_id _ (by omega) (by omega)]; omega
  have hl : ((([(m0 : Int), m1, m2, m3] : List Int).length : Nat) : Int) = 4 := rfl
  have r0 : rd [(m0 : Int), m1, m2, m3] 0 = m0 := rfl
  have r1 : rd [(m0 : Int), m1, m2, m3] 1 = m1 := rfl
  have r2 : rd [(m0 : Int), m1, m2, m3] 2 = m2 := rfl
  have r3 : rd [(m0 : Int), m1, m2, m3] 3 = m3 := rfl
  rw [posthornref17_Parts.l0, if_neg (Int.lt_irrefl _), if_pos (by rfl), if_pos (by rw [hl]; decide), r0, r1, r2, r3, w1, w2, w3, w4]
  by_cases c0 : m0 = 1
  · rw [if_pos (by omega), if_pos (by rw [hl]; decide)]
    by_cases c3 : m3 + 2 = s.size
    · rw [if_pos (by omega), if_pos (by omega)]
      by_cases c4 : bt s 0 = 61
      · rw [if_pos c4, if_pos (by omega), if_pos (by omega)]
        by_cases c5 : bt s ((s.size : Int) - 1) = 61
        · rw [if_pos c5, if_pos (by rw [hl]; decide), if_pos (by omega), if_pos (by omega), if_pos (by rw [hl]; decide), if_pos (by omega), if_pos (by omega), if_pos (by omega), if_pos (by omega), if_pos (by omega), if_pos (by omega)]
          have hc : m0 = 1 ∧ m3 + 2 = s.size ∧ bt s 0 = 61 ∧ bt s ((s.size : Int) - 1) = 61 := ⟨c0, c3, c4, c5⟩
          rw [if_pos hc]
          simp only [Int.toNat_natCast]
          generalize s.extract 2 m1 = a
          generalize s.extract (m1 + 1) m2 = b
          generalize s.extract (m2 + 1) m3 = c
          unfold codB
          have ha : (a.toList = []) ↔ a.toList.isEmpty = true := by simp
          by_cases k0 : a.toList = []
          · have k0' := ha.1 k0
            by_cases k1 : b.toList = [66]
            · rw [if_pos k1, if_pos k0, k0']; rfl
            · rw [if_neg k1]
              by_cases k2 : b.toList = [98]
              · rw [if_pos k2, if_pos k0, k0']; rfl
              · rw [if_neg k2]
                by_cases k3 : b.toList = [81]
                · rw [if_pos k3, if_pos k0, k0']; rfl
                · rw [if_neg k3, if_pos k0, k0']; rfl
          · have k0' : a.toList.isEmpty = false := by
              cases h : a.toList.isEmpty
              · rfl
              · exact absurd (ha.2 h) k0
            by_cases k1 : b.toList = [66]
            · rw [if_pos k1, if_neg k0, k0', k1]; rfl
            · rw [if_neg k1]
              have e1 : (b.toList == [66]) = false := beq_eq_false_iff_ne.2 k1
              by_cases k2 : b.toList = [98]
              · rw [if_pos k2, if_neg k0, k0', k2]; rfl
              · rw [if_neg k2]
                have e2 : (b.toList == [98]) = false := beq_eq_false_iff_ne.2 k2
                by_cases k3 : b.toList = [81]
                · rw [if_pos k3, if_neg k0, k0', k3]; rfl
                · have e3 : (b.toList == [81]) = false := beq_eq_false_iff_ne.2 k3
                  rw [if_neg k3, if_neg k0, k0', e1, e2, e3]; rfl
        · rw [if_neg c5, if_neg (show ¬ (m0 = 1 ∧ m3 + 2 = s.size ∧ bt s 0 = 61 ∧ bt s ((s.size : Int) - 1) = 61) from fun h => c5 h.2.2.2)]; rfl
      · rw [if_neg c4, if_neg (show ¬ (m0 = 1 ∧ m3 + 2 = s.size ∧ bt s 0 = 61 ∧ bt s ((s.size : Int) - 1) = 61) from fun h => c4 h.2.2.1)]; rfl
    · rw [if_neg (by omega), if_neg (show ¬ (m0 = 1 ∧ m3 + 2 = s.size ∧ bt s 0 = 61 ∧ bt s ((s.size : Int) - 1) = 61) from fun h => c3 h.2.1)]; rfl
  · rw [if_neg (by omega), if_neg (show ¬ (m0 = 1 ∧ m3 + 2 = s.size ∧ bt s 0 = 61 ∧ bt s ((s.size : Int) - 1) = 61) from fun h => c0 h.1)]; rfl
theorem ext_mid (s : ByteArray) (u v r : List UInt8) (i j : Nat) (h : s.data.toList = u ++ (v ++ r)) (hi : i = u.length) (hj : j = u.length + v.length) : s.extract i j = ⟨v.toArray⟩ := by
  subst hi hj
  exact ba_ext (by rw [Lib.extract_data, h, List.drop_left, Nat.add_sub_cancel_left, List.take_left])
theorem bt_head (s : ByteArray) (x : UInt8) (r : List UInt8) (h : s.data.toList = x :: r) : bt s 0 = (x.toNat : Int) := by
  have hl : 0 < s.size := by rw [← data_length, h]; simp
  have hb := bt_byte s 0 hl
  have hx : s[0]'hl = x := by
    have := Lib.data_getElem? s 0 hl
    rw [h] at this
    simpa using this.symm
  rw [hx] at hb
  exact hb
theorem bt_end (s : ByteArray) (x : UInt8) (u : List UInt8) (h : s.data.toList = u ++ [x]) : bt s ((s.size : Int) - 1) = (x.toNat : Int) := by
  have hz : s.size = u.length + 1 := by rw [← data_length, h]; simp
  have hl : u.length < s.size := by omega
  have hb := bt_byte s u.length hl
  have hx : s[u.length]'hl = x := by
    have := Lib.data_getElem? s u.length hl
    rw [h, List.getElem?_append_right (Nat.le_refl _), Nat.sub_self] at this
    simpa using this.symm
  rw [hx] at hb
  rw [← hb]
  congr 1
  omega
theorem five (s : ByteArray) (hs : s.size ≤ 1000000000) (a b c d e : List UInt8) (h : s.data.toList = a ++ 63 :: (b ++ 63 :: (c ++ 63 :: (d ++ 63 :: e)))) (na : ∀ x ∈ a, x ≠ 63) (nb : ∀ x ∈ b, x ≠ 63) (nc : ∀ x ∈ c, x ≠ 63) (nd : ∀ x ∈ d, x ≠ 63) (ne : ∀ x ∈ e, x ≠ 63) :
    partsEnd s (marks 0 s.data.toList) = some (if a.length = 1 ∧ e.length = 1 ∧ bt s 0 = 61 ∧ bt s ((s.size : Int) - 1) = 61 then (⟨b.toArray⟩, ⟨c.toArray⟩, ⟨d.toArray⟩, !b.isEmpty && codB ⟨c.toArray⟩) else no4) := by
  have hz : s.size = a.length + b.length + c.length + d.length + e.length + 4 := by
    rw [← data_length, h]
    simp
    omega
  have hm : marks 0 s.data.toList = [((a.length : Nat) : Int), ((a.length + b.length + 1 : Nat) : Int), ((a.length + b.length + c.length + 2 : Nat) : Int), ((a.length + b.length + c.length + d.length + 3 : Nat) : Int)] := by
    rw [h, marks_hit a _ 0 na, marks_hit b _ _ nb, marks_hit c _ _ nc, marks_hit d _ _ nd, marks_none e _ ne]
    simp only [Nat.zero_add, List.cons.injEq, Int.natCast_inj, and_true, true_and]
    omega
  rw [hm, end_four s hs _ _ _ _ (by omega) (by omega) (by omega) (by omega)]
  congr 1
  by_cases hc : a.length = 1 ∧ e.length = 1 ∧ bt s 0 = 61 ∧ bt s ((s.size : Int) - 1) = 61
  · rw [if_pos hc, if_pos ⟨hc.1, by omega, hc.2.2⟩]
    have e1 : s.extract 2 (a.length + b.length + 1) = ⟨b.toArray⟩ := ext_mid s (a ++ [63]) b (63 :: (c ++ 63 :: (d ++ 63 :: e))) _ _ (by rw [h]; simp) (by simp; omega) (by simp; omega)
    have e2 : s.extract (a.length + b.length + 1 + 1) (a.length + b.length + c.length + 2) = ⟨c.toArray⟩ := ext_mid s (a ++ 63 :: (b ++ [63])) c (63 :: (d ++ 63 :: e)) _ _ (by rw [h]; simp) (by simp; omega) (by simp; omega)
    have e3 : s.extract (a.length + b.length + c.length + 2 + 1) (a.length + b.length + c.length + d.length + 3) = ⟨d.toArray⟩ := ext_mid s (a ++ 63 :: (b ++ 63 :: (c ++ [63]))) d (63 :: e) _ _ (by rw [h]; simp) (by simp; omega) (by simp; omega)
    rw [e1, e2, e3, Lib.toList_data]
  · rw [if_neg hc, if_neg]
    intro h'
    exact hc ⟨h'.1, by omega, h'.2.2⟩
theorem codB_iff (c : List UInt8) : codB ⟨c.toArray⟩ = true ↔ ∃ x, c = [x] ∧ ((x = 66 ∨ x = 98) ∨ (x = 81 ∨ x = 113)) := by
  unfold codB
  rw [Lib.toList_data]
  simp only [Bool.or_eq_true, beq_iff_eq]
  constructor
  · rintro (((h | h) | h) | h)
    · exact ⟨66, h, Or.inl (Or.inl rfl)⟩
    · exact ⟨98, h, Or.inl (Or.inr rfl)⟩
    · exact ⟨81, h, Or.inr (Or.inl rfl)⟩
    · exact ⟨113, h, Or.inr (Or.inr rfl)⟩
  · rintro ⟨x, rfl, (rfl | rfl) | (rfl | rfl)⟩
    · exact Or.inl (Or.inl (Or.inl rfl))
    · exact Or.inl (Or.inl (Or.inr rfl))
    · exact Or.inl (Or.inr rfl)
    · exact Or.inr rfl
theorem one_long {a : List UInt8} (h : a.length = 1) : ∃ x, a = [x] := by
  match a, h with
  | [x], _ => exact ⟨x, rfl⟩
theorem byte61 {x : UInt8} (h : (x.toNat : Int) = 61) : x = 61 := UInt8.toNat_inj.1 (by rw [show (61 : UInt8).toNat = 61 from rfl]; omega)
/-- a word in the reference's eyes -/
theorem ref_form (s : ByteArray) (hs : s.size ≤ 1000000000) (b : List UInt8) (c : UInt8) (d : List UInt8) (h : Form s.data.toList b c d) : posthornref17_Parts.f (2 * s.size + 1) s = some (⟨b.toArray⟩, ⟨#[c]⟩, ⟨d.toArray⟩, true) := by
  have hl := parts_loop s hs s.size 0 0 [] (by omega) (by simp) (by rw [List.drop_zero]; exact h.shown)
  rw [List.drop_zero, List.nil_append] at hl
  have h5 := five s hs [61] b [c] d [61] (by rw [h.eq]; simp) (by decide) h.nb (by simpa using h.nc) h.nd (by decide)
  have hcond : ([61] : List UInt8).length = 1 ∧ ([61] : List UInt8).length = 1 ∧ bt s 0 = 61 ∧ bt s ((s.size : Int) - 1) = 61 := by
    refine ⟨rfl, rfl, ?_, ?_⟩
    · exact bt_head s 61 (63 :: (b ++ 63 :: ([c] ++ 63 :: d)) ++ [63, 61]) (by rw [h.eq]; rfl)
    · exact bt_end s 61 ([61, 63] ++ (b ++ 63 :: ([c] ++ 63 :: d)) ++ [63]) (by rw [h.eq]; simp)
  rw [if_pos hcond] at h5
  have hb : b.isEmpty = false := by
    cases hq : b with
    | nil => exact absurd hq h.ne
    | cons => rfl
  have hcod : codB ⟨[c].toArray⟩ = true := (codB_iff [c]).2 ⟨c, rfl, h.cod⟩
  rw [hb, hcod] at h5
  unfold posthornref17_Parts.f
  rw [show 2 * s.size + 1 = 2 * s.size + (0 + 1) by omega]
  have hl' : posthornref17_Parts.l0 (2 * s.size + (0 + 1)) s [] 0 = partsEnd s (marks 0 s.data.toList) := hl
  rw [hl', h5]
  rfl
theorem ref_some (s : ByteArray) (hs : s.size ≤ 1000000000) : ∃ r, posthornref17_Parts.f (2 * s.size + 1) s = some r ∧ (r.2.2.2 = true → ∃ b c d, Form s.data.toList b c d) := by
  unfold posthornref17_Parts.f
  rw [show 2 * s.size + 1 = 2 * s.size + (0 + 1) by omega]
  cases hall : s.data.toList.all shownB
  · have hb := parts_bad s hs s.size 0 0 [] (by omega) (by simp) (by rw [List.drop_zero]; exact hall)
    exact ⟨_, hb, fun h => by cases h⟩
  · have hl : posthornref17_Parts.l0 (2 * s.size + (0 + 1)) s [] 0 = partsEnd s (marks 0 s.data.toList) := by
      have := parts_loop s hs s.size 0 0 [] (by omega) (by simp) (by rw [List.drop_zero]; exact hall)
      rw [List.drop_zero, List.nil_append] at this
      exact this
    rw [hl]
    by_cases h4 : (marks 0 s.data.toList).length = 4
    · match hm : marks 0 s.data.toList, h4 with
      | [x0, x1, x2, x3], _ =>
        obtain ⟨a, r0, e0, n0, _, hm1⟩ := marks_cons _ _ _ _ hm
        obtain ⟨b, r1, e1, n1, _, hm2⟩ := marks_cons _ _ _ _ hm1
        obtain ⟨c, r2, e2, n2, _, hm3⟩ := marks_cons _ _ _ _ hm2
        obtain ⟨d, r3, e3, n3, _, hm4⟩ := marks_cons _ _ _ _ hm3
        have n4 : ∀ y ∈ r3, y ≠ 63 := by
          rcases first_mark r3 with h | ⟨u, r, e, _⟩
          · exact h
          · rw [e, marks_hit _ _ _ ‹_›] at hm4; cases hm4
        have hs5 : s.data.toList = a ++ 63 :: (b ++ 63 :: (c ++ 63 :: (d ++ 63 :: r3))) := by rw [e0, e1, e2, e3]
        have h5 := five s hs a b c d r3 hs5 n0 n1 n2 n3 n4
        rw [← hm, h5]
        refine ⟨_, rfl, fun hok => ?_⟩
        by_cases hc : a.length = 1 ∧ r3.length = 1 ∧ bt s 0 = 61 ∧ bt s ((s.size : Int) - 1) = 61
        · rw [if_pos hc] at hok
          simp only [Bool.and_eq_true] at hok
          obtain ⟨x, rfl⟩ := one_long hc.1
          obtain ⟨y, rfl⟩ := one_long hc.2.1
          have hx := byte61 ((bt_head s x _ hs5).symm.trans hc.2.2.1)
          have hy := byte61 ((bt_end s y ([x] ++ 63 :: (b ++ 63 :: (c ++ 63 :: (d ++ [63])))) (by rw [hs5]; simp)).symm.trans hc.2.2.2)
          subst hx hy
          obtain ⟨z, rfl, hz⟩ := (codB_iff c).1 hok.2
          refine ⟨b, z, d, ?_, n1, n3, n2 z (by simp), ?_, hz, hall⟩
          · rw [hs5]; simp
          · intro hb
            rw [hb] at hok
            exact absurd hok.1 (by decide)
        · rw [if_neg hc] at hok
          cases hok
    · rw [end_count s _ h4]
      exact ⟨_, rfl, fun h => by cases h⟩
/-- the reference's parts are cut's -/
theorem parts_f (s : ByteArray) (hs : s.size ≤ 1000000000) : ∃ r, posthornref17_Parts.f (2 * s.size + 1) s = some r ∧ r.2.2.2 = (cutV s).2.2.2 ∧ (r.2.2.2 = true → r = cutV s) := by
  obtain ⟨r, hr, hf⟩ := ref_some s hs
  refine ⟨r, hr, ?_, ?_⟩
  · cases hc : (cutV s).2.2.2
    · cases hk : r.2.2.2
      · rfl
      · obtain ⟨b, c, d, h⟩ := hf hk
        rw [form_cut h] at hc
        cases hc
    · obtain ⟨b, c, d, h⟩ := cut_form s hc
      rw [ref_form s hs b c d h] at hr
      cases hr
      rfl
  · intro hk
    obtain ⟨b, c, d, h⟩ := hf hk
    rw [ref_form s hs b c d h] at hr
    cases hr
    exact (form_cut h).symm
end Go.Proofs.YtcnhnpkbklakoaaDoor.Word
