/- the reference's parts of a word are cut's: plain. -/
import Derived.Test.YtcnhnpkbklakoaaDoorFitPure
import Derived.Test.YtcnhnpkbklakoaaDoorPartsFn
namespace Go.Proofs.YtcnhnpkbklakoaaDoor.Word
open Go.RowKit Go.Proofs.YtcnhnpkbklakoaaDoorW.PrintWords
open Go.Proofs.YtcnhnpkbklakoaaDoor.Code Go.Proofs.YtcnhnpkbklakoaaDoor.Runes Go.Proofs.YtcnhnpkbklakoaaDoor.Pieces
open Go.Proofs.YtcnhnpkbklakoaaDoor.PWordDecodes (posthornref17_Parts.l0 posthornref17_Parts.j1 posthornref17_Parts.f)
set_option linter.unusedVariables false
set_option linter.unusedSimpArgs false
/-- the places of the ? -/
def marks : Nat → List UInt8 → List Int
  | _, [] => []
  | i, c :: r => if c = 63 then (i : Int) :: marks (i + 1) r else marks (i + 1) r
theorem marks_none : ∀ (u : List UInt8) (i : Nat), (∀ x ∈ u, x ≠ 63) → marks i u = []
  | [], _, _ => rfl
  | x :: u, i, h => by
    rw [marks, if_neg (h x (by simp)), marks_none u _ (fun y hy => h y (by simp [hy]))]
theorem marks_hit : ∀ (u r : List UInt8) (i : Nat), (∀ x ∈ u, x ≠ 63) → marks i (u ++ 63 :: r) = ((i + u.length : Nat) : Int) :: marks (i + u.length + 1) r
  | [], r, i, _ => by simp [marks]
  | x :: u, r, i, h => by
    rw [List.cons_append, marks, if_neg (h x (by simp)), marks_hit u r (i + 1) (fun y hy => h y (by simp [hy]))]
    simp only [List.length_cons]
    rw [show i + 1 + u.length = i + (u.length + 1) by omega]
theorem first_mark : ∀ (l : List UInt8), (∀ x ∈ l, x ≠ 63) ∨ ∃ u r, l = u ++ 63 :: r ∧ ∀ x ∈ u, x ≠ 63
  | [] => Or.inl (fun x hx => by cases hx)
  | x :: l => by
    by_cases h : x = 63
    · subst h
      exact Or.inr ⟨[], l, rfl, fun y hy => by cases hy⟩
    · rcases first_mark l with h1 | ⟨u, r, e, h1⟩
      · exact Or.inl (fun y hy => by rcases List.mem_cons.1 hy with rfl | hy; exact h; exact h1 y hy)
      · exact Or.inr ⟨x :: u, r, by rw [e]; rfl, fun y hy => by rcases List.mem_cons.1 hy with rfl | hy; exact h; exact h1 y hy⟩
theorem marks_cons (i : Nat) (l : List UInt8) (x : Int) (m : List Int) (h : marks i l = x :: m) : ∃ u r, l = u ++ 63 :: r ∧ (∀ y ∈ u, y ≠ 63) ∧ x = ((i + u.length : Nat) : Int) ∧ marks (i + u.length + 1) r = m := by
  rcases first_mark l with h1 | ⟨u, r, rfl, h1⟩
  · rw [marks_none l i h1] at h; cases h
  · rw [marks_hit u r i h1] at h
    injection h with h2 h3
    exact ⟨u, r, rfl, h1, h2.symm, h3⟩
/-- a text that is one word -/
structure Form (l b : List UInt8) (c : UInt8) (d : List UInt8) : Prop where
  eq : l = [61, 63] ++ (b ++ 63 :: ([c] ++ 63 :: d)) ++ [63, 61]
  nb : ∀ x ∈ b, x ≠ 63
  nd : ∀ x ∈ d, x ≠ 63
  nc : c ≠ 63
  ne : b ≠ []
  cod : (c = 66 ∨ c = 98) ∨ (c = 81 ∨ c = 113)
  shown : l.all shownB = true
theorem cod_index (c : UInt8) (h : (c = 66 ∨ c = 98) ∨ (c = 81 ∨ c = 113)) : ¬ Lib.indexByte [66, 98, 81, 113] c < 0 := by
  rcases h with (rfl | rfl) | (rfl | rfl) <;> decide
theorem form_cut {x : ByteArray} {b : List UInt8} {c : UInt8} {d : List UInt8} (h : Form x.data.toList b c d) : cutV x = (⟨b.toArray⟩, ⟨#[c]⟩, ⟨d.toArray⟩, true) := by
  have hs := h.shown
  rw [h.eq] at hs
  simp only [List.all_append, List.all_cons, List.all_nil, Bool.and_eq_true] at hs
  exact cut_word b d c h.nb h.ne (cod_index c h.cod) h.nd h.nc hs.1.2.1 hs.1.2.2.2.1.1 hs.1.2.2.2.2.2 x h.eq
theorem parts_inv (s : ByteArray) (p0 p1 p2 : ByteArray) (h : partsV s = [p0, p1, p2]) : s.data.toList = p0.data.toList ++ 63 :: (p1.data.toList ++ 63 :: p2.data.toList) ∧ (∀ x ∈ p0.data.toList, x ≠ 63) ∧ (∀ x ∈ p1.data.toList, x ≠ 63) ∧ (∀ x ∈ p2.data.toList, x ≠ 63) := by
  rcases first_mark s.data.toList with h1 | ⟨u, r, e, h1⟩
  · rw [parts_none s h1] at h; cases h
  · rw [parts_hit s u r e h1] at h
    injection h with h2 h3
    rcases first_mark r with k1 | ⟨u', r', e', k1⟩
    · rw [parts_none ⟨r.toArray⟩ k1] at h3; cases h3
    · rw [parts_hit ⟨r.toArray⟩ u' r' e' k1] at h3
      injection h3 with h4 h5
      rcases first_mark r' with q1 | ⟨u'', r'', e'', q1⟩
      · rw [parts_none ⟨r'.toArray⟩ q1] at h5
        injection h5 with h6 _
        subst h2 h4 h6
        exact ⟨by rw [e, e'], h1, k1, q1⟩
      · rw [parts_hit ⟨r'.toArray⟩ u'' r'' e'' q1] at h5
        injection h5 with _ h7
        have := partsV_length ⟨r''.toArray⟩
        rw [h7] at this
        simp at this
theorem cut_form (x : ByteArray) (h : (cutV x).2.2.2 = true) : ∃ b c d, Form x.data.toList b c d := by
  unfold cutV at h
  split at h
  · cases h
  · rename_i h4
    split at h
    · cases h
    · rename_i hA
      split at h
      · cases h
      · rename_i hZ
        have hA' := Decidable.not_not.1 hA
        have hZ' : ((x.extract (x.size - 2) x.size).toList == [63, 61]) = true := by
          cases hq : ((x.extract (x.size - 2) x.size).toList == [63, 61])
          · exact absurd hq hZ
          · rfl
        have hZ'' := eq_of_beq hZ'
        rw [Lib.toList_data, Lib.extract_data] at hA' hZ''
        have hl : x.data.toList.length = x.size := data_length x
        have hbody : (bodyV x).data.toList = (x.data.toList.drop 2).take (x.size - 2 - 2) := Lib.extract_data x 2 (x.size - 2)
        have hsplit : x.data.toList = [61, 63] ++ (bodyV x).data.toList ++ [63, 61] := by
          have e1 : x.data.toList = x.data.toList.take 2 ++ x.data.toList.drop 2 := (List.take_append_drop 2 _).symm
          have e2 : x.data.toList.drop 2 = (x.data.toList.drop 2).take (x.size - 2 - 2) ++ (x.data.toList.drop 2).drop (x.size - 2 - 2) := (List.take_append_drop _ _).symm
          have e3 : x.data.toList.take 2 = [61, 63] := by simpa using hA'
          have e4 : (x.data.toList.drop 2).drop (x.size - 2 - 2) = [63, 61] := by
            rw [List.drop_drop, show 2 + (x.size - 2 - 2) = x.size - 2 by omega]
            rw [List.take_of_length_le (by rw [List.length_drop, hl]; omega)] at hZ''
            exact hZ''
          rw [e3] at e1
          rw [e4] at e2
          rw [hbody, List.append_assoc, ← e2]
          exact e1
        generalize hL : partsV (bodyV x) = L at h
        match L, h, hL with
        | [], h, _ => cases h
        | [_], h, _ => cases h
        | [_, _], h, _ => cases h
        | _ :: _ :: _ :: _ :: _, h, _ => cases h
        | [p0, p1, p2], h, hL =>
          obtain ⟨hb, n0, n1, n2⟩ := parts_inv _ _ _ _ hL
          rw [cutM_three] at h
          split at h
          · cases h
          · rename_i hp0
            split at h
            · cases h
            · rename_i hp1
              split at h
              · cases h
              · rename_i hin
                split at h
                · rename_i hall
                  have hp1' := one_byte p1 (Decidable.not_not.1 hp1)
                  rw [Lib.toList_data] at hp0
                  obtain ⟨c, hc⟩ : ∃ c, p1.data.toList.headD 0 = c := ⟨_, rfl⟩
                  rw [hc] at hp1' hin
                  subst hp1'
                  refine ⟨p0.data.toList, c, p2.data.toList, ?_, n0, n2, n1 c (by simp), hp0, in_codings c hin, hall⟩
                  rw [hsplit, hb]
                · cases h
/-- behind the loop -/
def partsEnd (s : ByteArray) (m : List Int) : Option (ByteArray × ByteArray × ByteArray × Bool) := posthornref17_Parts.l0 1 s m (s.size : Int)
theorem parts_end (s : ByteArray) (m : List Int) (e : Nat) : posthornref17_Parts.l0 (e + 1) s m (s.size : Int) = partsEnd s m := by
  unfold partsEnd
  simp only [posthornref17_Parts.l0]
  rw [if_neg (Int.lt_irrefl _), if_neg (Int.lt_irrefl _)]
theorem shown_num (x : UInt8) : shownB x = true ↔ 33 ≤ (x.toNat : Int) ∧ (x.toNat : Int) ≤ 126 := by
  unfold shownB
  simp only [Bool.and_eq_true, decide_eq_true_eq]
  omega
theorem parts_step (s : ByteArray) (hs : s.size ≤ 1000000000) (m : List Int) (hm : m.length ≤ s.size) (i e : Nat) (hi : i < s.size) (hx : shownB (s[i]'hi) = true) :
    posthornref17_Parts.l0 (e + 2) s m (i : Int) = posthornref17_Parts.l0 e s (if s[i]'hi = 63 then m ++ [(i : Int)] else m) ((i + 1 : Nat) : Int) := by
  have hb := bt_byte s i hi
  obtain ⟨x0, x1⟩ := (shown_num _).1 hx
  have hw : wrap64 ((i : Int) + 1) = ((i + 1 : Nat) : Int) := by unfold wrap64; omega
  have hj : posthornref17_Parts.j1 (e + 1) s m (i : Int) false = posthornref17_Parts.l0 e s (if s[i]'hi = 63 then m ++ [(i : Int)] else m) ((i + 1 : Nat) : Int) := by
    rw [posthornref17_Parts.j1, if_neg (by decide), if_pos (by omega), if_pos (by omega), hb, hw]
    by_cases h63 : s[i]'hi = 63
    · rw [if_pos (by rw [h63]; rfl), if_pos h63, if_pos (by omega)]
    · rw [if_neg (fun h => h63 (UInt8.toNat_inj.1 (by rw [show (63 : UInt8).toNat = 63 from rfl]; omega))), if_neg h63]
  rw [show e + 2 = (e + 1) + 1 from rfl, posthornref17_Parts.l0, if_pos (by omega), if_pos (by omega), hb, if_neg (by omega)]
  rw [show decide (((s[i]'hi).toNat : Int) > 126) = false from decide_eq_false (by omega)]
  exact hj
theorem marks_append_len (i : Nat) : ∀ (l : List UInt8), (marks i l).length ≤ l.length := by
  intro l
  induction l generalizing i with
  | nil => simp [marks]
  | cons c r ih =>
    rw [marks]
    split
    · simp only [List.length_cons]; have := ih (i + 1); omega
    · have := ih (i + 1); simp only [List.length_cons]; omega
theorem parts_loop (s : ByteArray) (hs : s.size ≤ 1000000000) : ∀ (d i e : Nat) (m : List Int), i + d = s.size → m.length ≤ i → (s.data.toList.drop i).all shownB = true →
    posthornref17_Parts.l0 (2 * d + (e + 1)) s m (i : Int) = partsEnd s (m ++ marks i (s.data.toList.drop i))
  | 0, i, e, m, hi, hm, _ => by
    have : i = s.size := by omega
    subst this
    rw [List.drop_eq_nil_of_le (by rw [data_length]; exact Nat.le_refl _), show marks s.size [] = [] from rfl, List.append_nil, Nat.mul_zero, Nat.zero_add]
    exact parts_end s m e
  | d + 1, i, e, m, hi, hm, hall => by
    have hlt : i < s.size := by omega
    have hd := Code.drop_at s i hlt
    rw [hd, List.all_cons, Bool.and_eq_true] at hall
    rw [show 2 * (d + 1) + (e + 1) = (2 * d + (e + 1)) + 2 by omega, parts_step s hs m (by omega) i _ hlt hall.1]
    rw [parts_loop s hs d (i + 1) e _ (by omega) (by split <;> (try simp) <;> omega) hall.2, hd, marks]
    split
    · rw [List.append_assoc]; rfl
    · rfl
theorem parts_bad (s : ByteArray) (hs : s.size ≤ 1000000000) : ∀ (d i e : Nat) (m : List Int), i + d = s.size → m.length ≤ i → (s.data.toList.drop i).all shownB = false →
    posthornref17_Parts.l0 (2 * d + (e + 1)) s m (i : Int) = some (⟨#[]⟩, ⟨#[]⟩, ⟨#[]⟩, false)
  | 0, i, e, m, hi, hm, h => by
    rw [List.drop_eq_nil_of_le (by rw [data_length]; omega)] at h
    cases h
  | d + 1, i, e, m, hi, hm, hall => by
    have hlt : i < s.size := by omega
    have hd := Code.drop_at s i hlt
    have hb := bt_byte s i hlt
    rw [hd, List.all_cons] at hall
    cases hx : shownB (s[i]'hlt)
    · have hn : ¬ (33 ≤ ((s[i]'hlt).toNat : Int) ∧ ((s[i]'hlt).toNat : Int) ≤ 126) := fun h => by
        have := (shown_num _).2 h
        rw [hx] at this
        cases this
      have hj : ∀ e', posthornref17_Parts.j1 (e' + 1) s m (i : Int) true = some (⟨#[]⟩, ⟨#[]⟩, ⟨#[]⟩, false) := fun e' => by
        rw [posthornref17_Parts.j1, if_pos rfl]
      rw [show 2 * (d + 1) + (e + 1) = ((2 * d + (e + 1)) + 1) + 1 by omega, posthornref17_Parts.l0, if_pos (by omega), if_pos (by omega), hb]
      by_cases h33 : ((s[i]'hlt).toNat : Int) < 33
      · rw [if_pos h33]; exact hj _
      · rw [if_neg h33, show decide (((s[i]'hlt).toNat : Int) > 126) = true from decide_eq_true (by omega)]; exact hj _
    · rw [hx, Bool.true_and] at hall
      rw [show 2 * (d + 1) + (e + 1) = (2 * d + (e + 1)) + 2 by omega, parts_step s hs m (by omega) i _ hlt hx]
      exact parts_bad s hs d (i + 1) e _ (by omega) (by split <;> (try simp) <;> omega) hall
end Go.Proofs.YtcnhnpkbklakoaaDoor.Word
