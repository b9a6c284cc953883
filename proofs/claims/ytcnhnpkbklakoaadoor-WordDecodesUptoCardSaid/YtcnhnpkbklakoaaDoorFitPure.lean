/- what Encode writes may stand in a field: plain. -/
import Derived.Test.YtcnhnpkbklakoaaDoorG5
namespace Go.Proofs.YtcnhnpkbklakoaaDoor.Word
open Go.RowKit Go.Proofs.YtcnhnpkbklakoaaDoorW.PrintWords
open Go.Proofs.YtcnhnpkbklakoaaDoor.Code Go.Proofs.YtcnhnpkbklakoaaDoor.Runes Go.Proofs.YtcnhnpkbklakoaaDoor.Pieces
set_option linter.unusedVariables false
set_option linter.unusedSimpArgs false
def splitC (c : UInt8) (b : ByteArray) : List ByteArray := Lib.splitB ⟨#[c]⟩ 0 (Lib.countB b ⟨#[c]⟩) b
theorem split_none (c : UInt8) (s : ByteArray) (h : ∀ x ∈ s.data.toList, x ≠ c) : splitC c s = [s] := by
  have hi : Lib.indexB s ⟨#[c]⟩ = -1 := (Lib.index_one _ _).trans (idx_none _ _ h)
  unfold splitC
  rw [Lib.countB_miss _ _ hi]
  rfl
theorem split_hit (c : UInt8) (s : ByteArray) (u r : List UInt8) (hs : s.data.toList = u ++ c :: r) (h : ∀ x ∈ u, x ≠ c) : splitC c s = ⟨u.toArray⟩ :: splitC c ⟨r.toArray⟩ := by
  have hi : Lib.indexB s ⟨#[c]⟩ = (u.length : Nat) := by
    refine (Lib.index_one _ _).trans ?_
    rw [hs]
    exact idx_app u c r h
  have e1 : s.extract 0 (u.length + 0) = ⟨u.toArray⟩ := ba_ext (by
    rw [Lib.extract_data, hs]
    simp)
  have e2 : s.extract (u.length + 1) s.size = ⟨r.toArray⟩ := ba_ext (by
    have hz : s.size = u.length + 1 + r.length := by
      rw [← data_length, hs]
      simp
      omega
    rw [Lib.extract_data, hs, hz]
    have : (u ++ c :: r).drop (u.length + 1) = r := by
      rw [List.drop_append]
      simp
    rw [this, List.take_of_length_le (by omega)])
  have hsz : (⟨#[c]⟩ : ByteArray).size = 1 := rfl
  have hc := Lib.countB_hit s ⟨#[c]⟩ u.length (by rw [hsz]; exact Nat.le_refl _) hi
  rw [hsz, e2, Nat.add_comm] at hc
  unfold splitC
  rw [hc, Lib.splitB_hit _ _ _ _ _ hi, hsz, e1, e2]
theorem shown_ne32 {x : ByteArray} (h : x.data.toList.all shownB = true) : ∀ y ∈ x.data.toList, y ≠ 32 := by
  intro y hy e
  subst e
  have := List.all_eq_true.1 h 32 hy
  exact absurd this (by decide)
theorem mk_self (x : ByteArray) : (⟨x.data.toList.toArray⟩ : ByteArray) = x := ba_ext (by simp)
theorem split_words : ∀ (ws : List ByteArray) (x t : ByteArray), (∀ y ∈ x :: ws, y.data.toList.all shownB = true) → t.data.toList = x.data.toList ++ behind ws → splitC 32 t = x :: ws
  | [], x, t, h, ht => by
    have : t = x := ba_ext (by rw [ht]; simp [behind])
    subst this
    exact split_none 32 t (shown_ne32 (h t (by simp)))
  | y :: ws, x, t, h, ht => by
    rw [behind_cons] at ht
    rw [split_hit 32 t _ _ ht (shown_ne32 (h x (by simp))), mk_self]
    rw [split_words ws y ⟨(y.data.toList ++ behind ws).toArray⟩ (fun z hz => h z (List.mem_cons_of_mem _ hz)) rfl]
def P8 : List UInt8 := [61, 63, 85, 84, 70, 45, 56, 63]
/-- a word that fits -/
structure Fit (x : ByteArray) : Prop where
  shown : x.data.toList.all shownB = true
  small : x.size ≤ 75
  pre : Lib.hasPrefix x.data.toList P8 = true
  suf : Lib.hasSuffix x.data.toList [63, 61] = true
  needs : needsV x = true
theorem needs_word {x : ByteArray} {p : List UInt8} (h : Wd x p) : needsV x = true := by
  unfold needsV
  split
  · rfl
  · have hx0 : 0 < x.data.toList.length := List.length_pos_iff.2 h.ne
    rw [data_length] at hx0
    obtain ⟨d, hd⟩ : ∃ d, x.size = d + 1 := ⟨x.size - 1, by omega⟩
    obtain ⟨p1, p2, p3, p4⟩ := step_places x 0 [] x.data.toList [] (by simp) (fun y hy => by cases hy) (solid_shown h.shown) (Or.inl rfl) (Or.inl h.ne)
    obtain ⟨c0, co, tx, hcut, _⟩ := h.says
    rw [hd, needsGo, if_pos (by omega), p4, mk_self, hcut]
    rfl
theorem pre_of (r : List UInt8) : Lib.hasPrefix (P8 ++ r) P8 = true := by simp [Lib.hasPrefix]
theorem suf_of (r : List UInt8) : Lib.hasSuffix (r ++ [63, 61]) [63, 61] = true := by simp [Lib.hasSuffix]
theorem fit_B (p : List UInt8) (hp : runesBad p = p.length) (hl : p.length ≤ 45) : Fit (wordB (natsOf p)) := by
  have hw := wd_B p hp
  have hx : (wordB (natsOf p)).data.toList = P8 ++ ([66, 63] ++ u8s (b64 (natsOf p)) ++ [63, 61]) := by
    unfold wordB
    rw [data_app, data_app]
    rw [show hdB.data.toList = [61, 63, 85, 84, 70, 45, 56, 63, 66, 63] from rfl, show tl.data.toList = [63, 61] from rfl, show (strOfNums (b64 (natsOf p))).data.toList = u8s (b64 (natsOf p)) from rfl]
    simp [P8]
  refine ⟨hw.shown, ?_, ?_, ?_, needs_word hw⟩
  · have := wordB_size (natsOf p) (by simp [natsOf]; exact hl)
    omega
  · rw [hx]; exact pre_of _
  · rw [hx, ← List.append_assoc, ← List.append_assoc]; exact suf_of _
theorem fit_Q (t : ByteArray) (L : List Int) (hg : ∀ r ∈ L, Good r) (ht : t.data.toList = qtext L) (hl : t.size ≤ 63) : Fit (wordQ t) := by
  have hw := wd_Q t L hg ht
  have hx : (wordQ t).data.toList = P8 ++ ([81, 63] ++ t.data.toList ++ [63, 61]) := by
    unfold wordQ
    rw [data_app, data_app]
    rw [show hdQ.data.toList = [61, 63, 85, 84, 70, 45, 56, 63, 81, 63] from rfl, show tl.data.toList = [63, 61] from rfl]
    simp [P8]
  refine ⟨hw.shown, wordQ_size t hl, ?_, ?_, needs_word hw⟩
  · rw [hx]; exact pre_of _
  · rw [hx, ← List.append_assoc, ← List.append_assoc]; exact suf_of _
theorem encB_len (r : Int) : (encB r).length ≤ 4 := by
  have h := (enc_len r).2
  rw [enc_natsOf] at h
  simpa [natsOf] using h
theorem fits_B : ∀ (L : List Int), (∀ r ∈ L, Good r) → ∀ (L0 : List Int), (∀ r ∈ L0, Good r) → (encs L0).length ≤ 45 → ∀ x ∈ bSeg L (natsOf (encs L0)), Fit x
  | [], _, L0, h0, hl => by
    intro x hx
    simp only [bSeg, List.mem_singleton] at hx
    subst hx
    exact fit_B _ (runesBad_encs L0 h0) hl
  | r :: L, hL, L0, h0, hl => by
    have hr := hL r (by simp)
    have hL' : ∀ x ∈ L, Good x := fun x hx => hL x (by simp [hx])
    have h4 := encB_len r
    intro x hx
    rw [bSeg_cons, enc_natsOf] at hx
    split at hx
    · rcases List.mem_cons.1 hx with rfl | hx
      · exact fit_B _ (runesBad_encs L0 h0) hl
      · have e1 : encs [r] = encB r := by simp [encs]
        have := fits_B L hL' [r] (fun y hy => by simp at hy; subst hy; exact hr) (by rw [e1]; omega)
        rw [e1] at this
        exact this x hx
    · rename_i hbig
      have e1 : encs (L0 ++ [r]) = encs L0 ++ encB r := by simp [encs]
      have hll : (encs (L0 ++ [r])).length ≤ 45 := by
        rw [e1, List.length_append]
        simp only [natsOf, List.length_map] at hbig
        omega
      have := fits_B L hL' (L0 ++ [r]) (fun y hy => by
        rcases List.mem_append.1 hy with h | h
        · exact h0 y h
        · simp at h; subst h; exact hr) hll
      rw [e1, natsOf_app] at this
      exact this x hx
theorem fits_Q : ∀ (L : List Int), (∀ r ∈ L, Good r) → ∀ (L0 : List Int) (t : ByteArray), (∀ r ∈ L0, Good r) → t.data.toList = qtext L0 → t.size ≤ 63 → ∀ x ∈ qSeg L t, Fit x
  | [], _, L0, t, h0, ht, hl => by
    intro x hx
    simp only [qSeg, List.mem_singleton] at hx
    subst hx
    exact fit_Q t L0 h0 ht hl
  | r :: L, hL, L0, t, h0, ht, hl => by
    have hr := hL r (by simp)
    have hL' : ∀ x ∈ L, Good x := fun x hx => hL x (by simp [hx])
    have h12 := qI_size r
    intro x hx
    rw [qSeg_cons] at hx
    split at hx
    · rcases List.mem_cons.1 hx with rfl | hx
      · exact fit_Q t L0 h0 ht hl
      · exact fits_Q L hL' [r] (qI r) (fun y hy => by simp at hy; subst hy; exact hr) (by simp [qtext]) (by omega) x hx
    · exact fits_Q L hL' (L0 ++ [r]) (t ++ qI r) (fun y hy => by
        rcases List.mem_append.1 hy with h | h
        · exact h0 y h
        · simp at h; subst h; exact hr) (by rw [data_app, ht]; simp [qtext]) (by rw [ByteArray.size_append]; omega) x hx
/-- a text that may stand in a field -/
structure FitText (t : ByteArray) : Prop where
  shown : ∀ b ∈ t.data.toList, 32 ≤ b.toNat ∧ b.toNat ≤ 126
  words : t.size = 0 ∨ (0 < t.size ∧ (∀ x ∈ splitC 32 t, Fit x))
theorem fit_joined (t x : ByteArray) (ws : List ByteArray) (hf : ∀ y ∈ x :: ws, Fit y) (hx : x.data.toList ≠ []) (ht : t.data.toList = x.data.toList ++ behind ws) : FitText t := by
  refine ⟨?_, ?_⟩
  · have hsh : ∀ (l : List UInt8), l.all shownB = true → ∀ b ∈ l, 32 ≤ b.toNat ∧ b.toNat ≤ 126 := by
      intro l hl b hb
      have := List.all_eq_true.1 hl b hb
      unfold shownB at this
      simp only [Bool.and_eq_true, decide_eq_true_eq] at this
      omega
    intro b hb
    rw [ht] at hb
    rcases List.mem_append.1 hb with h | h
    · exact hsh _ (hf x (by simp)).shown b h
    · unfold behind at h
      obtain ⟨y, hy, hyb⟩ := List.mem_flatMap.1 h
      rcases List.mem_cons.1 hyb with rfl | hyb
      · decide
      · exact hsh _ (hf y (by simp [hy])).shown b hyb
  · right
    refine ⟨?_, ?_⟩
    · rw [← data_length, ht, List.length_append]
      have := List.length_pos_iff.2 hx
      omega
    · rw [split_words ws x t (fun y hy => (hf y hy).shown) ht]
      exact hf
/-- what Encode writes fits; it is nothing just where the text is none, or no UTF-8 -/
theorem enc_fit (s : ByteArray) (short : Bool) : FitText (encV s short).1 ∧ ((encV s short).1.size = 0 ↔ ((encV s short).2 ≠ 0 ∨ s.size = 0)) := by
  have hle := runesBad_le s.data.toList
  rw [data_length] at hle
  by_cases hb : runesBad s.data.toList = s.size
  · obtain ⟨hg, _⟩ := good_text s hb
    rcases enc_shape s short hb with ⟨h0, e⟩ | ⟨h0, t, x, ws, p, ps, e, ht, w1, w2, w3, hseg⟩
    · rw [e]
      refine ⟨⟨(fun b hb => by cases hb), Or.inl rfl⟩, fun _ => Or.inr h0, fun _ => rfl⟩
    · have hf : ∀ y ∈ x :: ws, Fit y := by
        rcases hseg with h | h
        · rw [h]
          exact fits_B (runesAt s 0) hg [] (fun r hr => by cases hr) (by decide)
        · rw [h]
          exact fits_Q (runesAt s 0) hg [] ⟨#[]⟩ (fun r hr => by cases hr) rfl (by decide)
      have hft := fit_joined t x ws hf w1.ne ht
      have hpos : 0 < t.size := by
        rcases hft.words with h | h
        · have hx := List.length_pos_iff.2 w1.ne
          have : t.data.toList.length = t.size := data_length t
          rw [ht, List.length_append] at this
          omega
        · exact h.1
      rw [e]
      refine ⟨hft, fun h => ?_, fun h => ?_⟩
      · simp only at h; omega
      · rcases h with h | h
        · exact absurd rfl h
        · omega
  · rw [enc_bad s short (by omega)]
    exact ⟨⟨(fun b hb => by cases hb), Or.inl rfl⟩, fun _ => Or.inl (by decide), fun _ => rfl⟩
theorem enc_two (s : ByteArray) : (encV s false).2 = (encV s true).2 ∧ (encV s true).1.size ≤ (encV s false).1.size := by
  unfold encV
  split
  · exact ⟨rfl, Nat.le_refl _⟩
  · split
    · exact ⟨rfl, Nat.le_refl _⟩
    · rw [if_neg (by simp)]
      split
      · rename_i h
        exact ⟨rfl, Nat.le_of_lt h.2⟩
      · exact ⟨rfl, Nat.le_refl _⟩
end Go.Proofs.YtcnhnpkbklakoaaDoor.Word
