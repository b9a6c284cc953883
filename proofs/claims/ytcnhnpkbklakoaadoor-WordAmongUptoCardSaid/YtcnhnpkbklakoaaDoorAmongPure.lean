/- posthornlaw17.WordAmong: the plain law. -/
import Derived.Test.YtcnhnpkbklakoaaDoorG5
namespace Go.Proofs.YtcnhnpkbklakoaaDoor.Word
open Go.RowKit Go.Proofs.YtcnhnpkbklakoaaDoorW.PrintWords Go.Proofs.YtcnhnpkbklakoaaDoorW.PrintLast Go.Proofs.YtcnhnpkbklakoaaDoorW.PrintMore Go.Proofs.YtcnhnpkbklakoaaDoor.PWordEncodes
open Go.Proofs.YtcnhnpkbklakoaaDoor.Code Go.Proofs.YtcnhnpkbklakoaaDoor.Runes Go.Proofs.YtcnhnpkbklakoaaDoor.Pieces
/-- a text without an encoded word -/
inductive Plain : List UInt8 → Prop where
  | blank {g : List UInt8} : Blank g → Plain g
  | step {g x rest : List UInt8} : Blank g → Solid x → x ≠ [] → (cutV ⟨x.toArray⟩).2.2.2 = false → Opens rest → Plain rest → Plain (g ++ (x ++ rest))
theorem blank_app {g h : List UInt8} (hg : Blank g) (hh : Blank h) : Blank (g ++ h) := fun x hx => by
  rcases List.mem_append.1 hx with h' | h'
  · exact hg x h'
  · exact hh x h'
theorem plain_more {g a : List UInt8} (hg : Blank g) (ha : Plain a) : Plain (g ++ a) := by
  cases ha with
  | blank h => exact .blank (blank_app hg h)
  | step h1 h2 h3 h4 h5 h6 =>
    rw [← List.append_assoc]
    exact .step (blank_app hg h1) h2 h3 h4 h5 h6
theorem takeWhile_all (p : UInt8 → Bool) : ∀ (l : List UInt8), ∀ x ∈ l.takeWhile p, p x = true
  | [], x, h => by cases h
  | y :: l, x, h => by
    rw [List.takeWhile_cons] at h
    split at h
    · rcases List.mem_cons.1 h with rfl | h
      · assumption
      · exact takeWhile_all p l x h
    · cases h
theorem dropWhile_opens (l : List UInt8) : Opens (l.dropWhile fun x => blankB x == false) := by
  induction l with
  | nil => exact Or.inl rfl
  | cons y l ih =>
    rw [List.dropWhile_cons]
    split
    · exact ih
    · rename_i h
      exact Or.inr ⟨y, l, rfl, by simpa using h⟩
theorem places_of (s : ByteArray) (i : Nat) (hi : i ≤ s.size) :
    ∃ g x rest, s.data.toList.drop i = g ++ (x ++ rest) ∧ Blank g ∧ Solid x ∧ Opens rest ∧ (x ≠ [] ∨ rest = []) := by
  refine ⟨(s.data.toList.drop i).takeWhile fun x => blankB x == true, ((s.data.toList.drop i).dropWhile fun x => blankB x == true).takeWhile fun x => blankB x == false, ((s.data.toList.drop i).dropWhile fun x => blankB x == true).dropWhile fun x => blankB x == false, ?_, ?_, ?_, ?_, ?_⟩
  · rw [List.takeWhile_append_dropWhile, List.takeWhile_append_dropWhile]
  · intro x hx
    have := takeWhile_all _ _ x hx
    simpa using this
  · intro x hx
    have := takeWhile_all _ _ x hx
    simpa using this
  · exact dropWhile_opens _
  · generalize s.data.toList.drop i = l
    clear hi
    induction l with
    | nil => right; rfl
    | cons y l ih =>
      rw [List.dropWhile_cons]
      split
      · exact ih
      · rename_i h
        left
        have hy : (blankB y == false) = true := by simpa using h
        rw [List.takeWhile_cons, if_pos hy]
        exact fun h => by cases h
theorem plain_of (s : ByteArray) : ∀ (d i : Nat), i ≤ s.size → s.size - i ≤ d → needsGo s d i = false → Plain (s.data.toList.drop i) := by
  intro d
  induction d with
  | zero =>
    intro i hi hd _
    rw [List.drop_eq_nil_of_le (by rw [data_length]; omega)]
    exact .blank (fun x hx => by cases hx)
  | succ d ih =>
    intro i hi hd hn
    by_cases hlt : i < s.size
    · obtain ⟨g, x, rest, hdr, hg, hx, hr, hne⟩ := places_of s i hi
      obtain ⟨p1, p2, p3, p4⟩ := step_places s i g x rest hdr hg hx hr hne
      have hl := at_le s i hi
      have hm := eAt_more s i hlt
      rw [needsGo, if_pos hlt, p4] at hn
      rw [hdr]
      by_cases hc : (cutV ⟨x.toArray⟩).2.2.2 = true
      · rw [if_pos hc] at hn; cases hn
      · rw [if_neg hc] at hn
        have hrest : s.data.toList.drop (eAt s i) = rest := by
          rw [p2, ← List.drop_drop, ← List.drop_drop, hdr, List.drop_left, List.drop_left]
        have hP := ih (eAt s i) hl.2.2 (by omega) hn
        rw [hrest] at hP
        by_cases hx0 : x = []
        · subst hx0
          rcases hne with h | rfl
          · exact absurd rfl h
          · simp only [List.append_nil]
            exact .blank hg
        · exact .step hg hx hx0 (Bool.eq_false_iff.2 hc) hr hP
    · rw [List.drop_eq_nil_of_le (by rw [data_length]; omega)]
      exact .blank (fun x hx => by cases hx)
theorem plain_text (s : ByteArray) (h : needsV s = false) : Plain s.data.toList := by
  unfold needsV at h
  split at h
  · cases h
  · exact plain_of s s.size 0 (Nat.zero_le _) (by omega) h
theorem opens_app {a rest : List UInt8} (ha : Opens a) (hr : Opens rest) : Opens (a ++ rest) := by
  rcases ha with rfl | ⟨c, r, rfl, hc⟩
  · exact hr
  · exact Or.inr ⟨c, r ++ rest, rfl, hc⟩
/-- the decoder over a plain part: all but the blanks at its end is copied -/
theorem dec_part (s : ByteArray) {a : List UInt8} (ha : Plain a) : ∀ (rest : List UInt8) (d i : Nat) (out : List Int) (last : Bool), s.data.toList.drop i = a ++ rest → Opens rest → s.size - i ≤ d → i ≤ s.size →
    ∃ d' i' out' g last', Blank g ∧ decGo s d i out last = decGo s d' i' out' last' ∧ s.data.toList.drop i' = g ++ rest ∧ out' ++ natsOf g = out ++ natsOf a ∧ s.size - i' ≤ d' ∧ i' ≤ s.size ∧ (last = false → last' = false) := by
  induction ha with
  | @blank g hg =>
    intro rest d i out last hd hr hz hi
    exact ⟨d, i, out, g, last, hg, rfl, hd, rfl, hz, hi, id⟩
  | @step g x r hg hx hx0 hc ho _ ih =>
    intro rest d i out last hd hr hz hi
    have hd1 : s.data.toList.drop i = g ++ (x ++ (r ++ rest)) := by rw [hd]; simp
    have hlen : (s.data.toList.drop i).length = g.length + (x.length + (r.length + rest.length)) := by rw [hd1]; simp
    rw [List.length_drop, data_length] at hlen
    have hx1 : 0 < x.length := List.length_pos_iff.2 hx0
    have hlt : i < s.size := by omega
    obtain ⟨e, rfl⟩ : ∃ e, d = e + 1 := ⟨d - 1, by omega⟩
    have h1 := dec_plain s e i out last g x (r ++ rest) hd1 hg hx (opens_app ho hr) (Or.inl hx0) hlt hc
    have hd2 : s.data.toList.drop (i + g.length + x.length) = r ++ rest := by
      rw [← List.drop_drop, ← List.drop_drop, hd1, List.drop_left, List.drop_left]
    obtain ⟨d', i', out', g', last', q1, q2, q3, q4, q5, q6, q7⟩ := ih rest e (i + g.length + x.length) ((out ++ natsOf g) ++ natsOf x) false hd2 hr (by omega) (by omega)
    refine ⟨d', i', out', g', last', q1, h1.trans q2, q3, ?_, q5, q6, fun _ => q7 rfl⟩
    rw [q4, natsOf_app, natsOf_app]
    simp only [List.append_assoc]
/-- the blanks at the end -/
theorem dec_last (s : ByteArray) (d i : Nat) (out : List Int) (last : Bool) (g : List UInt8) (hg : Blank g) (hd : s.data.toList.drop i = g) (hz : s.size - i ≤ d) (hi : i ≤ s.size) :
    decGo s d i out last = (strOfNums (out ++ natsOf g), 0, 0) := by
  have hlen : (s.data.toList.drop i).length = g.length := by rw [hd]
  rw [List.length_drop, data_length] at hlen
  by_cases hlt : i < s.size
  · obtain ⟨e, rfl⟩ : ∃ e, d = e + 1 := ⟨d - 1, by omega⟩
    have h1 := dec_plain s e i out last g [] [] (by rw [hd]; simp) hg (fun x hx => by cases hx) (Or.inl rfl) (Or.inr rfl) hlt (by kernel_rfl)
    rw [h1, decGo_end _ _ _ _ _ (by simp; omega)]
    simp [natsOf]
  · rw [decGo_end _ _ _ _ _ hlt]
    have : g = [] := List.length_eq_zero_iff.1 (by omega)
    subst this
    simp [natsOf]
theorem among_pure (s : ByteArray) (a b t : List UInt8) (x : ByteArray) (p : List UInt8) (ws : List ByteArray) (ps : List (List UInt8)) (ha : Plain a) (hb : Plain b) (hw : Wd x p) (hws : Words ws ps) (ht : (p :: ps).flatten = t)
    (hs : s.data.toList = a ++ (32 :: ((x.data.toList ++ behind ws) ++ (32 :: b)))) : wdecV s = (⟨(a ++ (32 :: (t ++ (32 :: b)))).toArray⟩, 0, 0) := by
  have hx : (⟨x.data.toList.toArray⟩ : ByteArray) = x := ba_ext (by simp)
  have hx0 : 0 < x.data.toList.length := List.length_pos_iff.2 hw.ne
  have hbl : Blank [32] := fun y hy => by simp at hy; subst hy; decide
  obtain ⟨d1, i1, o1, g1, l1, b1, e1, r1, v1, z1, y1, m1⟩ := dec_part s ha (32 :: ((x.data.toList ++ behind ws) ++ (32 :: b))) s.size 0 [] false (by rw [List.drop_zero, hs]) (Or.inr ⟨32, _, rfl, by decide⟩) (by omega) (Nat.zero_le _)
  obtain rfl := m1 rfl
  have hop : Opens (behind ws ++ 32 :: b) := behind_opens ws (32 :: b) (Or.inr ⟨32, _, rfl, by decide⟩)
  have r1' : s.data.toList.drop i1 = (g1 ++ [32]) ++ (x.data.toList ++ (behind ws ++ 32 :: b)) := by rw [r1]; simp
  have hlen : (s.data.toList.drop i1).length = g1.length + 1 + (x.data.toList.length + (behind ws ++ 32 :: b).length) := by rw [r1']; simp; omega
  rw [List.length_drop, data_length] at hlen
  obtain ⟨d2, rfl⟩ : ∃ e, d1 = e + 1 := ⟨d1 - 1, by omega⟩
  have h1 := dec_word s d2 i1 o1 false (g1 ++ [32]) x.data.toList (behind ws ++ 32 :: b) p r1' (blank_app b1 hbl) hop (by omega) (hx ▸ hw)
  rw [if_neg (by decide)] at h1
  have hd2 : s.data.toList.drop (i1 + (g1 ++ [32]).length + x.data.toList.length) = behind ws ++ 32 :: b := by
    rw [← List.drop_drop, ← List.drop_drop, r1', List.drop_left, List.drop_left]
  have hgl : (g1 ++ [32]).length = g1.length + 1 := by simp
  obtain ⟨d3, z3, h3⟩ := dec_words s (32 :: b) (Or.inr ⟨32, _, rfl, by decide⟩) ws ps hws d2 _ (o1 ++ natsOf (g1 ++ [32]) ++ natsOf p) hd2 (by omega) (by omega)
  have hd3 : s.data.toList.drop (i1 + (g1 ++ [32]).length + x.data.toList.length + (behind ws).length) = (32 :: b) ++ [] := by
    rw [← List.drop_drop, hd2, List.drop_left, List.append_nil]
  have hlen2 : (behind ws ++ 32 :: b).length = (behind ws).length + (32 :: b).length := List.length_append
  have hP : Plain (32 :: b) := plain_more hbl hb
  obtain ⟨d4, i4, o4, g4, l4, b4, e4, r4, v4, z4, y4, _⟩ := dec_part s hP [] d3 _ (o1 ++ natsOf (g1 ++ [32]) ++ natsOf p ++ natsOf ps.flatten) true hd3 (Or.inl rfl) z3 (by omega)
  rw [List.append_nil] at r4
  unfold wdecV
  rw [e1, h1, h3, e4, dec_last s d4 i4 o4 l4 g4 b4 r4 z4 y4, v4]
  have ev : o1 ++ natsOf (g1 ++ [32]) ++ natsOf p ++ natsOf ps.flatten ++ natsOf (32 :: b) = natsOf (a ++ (32 :: (t ++ (32 :: b)))) := by
    rw [natsOf_app g1, ← List.append_assoc o1, v1, ← ht]
    simp [natsOf]
  rw [ev, str_natsOf]
end Go.Proofs.YtcnhnpkbklakoaaDoor.Word
