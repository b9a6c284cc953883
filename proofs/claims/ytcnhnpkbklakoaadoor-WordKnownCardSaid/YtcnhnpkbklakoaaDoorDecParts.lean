/- word.Decode: what it stands on. -/
import Derived.Test.YtcnhnpkbklakoaaDoorNeeds
import Derived.Laws.Closers25b
namespace Go.Proofs.YtcnhnpkbklakoaaDoor.Word
open Go.RowKit Go.Proofs.YtcnhnpkbklakoaaDoorW.PrintWords Go.Proofs.YtcnhnpkbklakoaaDoorW.PrintLast Go.Proofs.YtcnhnpkbklakoaaDoorW.PrintMore Go.Proofs.YtcnhnpkbklakoaaDoor.PWordEncodes
open Go.Proofs.YtcnhnpkbklakoaaDoor.Code Go.Proofs.YtcnhnpkbklakoaaDoor.Runes Go.Proofs.YtcnhnpkbklakoaaDoor.Pieces Go.Proofs.YtcnhnpkbklakoaaDoor.Unhex
attribute [local go_sem] max2_int min2_int max_two min_two max_three min_three max_four min_four
set_option linter.unusedVariables false
set_option linter.unusedSimpArgs false
def ByteL (l : List Int) : Prop := ∀ x ∈ l, 0 ≤ x ∧ x < 256
theorem ByteL.app {l m : List Int} (h : ByteL l) (k : ByteL m) : ByteL (l ++ m) := fun x hx => by
  rcases List.mem_append.1 hx with h' | h'
  · exact h x h'
  · exact k x h'
theorem ByteL.one {a : Int} (h : 0 ≤ a ∧ a < 256) : ByteL [a] := fun x hx => by
  rw [List.mem_singleton] at hx
  subst hx
  exact h
theorem ByteL.nil : ByteL [] := fun x hx => by cases hx
def u8s (l : List Int) : List UInt8 := l.map fun n => UInt8.ofNat n.toNat
theorem natsOf_u8s {l : List Int} (h : ByteL l) : natsOf (u8s l) = l := by
  unfold natsOf u8s
  rw [List.map_map]
  conv => rhs; rw [← List.map_id l]
  apply List.map_congr_left
  intro x hx
  have := h x hx
  simp only [Function.comp, UInt8.toNat_ofNat', id]
  omega
theorem u8s_length (l : List Int) : (u8s l).length = l.length := by simp [u8s]
theorem qGo_props : ∀ (n : Nat) (t : List UInt8), t.length ≤ n → ∀ (i : Nat) (out : List Int), ByteL out →
    ByteL (qGo t i out).1 ∧ (qGo t i out).1.length ≤ out.length + t.length ∧ ((qGo t i out).2 = -1 ∨ 0 ≤ (qGo t i out).2 ∧ (qGo t i out).2 ≤ (i : Int) + t.length)
  | n, [], _, i, out, h => ⟨h, Nat.le_refl _, Or.inl rfl⟩
  | 0, c :: r, hn, _, _, _ => by simp at hn
  | n + 1, c :: r, hn, i, out, h => by
    simp only [List.length_cons] at hn
    have hc := c.toNat_lt
    by_cases h1 : c = 95
    · subst h1
      rw [qGo_under]
      obtain ⟨a, b, d⟩ := qGo_props n r (by omega) (i + 1) (out ++ [32]) (h.app (ByteL.one (by omega)))
      refine ⟨a, ?_, ?_⟩
      · rw [List.length_append] at b; simp only [List.length_cons, List.length_nil] at b ⊢; omega
      · simp only [List.length_cons]
        rcases d with d | d
        · exact Or.inl d
        · right; omega
    · by_cases h2 : c = 61
      · subst h2
        by_cases hb : Octet.badAt 4 r < 2
        · rw [qGo_bad r i out hb]
          refine ⟨ByteL.nil, by simp, Or.inr ⟨by simp, by simp only [List.length_cons]; omega⟩⟩
        · obtain ⟨a, b, r', rfl, ha, hbb⟩ := bad_two r hb
          rw [qGo_hex a b r' i out ha hbb]
          have r1 := hexD_range a ha
          have r2 := hexD_range b hbb
          simp only [List.length_cons] at hn
          obtain ⟨p, q, s⟩ := qGo_props n r' (by omega) (i + 3) (out ++ [16 * hexD a + hexD b]) (h.app (ByteL.one (by omega)))
          refine ⟨p, ?_, ?_⟩
          · rw [List.length_append] at q; simp only [List.length_cons, List.length_nil] at q ⊢; omega
          · simp only [List.length_cons]
            rcases s with s | s
            · exact Or.inl s
            · right; omega
      · rw [qGo_other c r i out h1 h2]
        obtain ⟨a, b, d⟩ := qGo_props n r (by omega) (i + 1) (out ++ [(c.toNat : Int)]) (h.app (ByteL.one (by omega)))
        refine ⟨a, ?_, ?_⟩
        · rw [List.length_append] at b; simp only [List.length_cons, List.length_nil] at b ⊢; omega
        · simp only [List.length_cons]
          rcases d with d | d
          · exact Or.inl d
          · right; omega
theorem grp_byte (q0 q1 q2 q3 : Int) : ByteL (grp q0 q1 q2 q3) := by
  have h0 : 0 ≤ b0 q0 q1 ∧ b0 q0 q1 < 256 := ⟨bits_lo_u8 _ _ _, by have := bits_hi_u8 .or (q0 * 4 % 256) (q1 / 16); unfold b0; omega⟩
  have h1 : 0 ≤ b1 q1 q2 ∧ b1 q1 q2 < 256 := ⟨bits_lo_u8 _ _ _, by have := bits_hi_u8 .or (q1 * 16 % 256) (q2 / 4); unfold b1; omega⟩
  have h2 : 0 ≤ b2 q2 q3 ∧ b2 q2 q3 < 256 := ⟨bits_lo_u8 _ _ _, by have := bits_hi_u8 .or (q2 * 64 % 256) q3; unfold b2; omega⟩
  unfold grp
  split
  · exact ByteL.one h0
  · split
    · exact (ByteL.one h0).app (ByteL.one h1)
    · exact (ByteL.one h0).app ((ByteL.one h1).app (ByteL.one h2))
theorem takeV_byte (s : St) (d : List Int) (c : Nat) (h : ByteL d) : ByteL (takeV s d c).2.1 := by
  unfold takeV
  split
  · exact h
  · split
    · exact h
    · exact h.app (grp_byte _ _ _ _)
theorem unGo_props : ∀ (t : List UInt8) (i : Nat) (s : St) (d : List Int), Okay s → ByteL d →
    ByteL (unGo t i s d).1 ∧ (unGo t i s d).1.length ≤ d.length + 3 * t.length ∧ (unGo t i s d).2.2 ≤ i + t.length
  | [], i, s, d, h, hd => by
    rw [unGo_nil]
    split
    · exact ⟨ByteL.nil, by simp, by simp⟩
    · exact ⟨hd, by simp, by simp⟩
  | c :: r, i, s, d, h, hd => by
    rw [unGo_cons]
    obtain ⟨k1, k2⟩ := okay_take h d c
    split
    · exact ⟨ByteL.nil, by simp, by simp⟩
    · obtain ⟨a, b, e⟩ := unGo_props r (i + 1) _ _ k1 (takeV_byte s d c.toNat hd)
      refine ⟨a, ?_, ?_⟩
      · simp only [List.length_cons]; omega
      · simp only [List.length_cons]; omega
theorem okay0 : Okay st0 := ⟨by decide, ⟨by decide, by decide⟩, ⟨by decide, by decide⟩⟩
theorem unB_props (t : List UInt8) : ByteL (unB t).1 ∧ (unB t).1.length ≤ 3 * t.length ∧ ((unB t).2 = -1 ∨ 0 ≤ (unB t).2 ∧ (unB t).2 ≤ t.length) := by
  obtain ⟨a, b, e⟩ := unGo_props t 0 st0 [] okay0 ByteL.nil
  unfold unB unV
  split
  · exact ⟨ByteL.nil, by simp, Or.inr ⟨by simp, by simp only; omega⟩⟩
  · exact ⟨a, by simpa using b, Or.inl rfl⟩
/-- the bytes of a text in a coding -/
def bytesV (co tx : ByteArray) : List Int × Int := if co.data.toList.headD 0 = 66 ∨ co.data.toList.headD 0 = 98 then unB tx.data.toList else qGo tx.data.toList 0 []
theorem bytesV_props (co tx : ByteArray) : ByteL (bytesV co tx).1 ∧ (bytesV co tx).1.length ≤ 3 * tx.size ∧ ((bytesV co tx).2 = -1 ∨ 0 ≤ (bytesV co tx).2 ∧ (bytesV co tx).2 ≤ tx.size) := by
  have hl : tx.data.toList.length = tx.size := data_length tx
  unfold bytesV
  split
  · have := unB_props tx.data.toList
    rw [hl] at this
    exact this
  · obtain ⟨a, b, c⟩ := qGo_props _ tx.data.toList (Nat.le_refl _) 0 [] ByteL.nil
    rw [hl] at b c
    refine ⟨a, by simp at b; omega, ?_⟩
    rcases c with c | c
    · exact Or.inl c
    · right; omega
theorem in_codings (c : UInt8) (h : ¬ Lib.indexByte [66, 98, 81, 113] c < 0) : (c = 66 ∨ c = 98) ∨ (c = 81 ∨ c = 113) := by
  by_cases h1 : c = 66
  · exact Or.inl (Or.inl h1)
  · by_cases h2 : c = 98
    · exact Or.inl (Or.inr h2)
    · by_cases h3 : c = 81
      · exact Or.inr (Or.inl h3)
      · by_cases h4 : c = 113
        · exact Or.inr (Or.inr h4)
        · exfalso
          apply h
          have e1 : ((66 : UInt8) == c) = false := beq_eq_false_iff_ne.2 (fun e => h1 e.symm)
          have e2 : ((98 : UInt8) == c) = false := beq_eq_false_iff_ne.2 (fun e => h2 e.symm)
          have e3 : ((81 : UInt8) == c) = false := beq_eq_false_iff_ne.2 (fun e => h3 e.symm)
          have e4 : ((113 : UInt8) == c) = false := beq_eq_false_iff_ne.2 (fun e => h4 e.symm)
          simp [Lib.indexByte, e1, e2, e3, e4]
theorem splitB_sizes (sep : ByteArray) : ∀ (k : Nat) (s : ByteArray), ∀ x ∈ Lib.splitB sep 0 k s, x.size ≤ s.size
  | 0, s, x, hx => by
    rw [Lib.splitB_zero, List.mem_singleton] at hx
    subst hx
    exact Nat.le_refl _
  | k + 1, s, x, hx => by
    unfold Lib.splitB at hx
    split at hx
    · rw [List.mem_singleton] at hx
      subst hx
      exact Nat.le_refl _
    · rcases List.mem_cons.1 hx with rfl | hx
      · rw [ByteArray.size_extract]; omega
      · have := splitB_sizes sep k _ x hx
        rw [ByteArray.size_extract] at this
        omega
/-- what a word that is cut says of its parts -/
theorem cutV_props (s c0 c1 c2 : ByteArray) (h : (c0, c1, c2, true) = cutV s) : c0.size ≤ s.size ∧ c2.size ≤ s.size ∧ ∃ c, c1 = ⟨#[c]⟩ ∧ ((c = 66 ∨ c = 98) ∨ (c = 81 ∨ c = 113)) := by
  unfold cutV at h
  split at h
  · cases h
  · split at h
    · cases h
    · split at h
      · cases h
      · have hbs : (bodyV s).size ≤ s.size := by unfold bodyV; rw [ByteArray.size_extract]; omega
        have hm := splitB_sizes ⟨#[63]⟩ (Lib.countB (bodyV s) ⟨#[63]⟩) (bodyV s)
        change ∀ x ∈ partsV (bodyV s), _ at hm
        generalize partsV (bodyV s) = L at h hm
        match L, h, hm with
        | [], h, _ => cases h
        | [_], h, _ => cases h
        | [_, _], h, _ => cases h
        | _ :: _ :: _ :: _ :: _, h, _ => cases h
        | [p0, p1, p2], h, hm =>
          rw [cutM_three] at h
          split at h
          · cases h
          · split at h
            · cases h
            · rename_i hp1
              split at h
              · cases h
              · rename_i hin
                split at h
                · cases h
                  have m0 := hm c0 (by simp)
                  have m2 := hm c2 (by simp)
                  exact ⟨by omega, by omega, _, one_byte c1 (Decidable.not_not.1 hp1), in_codings _ hin⟩
                · cases h
theorem bytes_calls (ch t : ByteArray) (c : UInt8) (hc : (c = 66 ∨ c = 98) ∨ (c = 81 ∨ c = 113)) (w : World) (ht : t.size ≤ 3000000000) (hT : Octet.Laid w) :
    Calls Tryd.prog 26 #[.agg #[.string ch, .string ⟨#[c]⟩, .string t]] w fun e w' => ∃ V, e = .returned (.tuple #[V, .int .i64 (bytesV ⟨#[c]⟩ t).2]) ∧ w'.ownsRow w.heap.size 5 1 V (bytesV ⟨#[c]⟩ t).1.length (nums .u8 (bytesV ⟨#[c]⟩ t).1) ∧ Below w.heap.size w w' := by
  rcases hc with hc | hc
  · have : bytesV ⟨#[c]⟩ t = unB t.data.toList := by unfold bytesV; rw [if_pos (by exact hc)]
    rw [this]
    exact bytesB_calls ch t c hc w ht
  · have : bytesV ⟨#[c]⟩ t = qGo t.data.toList 0 [] := by
      unfold bytesV
      rw [if_neg]
      show ¬ (c = 66 ∨ c = 98)
      rcases hc with rfl | rfl <;> decide
    rw [this]
    exact bytesQ_calls ch t c hc w ht hT
set_option maxHeartbeats 2000000 in
set_option maxRecDepth 100000 in
/-- the closure that tells an error -/
theorem badc_calls (er a W : Int) (b7 : Nat) (w : World) (h7 : w.heap[b7]? = some (.cells #[.int .i64 W] 3 (0, 0))) (h0 : 0 ≤ W ∧ W ≤ 3000000000) (h1 : 0 ≤ a ∧ a ≤ 9000000000) :
    Calls Tryd.prog 24 #[.int .i64 er, .int .i64 a, .pointer (some ⟨b7, 0, none⟩)] w fun e w' => e = .returned (.tuple #[.string ⟨#[]⟩, .agg #[.int .i64 er, .int .i64 (W + a)]]) ∧ Below w.heap.size w w' := by
  have hu25 := Tryd.underlying25
  have hlt : b7 < w.heap.size := blk_lt h7
  have x7 := blk_cell h7 0
  go_enter Tryd.func24, Tryd.ntmps24
  go_wp2
  go_region
  go_wp2
  exact bodyPost_ret (v := .tuple #[.string ⟨#[]⟩, .agg #[.int .i64 er, .int .i64 (W + a)]]) (by simp [results, Tryd.results24, go_sem]) rfl ⟨rfl, ((Below.refl _ _).alloc (Nat.le_refl _) _).drew⟩
/-- word.Decode: the text, the error, its place -/
def decGo (s : ByteArray) : Nat → Nat → List Int → Bool → ByteArray × Int × Int
  | 0, _, out, _ => (strOfNums out, 0, 0)
  | d + 1, i, out, last =>
    if i < s.size then
      if (cutV (s.extract (wAt s i) (eAt s i))).2.2.2 = false then decGo s d (eAt s i) ((out ++ bytesOf (s.extract i (wAt s i))) ++ bytesOf (s.extract (wAt s i) (eAt s i))) false else
      if (meansV (cutV (s.extract (wAt s i) (eAt s i))).1 []).2.1 = false then (E0, 171, (wAt s i : Int) + 2) else
      if 0 ≤ (bytesV (cutV (s.extract (wAt s i) (eAt s i))).2.1 (cutV (s.extract (wAt s i) (eAt s i))).2.2.1).2 then
        (E0, 170, (wAt s i : Int) + (((cutV (s.extract (wAt s i) (eAt s i))).1.size : Int) + 5 + (bytesV (cutV (s.extract (wAt s i) (eAt s i))).2.1 (cutV (s.extract (wAt s i) (eAt s i))).2.2.1).2)) else
      if (meansV (cutV (s.extract (wAt s i) (eAt s i))).1 (u8s (bytesV (cutV (s.extract (wAt s i) (eAt s i))).2.1 (cutV (s.extract (wAt s i) (eAt s i))).2.2.1).1)).2.2 = false then
        (E0, 170, (wAt s i : Int) + (((cutV (s.extract (wAt s i) (eAt s i))).1.size : Int) + 5)) else
      decGo s d (eAt s i) ((if last = true then out else out ++ bytesOf (s.extract i (wAt s i))) ++ bytesOf (meansV (cutV (s.extract (wAt s i) (eAt s i))).1 (u8s (bytesV (cutV (s.extract (wAt s i) (eAt s i))).2.1 (cutV (s.extract (wAt s i) (eAt s i))).2.2.1).1)).1) true
    else (strOfNums out, 0, 0)
def wdecV (s : ByteArray) : ByteArray × Int × Int := decGo s s.size 0 [] false
theorem decGo_end (s : ByteArray) (d i : Nat) (out : List Int) (last : Bool) (h : ¬ i < s.size) : decGo s d i out last = (strOfNums out, 0, 0) := by
  cases d with
  | zero => rfl
  | succ d => rw [decGo, if_neg h]
theorem foldl_runes (l : List Int) : ∀ a : ByteArray, (l.foldl (fun r n => r ++ Utf8.encode n) a).size ≤ a.size + 4 * l.length := foldl_size_le l
theorem meansV_size (ch : ByteArray) (b : List UInt8) : (meansV ch b).1.size ≤ 4 * b.length := by
  have hl : (natsOf b).length = b.length := by simp [natsOf]
  unfold meansV
  split
  · rw [strOfNums_size, hl]; omega
  · split
    · rw [strOfNums_size, hl]; omega
    · split
      · have := runesBytes_size_le (natsOf b)
        rw [hl] at this
        exact this
      · exact Nat.zero_le _
end Go.Proofs.YtcnhnpkbklakoaaDoor.Word
