/- The reference's rows of words are word's: greedy, by lists. -/
import Derived.Test.YtcnhnpkbklakoaaDoorEncPure
namespace Go.Proofs.YtcnhnpkbklakoaaDoor.Word
open Go.RowKit Go.Proofs.YtcnhnpkbklakoaaDoorW.PrintWords Go.Proofs.YtcnhnpkbklakoaaDoor.PWordEncodes Go.Proofs.YtcnhnpkbklakoaaDoor.Code Go.Proofs.YtcnhnpkbklakoaaDoor.Runes Go.Proofs.YtcnhnpkbklakoaaDoor.Pieces
open Go.Proofs.YtcnhnpkbklakoaaDoor.PWordDecodes (posthornref05_Write.f)
/-- words, a space between two -/
def jn (ws : List ByteArray) : ByteArray := ⟨(Lib.join (ws.map (·.data.toList)) [32]).toArray⟩
theorem jn_data (x : ByteArray) (ws : List ByteArray) : (jn (x :: ws)).data.toList = x.data.toList ++ behind ws := join_behind x ws
theorem jn_one (a : ByteArray) : jn [a] = a := ba_ext (by
  rw [jn_data]
  simp [behind])
theorem jn_cons (a b : ByteArray) (ws : List ByteArray) : jn (a :: b :: ws) = a ++ ((⟨#[32]⟩ : ByteArray) ++ jn (b :: ws)) := ba_ext (by
  rw [jn_data, data_app, data_app, jn_data, behind_cons]
  rfl)
/-- the greedy row of words: W is a word of bytes -/
def gSeg (W : List Int → ByteArray) : List Int → List Int → List ByteArray
  | [], p => [W p]
  | r :: l, p => if (W (p ++ enc r)).size ≤ 75 then gSeg W l (p ++ enc r) else W p :: gSeg W l (enc r)
theorem gSeg_cons (W : List Int → ByteArray) (r : Int) (l p : List Int) : gSeg W (r :: l) p = if (W (p ++ enc r)).size ≤ 75 then gSeg W l (p ++ enc r) else W p :: gSeg W l (enc r) := rfl
theorem gSeg_ne (W : List Int → ByteArray) : ∀ (l p : List Int), ∃ p' ws, gSeg W l p = W p' :: ws
  | [], p => ⟨p, [], rfl⟩
  | r :: l, p => by
    rw [gSeg_cons]
    split
    · exact gSeg_ne W l _
    · exact ⟨p, _, rfl⟩
theorem bSeg_g : ∀ (l p : List Int), bSeg l p = gSeg wordB l p
  | [], p => rfl
  | r :: l, p => by
    have hs := wB_size (p ++ enc r)
    rw [List.length_append] at hs
    rw [bSeg_cons, gSeg_cons, bSeg_g l, bSeg_g l]
    by_cases h : 45 < p.length + (enc r).length
    · rw [if_pos h, if_neg (by omega)]
    · rw [if_neg h, if_pos (by omega)]
theorem qB_high : ∀ n : Fin 256, 128 ≤ n.val → (qB n.val).data.toList = u8s (eq3 (n.val : Int)) := by decide +kernel
theorem qB_low : ∀ n : Fin 128, (qB n.val).data.toList = (qI (n.val : Int)).data.toList := by decide +kernel
theorem enc_high (c : Nat) (h0 : 128 ≤ c) (h : c < 55296 ∨ (57344 ≤ c ∧ c ≤ 1114111)) : ∀ x ∈ enc (c : Int), 128 ≤ x ∧ x < 256 := by
  intro x hx
  have hb := enc_byte _ x hx
  refine ⟨?_, hb.2⟩
  rw [enc_natsOf] at hx
  by_cases h2 : c < 2048
  · rw [encB_two c h0 h2] at hx
    simp only [natsOf, List.map_cons, List.map_nil, List.mem_cons, List.not_mem_nil, or_false] at hx
    rcases hx with rfl | rfl <;> rw [byte_ofNat _ (by omega)] <;> omega
  · by_cases h3 : c < 65536
    · rw [encB_three c (by omega) h3 (by omega)] at hx
      simp only [natsOf, List.map_cons, List.map_nil, List.mem_cons, List.not_mem_nil, or_false] at hx
      rcases hx with rfl | rfl | rfl <;> rw [byte_ofNat _ (by omega)] <;> omega
    · rw [encB_four c (by omega) (by omega)] at hx
      simp only [natsOf, List.map_cons, List.map_nil, List.mem_cons, List.not_mem_nil, or_false] at hx
      rcases hx with rfl | rfl | rfl | rfl <;> rw [byte_ofNat _ (by omega)] <;> omega
theorem qL_high : ∀ (p : List Int), (∀ x ∈ p, 128 ≤ x ∧ x < 256) → qL p = u8s (eqV p)
  | [], _ => rfl
  | n :: p, h => by
    have hn := h n (by simp)
    have e : qL (n :: p) = (qB n.toNat).data.toList ++ qL p := rfl
    rw [e, qL_high p (fun x hx => h x (by simp [hx])), eqV_cons, u8s_app, qB_high ⟨n.toNat, by omega⟩ (by show 128 ≤ n.toNat; omega)]
    rw [show (((⟨n.toNat, by omega⟩ : Fin 256).val : Nat) : Int) = n from by show ((n.toNat : Nat) : Int) = n; omega]
theorem q_rune (r : Int) (hg : Good r) : qL (enc r) = (qI r).data.toList := by
  obtain ⟨c, rfl, hc⟩ := good_cast hg
  by_cases h1 : c < 128
  · have e : enc (c : Int) = [(c : Int)] := by
      rw [enc_natsOf, encB_one c h1]
      show [((UInt8.ofNat c).toNat : Int)] = [(c : Int)]
      rw [byte_ofNat c (by omega)]
    rw [e]
    have e2 : qL [(c : Int)] = (qB c).data.toList := by
      unfold qL
      rw [List.flatMap_cons, List.flatMap_nil, List.append_nil, Int.toNat_natCast]
    rw [e2]
    have h := qB_low ⟨c, h1⟩
    simp only at h
    exact h
  · rw [qL_high _ (enc_high c (by omega) hc)]
    unfold qI qV
    rw [Int.toNat_natCast, if_neg (by omega), if_neg (by omega), strOfNums_data]
    exact Eq.refl (u8s (eqV (enc (c : Int))))
theorem qSeg_g : ∀ (l p : List Int), (∀ r ∈ l, Good r) → qSeg l ⟨(qL p).toArray⟩ = gSeg wordQ' l p
  | [], p, _ => rfl
  | r :: l, p, hg => by
    have hr := q_rune r (hg r (by simp))
    have hs := wQ_size (p ++ enc r)
    have e : (⟨(qL p).toArray⟩ : ByteArray) ++ qI r = ⟨(qL (p ++ enc r)).toArray⟩ := ba_ext (by
      rw [data_app]
      show qL p ++ (qI r).data.toList = qL (p ++ enc r)
      rw [qL_app, hr])
    have e2 : qI r = ⟨(qL (enc r)).toArray⟩ := ba_ext (by rw [hr])
    have e3 : (qI r).size = (qL (enc r)).length := by
      rw [hr]
      exact (data_length _).symm
    have i1 := qSeg_g l (enc r) (fun x hx => hg x (by simp [hx]))
    have i2 := qSeg_g l (p ++ enc r) (fun x hx => hg x (by simp [hx]))
    rw [qL_app, List.length_append] at hs
    rw [qSeg_cons, gSeg_cons, e, e2, i1, i2]
    have e4 : (⟨(qL p).toArray⟩ : ByteArray).size = (qL p).length := rfl
    have e5 : (⟨(qL (enc r)).toArray⟩ : ByteArray).size = (qL (enc r)).length := rfl
    rw [e4, e5]
    by_cases h : 63 < (qL p).length + (qL (enc r)).length
    · rw [if_pos h, if_neg (by omega)]
      rfl
    · rw [if_neg h, if_pos (by omega)]
theorem write_rune (r : Int) (hg : Good r) : posthornref05_Write.f r = some (enc r) := by
  obtain ⟨c, rfl, hc⟩ := good_cast hg
  rw [write_enc c hc, enc_natsOf]
theorem byteL_app {p q : List Int} (hp : ByteL p) (hq : ByteL q) : ByteL (p ++ q) := by
  intro x hx
  rcases List.mem_append.1 hx with h | h
  · exact hp x h
  · exact hq x h
theorem byteL_enc (r : Int) : ByteL (enc r) := fun x hx => enc_byte r x hx
structure WordOk (inQ : Bool) (W : List Int → ByteArray) : Prop where
  run : ∀ p, ByteL p → p.length ≤ 100 → ∀ k, posthornref17_word.f (600 + k) p inQ = some (W p)
  one : ∀ r, Good r → (W (enc r)).size ≤ 75
  len : ∀ p, ByteL p → (W p).size ≤ 75 → p.length ≤ 75
  big : ∀ p, 12 ≤ (W p).size
  nil : (W []).size ≤ 75
theorem ok_B : WordOk false wordB where
  run := word_B
  one := fun r _ => by
    have := enc_len r
    rw [wB_size]
    omega
  len := fun p _ h => by
    rw [wB_size] at h
    omega
  big := fun p => by
    rw [wB_size]
    omega
  nil := by
    rw [wB_size]
    decide
theorem ok_Q : WordOk true wordQ' where
  run := word_Q
  one := fun r _ => by
    have h1 := enc_len r
    have h2 := (qL_len (enc r) (byteL_enc r)).2
    rw [wQ_size]
    omega
  len := fun p hb h => by
    have h2 := (qL_len p hb).1
    rw [wQ_size] at h
    omega
  big := fun p => by
    rw [wQ_size]
    omega
  nil := by
    rw [wQ_size]
    decide
theorem nil_app (a : ByteArray) : a ++ (⟨#[]⟩ : ByteArray) = a := ba_ext (by
  rw [data_app]
  simp)
/-- the reference's rows -/
theorem wr_loop {inQ : Bool} {W : List Int → ByteArray} (ok : WordOk inQ W) : ∀ (l : List Int), (∀ r ∈ l, Good r) → ∀ (x0 : List Int) (n : Nat) (p : List Int), x0.drop n = l → n ≤ x0.length → x0.length < 1000000000 → ByteL p → (W p).size ≤ 75 → ∀ k,
    posthornref17_written.l0 (4 * l.length + 700 + k) x0 inQ (n : Int) p = some (jn (gSeg W l p)) ∧ 12 ≤ (jn (gSeg W l p)).size ∧ (jn (gSeg W l p)).size ≤ 76 * (l.length + 1)
  | [], hg, x0, n, p, hd, hn, hl, hb, hp, k => by
    have hlen := List.drop_eq_nil_iff.1 hd
    have hpl := ok.len p hb hp
    have hbig := ok.big p
    have e : gSeg W [] p = [W p] := rfl
    rw [e, jn_one]
    refine ⟨?_, hbig, by rw [List.length_nil]; omega⟩
    rw [show 4 * ([] : List Int).length + 700 + k = (698 + k) + 1 + 1 from by simp; omega, posthornref17_written.l0, if_neg (by omega), posthornref17_written.j1, if_pos (Int.natCast_nonneg _), if_pos (by omega), Int.toNat_natCast, hd]
    rw [show 698 + k = (697 + k) + 1 from by omega, posthornref17_written.f, if_pos (show (([] : List Int).length : Int) = 0 from rfl)]
    show (if (⟨#[]⟩ : ByteArray).toList = [] then (posthornref17_word.f (697 + k + 1) p inQ).bind fun t222 => (if t222.size + 0 ≤ 9223372036854775807 then (some (t222 ++ (⟨#[]⟩ : ByteArray))) else (none)) else _) = _
    rw [if_pos (by rw [Lib.toList_data]), show 697 + k + 1 = 600 + (98 + k) from by omega, ok.run p hb (by omega)]
    show (if (W p).size + 0 ≤ 9223372036854775807 then (some (W p ++ (⟨#[]⟩ : ByteArray))) else (none)) = _
    rw [if_pos (by omega), nil_app]
  | r :: l, hg, x0, n, p, hd, hn, hl, hb, hp, k => by
    have hlen := drop_len _ _ _ hd (by simp)
    rw [List.length_cons] at hlen
    have hpl := ok.len p hb hp
    have hbig := ok.big p
    have hgr := hg r (by simp)
    have hel := enc_len r
    have hbe := byteL_enc r
    have er := rd_at x0 [] l r n hd
    rw [show ((n + ([] : List Int).length : Nat) : Int) = (n : Int) from rfl] at er
    have wr := write_rune r hgr
    have w1 : wrap64 ((n : Int) + 1) = ((n + 1 : Nat) : Int) := by
      rw [wrap_at _ (by omega) (by omega)]
      omega
    have hw := ok.run (p ++ enc r) (byteL_app hb hbe) (by rw [List.length_append]; clear w1; omega) (103 + 4 * l.length + k)
    have hhead : posthornref17_written.l0 (4 * (r :: l).length + 700 + k) x0 inQ (n : Int) p = if ((W (p ++ enc r)).size : Int) ≤ 75 then posthornref17_written.l0 (4 * l.length + 700 + (3 + k)) x0 inQ ((n + 1 : Nat) : Int) (p ++ enc r) else posthornref17_written.j1 (703 + 4 * l.length + k) x0 inQ (n : Int) p := by
      rw [show 4 * (r :: l).length + 700 + k = (703 + 4 * l.length + k) + 1 from by simp only [List.length_cons]; omega, posthornref17_written.l0, if_pos (by clear w1; omega), er, wr, w1]
      show (if ([] : List Int).length + p.length < 140737488355328 then (if 0 ≤ (n : Int) then (if p.length + (enc r).length < 140737488355328 then ((posthornref17_word.f (703 + 4 * l.length + k) (p ++ enc r) inQ).bind fun t212 => (if (t212.size : Int) ≤ 75 then (if p.length + (enc r).length < 140737488355328 then posthornref17_written.l0 (703 + 4 * l.length + k) x0 inQ ((n + 1 : Nat) : Int) (p ++ enc r) else none) else (posthornref17_written.j1 (703 + 4 * l.length + k) x0 inQ (n : Int) p))) else none) else none) else none) = _
      rw [if_pos (by rw [List.length_nil]; clear w1; omega), if_pos (by clear w1; omega), if_pos (by clear w1; omega), show 703 + 4 * l.length + k = 600 + (103 + 4 * l.length + k) from by omega, hw]
      show (if ((W (p ++ enc r)).size : Int) ≤ 75 then (if p.length + (enc r).length < 140737488355328 then _ else none) else _) = _
      rw [if_pos (show p.length + (enc r).length < 140737488355328 by clear w1; omega), show 600 + (103 + 4 * l.length + k) = 4 * l.length + 700 + (3 + k) from by omega]
    clear w1 hw
    rw [hhead, gSeg_cons]
    by_cases hf : (W (p ++ enc r)).size ≤ 75
    · rw [if_pos (by omega), if_pos hf]
      obtain ⟨i1, i2, i3⟩ := wr_loop ok l (fun x hx => hg x (by simp [hx])) x0 (n + 1) (p ++ enc r) (by rw [← List.drop_drop, hd]; rfl) (by omega) hl (byteL_app hb hbe) hf (3 + k)
      exact ⟨i1, i2, by rw [List.length_cons]; omega⟩
    · rw [if_neg (by omega), if_neg hf]
      have h1 := ok.one r hgr
      obtain ⟨i1, i2, i3⟩ := wr_loop ok l (fun x hx => hg x (by simp [hx])) (r :: l) 1 (enc r) rfl (by simp) (by rw [List.length_cons]; omega) hbe h1 k
      obtain ⟨p', ws, e⟩ := gSeg_ne W l (enc r)
      have ej : jn (W p :: gSeg W l (enc r)) = W p ++ ((⟨#[32]⟩ : ByteArray) ++ jn (gSeg W l (enc r))) := by rw [e, jn_cons]
      have es : (W p ++ ((⟨#[32]⟩ : ByteArray) ++ jn (gSeg W l (enc r)))).size = (W p).size + (1 + (jn (gSeg W l (enc r))).size) := by
        rw [ByteArray.size_append, ByteArray.size_append]
        rfl
      rw [ej, es]
      refine ⟨?_, by omega, by rw [List.length_cons]; omega⟩
      -- the rest begins anew
      have hrest : posthornref17_written.f (702 + 4 * l.length + k) (r :: l) inQ = some (jn (gSeg W l (enc r))) := by
        have w2 : wrap64 ((0 : Int) + 1) = ((1 : Nat) : Int) := by
          rw [wrap_at _ (by omega) (by omega)]
          rfl
        have hw2 := ok.run (enc r) hbe (by clear w2; omega) (100 + 4 * l.length + k)
        rw [show 702 + 4 * l.length + k = (700 + 4 * l.length + k) + 1 + 1 from by omega, posthornref17_written.f, if_neg (by rw [List.length_cons]; clear w2; omega), posthornref17_written.l0, if_pos (by rw [List.length_cons]; clear w2; omega), show rd (r :: l) 0 = r from rfl, wr, w2]
        show (if ([] : List Int).length + ([] : List Int).length < 140737488355328 then (if 0 ≤ (0 : Int) then (if ([] : List Int).length + (enc r).length < 140737488355328 then ((posthornref17_word.f (700 + 4 * l.length + k) (enc r) inQ).bind fun t212 => (if (t212.size : Int) ≤ 75 then (if ([] : List Int).length + (enc r).length < 140737488355328 then posthornref17_written.l0 (700 + 4 * l.length + k) (r :: l) inQ ((1 : Nat) : Int) (enc r) else none) else _)) else none) else none) else none) = _
        rw [if_pos (by decide), if_pos (by decide), if_pos (by rw [List.length_nil]; clear w2; omega), show 700 + 4 * l.length + k = 600 + (100 + 4 * l.length + k) from by omega, hw2]
        show (if ((W (enc r)).size : Int) ≤ 75 then (if ([] : List Int).length + (enc r).length < 140737488355328 then _ else none) else _) = _
        rw [if_pos (by clear w2; omega), if_pos (by rw [List.length_nil]; clear w2; omega), show 600 + (100 + 4 * l.length + k) = 4 * l.length + 700 + k from by omega]
        exact i1
      have hne : ¬ (jn (gSeg W l (enc r))).toList = [] := by
        intro h
        rw [Lib.toList_data] at h
        have h2 : (jn (gSeg W l (enc r))).data.toList.length = (jn (gSeg W l (enc r))).size := data_length _
        rw [h, List.length_nil] at h2
        omega
      rw [show 703 + 4 * l.length + k = (702 + 4 * l.length + k) + 1 from by omega, posthornref17_written.j1, if_pos (Int.natCast_nonneg _), if_pos (by omega), Int.toNat_natCast, hd, hrest]
      show (if (jn (gSeg W l (enc r))).toList = [] then _ else (if 1 + (jn (gSeg W l (enc r))).size ≤ 9223372036854775807 then ((posthornref17_word.f (702 + 4 * l.length + k) p inQ).bind fun t223 => (if t223.size + ((⟨#[32]⟩ : ByteArray) ++ jn (gSeg W l (enc r))).size ≤ 9223372036854775807 then (some (t223 ++ ((⟨#[32]⟩ : ByteArray) ++ jn (gSeg W l (enc r))))) else (none))) else (none))) = _
      rw [if_neg hne, if_pos (by omega), show 702 + 4 * l.length + k = 600 + (102 + 4 * l.length + k) from by omega, ok.run p hb (by omega)]
      show (if (W p).size + ((⟨#[32]⟩ : ByteArray) ++ jn (gSeg W l (enc r))).size ≤ 9223372036854775807 then (some (W p ++ ((⟨#[32]⟩ : ByteArray) ++ jn (gSeg W l (enc r))))) else (none)) = _
      rw [if_pos (by rw [ByteArray.size_append]; show (W p).size + (1 + (jn (gSeg W l (enc r))).size) ≤ _; omega)]
theorem written_f {inQ : Bool} {W : List Int → ByteArray} (ok : WordOk inQ W) (l : List Int) (hg : ∀ r ∈ l, Good r) (hl : l.length < 1000000000) : ∃ k, posthornref17_written.f k l inQ = some (if l = [] then ⟨#[]⟩ else jn (gSeg W l [])) := by
  by_cases h0 : l = []
  · subst h0
    exact ⟨1, by rw [if_pos rfl, posthornref17_written.f, if_pos (show (([] : List Int).length : Int) = 0 from rfl)]⟩
  · rw [if_neg h0]
    have : 0 < l.length := List.length_pos_iff.2 h0
    obtain ⟨h, _⟩ := wr_loop ok l hg l 0 [] rfl (by omega) hl (fun x hx => by cases hx) ok.nil 0
    refine ⟨(4 * l.length + 700 + 0) + 1, ?_⟩
    rw [posthornref17_written.f, if_neg (by omega)]
    exact h
/-- the reference's Encode is word's -/
def refEnc (s : ByteArray) (short : Bool) : ByteArray × Int :=
  if (decV s).2.1 ≠ 0 then (⟨#[]⟩, (decV s).2.1) else
  if short = true ∧ (if (decV s).1 = [] then (⟨#[]⟩ : ByteArray) else inQV (decV s).1).size < (if (decV s).1 = [] then (⟨#[]⟩ : ByteArray) else inBV (decV s).1).size then (if (decV s).1 = [] then (⟨#[]⟩ : ByteArray) else inQV (decV s).1, 0) else (if (decV s).1 = [] then (⟨#[]⟩ : ByteArray) else inBV (decV s).1, 0)
theorem ref_enc (s : ByteArray) (short : Bool) : refEnc s short = encV s short := by
  unfold refEnc encV
  by_cases h0 : (decV s).2.1 ≠ 0
  · rw [if_pos h0, if_pos h0]
  · rw [if_neg h0, if_neg h0]
    by_cases h1 : (decV s).1 = []
    · rw [if_pos h1, if_pos h1, if_pos h1]
      split <;> rfl
    · rw [if_neg h1, if_neg h1, if_neg h1]
theorem decV_gd (s : ByteArray) : ∀ r ∈ (decV s).1, Good r := by
  unfold decV
  by_cases h : runesBad s.data.toList < s.size
  · rw [if_pos h]
    intro r hr
    cases hr
  · rw [if_neg h]
    have h1 := runesBad_le s.data.toList
    rw [data_length] at h1
    exact (good_text s (by omega)).1
theorem inB_g (l : List Int) : inBV l = jn (gSeg wordB l []) := by
  unfold inBV
  rw [bSeg_g]
  rfl
theorem inQ_g (l : List Int) (hg : ∀ r ∈ l, Good r) : inQV l = jn (gSeg wordQ' l []) := by
  unfold inQV
  have h := qSeg_g l [] hg
  rw [show (⟨(qL []).toArray⟩ : ByteArray) = ⟨#[]⟩ from rfl] at h
  rw [h]
  rfl
end Go.Proofs.YtcnhnpkbklakoaaDoor.Word
