/- words in plain Lean: what is written is read as it was. -/
import Derived.Test.YtcnhnpkbklakoaaDoorG4
import Derived.Lib.MapLaws
/- base64 there and back: plain. -/
namespace Go.Proofs.YtcnhnpkbklakoaaDoor.Word
open Go.RowKit Go.Proofs.YtcnhnpkbklakoaaDoorW.PrintWords
open Go.Proofs.YtcnhnpkbklakoaaDoor.Code Go.Proofs.YtcnhnpkbklakoaaDoor.Runes
set_option linter.unusedVariables false
theorem let_val : ∀ v : Fin 64, valV (UInt8.ofNat (bt L64 (v.val : Int)).toNat).toNat = v.val := by decide +kernel
theorem let_at (v : Int) (h0 : 0 ≤ v) (h1 : v < 64) : valV (UInt8.ofNat (bt L64 v).toNat).toNat = v := by
  obtain ⟨n, rfl⟩ := Int.eq_ofNat_of_zero_le h0
  exact let_val ⟨n, by omega⟩
theorem eq_val : valV (UInt8.ofNat (61 : Int).toNat).toNat = 64 := by decide
theorem u8_or6 (x y : Int) (h0 : 0 ≤ x) (h1 : x % 64 = 0) (h2 : x < 256) (h3 : 0 ≤ y) (h4 : y < 64) : bits .or .u8 x y = x + y := bits_join .u8 8 (by decide) wraps_u8 6 x y h0 h1 h2 h3 h4 (by omega)
theorem b0_of (a y : Int) (h : 0 ≤ a ∧ a < 256) (hy : 0 ≤ y ∧ y < 16) : b0 (a / 4) (a % 4 * 16 + y) = a := by
  unfold b0
  have e1 : a / 4 * 4 % 256 = a / 4 * 4 := by omega
  have e2 : (a % 4 * 16 + y) / 16 = a % 4 := by omega
  rw [e1, e2, u8_or2 _ _ (by omega) (by omega) (by omega) (by omega) (by omega)]
  omega
theorem b1_of (x b y : Int) (hb : 0 ≤ b ∧ b < 256) (hx : 0 ≤ x) (hy : 0 ≤ y ∧ y < 4) : b1 (x * 16 + b / 16) (b % 16 * 4 + y) = b := by
  unfold b1
  have e1 : (x * 16 + b / 16) * 16 % 256 = b / 16 * 16 := by omega
  have e2 : (b % 16 * 4 + y) / 4 = b % 16 := by omega
  rw [e1, e2, u8_or4 _ _ (by omega) (by omega) (by omega) (by omega) (by omega)]
  omega
theorem b2_of (x c : Int) (hc : 0 ≤ c ∧ c < 256) (hx : 0 ≤ x) : b2 (x * 4 + c / 64) (c % 64) = c := by
  unfold b2
  have e1 : (x * 4 + c / 64) * 64 % 256 = c / 64 * 64 := by omega
  rw [e1, u8_or6 _ _ (by omega) (by omega) (by omega) (by omega) (by omega)]
  omega
/-- a letter that goes on -/
theorem take_low (s : St) (d : List Int) (c : UInt8) (v : Int) (hv : valV c.toNat = v) (h0 : 0 ≤ v) (h1 : v < 64) (ho : s.over = false) (hn : s.n < 3) : takeV s d c.toNat = (put1 s v, d, 0) := by
  unfold takeV
  have : nextV s.q1 s.q2 s.n s.over v = 0 := by
    unfold nextV
    rw [if_neg (by omega), if_neg (by rw [ho]; decide), if_neg (by omega), if_pos (by omega)]
  rw [hv, this, if_neg (by simp), if_pos hn]
/-- the fourth letter -/
theorem take_four (s : St) (d : List Int) (c : UInt8) (v : Int) (hv : valV c.toNat = v) (h0 : 0 ≤ v) (h1 : v < 64) (ho : s.over = false) (hn : s.n = 3) (h2 : s.q2 ≠ 64) : takeV s d c.toNat = ({ s with q3 := v, n := 0, over := false }, d ++ grp s.q0 s.q1 s.q2 v, 0) := by
  unfold takeV
  have : nextV s.q1 s.q2 s.n s.over v = 0 := by
    unfold nextV
    rw [if_neg (by omega), if_neg (by rw [ho]; decide), if_neg (fun h => h2 h.2), if_pos (by omega)]
  have e : (v == 64) = false := beq_eq_false_iff_ne.2 (by omega)
  rw [hv, this, if_neg (by simp), if_neg (by omega), e]
/-- the sign = in the third place -/
theorem take_pad2 (s : St) (d : List Int) (c : UInt8) (hv : valV c.toNat = 64) (ho : s.over = false) (hn : s.n = 2) (h1 : s.q1 % 16 = 0) : takeV s d c.toNat = (put1 s 64, d, 0) := by
  unfold takeV
  have : nextV s.q1 s.q2 s.n s.over 64 = 0 := by
    unfold nextV
    rw [if_neg (by omega), if_neg (by rw [ho]; decide), if_neg (by omega), if_neg (by omega), if_neg (by omega), if_neg (by omega), if_neg (by omega)]
  rw [hv, this, if_neg (by simp), if_pos (by omega)]
/-- the sign = in the fourth place -/
theorem take_pad3 (s : St) (d : List Int) (c : UInt8) (hv : valV c.toNat = 64) (ho : s.over = false) (hn : s.n = 3) (h2 : s.q2 = 64 ∨ s.q2 % 4 = 0) : takeV s d c.toNat = ({ s with q3 := 64, n := 0, over := true }, d ++ grp s.q0 s.q1 s.q2 64, 0) := by
  unfold takeV
  have : nextV s.q1 s.q2 s.n s.over 64 = 0 := by
    unfold nextV
    rw [if_neg (by omega), if_neg (by rw [ho]; decide)]
    by_cases h : s.q2 = 64
    · rw [if_pos ⟨hn, h⟩, if_neg (by omega)]
    · rw [if_neg (fun k => h k.2), if_neg (by omega), if_neg (by omega), if_neg (by omega), if_neg (by omega)]
  rw [hv, this, if_neg (by simp), if_neg (by omega)]
  rfl
theorem unGo_step (c : UInt8) (r : List UInt8) (i : Nat) (s s' : St) (d d' : List Int) (h : takeV s d c.toNat = (s', d', 0)) : unGo (c :: r) i s d = unGo r (i + 1) s' d' := by
  rw [unGo_cons, h]
  rfl
theorem un_b64 : ∀ (P : List Int), ByteL P → ∀ (i : Nat) (s : St) (d : List Int), s.n = 0 → s.over = false → unGo (u8s (b64 P)) i s d = (d ++ P, 0, 0)
  | a :: b :: c :: l, h, i, s, d, hn, ho => by
    have ha := h a (by simp)
    have hb := h b (by simp)
    have hc := h c (by simp)
    have hl : ByteL l := fun x hx => h x (by simp [hx])
    obtain ⟨q0, q1, q2, q3, n, ov⟩ := s
    simp only at hn ho
    subst hn ho
    have e : u8s (b64 (a :: b :: c :: l)) = UInt8.ofNat (bt L64 (a / 4)).toNat :: UInt8.ofNat (bt L64 (a % 4 * 16 + b / 16)).toNat :: UInt8.ofNat (bt L64 (b % 16 * 4 + c / 64)).toNat :: UInt8.ofNat (bt L64 (c % 64)).toNat :: u8s (b64 l) := rfl
    rw [e, unGo_step _ _ _ _ ⟨a / 4, q1, q2, q3, 1, false⟩ _ _ (take_low _ d _ (a / 4) (let_at _ (by omega) (by omega)) (by omega) (by omega) rfl (show (0 : Nat) < 3 by decide))]
    rw [unGo_step _ _ _ _ ⟨a / 4, a % 4 * 16 + b / 16, q2, q3, 2, false⟩ _ _ (take_low _ d _ (a % 4 * 16 + b / 16) (let_at _ (by omega) (by omega)) (by omega) (by omega) rfl (show (1 : Nat) < 3 by decide))]
    rw [unGo_step _ _ _ _ ⟨a / 4, a % 4 * 16 + b / 16, b % 16 * 4 + c / 64, q3, 3, false⟩ _ _ (take_low _ d _ (b % 16 * 4 + c / 64) (let_at _ (by omega) (by omega)) (by omega) (by omega) rfl (show (2 : Nat) < 3 by decide))]
    rw [unGo_step _ _ _ _ _ _ _ (take_four _ d _ (c % 64) (let_at _ (by omega) (by omega)) (by omega) (by omega) rfl rfl (by show b % 16 * 4 + c / 64 ≠ 64; omega))]
    rw [un_b64 l hl _ _ _ rfl rfl]
    simp only [grp]
    rw [if_neg (by omega), if_neg (by omega), b0_of a _ ha (by omega), b1_of _ b _ hb (by omega) (by omega), b2_of _ c hc (by omega)]
    simp
  | [a, b], h, i, s, d, hn, ho => by
    have ha := h a (by simp)
    have hb := h b (by simp)
    obtain ⟨q0, q1, q2, q3, n, ov⟩ := s
    simp only at hn ho
    subst hn ho
    have e : u8s (b64 [a, b]) = [UInt8.ofNat (bt L64 (a / 4)).toNat, UInt8.ofNat (bt L64 (a % 4 * 16 + b / 16)).toNat, UInt8.ofNat (bt L64 (b % 16 * 4)).toNat, UInt8.ofNat (61 : Int).toNat] := rfl
    rw [e, unGo_step _ _ _ _ ⟨a / 4, q1, q2, q3, 1, false⟩ _ _ (take_low _ d _ (a / 4) (let_at _ (by omega) (by omega)) (by omega) (by omega) rfl (show (0 : Nat) < 3 by decide))]
    rw [unGo_step _ _ _ _ ⟨a / 4, a % 4 * 16 + b / 16, q2, q3, 2, false⟩ _ _ (take_low _ d _ (a % 4 * 16 + b / 16) (let_at _ (by omega) (by omega)) (by omega) (by omega) rfl (show (1 : Nat) < 3 by decide))]
    rw [unGo_step _ _ _ _ ⟨a / 4, a % 4 * 16 + b / 16, b % 16 * 4, q3, 3, false⟩ _ _ (take_low _ d _ (b % 16 * 4) (let_at _ (by omega) (by omega)) (by omega) (by omega) rfl (show (2 : Nat) < 3 by decide))]
    rw [unGo_step _ _ _ _ _ _ _ (take_pad3 _ d _ eq_val rfl rfl (by right; show (b % 16 * 4) % 4 = 0; omega))]
    rw [unGo_nil]
    simp only [grp]
    have := b1_of (a % 4) b 0 hb (by omega) (by omega)
    rw [Int.add_zero] at this
    rw [if_neg (by omega), b0_of a _ ha (by omega), this]
    simp
    omega
  | [a], h, i, s, d, hn, ho => by
    have ha := h a (by simp)
    obtain ⟨q0, q1, q2, q3, n, ov⟩ := s
    simp only at hn ho
    subst hn ho
    have e : u8s (b64 [a]) = [UInt8.ofNat (bt L64 (a / 4)).toNat, UInt8.ofNat (bt L64 (a % 4 * 16)).toNat, UInt8.ofNat (61 : Int).toNat, UInt8.ofNat (61 : Int).toNat] := rfl
    rw [e, unGo_step _ _ _ _ ⟨a / 4, q1, q2, q3, 1, false⟩ _ _ (take_low _ d _ (a / 4) (let_at _ (by omega) (by omega)) (by omega) (by omega) rfl (show (0 : Nat) < 3 by decide))]
    rw [unGo_step _ _ _ _ ⟨a / 4, a % 4 * 16, q2, q3, 2, false⟩ _ _ (take_low _ d _ (a % 4 * 16) (let_at _ (by omega) (by omega)) (by omega) (by omega) rfl (show (1 : Nat) < 3 by decide))]
    rw [unGo_step _ _ _ _ ⟨a / 4, a % 4 * 16, 64, q3, 3, false⟩ _ _ (take_pad2 _ d _ eq_val rfl rfl (by show (a % 4 * 16) % 16 = 0; omega))]
    rw [unGo_step _ _ _ _ _ _ _ (take_pad3 _ d _ eq_val rfl rfl (by left; rfl))]
    rw [unGo_nil]
    simp only [grp]
    have := b0_of a 0 ha (by omega)
    rw [Int.add_zero] at this
    rw [this]
    simp
  | [], h, i, s, d, hn, ho => by
    rw [show u8s (b64 []) = [] from rfl, unGo_nil, hn]
    simp
theorem unB_b64 (P : List Int) (h : ByteL P) : unB (strOfNums (b64 P)).data.toList = (P, -1) := by
  unfold unB unV
  rw [show (strOfNums (b64 P)).data.toList = u8s (b64 P) from rfl, un_b64 P h 0 st0 [] rfl rfl]
  simp
end Go.Proofs.YtcnhnpkbklakoaaDoor.Word
/- UTF-8 there and back: plain. -/
namespace Go.Proofs.YtcnhnpkbklakoaaDoor.Word
open Go.RowKit Go.Proofs.YtcnhnpkbklakoaaDoorW.PrintWords
open Go.Proofs.YtcnhnpkbklakoaaDoor.Code Go.Proofs.YtcnhnpkbklakoaaDoor.Runes
set_option linter.unusedVariables false
def Good (r : Int) : Prop := Utf8.valid r = true
theorem good_iff (r : Int) : Good r ↔ (0 ≤ r ∧ r < 55296) ∨ (57344 ≤ r ∧ r ≤ 1114111) := by
  unfold Good Utf8.valid
  simp
theorem good_nat (c : Nat) (h : c < 55296 ∨ (57344 ≤ c ∧ c ≤ 1114111)) : Utf8.valid (c : Int) = true := by
  have h2 := (good_iff (c : Int)).2 (by omega)
  exact h2
def encN (c : Nat) : List UInt8 :=
  if c < 128 then [UInt8.ofNat c]
  else if c < 2048 then [UInt8.ofNat (192 + c / 64), UInt8.ofNat (128 + c % 64)]
  else if c < 65536 then [UInt8.ofNat (224 + c / 4096), UInt8.ofNat (128 + c / 64 % 64), UInt8.ofNat (128 + c % 64)]
  else [UInt8.ofNat (240 + c / 262144), UInt8.ofNat (128 + c / 4096 % 64), UInt8.ofNat (128 + c / 64 % 64), UInt8.ofNat (128 + c % 64)]
def encD (c : Nat) : ByteArray :=
  if c < 128 then ⟨#[UInt8.ofNat c]⟩
  else if c < 2048 then ⟨#[UInt8.ofNat (192 + c / 64), UInt8.ofNat (128 + c % 64)]⟩
  else if c < 65536 then ⟨#[UInt8.ofNat (224 + c / 4096), UInt8.ofNat (128 + c / 64 % 64), UInt8.ofNat (128 + c % 64)]⟩
  else ⟨#[UInt8.ofNat (240 + c / 262144), UInt8.ofNat (128 + c / 4096 % 64), UInt8.ofNat (128 + c / 64 % 64), UInt8.ofNat (128 + c % 64)]⟩
theorem encode_encD (r : Int) : Utf8.encode r = encD (if Utf8.valid r = true then r.toNat else 65533) := rfl
theorem encD_data (c : Nat) : (encD c).data.toList = encN c := by
  unfold encD encN
  split
  · rfl
  · split
    · rfl
    · split <;> rfl
/-- the bytes of a rune -/
def encB (r : Int) : List UInt8 := encN (if Utf8.valid r = true then r.toNat else 65533)
theorem encode_data (r : Int) : (Utf8.encode r).data.toList = encB r := by
  rw [encode_encD, encD_data, encB]
theorem enc_natsOf (r : Int) : enc r = natsOf (encB r) := by
  unfold enc bytesOf natsOf
  rw [encode_data]
theorem encB_eq (c : Nat) (h : c < 55296 ∨ (57344 ≤ c ∧ c ≤ 1114111)) : encB (c : Int) = encN c := by
  rw [encB, if_pos (good_nat c h), Int.toNat_natCast]
theorem encB_one (c : Nat) (h : c < 128) : encB (c : Int) = [UInt8.ofNat c] := by
  rw [encB_eq c (by omega), encN, if_pos h]
theorem encB_two (c : Nat) (h0 : 128 ≤ c) (h : c < 2048) : encB (c : Int) = [UInt8.ofNat (192 + c / 64), UInt8.ofNat (128 + c % 64)] := by
  rw [encB_eq c (by omega), encN, if_neg (by omega), if_pos h]
theorem encB_three (c : Nat) (h0 : 2048 ≤ c) (h : c < 65536) (hv : c < 55296 ∨ 57344 ≤ c) : encB (c : Int) = [UInt8.ofNat (224 + c / 4096), UInt8.ofNat (128 + c / 64 % 64), UInt8.ofNat (128 + c % 64)] := by
  rw [encB_eq c (by omega), encN, if_neg (by omega), if_neg (by omega), if_pos h]
theorem encB_four (c : Nat) (h0 : 65536 ≤ c) (h : c ≤ 1114111) : encB (c : Int) = [UInt8.ofNat (240 + c / 262144), UInt8.ofNat (128 + c / 4096 % 64), UInt8.ofNat (128 + c / 64 % 64), UInt8.ofNat (128 + c % 64)] := by
  rw [encB_eq c (by omega), encN, if_neg (by omega), if_neg (by omega), if_neg (by omega)]
theorem of_byte (x : UInt8) (n : Nat) (h : n = x.toNat) : UInt8.ofNat n = x := by
  subst h
  exact UInt8.ofNat_toNat
theorem byte_ofNat (n : Nat) (h : n < 256) : ((UInt8.ofNat n).toNat : Int) = n := by
  rw [UInt8.toNat_ofNat']
  omega
theorem rGo_more (N : Nat) (l : List UInt8) (i pl : Nat) (s : RS) (hneed : 0 < s.need) (hpl : pl < N) (h : rGo N l i pl s = N) : ∃ d r, l = d :: r ∧ s.low ≤ (d.toNat : Int) ∧ (d.toNat : Int) ≤ s.high ∧ rGo N r (i + 1) pl ⟨s.need - 1, 128, 191⟩ = N := by
  cases l with
  | nil => rw [rGo_nil, if_pos hneed] at h; omega
  | cons d r =>
    rw [rGo_cons] at h
    have hp : place1 s i pl = pl := by unfold place1; rw [if_neg (by omega)]
    rw [hp] at h
    unfold rstep at h
    rw [if_pos hneed] at h
    by_cases hd : (d.toNat : Int) < s.low ∨ s.high < (d.toNat : Int)
    · rw [if_pos hd, if_pos rfl] at h
      omega
    · rw [if_neg hd] at h
      simp only [Bool.true_eq_false, if_false] at h
      exact ⟨d, r, rfl, by omega, by omega, h⟩
theorem rstep_first (x a b : Int) : rstep ⟨0, a, b⟩ x = if x < 128 then (true, ⟨0, 128, 191⟩) else if x < 194 ∨ 244 < x then (false, ⟨0, 128, 191⟩) else
    (true, ⟨if x < 224 then 1 else if x < 240 then 2 else 3, if x = 224 then 160 else if x = 240 then 144 else 128, if x = 237 then 159 else if x = 244 then 143 else 191⟩) := by
  unfold rstep
  rw [if_neg (by show ¬ (0 : Int) < 0; decide)]
theorem rGo_first (N : Nat) (c : UInt8) (r : List UInt8) (i pl : Nat) (a b : Int) (hi : i < N) (h : rGo N (c :: r) i pl ⟨0, a, b⟩ = N) :
    (c.toNat < 128 ∧ rGo N r (i + 1) i ⟨0, 128, 191⟩ = N) ∨ (194 ≤ c.toNat ∧ c.toNat ≤ 244 ∧ rGo N r (i + 1) i ⟨if (c.toNat : Int) < 224 then 1 else if (c.toNat : Int) < 240 then 2 else 3, if (c.toNat : Int) = 224 then 160 else if (c.toNat : Int) = 240 then 144 else 128, if (c.toNat : Int) = 237 then 159 else if (c.toNat : Int) = 244 then 143 else 191⟩ = N) := by
  rw [rGo_cons, rstep_first] at h
  have hp : place1 ⟨0, a, b⟩ i pl = i := rfl
  rw [hp] at h
  by_cases h1 : (c.toNat : Int) < 128
  · rw [if_pos h1, if_neg (fun e => by cases e)] at h
    exact Or.inl ⟨by omega, h⟩
  · by_cases h2 : (c.toNat : Int) < 194 ∨ 244 < (c.toNat : Int)
    · rw [if_neg h1, if_pos h2, if_pos rfl] at h
      omega
    · rw [if_neg h1, if_neg h2, if_neg (fun e => by cases e)] at h
      exact Or.inr ⟨by omega, by omega, h⟩
theorem decodeL_one (b : UInt8) (t : List UInt8) (h : b.toNat < 128) : Lib.decodeL (b :: t) = (b.toNat, 1) := by
  rw [Lib.decodeL_N]
  show Lib.decodeN (t.length + 1) b.toNat _ _ _ = _
  unfold Lib.decodeN
  rw [if_pos h]
theorem good_step (N : Nat) (c : UInt8) (r : List UInt8) (i pl : Nat) (a b : Int) (hi : i < N) (h : rGo N (c :: r) i pl ⟨0, a, b⟩ = N) :
    ∃ (q : Nat) (rest : List UInt8), c :: r = encB (q : Int) ++ rest ∧ Good (q : Int) ∧ Lib.decodeL (c :: r) = (q, (encB (q : Int)).length) ∧ rGo N rest (i + (encB (q : Int)).length) i ⟨0, 128, 191⟩ = N := by
  have hc := c.toNat_lt
  rcases rGo_first N c r i pl a b hi h with ⟨h1, h2⟩ | ⟨h1, h2, h3⟩
  · refine ⟨c.toNat, r, ?_, (good_iff _).2 (by omega), ?_, ?_⟩
    · rw [encB_one _ h1, of_byte c _ rfl]; rfl
    · rw [encB_one _ h1]; exact decodeL_one c r h1
    · rw [encB_one _ h1]; exact h2
  · by_cases k2 : c.toNat < 224
    · rw [if_pos (by omega), if_neg (by omega), if_neg (by omega), if_neg (by omega), if_neg (by omega)] at h3
      obtain ⟨d, r2, rfl, d1, d2, h4⟩ := rGo_more N r (i + 1) i _ (by show (0 : Int) < 1; decide) hi h3
      simp only at d1 d2
      have e := encB_two (c.toNat % 32 * 64 + d.toNat % 64) (by omega) (by omega)
      have eb : encB ((c.toNat % 32 * 64 + d.toNat % 64 : Nat) : Int) = [c, d] := by
        rw [e, of_byte c _ (by omega), of_byte d _ (by omega)]
      refine ⟨_, r2, by rw [eb]; rfl, (good_iff _).2 (by omega), ?_, by rw [eb]; exact h4⟩
      rw [eb, Lib.decodeL_N]
      show Lib.decodeN (r2.length + 1 + 1) c.toNat d.toNat _ _ = _
      unfold Lib.decodeN
      rw [if_neg (by omega), if_pos (by omega), if_pos (by omega)]
      rfl
    · by_cases k3 : c.toNat < 240
      · rw [if_neg (by omega), if_pos (by omega)] at h3
        obtain ⟨d, r2, rfl, d1, d2, h4⟩ := rGo_more N r (i + 1) i _ (by show (0 : Int) < 2; decide) hi h3
        simp only at d1 d2
        obtain ⟨f, r3, rfl, f1, f2, h5⟩ := rGo_more N r2 (i + 1 + 1) i _ (by show (0 : Int) < 2 - 1; decide) hi h4
        simp only at f1 f2
        have dl : (c.toNat = 224 → 160 ≤ d.toNat) ∧ 128 ≤ d.toNat := by
          by_cases q : (c.toNat : Int) = 224
          · rw [if_pos q] at d1; omega
          · rw [if_neg q, if_neg (by omega)] at d1; omega
        have dh : (c.toNat = 237 → d.toNat ≤ 159) ∧ d.toNat ≤ 191 := by
          by_cases q : (c.toNat : Int) = 237
          · rw [if_pos q] at d2; omega
          · rw [if_neg q, if_neg (by omega)] at d2; omega
        have e := encB_three (c.toNat % 16 * 4096 + d.toNat % 64 * 64 + f.toNat % 64) (by omega) (by omega) (by omega)
        have eb : encB ((c.toNat % 16 * 4096 + d.toNat % 64 * 64 + f.toNat % 64 : Nat) : Int) = [c, d, f] := by
          rw [e, of_byte c _ (by omega), of_byte d _ (by omega), of_byte f _ (by omega)]
        refine ⟨_, r3, by rw [eb]; rfl, (good_iff _).2 (by omega), ?_, by rw [eb]; exact h5⟩
        rw [eb, Lib.decodeL_N]
        show Lib.decodeN (r3.length + 1 + 1 + 1) c.toNat d.toNat f.toNat _ = _
        unfold Lib.decodeN
        rw [if_neg (by omega), if_neg (by omega), if_pos (by omega), if_pos (by omega)]
        rfl
      · rw [if_neg (by omega), if_neg (by omega)] at h3
        obtain ⟨d, r2, rfl, d1, d2, h4⟩ := rGo_more N r (i + 1) i _ (by show (0 : Int) < 3; decide) hi h3
        simp only at d1 d2
        obtain ⟨f, r3, rfl, f1, f2, h5⟩ := rGo_more N r2 (i + 1 + 1) i _ (by show (0 : Int) < 3 - 1; decide) hi h4
        simp only at f1 f2
        obtain ⟨g, r4, rfl, g1, g2, h6⟩ := rGo_more N r3 (i + 1 + 1 + 1) i _ (by show (0 : Int) < 3 - 1 - 1; decide) hi h5
        simp only at g1 g2
        have dl : (c.toNat = 240 → 144 ≤ d.toNat) ∧ 128 ≤ d.toNat := by
          by_cases q : (c.toNat : Int) = 240
          · rw [if_neg (by omega), if_pos q] at d1; omega
          · rw [if_neg (by omega), if_neg q] at d1; omega
        have dh : (c.toNat = 244 → d.toNat ≤ 143) ∧ d.toNat ≤ 191 := by
          by_cases q : (c.toNat : Int) = 244
          · rw [if_neg (by omega), if_pos q] at d2; omega
          · rw [if_neg (by omega), if_neg q] at d2; omega
        have e := encB_four (c.toNat % 8 * 262144 + d.toNat % 64 * 4096 + f.toNat % 64 * 64 + g.toNat % 64) (by omega) (by omega)
        have eb : encB ((c.toNat % 8 * 262144 + d.toNat % 64 * 4096 + f.toNat % 64 * 64 + g.toNat % 64 : Nat) : Int) = [c, d, f, g] := by
          rw [e, of_byte c _ (by omega), of_byte d _ (by omega), of_byte f _ (by omega), of_byte g _ (by omega)]
        refine ⟨_, r4, by rw [eb]; rfl, (good_iff _).2 (by omega), ?_, by rw [eb]; exact h6⟩
        rw [eb, Lib.decodeL_N]
        show Lib.decodeN (r4.length + 1 + 1 + 1 + 1) c.toNat d.toNat f.toNat g.toNat = _
        unfold Lib.decodeN
        rw [if_neg (by omega), if_neg (by omega), if_neg (by omega), if_pos (by omega), if_pos (by omega)]
        rfl
def encs (L : List Int) : List UInt8 := L.flatMap encB
theorem encs_cons (r : Int) (L : List Int) : encs (r :: L) = encB r ++ encs L := List.flatMap_cons
theorem good_list (s : ByteArray) : ∀ (n i pl : Nat) (a b : Int), s.size - i ≤ n → i ≤ s.size → rGo s.size (s.data.toList.drop i) i pl ⟨0, a, b⟩ = s.size → (∀ r ∈ runesAt s i, Good r) ∧ s.data.toList.drop i = encs (runesAt s i)
  | n, i, pl, a, b, hn, hi, h => by
    by_cases hlt : i < s.size
    · have hd := Code.drop_at s i hlt
      rw [hd] at h
      obtain ⟨q, rest, h1, h2, h3, h4⟩ := good_step s.size _ _ i pl a b hlt h
      rw [← hd] at h1 h3
      rw [Lib.decodeL_drop] at h3
      have hl := congrArg List.length h1
      rw [List.length_drop, data_length, List.length_append] at hl
      have hr : rest = s.data.toList.drop (i + (encB (q : Int)).length) := by
        have := congrArg (List.drop (encB (q : Int)).length) h1
        rw [List.drop_drop, List.drop_left] at this
        exact this.symm
      have hq1 : 1 ≤ (encB (q : Int)).length := by
        have := decode_pos s i
        rw [h3] at this
        dsimp only at this
        exact this
      rw [hr] at h4
      cases n with
      | zero => omega
      | succ n =>
        obtain ⟨g1, g2⟩ := good_list s n _ i 128 191 (by omega) (by omega) h4
        rw [runesAt_lt s i hlt, h3]
        dsimp only
        refine ⟨fun r hr' => ?_, ?_⟩
        · rcases List.mem_cons.1 hr' with rfl | hr'
          · exact h2
          · exact g1 r hr'
        · rw [encs_cons, ← g2, ← hr]
          exact h1
    · rw [runesAt_ge s i hlt, List.drop_eq_nil_of_le (by rw [data_length]; omega)]
      exact ⟨fun r hr => by simp at hr, rfl⟩
theorem good_text (s : ByteArray) (h : runesBad s.data.toList = s.size) : (∀ r ∈ runesAt s 0, Good r) ∧ s.data.toList = encs (runesAt s 0) := by
  unfold runesBad at h
  rw [data_length] at h
  have := good_list s s.size 0 0 0 0 (by omega) (by omega) h
  simpa using this
theorem rGo_head (N : Nat) (x : UInt8) (r : List UInt8) (i pl : Nat) (a b : Int) (h : x.toNat < 128) : rGo N (x :: r) i pl ⟨0, a, b⟩ = rGo N r (i + 1) i ⟨0, 128, 191⟩ := by
  have hs : rstep ⟨0, a, b⟩ (x.toNat : Int) = (true, ⟨0, 128, 191⟩) := by rw [rstep_first, if_pos (by omega)]
  rw [rGo_cons, hs, if_neg (fun e => by cases e)]
  rfl
theorem rGo_lead (N : Nat) (x : UInt8) (r : List UInt8) (i pl : Nat) (a b : Int) (h : 194 ≤ x.toNat ∧ x.toNat ≤ 244) : rGo N (x :: r) i pl ⟨0, a, b⟩ = rGo N r (i + 1) i ⟨if (x.toNat : Int) < 224 then 1 else if (x.toNat : Int) < 240 then 2 else 3, if (x.toNat : Int) = 224 then 160 else if (x.toNat : Int) = 240 then 144 else 128, if (x.toNat : Int) = 237 then 159 else if (x.toNat : Int) = 244 then 143 else 191⟩ := by
  have hs := rstep_first (x.toNat : Int) a b
  rw [if_neg (by omega), if_neg (by omega)] at hs
  rw [rGo_cons, hs, if_neg (fun e => by cases e)]
  rfl
theorem rGo_cont (N : Nat) (x : UInt8) (r : List UInt8) (i pl : Nat) (s : RS) (hn : 0 < s.need) (h : s.low ≤ (x.toNat : Int) ∧ (x.toNat : Int) ≤ s.high) : rGo N (x :: r) i pl s = rGo N r (i + 1) pl ⟨s.need - 1, 128, 191⟩ := by
  rw [rGo_cons]
  have hp : place1 s i pl = pl := by unfold place1; rw [if_neg (by omega)]
  have hs : rstep s (x.toNat : Int) = (true, ⟨s.need - 1, 128, 191⟩) := by
    unfold rstep
    rw [if_pos hn, if_neg (by omega)]
  rw [hp, hs, if_neg (fun e => by cases e)]
theorem nat_byte (n : Nat) (h : n < 256) : (UInt8.ofNat n).toNat = n := by
  rw [UInt8.toNat_ofNat']
  omega
theorem good_conv (N : Nat) (r : Int) (hg : Good r) (rest : List UInt8) (i pl : Nat) (a b : Int) : ∃ pl', rGo N (encB r ++ rest) i pl ⟨0, a, b⟩ = rGo N rest (i + (encB r).length) pl' ⟨0, 128, 191⟩ := by
  have hv := (good_iff r).1 hg
  obtain ⟨q, rfl⟩ : ∃ q : Nat, r = (q : Int) := ⟨r.toNat, by omega⟩
  by_cases h1 : q < 128
  · rw [encB_one q h1]
    exact ⟨i, rGo_head N _ rest i pl a b (by rw [nat_byte _ (by omega)]; omega)⟩
  · by_cases h2 : q < 2048
    · rw [encB_two q (by omega) h2]
      have e0 := nat_byte (192 + q / 64) (by omega)
      have e1 := nat_byte (128 + q % 64) (by omega)
      refine ⟨i, ?_⟩
      simp only [List.cons_append, List.nil_append]
      rw [rGo_lead N _ _ i pl a b (by omega)]
      rw [e0, if_pos (by omega), if_neg (show ¬ ((192 + q / 64 : Nat) : Int) = 224 by omega), if_neg (show ¬ ((192 + q / 64 : Nat) : Int) = 240 by omega), if_neg (show ¬ ((192 + q / 64 : Nat) : Int) = 237 by omega), if_neg (show ¬ ((192 + q / 64 : Nat) : Int) = 244 by omega)]
      rw [rGo_cont N _ _ _ _ _ (by show (0 : Int) < 1; decide) (by rw [e1]; simp only; omega)]
      rfl
    · by_cases h3 : q < 65536
      · rw [encB_three q (by omega) h3 (by omega)]
        have e0 := nat_byte (224 + q / 4096) (by omega)
        have e1 := nat_byte (128 + q / 64 % 64) (by omega)
        have e2 := nat_byte (128 + q % 64) (by omega)
        refine ⟨i, ?_⟩
        simp only [List.cons_append, List.nil_append]
        rw [rGo_lead N _ _ i pl a b (by omega)]
        rw [e0, if_neg (by omega), if_pos (by omega), if_neg (show ¬ ((224 + q / 4096 : Nat) : Int) = 240 by omega), if_neg (show ¬ ((224 + q / 4096 : Nat) : Int) = 244 by omega)]
        rw [rGo_cont N _ _ _ _ _ (by show (0 : Int) < 2; decide) (by
          rw [e1]
          simp only
          constructor
          · split <;> omega
          · split <;> omega)]
        rw [rGo_cont N _ _ _ _ _ (by show (0 : Int) < 2 - 1; decide) (by rw [e2]; simp only; omega)]
        rfl
      · rw [encB_four q (by omega) (by omega)]
        have e0 := nat_byte (240 + q / 262144) (by omega)
        have e1 := nat_byte (128 + q / 4096 % 64) (by omega)
        have e2 := nat_byte (128 + q / 64 % 64) (by omega)
        have e3 := nat_byte (128 + q % 64) (by omega)
        refine ⟨i, ?_⟩
        simp only [List.cons_append, List.nil_append]
        rw [rGo_lead N _ _ i pl a b (by omega)]
        rw [e0, if_neg (by omega), if_neg (by omega), if_neg (show ¬ ((240 + q / 262144 : Nat) : Int) = 224 by omega), if_neg (show ¬ ((240 + q / 262144 : Nat) : Int) = 237 by omega)]
        rw [rGo_cont N _ _ _ _ _ (by show (0 : Int) < 3; decide) (by
          rw [e1]
          simp only
          constructor
          · split <;> omega
          · split <;> omega)]
        rw [rGo_cont N _ _ _ _ _ (by show (0 : Int) < 3 - 1; decide) (by rw [e2]; simp only; omega)]
        rw [rGo_cont N _ _ _ _ _ (by show (0 : Int) < 3 - 1 - 1; decide) (by rw [e3]; simp only; omega)]
        rfl
theorem encs_good (N : Nat) : ∀ (L : List Int), (∀ r ∈ L, Good r) → ∀ (i pl : Nat) (a b : Int), i + (encs L).length = N → rGo N (encs L) i pl ⟨0, a, b⟩ = N
  | [], _, i, pl, a, b, h => by
    rw [show encs [] = [] from rfl, rGo_nil, if_neg (by show ¬ (0 : Int) < 0; decide)]
  | r :: L, hg, i, pl, a, b, h => by
    rw [encs_cons] at h ⊢
    obtain ⟨pl', e⟩ := good_conv N r (hg r (by simp)) (encs L) i pl a b
    rw [List.length_append] at h
    rw [e]
    exact encs_good N L (fun x hx => hg x (by simp [hx])) _ _ _ _ (by omega)
theorem runesBad_encs (L : List Int) (hg : ∀ r ∈ L, Good r) : runesBad (encs L) = (encs L).length := encs_good _ L hg 0 0 0 0 (by omega)
end Go.Proofs.YtcnhnpkbklakoaaDoor.Word
/- what a word is cut into: plain. -/
namespace Go.Proofs.YtcnhnpkbklakoaaDoor.Word
open Go.RowKit Go.Proofs.YtcnhnpkbklakoaaDoorW.PrintWords
open Go.Proofs.YtcnhnpkbklakoaaDoor.Code Go.Proofs.YtcnhnpkbklakoaaDoor.Runes Go.Proofs.YtcnhnpkbklakoaaDoor.Unhex
set_option linter.unusedVariables false
theorem ba_ext {a b : ByteArray} (h : a.data.toList = b.data.toList) : a = b := ByteArray.ext (Array.ext' h)
theorem data_app (a b : ByteArray) : (a ++ b).data.toList = a.data.toList ++ b.data.toList := by
  rw [ByteArray.data_append]
  simp
theorem idx_none : ∀ (u : List UInt8) (c : UInt8), (∀ x ∈ u, x ≠ c) → Lib.indexByte u c = -1
  | [], _, _ => rfl
  | x :: u, c, h => by
    have hx : (x == c) = false := beq_eq_false_iff_ne.2 (h x (by simp))
    have := idx_none u c (fun y hy => h y (by simp [hy]))
    simp [Lib.indexByte, hx, this]
theorem idx_app : ∀ (u : List UInt8) (c : UInt8) (r : List UInt8), (∀ x ∈ u, x ≠ c) → Lib.indexByte (u ++ c :: r) c = (u.length : Int)
  | [], c, r, _ => by simp [Lib.indexByte]
  | x :: u, c, r, h => by
    have hx : (x == c) = false := beq_eq_false_iff_ne.2 (h x (by simp))
    have := idx_app u c r (fun y hy => h y (by simp [hy]))
    have hne : ((u.length : Int) == -1) = false := beq_eq_false_iff_ne.2 (by omega)
    simp only [List.cons_append, Lib.indexByte, hx, this, hne, List.length_cons]
    simp
theorem parts_none (s : ByteArray) (h : ∀ x ∈ s.data.toList, x ≠ 63) : partsV s = [s] := by
  have hi : Lib.indexB s ⟨#[63]⟩ = -1 := (Lib.index_one _ _).trans (idx_none _ _ h)
  unfold partsV
  rw [Lib.countB_miss _ _ hi]
  rfl
theorem parts_hit (s : ByteArray) (u r : List UInt8) (hs : s.data.toList = u ++ 63 :: r) (h : ∀ x ∈ u, x ≠ 63) : partsV s = ⟨u.toArray⟩ :: partsV ⟨r.toArray⟩ := by
  have hi : Lib.indexB s ⟨#[63]⟩ = (u.length : Nat) := by
    refine (Lib.index_one _ _).trans ?_
    rw [hs]
    exact idx_app u 63 r h
  have e1 : s.extract 0 (u.length + 0) = ⟨u.toArray⟩ := ba_ext (by
    rw [Lib.extract_data, hs]
    simp)
  have e2 : s.extract (u.length + 1) s.size = ⟨r.toArray⟩ := ba_ext (by
    have hz : s.size = u.length + 1 + r.length := by
      rw [← data_length, hs]
      simp
      omega
    rw [Lib.extract_data, hs, hz]
    have : (u ++ 63 :: r).drop (u.length + 1) = r := by
      rw [List.drop_append]
      simp
    rw [this, List.take_of_length_le (by omega)])
  have hc := Lib.countB_hit s ⟨#[63]⟩ u.length (by decide) hi
  have hsz : (⟨#[63]⟩ : ByteArray).size = 1 := rfl
  rw [hsz, e2, Nat.add_comm] at hc
  unfold partsV
  rw [hc, Lib.splitB_hit _ _ _ _ _ hi, hsz, e1, e2]
theorem parts_three (u0 u1 u2 : List UInt8) (h0 : ∀ x ∈ u0, x ≠ 63) (h1 : ∀ x ∈ u1, x ≠ 63) (h2 : ∀ x ∈ u2, x ≠ 63) : partsV ⟨(u0 ++ 63 :: (u1 ++ 63 :: u2)).toArray⟩ = [⟨u0.toArray⟩, ⟨u1.toArray⟩, ⟨u2.toArray⟩] := by
  rw [parts_hit _ u0 (u1 ++ 63 :: u2) rfl h0, parts_hit _ u1 u2 rfl h1, parts_none _ h2]
/-- a text that is put together as a word is cut into its parts -/
theorem cut_word (u0 u2 : List UInt8) (c : UInt8) (h0 : ∀ x ∈ u0, x ≠ 63) (hn : u0 ≠ []) (hc : ¬ Lib.indexByte [66, 98, 81, 113] c < 0) (h2 : ∀ x ∈ u2, x ≠ 63) (hc3 : c ≠ 63)
    (s0 : u0.all shownB = true) (s1 : shownB c = true) (s2 : u2.all shownB = true) (x : ByteArray) (hx : x.data.toList = [61, 63] ++ (u0 ++ 63 :: ([c] ++ 63 :: u2)) ++ [63, 61]) :
    cutV x = (⟨u0.toArray⟩, ⟨#[c]⟩, ⟨u2.toArray⟩, true) := by
  have hz : x.size = u0.length + u2.length + 7 := by
    rw [← data_length, hx]
    simp
    omega
  have eA : (x.extract 0 2).toList = [61, 63] := by
    rw [Lib.toList_data, Lib.extract_data, hx]
    simp
  have eZ : (x.extract (x.size - 2) x.size).toList = [63, 61] := by
    rw [Lib.toList_data, Lib.extract_data, hx]
    have : x.size - 2 = ([61, 63] ++ (u0 ++ 63 :: ([c] ++ 63 :: u2))).length := by
      rw [hz]
      simp
      omega
    rw [this, List.drop_left, List.take_of_length_le (by rw [← this, hz]; simp)]
  have eB : bodyV x = ⟨(u0 ++ 63 :: ([c] ++ 63 :: u2)).toArray⟩ := ba_ext (by
    unfold bodyV
    rw [Lib.extract_data, hx, List.append_assoc]
    have h1 : ([61, 63] ++ ((u0 ++ 63 :: ([c] ++ 63 :: u2)) ++ [63, 61])).drop 2 = (u0 ++ 63 :: ([c] ++ 63 :: u2)) ++ [63, 61] := rfl
    rw [h1]
    have h2' : x.size - 2 - 2 = (u0 ++ 63 :: ([c] ++ 63 :: u2)).length := by
      rw [hz]
      simp
      omega
    rw [h2', List.take_left])
  unfold cutV
  rw [if_neg (by omega), if_neg (fun h => h eA), if_neg (by rw [eZ]; decide), eB, parts_three u0 [c] u2 h0 (by simpa using hc3) h2, cutM_three]
  rw [if_neg (by rw [Lib.toList_data]; exact hn), if_neg (by intro h; exact h rfl), if_neg (show ¬ Lib.indexByte [66, 98, 81, 113] ((⟨#[c]⟩ : ByteArray).data.toList.headD 0) < 0 from hc), if_pos]
  rw [hx]
  simp only [List.all_append, List.all_cons, List.all_nil, s0, s1, s2, Bool.and_true, Bool.true_and]
  decide
/-- a word that is encoded and says these bytes -/
structure Wd (x : ByteArray) (p : List UInt8) : Prop where
  shown : x.data.toList.all shownB = true
  ne : x.data.toList ≠ []
  says : ∃ c0 co tx, cutV x = (c0, co, tx, true) ∧ (meansV c0 []).2.1 = true ∧ (bytesV co tx).2 < 0 ∧ (bytesV co tx).1 = natsOf p ∧ meansV c0 p = (⟨p.toArray⟩, true, true)
def U8 : ByteArray := ⟨#[85, 84, 70, 45, 56]⟩
theorem name_U8 : (nameV U8).toList = utf8N := by kernel_rfl
theorem means_U8 (b : List UInt8) : meansV U8 b = (strOfNums (natsOf b), true, runesBad b == b.length) := by
  unfold meansV
  rw [if_pos name_U8]
theorem str_natsOf (b : List UInt8) : strOfNums (natsOf b) = ⟨b.toArray⟩ := ba_ext (by
  unfold natsOf
  rw [strOfNums_data, List.map_map]
  conv => rhs; rw [← List.map_id b]
  apply List.map_congr_left
  intro x hx
  simp only [Function.comp, id, Int.toNat_natCast]
  exact UInt8.ofNat_toNat)
theorem natsOf_byte (b : List UInt8) : ByteL (natsOf b) := by
  intro x hx
  unfold natsOf at hx
  obtain ⟨y, _, rfl⟩ := List.mem_map.1 hx
  have := y.toNat_lt
  omega
theorem u8s_natsOf (b : List UInt8) : u8s (natsOf b) = b := by
  unfold u8s natsOf
  rw [List.map_map]
  conv => rhs; rw [← List.map_id b]
  apply List.map_congr_left
  intro x hx
  simp only [Function.comp, id, Int.toNat_natCast]
  exact UInt8.ofNat_toNat
def okc (x : UInt8) : Bool := shownB x && x != 63
theorem okc_let : ∀ v : Fin 64, okc (UInt8.ofNat (bt L64 (v.val : Int)).toNat) = true := by decide +kernel
theorem okc_at (v : Int) (h0 : 0 ≤ v) (h1 : v < 64) : okc (UInt8.ofNat (bt L64 v).toNat) = true := by
  obtain ⟨n, rfl⟩ := Int.eq_ofNat_of_zero_le h0
  exact okc_let ⟨n, by omega⟩
theorem okc_b64 : ∀ P : List Int, ByteL P → (u8s (b64 P)).all okc = true
  | a :: b :: c :: l, h => by
    have ha := h a (by simp)
    have hb := h b (by simp)
    have hc := h c (by simp)
    have e : u8s (b64 (a :: b :: c :: l)) = UInt8.ofNat (bt L64 (a / 4)).toNat :: UInt8.ofNat (bt L64 (a % 4 * 16 + b / 16)).toNat :: UInt8.ofNat (bt L64 (b % 16 * 4 + c / 64)).toNat :: UInt8.ofNat (bt L64 (c % 64)).toNat :: u8s (b64 l) := rfl
    rw [e]
    simp only [List.all_cons]
    rw [okc_at _ (by omega) (by omega), okc_at _ (by omega) (by omega), okc_at _ (by omega) (by omega), okc_at _ (by omega) (by omega), okc_b64 l (fun x hx => h x (by simp [hx]))]
    rfl
  | [a, b], h => by
    have ha := h a (by simp)
    have hb := h b (by simp)
    have e : u8s (b64 [a, b]) = [UInt8.ofNat (bt L64 (a / 4)).toNat, UInt8.ofNat (bt L64 (a % 4 * 16 + b / 16)).toNat, UInt8.ofNat (bt L64 (b % 16 * 4)).toNat, UInt8.ofNat (61 : Int).toNat] := rfl
    rw [e]
    simp only [List.all_cons, List.all_nil]
    rw [okc_at _ (by omega) (by omega), okc_at _ (by omega) (by omega), okc_at _ (by omega) (by omega)]
    decide
  | [a], h => by
    have ha := h a (by simp)
    have e : u8s (b64 [a]) = [UInt8.ofNat (bt L64 (a / 4)).toNat, UInt8.ofNat (bt L64 (a % 4 * 16)).toNat, UInt8.ofNat (61 : Int).toNat, UInt8.ofNat (61 : Int).toNat] := rfl
    rw [e]
    simp only [List.all_cons, List.all_nil]
    rw [okc_at _ (by omega) (by omega), okc_at _ (by omega) (by omega)]
    decide
  | [], _ => rfl
theorem okc_shown {l : List UInt8} (h : l.all okc = true) : l.all shownB = true := by
  rw [List.all_eq_true] at h ⊢
  intro x hx
  have := h x hx
  unfold okc at this
  rw [Bool.and_eq_true] at this
  exact this.1
theorem okc_ne {l : List UInt8} (h : l.all okc = true) : ∀ x ∈ l, x ≠ 63 := by
  rw [List.all_eq_true] at h
  intro x hx
  have := h x hx
  unfold okc at this
  rw [Bool.and_eq_true, bne_iff_ne] at this
  exact this.2
theorem wd_B (p : List UInt8) (hp : runesBad p = p.length) : Wd (wordB (natsOf p)) p := by
  have hok := okc_b64 (natsOf p) (natsOf_byte p)
  have hx : (wordB (natsOf p)).data.toList = [61, 63] ++ ([85, 84, 70, 45, 56] ++ 63 :: ([66] ++ 63 :: u8s (b64 (natsOf p)))) ++ [63, 61] := by
    unfold wordB
    rw [data_app, data_app]
    rw [show hdB.data.toList = [61, 63, 85, 84, 70, 45, 56, 63, 66, 63] from rfl, show tl.data.toList = [63, 61] from rfl, show (strOfNums (b64 (natsOf p))).data.toList = u8s (b64 (natsOf p)) from rfl]
    simp
  refine ⟨?_, ?_, U8, ⟨#[66]⟩, ⟨(u8s (b64 (natsOf p))).toArray⟩, ?_, ?_, ?_, ?_, ?_⟩
  · rw [hx]
    simp only [List.all_append, List.all_cons, List.all_nil, okc_shown hok]
    decide
  · rw [hx]; simp
  · exact cut_word [85, 84, 70, 45, 56] (u8s (b64 (natsOf p))) 66 (by decide) (by decide) (by decide) (okc_ne hok) (by decide) (by decide) (by decide) (okc_shown hok) _ hx
  · rw [means_U8]
  · have : bytesV ⟨#[66]⟩ ⟨(u8s (b64 (natsOf p))).toArray⟩ = (natsOf p, -1) := by
      unfold bytesV
      rw [if_pos (by left; rfl)]
      exact unB_b64 (natsOf p) (natsOf_byte p)
    rw [this]
    show (-1 : Int) < 0
    decide
  · have : bytesV ⟨#[66]⟩ ⟨(u8s (b64 (natsOf p))).toArray⟩ = (natsOf p, -1) := by
      unfold bytesV
      rw [if_pos (by left; rfl)]
      exact unB_b64 (natsOf p) (natsOf_byte p)
    rw [this]
  · rw [means_U8, str_natsOf, hp]
    simp
theorem hex_dig : ∀ v : Fin 16, hexB (UInt8.ofNat (bt H16 (v.val : Int)).toNat) = true ∧ hexD (UInt8.ofNat (bt H16 (v.val : Int)).toNat) = v.val ∧ okc (UInt8.ofNat (bt H16 (v.val : Int)).toNat) = true := by decide +kernel
theorem hex_dig_at (v : Int) (h0 : 0 ≤ v) (h1 : v < 16) : hexB (UInt8.ofNat (bt H16 v).toNat) = true ∧ hexD (UInt8.ofNat (bt H16 v).toNat) = v ∧ okc (UInt8.ofNat (bt H16 v).toNat) = true := by
  obtain ⟨n, rfl⟩ := Int.eq_ofNat_of_zero_le h0
  exact hex_dig ⟨n, by omega⟩
theorem u8s_app (a b : List Int) : u8s (a ++ b) = u8s a ++ u8s b := by simp [u8s]
theorem u8s_eq3 (a : Int) : u8s (eq3 a) = [61, UInt8.ofNat (bt H16 (a / 16)).toNat, UInt8.ofNat (bt H16 (a % 16)).toNat] := rfl
theorem eqV_cons (a : Int) (l : List Int) : eqV (a :: l) = eq3 a ++ eqV l := List.flatMap_cons
theorem hex_text (rest : List UInt8) : ∀ (l : List Int), ByteL l → ∀ (i : Nat) (out : List Int), (∃ k, qGo (u8s (eqV l) ++ rest) i out = qGo rest (i + k) (out ++ l)) ∧ (u8s (eqV l)).all okc = true
  | [], _, i, out => ⟨⟨0, by simp [eqV, u8s]⟩, rfl⟩
  | a :: l, h, i, out => by
    have ha := h a (by simp)
    have hl : ByteL l := fun x hx => h x (by simp [hx])
    obtain ⟨p1, p2, p3⟩ := hex_dig_at (a / 16) (by omega) (by omega)
    obtain ⟨q1, q2, q3⟩ := hex_dig_at (a % 16) (by omega) (by omega)
    obtain ⟨⟨k, hk⟩, _⟩ := hex_text rest l hl (i + 3) (out ++ [a])
    refine ⟨⟨3 + k, ?_⟩, ?_⟩
    · rw [eqV_cons, u8s_app, u8s_eq3, List.append_assoc]
      simp only [List.cons_append, List.nil_append]
      rw [qGo_hex _ _ _ _ _ p1 q1, p2, q2, show 16 * (a / 16) + a % 16 = a by omega, hk, List.append_assoc, Nat.add_assoc]
      rfl
    · rw [eqV_cons, u8s_app, u8s_eq3, List.all_append, (hex_text rest l hl i out).2]
      simp only [List.all_cons, List.all_nil, p3, q3]
      decide
theorem plain_q : ∀ n : Fin 128, isQ n.val = true → okc (UInt8.ofNat n.val) = true ∧ UInt8.ofNat n.val ≠ 95 ∧ UInt8.ofNat n.val ≠ 61 := by decide +kernel
/-- a rune's text in Q says the rune's bytes -/
theorem rune_text (rest : List UInt8) (r : Int) (hg : Good r) (i : Nat) (out : List Int) : (∃ k, qGo ((qI r).data.toList ++ rest) i out = qGo rest (i + k) (out ++ natsOf (encB r))) ∧ (qI r).data.toList.all okc = true := by
  have hv := (good_iff r).1 hg
  obtain ⟨n, rfl⟩ : ∃ n : Nat, r = (n : Int) := ⟨r.toNat, by omega⟩
  have hqi : qI (n : Int) = qV n := by unfold qI; rw [Int.toNat_natCast]
  rw [hqi]
  unfold qV
  by_cases h32 : n = 32
  · subst h32
    rw [if_pos rfl]
    refine ⟨⟨1, ?_⟩, by decide⟩
    have e : natsOf [UInt8.ofNat 32] = [32] := by decide
    show qGo (95 :: rest) i out = _
    rw [qGo_under, encB_one 32 (by decide), e]
  · rw [if_neg h32]
    by_cases hq : n < 128 ∧ isQ n = true
    · rw [if_pos hq, encode_data, encB_one n hq.1]
      obtain ⟨h1, h2, h3⟩ := plain_q ⟨n, hq.1⟩ hq.2
      refine ⟨⟨1, ?_⟩, by simp [h1]⟩
      have e : natsOf [UInt8.ofNat n] = [((UInt8.ofNat n).toNat : Int)] := rfl
      rw [e]
      show qGo (UInt8.ofNat n :: rest) i out = _
      rw [qGo_other _ _ _ _ h2 h3]
    · rw [if_neg hq, enc_natsOf]
      have hb := natsOf_byte (encB (n : Int))
      generalize natsOf (encB (n : Int)) = X at hb ⊢
      exact hex_text rest X hb i out
def qtext (L : List Int) : List UInt8 := L.flatMap fun r => (qI r).data.toList
theorem qtext_cons (r : Int) (L : List Int) : qtext (r :: L) = (qI r).data.toList ++ qtext L := List.flatMap_cons
theorem natsOf_app (a b : List UInt8) : natsOf (a ++ b) = natsOf a ++ natsOf b := by simp [natsOf]
theorem runes_text : ∀ (L : List Int), (∀ r ∈ L, Good r) → ∀ (i : Nat) (out : List Int), qGo (qtext L) i out = (out ++ natsOf (encs L), -1) ∧ (qtext L).all okc = true
  | [], _, i, out => ⟨by simp [qtext, encs, natsOf, qGo], rfl⟩
  | r :: L, hg, i, out => by
    have hL : ∀ x ∈ L, Good x := fun x hx => hg x (by simp [hx])
    obtain ⟨⟨k, hk⟩, ho⟩ := rune_text (qtext L) r (hg r (by simp)) i out
    obtain ⟨h1, h2⟩ := runes_text L hL (i + k) (out ++ natsOf (encB r))
    rw [qtext_cons, hk, h1, encs_cons, natsOf_app, List.append_assoc, List.all_append, ho, h2]
    exact ⟨rfl, rfl⟩
theorem wd_Q (t : ByteArray) (L : List Int) (hg : ∀ r ∈ L, Good r) (ht : t.data.toList = qtext L) : Wd (wordQ t) (encs L) := by
  obtain ⟨hq, hok⟩ := runes_text L hg 0 []
  rw [List.nil_append] at hq
  have hb : bytesV ⟨#[81]⟩ ⟨(qtext L).toArray⟩ = (natsOf (encs L), -1) := by
    unfold bytesV
    rw [if_neg (by show ¬ ((81 : UInt8) = 66 ∨ (81 : UInt8) = 98); decide)]
    exact hq
  have hx : (wordQ t).data.toList = [61, 63] ++ ([85, 84, 70, 45, 56] ++ 63 :: ([81] ++ 63 :: qtext L)) ++ [63, 61] := by
    unfold wordQ
    rw [data_app, data_app, ht]
    rw [show hdQ.data.toList = [61, 63, 85, 84, 70, 45, 56, 63, 81, 63] from rfl, show tl.data.toList = [63, 61] from rfl]
    simp
  refine ⟨?_, ?_, U8, ⟨#[81]⟩, ⟨(qtext L).toArray⟩, ?_, ?_, ?_, ?_, ?_⟩
  · rw [hx]
    simp only [List.all_append, List.all_cons, List.all_nil, okc_shown hok]
    decide
  · rw [hx]; simp
  · exact cut_word [85, 84, 70, 45, 56] (qtext L) 81 (by decide) (by decide) (by decide) (okc_ne hok) (by decide) (by decide) (by decide) (okc_shown hok) _ hx
  · rw [means_U8]
  · rw [hb]
    show (-1 : Int) < 0
    decide
  · rw [hb]
  · rw [means_U8, str_natsOf, runesBad_encs L hg]
    simp
end Go.Proofs.YtcnhnpkbklakoaaDoor.Word
/- word.Decode of texts that are put together of words and gaps: plain. -/
namespace Go.Proofs.YtcnhnpkbklakoaaDoor.Word
open Go.RowKit Go.Proofs.YtcnhnpkbklakoaaDoorW.PrintWords
open Go.Proofs.YtcnhnpkbklakoaaDoor.Code Go.Proofs.YtcnhnpkbklakoaaDoor.Runes Go.Proofs.YtcnhnpkbklakoaaDoor.Pieces
set_option linter.unusedVariables false
set_option linter.unusedSimpArgs false
theorem blank_iff (x : UInt8) : blankB x = true ↔ x = 32 ∨ x = 9 := by simp [blankB]
theorem shown_nb {x : UInt8} (h : shownB x = true) : blankB x = false := by
  unfold shownB at h
  simp only [Bool.and_eq_true, decide_eq_true_eq] at h
  cases hb : blankB x
  · rfl
  · rcases (blank_iff x).1 hb with rfl | rfl
    · simp at h
    · simp at h
def Blank (l : List UInt8) : Prop := ∀ x ∈ l, blankB x = true
def Solid (l : List UInt8) : Prop := ∀ x ∈ l, blankB x = false
theorem solid_shown {l : List UInt8} (h : l.all shownB = true) : Solid l := fun x hx => shown_nb (List.all_eq_true.1 h x hx)
/-- nothing, or a text that begins with a blank -/
def Opens (l : List UInt8) : Prop := l = [] ∨ ∃ c r, l = c :: r ∧ blankB c = true
theorem takeWhile_app (p : UInt8 → Bool) : ∀ (g m : List UInt8), (∀ x ∈ g, p x = true) → (m = [] ∨ ∃ c r, m = c :: r ∧ p c = false) → (g ++ m).takeWhile p = g
  | [], m, _, h => by
    rcases h with rfl | ⟨c, r, rfl, hc⟩
    · rfl
    · simp [List.takeWhile_cons, hc]
  | x :: g, m, hg, h => by
    rw [List.cons_append, List.takeWhile_cons, if_pos (hg x (by simp)), takeWhile_app p g m (fun y hy => hg y (by simp [hy])) h]
theorem step_places (s : ByteArray) (i : Nat) (g x rest : List UInt8) (hd : s.data.toList.drop i = g ++ (x ++ rest)) (hg : Blank g) (hx : Solid x) (hr : Opens rest) (hne : x ≠ [] ∨ rest = []) :
    wAt s i = i + g.length ∧ eAt s i = i + g.length + x.length ∧ s.extract i (wAt s i) = ⟨g.toArray⟩ ∧ s.extract (wAt s i) (eAt s i) = ⟨x.toArray⟩ := by
  have hw : wAt s i = i + g.length := by
    unfold wAt rowV
    rw [hd, takeWhile_app _ g (x ++ rest) (fun y hy => by rw [hg y hy]; rfl)]
    cases x with
    | nil =>
      rcases hne with h | h
      · exact absurd rfl h
      · left; rw [h]; rfl
    | cons c x =>
      right
      exact ⟨c, x ++ rest, rfl, by rw [hx c (by simp)]; rfl⟩
  have hd2 : s.data.toList.drop (i + g.length) = x ++ rest := by
    rw [← List.drop_drop, hd, List.drop_left]
  have he : eAt s i = i + g.length + x.length := by
    unfold eAt
    rw [hw]
    unfold rowV
    rw [hd2, takeWhile_app _ x rest (fun y hy => by rw [hx y hy]; rfl)]
    rcases hr with rfl | ⟨c, r, rfl, hc⟩
    · left; rfl
    · right
      exact ⟨c, r, rfl, by rw [hc]; rfl⟩
  refine ⟨hw, he, ?_, ?_⟩
  · rw [hw]
    exact ba_ext (by rw [Lib.extract_data, hd, Nat.add_sub_cancel_left, List.take_left])
  · rw [hw, he]
    exact ba_ext (by rw [Lib.extract_data, hd2, Nat.add_sub_cancel_left, List.take_left])
theorem bytesOf_mk (g : List UInt8) : bytesOf ⟨g.toArray⟩ = natsOf g := rfl
theorem dec_word (s : ByteArray) (d i : Nat) (out : List Int) (last : Bool) (g x rest p : List UInt8) (hd : s.data.toList.drop i = g ++ (x ++ rest)) (hg : Blank g) (hr : Opens rest) (hi : i < s.size) (hw : Wd ⟨x.toArray⟩ p) :
    decGo s (d + 1) i out last = decGo s d (i + g.length + x.length) ((if last = true then out else out ++ natsOf g) ++ natsOf p) true := by
  obtain ⟨c0, co, tx, hcut, hm1, hb1, hb2, hm2⟩ := hw.says
  obtain ⟨p1, p2, p3, p4⟩ := step_places s i g x rest hd hg (solid_shown hw.shown) hr (Or.inl hw.ne)
  rw [decGo, if_pos hi, p3, p4, hcut]
  simp only
  rw [if_neg (by decide), hm1, if_neg (by decide), if_neg (by omega), hb2, u8s_natsOf, hm2, if_neg (by simp), p2, bytesOf_mk, bytesOf_mk]
theorem dec_plain (s : ByteArray) (d i : Nat) (out : List Int) (last : Bool) (g x rest : List UInt8) (hd : s.data.toList.drop i = g ++ (x ++ rest)) (hg : Blank g) (hx : Solid x) (hr : Opens rest) (hne : x ≠ [] ∨ rest = []) (hi : i < s.size) (hw : (cutV ⟨x.toArray⟩).2.2.2 = false) :
    decGo s (d + 1) i out last = decGo s d (i + g.length + x.length) ((out ++ natsOf g) ++ natsOf x) false := by
  obtain ⟨p1, p2, p3, p4⟩ := step_places s i g x rest hd hg hx hr hne
  rw [decGo, if_pos hi, p3, p4, if_pos hw, p2, bytesOf_mk, bytesOf_mk]
/-- words, each behind one blank -/
def behind (ws : List ByteArray) : List UInt8 := ws.flatMap fun x => 32 :: x.data.toList
theorem behind_cons (x : ByteArray) (ws : List ByteArray) : behind (x :: ws) = 32 :: (x.data.toList ++ behind ws) := by simp [behind]
theorem behind_opens (ws : List ByteArray) (rest : List UInt8) (h : Opens rest) : Opens (behind ws ++ rest) := by
  cases ws with
  | nil => exact h
  | cons x ws =>
    rw [behind_cons]
    exact Or.inr ⟨32, _, rfl, by decide⟩
inductive Words : List ByteArray → List (List UInt8) → Prop where
  | nil : Words [] []
  | cons {x : ByteArray} {p : List UInt8} {ws : List ByteArray} {ps : List (List UInt8)} : Wd x p → Words ws ps → Words (x :: ws) (p :: ps)
theorem dec_words (s : ByteArray) (rest : List UInt8) (hr : Opens rest) : ∀ (ws : List ByteArray) (ps : List (List UInt8)), Words ws ps → ∀ (d i : Nat) (out : List Int), s.data.toList.drop i = behind ws ++ rest → s.size - i ≤ d → i ≤ s.size →
    ∃ d', s.size - (i + (behind ws).length) ≤ d' ∧ decGo s d i out true = decGo s d' (i + (behind ws).length) (out ++ natsOf ps.flatten) true
  | [], _, .nil, d, i, out, hd, hn, hi => ⟨d, by simpa [behind] using hn, by simp [behind, natsOf]⟩
  | x :: ws, p :: ps, .cons hw hws, d, i, out, hd, hn, hi => by
    have hl := congrArg List.length hd
    rw [List.length_drop, data_length, behind_cons] at hl
    simp only [List.length_append, List.length_cons] at hl
    obtain ⟨d, rfl⟩ : ∃ d', d = d' + 1 := ⟨d - 1, by omega⟩
    have hd' : s.data.toList.drop i = [32] ++ (x.data.toList ++ (behind ws ++ rest)) := by
      rw [hd, behind_cons]
      simp
    have hx : (⟨x.data.toList.toArray⟩ : ByteArray) = x := ba_ext (by simp)
    have h1 := dec_word s d i out true [32] x.data.toList (behind ws ++ rest) p hd' (fun y hy => by simp at hy; subst hy; decide) (behind_opens ws rest hr) (by omega) (hx ▸ hw)
    have hd2 : s.data.toList.drop (i + 1 + x.data.toList.length) = behind ws ++ rest := by
      rw [Nat.add_assoc, ← List.drop_drop, hd']
      rw [show 1 + x.data.toList.length = ([32] ++ x.data.toList).length by simp; omega, ← List.append_assoc, List.drop_left]
    obtain ⟨d', hd3, h2⟩ := dec_words s rest hr ws ps hws d (i + 1 + x.data.toList.length) (out ++ natsOf p) hd2 (by omega) (by omega)
    refine ⟨d', ?_, ?_⟩
    · rw [behind_cons]
      simp only [List.length_append, List.length_cons]
      omega
    · rw [h1, if_pos rfl]
      show decGo s d (i + 1 + x.data.toList.length) _ true = _
      rw [h2, behind_cons, List.flatten_cons, natsOf_app, List.append_assoc]
      congr 1
      simp only [List.length_append, List.length_cons]
      omega
theorem dec_joined (t x : ByteArray) (p : List UInt8) (ws : List ByteArray) (ps : List (List UInt8)) (hw : Wd x p) (hws : Words ws ps) (ht : t.data.toList = x.data.toList ++ behind ws) : wdecV t = (⟨(p :: ps).flatten.toArray⟩, 0, 0) := by
  have hz : t.size = x.data.toList.length + (behind ws).length := by rw [← data_length, ht, List.length_append]
  have hx0 : 0 < x.data.toList.length := List.length_pos_iff.2 hw.ne
  have hx : (⟨x.data.toList.toArray⟩ : ByteArray) = x := ba_ext (by simp)
  obtain ⟨d, hd⟩ : ∃ d, t.size = d + 1 := ⟨t.size - 1, by omega⟩
  have hop : Opens (behind ws) := by
    have := behind_opens ws [] (Or.inl rfl)
    rwa [List.append_nil] at this
  have h1 := dec_word t d 0 [] false [] x.data.toList (behind ws) p (by rw [List.drop_zero, ht]; rfl) (fun y hy => by cases hy) hop (by omega) (hx ▸ hw)
  have hd2 : t.data.toList.drop (0 + 0 + x.data.toList.length) = behind ws ++ [] := by
    rw [ht, Nat.add_zero, Nat.zero_add, List.drop_left, List.append_nil]
  obtain ⟨d', _, h2⟩ := dec_words t [] (Or.inl rfl) ws ps hws d (0 + 0 + x.data.toList.length) (natsOf p) hd2 (by omega) (by omega)
  unfold wdecV
  rw [hd, h1]
  have e : ((if false = true then ([] : List Int) else [] ++ natsOf []) ++ natsOf p) = natsOf p := by simp [natsOf]
  rw [e]
  show decGo t d (0 + 0 + x.data.toList.length) (natsOf p) true = _
  rw [h2, decGo_end _ _ _ _ _ (by omega), ← natsOf_app, str_natsOf, List.flatten_cons]
theorem join_behind (x : ByteArray) (ws : List ByteArray) : Lib.join ((x :: ws).map (·.data.toList)) [32] = x.data.toList ++ behind ws := by
  rw [List.map_cons, Lib.join_cons]
  congr 1
  unfold Lib.joinTail behind
  rw [List.map_map]
  rfl
theorem words_B : ∀ (L : List Int), (∀ r ∈ L, Good r) → ∀ (L0 : List Int), (∀ r ∈ L0, Good r) → ∃ x ws p ps, bSeg L (natsOf (encs L0)) = x :: ws ∧ Wd x p ∧ Words ws ps ∧ (p :: ps).flatten = encs L0 ++ encs L
  | [], _, L0, h0 => ⟨_, [], encs L0, [], rfl, wd_B _ (runesBad_encs L0 h0), .nil, by simp [encs]⟩
  | r :: L, hL, L0, h0 => by
    have hr := hL r (by simp)
    have hL' : ∀ x ∈ L, Good x := fun x hx => hL x (by simp [hx])
    rw [bSeg_cons, enc_natsOf]
    split
    · obtain ⟨x, ws, p, ps, e, h1, h2, h3⟩ := words_B L hL' [r] (fun x hx => by simp at hx; subst hx; exact hr)
      have e1 : encs [r] = encB r := by simp [encs]
      rw [e1] at e h3
      refine ⟨_, x :: ws, encs L0, p :: ps, by rw [e], wd_B _ (runesBad_encs L0 h0), .cons h1 h2, ?_⟩
      rw [List.flatten_cons, h3, encs_cons]
    · obtain ⟨x, ws, p, ps, e, h1, h2, h3⟩ := words_B L hL' (L0 ++ [r]) (fun x hx => by
        rcases List.mem_append.1 hx with h | h
        · exact h0 x h
        · simp at h; subst h; exact hr)
      have e1 : encs (L0 ++ [r]) = encs L0 ++ encB r := by simp [encs]
      rw [e1] at e h3
      rw [← natsOf_app]
      exact ⟨x, ws, p, ps, e, h1, h2, by rw [h3, encs_cons, List.append_assoc]⟩
theorem words_Q : ∀ (L : List Int), (∀ r ∈ L, Good r) → ∀ (L0 : List Int) (t : ByteArray), (∀ r ∈ L0, Good r) → t.data.toList = qtext L0 → ∃ x ws p ps, qSeg L t = x :: ws ∧ Wd x p ∧ Words ws ps ∧ (p :: ps).flatten = encs L0 ++ encs L
  | [], _, L0, t, h0, ht => ⟨_, [], encs L0, [], rfl, wd_Q t L0 h0 ht, .nil, by simp [encs]⟩
  | r :: L, hL, L0, t, h0, ht => by
    have hr := hL r (by simp)
    have hL' : ∀ x ∈ L, Good x := fun x hx => hL x (by simp [hx])
    rw [qSeg_cons]
    split
    · obtain ⟨x, ws, p, ps, e, h1, h2, h3⟩ := words_Q L hL' [r] (qI r) (fun x hx => by simp at hx; subst hx; exact hr) (by simp [qtext])
      have e1 : encs [r] = encB r := by simp [encs]
      rw [e1] at h3
      refine ⟨_, x :: ws, encs L0, p :: ps, by rw [e], wd_Q t L0 h0 ht, .cons h1 h2, ?_⟩
      rw [List.flatten_cons, h3, encs_cons]
    · obtain ⟨x, ws, p, ps, e, h1, h2, h3⟩ := words_Q L hL' (L0 ++ [r]) (t ++ qI r) (fun x hx => by
        rcases List.mem_append.1 hx with h | h
        · exact h0 x h
        · simp at h; subst h; exact hr) (by rw [data_app, ht]; simp [qtext])
      have e1 : encs (L0 ++ [r]) = encs L0 ++ encB r := by simp [encs]
      rw [e1] at h3
      exact ⟨x, ws, p, ps, e, h1, h2, by rw [h3, encs_cons, List.append_assoc]⟩
/-- what Encode tells of a text that is UTF-8: nothing of none; else words that say its bytes -/
theorem enc_shape (s : ByteArray) (short : Bool) (h : runesBad s.data.toList = s.size) : (s.size = 0 ∧ encV s short = (⟨#[]⟩, 0)) ∨ (0 < s.size ∧ ∃ t x ws p ps, encV s short = (t, 0) ∧ t.data.toList = x.data.toList ++ behind ws ∧ Wd x p ∧ Words ws ps ∧ (p :: ps).flatten = s.data.toList ∧ (x :: ws = bSeg (runesAt s 0) [] ∨ x :: ws = qSeg (runesAt s 0) ⟨#[]⟩)) := by
  obtain ⟨hg, hb⟩ := good_text s h
  have hd : decV s = (runesAt s 0, 0, 0) := by unfold decV; rw [h, if_neg (Nat.lt_irrefl _)]
  by_cases h0 : s.size = 0
  · left
    refine ⟨h0, ?_⟩
    unfold encV
    rw [hd, runesAt_ge s 0 (by omega)]
    rfl
  · right
    refine ⟨by omega, ?_⟩
    have hne : ¬ runesAt s 0 = [] := by rw [runesAt_lt s 0 (by omega)]; simp
    obtain ⟨x, ws, p, ps, e, w1, w2, w3⟩ := words_B (runesAt s 0) hg [] (fun r hr => by cases hr)
    obtain ⟨x', ws', p', ps', e', w1', w2', w3'⟩ := words_Q (runesAt s 0) hg [] ⟨#[]⟩ (fun r hr => by cases hr) rfl
    have e0 : natsOf (encs []) = [] := rfl
    rw [e0] at e
    rw [show encs [] ++ encs (runesAt s 0) = encs (runesAt s 0) from rfl, ← hb] at w3 w3'
    unfold encV
    rw [hd]
    simp only [ne_eq, not_true_eq_false, if_false, if_neg hne]
    split
    · exact ⟨inQV (runesAt s 0), x', ws', p', ps', rfl, by unfold inQV; rw [e']; exact join_behind x' ws', w1', w2', w3', Or.inr e'.symm⟩
    · exact ⟨inBV (runesAt s 0), x, ws, p, ps, rfl, by unfold inBV; rw [e]; exact join_behind x ws, w1, w2, w3, Or.inl e.symm⟩
theorem enc_bad (s : ByteArray) (short : Bool) (h : runesBad s.data.toList < s.size) : encV s short = (⟨#[]⟩, 50) := by
  unfold encV decV
  rw [if_pos h]
  exact if_pos (by simp)
/-- what is written is read as it was -/
theorem back_pure (s : ByteArray) (short : Bool) (h : runesBad s.data.toList = s.size) : wdecV (encV s short).1 = (s, 0, 0) := by
  rcases enc_shape s short h with ⟨h0, e⟩ | ⟨h0, t, x, ws, p, ps, e, ht, w1, w2, w3, _⟩
  · rw [e]
    have hs : s = ⟨#[]⟩ := ba_ext (List.eq_nil_of_length_eq_zero (by rw [data_length]; exact h0))
    rw [hs]
    rfl
  · rw [e, dec_joined t x p ws ps w1 w2 ht, w3]
theorem rGo_le (N : Nat) : ∀ (l : List UInt8) (i pl : Nat) (s : RS), i + l.length = N → pl ≤ N → rGo N l i pl s ≤ N
  | [], i, pl, s, _, hp => by
    rw [rGo_nil]
    split
    · exact hp
    · exact Nat.le_refl _
  | c :: r, i, pl, s, h, hp => by
    simp only [List.length_cons] at h
    have hpl : place1 s i pl ≤ N := by unfold place1; split <;> omega
    rw [rGo_cons]
    split
    · exact hpl
    · exact rGo_le N r _ _ _ (by omega) hpl
theorem runesBad_le (l : List UInt8) : runesBad l ≤ l.length := rGo_le _ l 0 0 _ (by omega) (by omega)
theorem join_size (m : Nat) (ws : List ByteArray) (h : ∀ x ∈ ws, x.size ≤ m) : ((⟨(Lib.join (ws.map (·.data.toList)) [32]).toArray⟩ : ByteArray)).size ≤ (m + 1) * ws.length := by
  have := join_words m ws h
  exact this
theorem enc_size (s : ByteArray) (short : Bool) : (encV s short).1.size ≤ 76 * (s.size + 1) := by
  have hl := (runesAt_ok s s.size 0 (by omega)).2
  have hd : (decV s).1.length ≤ s.size := by
    unfold decV
    split
    · exact Nat.zero_le _
    · simpa using hl
  have hB := join_size 72 (bSeg (decV s).1 []) (bSeg_size _ [] (by decide))
  have hQ := join_size 75 (qSeg (decV s).1 ⟨#[]⟩) (qSeg_size _ ⟨#[]⟩ (by decide))
  have lB := bSeg_len (decV s).1 []
  have lQ := qSeg_len (decV s).1 ⟨#[]⟩
  change (inBV (decV s).1).size ≤ _ at hB
  change (inQV (decV s).1).size ≤ _ at hQ
  unfold encV
  split
  · exact Nat.zero_le _
  · split
    · exact Nat.zero_le _
    · split
      · show (inQV (decV s).1).size ≤ _; omega
      · show (inBV (decV s).1).size ≤ _; omega
end Go.Proofs.YtcnhnpkbklakoaaDoor.Word
