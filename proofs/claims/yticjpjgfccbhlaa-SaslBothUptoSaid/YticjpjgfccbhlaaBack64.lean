/- sasl: base64 there and back: plain. -/
import Derived.Test.YticjpjgfccbhlaaTell
namespace Go.Proofs.Yticjpjgfccbhlaa.Code
open Go.RowKit Go.Proofs.YticjpjgfccbhlaaW.PrintWords Go.Proofs.Yticjpjgfccbhlaa.PSaslBoth
set_option linter.unusedVariables false
def ByteL (l : List Int) : Prop := ∀ x ∈ l, 0 ≤ x ∧ x < 256
def u8s (l : List Int) : List UInt8 := l.map fun n => UInt8.ofNat n.toNat
theorem let_val : ∀ v : Fin 64, valV (UInt8.ofNat (bt L64 (v.val : Int)).toNat).toNat = v.val := by decide +kernel
theorem let_at (v : Int) (h0 : 0 ≤ v) (h1 : v < 64) : valV (UInt8.ofNat (bt L64 v).toNat).toNat = v := by
  obtain ⟨n, rfl⟩ := Int.eq_ofNat_of_zero_le h0
  exact let_val ⟨n, by omega⟩
theorem eq_val : valV (UInt8.ofNat (61 : Int).toNat).toNat = 64 := by decide
theorem u8_or6 (x y : Int) (h0 : 0 ≤ x) (h1 : x % 64 = 0) (h2 : x < 256) (h3 : 0 ≤ y) (h4 : y < 64) : bits .or .u8 x y = x + y := bits_join .u8 8 (by decide) wraps_u8 6 x y h0 h1 h2 h3 h4 (by omega)
theorem b0_of (a y : Int) (h : 0 ≤ a ∧ a < 256) (hy : 0 ≤ y ∧ y < 16) : b0 (a / 4) (a % 4 * 16 + y) = a := by
  unfold b0
  have e1 : a / 4 * 4 % 256 = a / 4 * 4 := by omega
  have e2 : (a % 4 * 16 + y) / 16 = a % 4 := by omega
  rw [e1, e2, u8_or2 _ _ (by omega) (by omega) (by omega) (by omega) (by omega)]
  omega
theorem b1_of (x b y : Int) (hb : 0 ≤ b ∧ b < 256) (hx : 0 ≤ x) (hy : 0 ≤ y ∧ y < 4) : b1 (x * 16 + b / 16) (b % 16 * 4 + y) = b := by
  unfold b1
  have e1 : (x * 16 + b / 16) * 16 % 256 = b / 16 * 16 := by omega
  have e2 : (b % 16 * 4 + y) / 4 = b % 16 := by omega
  rw [e1, e2, u8_or4 _ _ (by omega) (by omega) (by omega) (by omega) (by omega)]
  omega
theorem b2_of (x c : Int) (hc : 0 ≤ c ∧ c < 256) (hx : 0 ≤ x) : b2 (x * 4 + c / 64) (c % 64) = c := by
  unfold b2
  have e1 : (x * 4 + c / 64) * 64 % 256 = c / 64 * 64 := by omega
  rw [e1, u8_or6 _ _ (by omega) (by omega) (by omega) (by omega) (by omega)]
  omega
/-- a letter that goes on -/
theorem take_low (s : St) (d : List Int) (c : UInt8) (v : Int) (hv : valV c.toNat = v) (h0 : 0 ≤ v) (h1 : v < 64) (ho : s.over = false) (hn : s.n < 3) : takeV s d c.toNat = (put1 s v, d, 0) := by
  unfold takeV
  have : nextV s.q1 s.q2 s.n s.over v = 0 := by
    unfold nextV
    rw [if_neg (by omega), if_neg (by rw [ho]; decide), if_neg (by omega), if_pos (by omega)]
  rw [hv, this, if_neg (by simp), if_pos hn]
/-- the fourth letter -/
theorem take_four (s : St) (d : List Int) (c : UInt8) (v : Int) (hv : valV c.toNat = v) (h0 : 0 ≤ v) (h1 : v < 64) (ho : s.over = false) (hn : s.n = 3) (h2 : s.q2 ≠ 64) : takeV s d c.toNat = ({ s with q3 := v, n := 0, over := false }, d ++ grp s.q0 s.q1 s.q2 v, 0) := by
  unfold takeV
  have : nextV s.q1 s.q2 s.n s.over v = 0 := by
    unfold nextV
    rw [if_neg (by omega), if_neg (by rw [ho]; decide), if_neg (fun h => h2 h.2), if_pos (by omega)]
  have e : (v == 64) = false := beq_eq_false_iff_ne.2 (by omega)
  rw [hv, this, if_neg (by simp), if_neg (by omega), e]
/-- the sign = in the third place -/
theorem take_pad2 (s : St) (d : List Int) (c : UInt8) (hv : valV c.toNat = 64) (ho : s.over = false) (hn : s.n = 2) (h1 : s.q1 % 16 = 0) : takeV s d c.toNat = (put1 s 64, d, 0) := by
  unfold takeV
  have : nextV s.q1 s.q2 s.n s.over 64 = 0 := by
    unfold nextV
    rw [if_neg (by omega), if_neg (by rw [ho]; decide), if_neg (by omega), if_neg (by omega), if_neg (by omega), if_neg (by omega), if_neg (by omega)]
  rw [hv, this, if_neg (by simp), if_pos (by omega)]
/-- the sign = in the fourth place -/
theorem take_pad3 (s : St) (d : List Int) (c : UInt8) (hv : valV c.toNat = 64) (ho : s.over = false) (hn : s.n = 3) (h2 : s.q2 = 64 ∨ s.q2 % 4 = 0) : takeV s d c.toNat = ({ s with q3 := 64, n := 0, over := true }, d ++ grp s.q0 s.q1 s.q2 64, 0) := by
  unfold takeV
  have : nextV s.q1 s.q2 s.n s.over 64 = 0 := by
    unfold nextV
    rw [if_neg (by omega), if_neg (by rw [ho]; decide)]
    by_cases h : s.q2 = 64
    · rw [if_pos ⟨hn, h⟩, if_neg (by omega)]
    · rw [if_neg (fun k => h k.2), if_neg (by omega), if_neg (by omega), if_neg (by omega), if_neg (by omega)]
  rw [hv, this, if_neg (by simp), if_neg (by omega)]
  rfl
theorem unGo_step (c : UInt8) (r : List UInt8) (i : Nat) (s s' : St) (d d' : List Int) (h : takeV s d c.toNat = (s', d', 0)) : unGo (c :: r) i s d = unGo r (i + 1) s' d' := by
  rw [unGo_cons, h]
  rfl
theorem un_b64 : ∀ (P : List Int), ByteL P → ∀ (i : Nat) (s : St) (d : List Int), s.n = 0 → s.over = false → unGo (u8s (b64 P)) i s d = (d ++ P, 0, 0)
  | a :: b :: c :: l, h, i, s, d, hn, ho => by
    have ha := h a (by simp)
    have hb := h b (by simp)
    have hc := h c (by simp)
    have hl : ByteL l := fun x hx => h x (by simp [hx])
    obtain ⟨q0, q1, q2, q3, n, ov⟩ := s
    simp only at hn ho
    subst hn ho
    have e : u8s (b64 (a :: b :: c :: l)) = UInt8.ofNat (bt L64 (a / 4)).toNat :: UInt8.ofNat (bt L64 (a % 4 * 16 + b / 16)).toNat :: UInt8.ofNat (bt L64 (b % 16 * 4 + c / 64)).toNat :: UInt8.ofNat (bt L64 (c % 64)).toNat :: u8s (b64 l) := rfl
    rw [e, unGo_step _ _ _ _ ⟨a / 4, q1, q2, q3, 1, false⟩ _ _ (take_low _ d _ (a / 4) (let_at _ (by omega) (by omega)) (by omega) (by omega) rfl (show (0 : Nat) < 3 by decide))]
    rw [unGo_step _ _ _ _ ⟨a / 4, a % 4 * 16 + b / 16, q2, q3, 2, false⟩ _ _ (take_low _ d _ (a % 4 * 16 + b / 16) (let_at _ (by omega) (by omega)) (by omega) (by omega) rfl (show (1 : Nat) < 3 by decide))]
    rw [unGo_step _ _ _ _ ⟨a / 4, a % 4 * 16 + b / 16, b % 16 * 4 + c / 64, q3, 3, false⟩ _ _ (take_low _ d _ (b % 16 * 4 + c / 64) (let_at _ (by omega) (by omega)) (by omega) (by omega) rfl (show (2 : Nat) < 3 by decide))]
    rw [unGo_step _ _ _ _ _ _ _ (take_four _ d _ (c % 64) (let_at _ (by omega) (by omega)) (by omega) (by omega) rfl rfl (by show b % 16 * 4 + c / 64 ≠ 64; omega))]
    rw [un_b64 l hl _ _ _ rfl rfl]
    simp only [grp]
    rw [if_neg (by omega), if_neg (by omega), b0_of a _ ha (by omega), b1_of _ b _ hb (by omega) (by omega), b2_of _ c hc (by omega)]
    simp
  | [a, b], h, i, s, d, hn, ho => by
    have ha := h a (by simp)
    have hb := h b (by simp)
    obtain ⟨q0, q1, q2, q3, n, ov⟩ := s
    simp only at hn ho
    subst hn ho
    have e : u8s (b64 [a, b]) = [UInt8.ofNat (bt L64 (a / 4)).toNat, UInt8.ofNat (bt L64 (a % 4 * 16 + b / 16)).toNat, UInt8.ofNat (bt L64 (b % 16 * 4)).toNat, UInt8.ofNat (61 : Int).toNat] := rfl
    rw [e, unGo_step _ _ _ _ ⟨a / 4, q1, q2, q3, 1, false⟩ _ _ (take_low _ d _ (a / 4) (let_at _ (by omega) (by omega)) (by omega) (by omega) rfl (show (0 : Nat) < 3 by decide))]
    rw [unGo_step _ _ _ _ ⟨a / 4, a % 4 * 16 + b / 16, q2, q3, 2, false⟩ _ _ (take_low _ d _ (a % 4 * 16 + b / 16) (let_at _ (by omega) (by omega)) (by omega) (by omega) rfl (show (1 : Nat) < 3 by decide))]
    rw [unGo_step _ _ _ _ ⟨a / 4, a % 4 * 16 + b / 16, b % 16 * 4, q3, 3, false⟩ _ _ (take_low _ d _ (b % 16 * 4) (let_at _ (by omega) (by omega)) (by omega) (by omega) rfl (show (2 : Nat) < 3 by decide))]
    rw [unGo_step _ _ _ _ _ _ _ (take_pad3 _ d _ eq_val rfl rfl (by right; show (b % 16 * 4) % 4 = 0; omega))]
    rw [unGo_nil]
    simp only [grp]
    have := b1_of (a % 4) b 0 hb (by omega) (by omega)
    rw [Int.add_zero] at this
    rw [if_neg (by omega), b0_of a _ ha (by omega), this]
    simp
    omega
  | [a], h, i, s, d, hn, ho => by
    have ha := h a (by simp)
    obtain ⟨q0, q1, q2, q3, n, ov⟩ := s
    simp only at hn ho
    subst hn ho
    have e : u8s (b64 [a]) = [UInt8.ofNat (bt L64 (a / 4)).toNat, UInt8.ofNat (bt L64 (a % 4 * 16)).toNat, UInt8.ofNat (61 : Int).toNat, UInt8.ofNat (61 : Int).toNat] := rfl
    rw [e, unGo_step _ _ _ _ ⟨a / 4, q1, q2, q3, 1, false⟩ _ _ (take_low _ d _ (a / 4) (let_at _ (by omega) (by omega)) (by omega) (by omega) rfl (show (0 : Nat) < 3 by decide))]
    rw [unGo_step _ _ _ _ ⟨a / 4, a % 4 * 16, q2, q3, 2, false⟩ _ _ (take_low _ d _ (a % 4 * 16) (let_at _ (by omega) (by omega)) (by omega) (by omega) rfl (show (1 : Nat) < 3 by decide))]
    rw [unGo_step _ _ _ _ ⟨a / 4, a % 4 * 16, 64, q3, 3, false⟩ _ _ (take_pad2 _ d _ eq_val rfl rfl (by show (a % 4 * 16) % 16 = 0; omega))]
    rw [unGo_step _ _ _ _ _ _ _ (take_pad3 _ d _ eq_val rfl rfl (by left; rfl))]
    rw [unGo_nil]
    simp only [grp]
    have := b0_of a 0 ha (by omega)
    rw [Int.add_zero] at this
    rw [this]
    simp
  | [], h, i, s, d, hn, ho => by
    rw [show u8s (b64 []) = [] from rfl, unGo_nil, hn]
    simp
end Go.Proofs.Yticjpjgfccbhlaa.Code
