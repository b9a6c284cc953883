/- The reference's Encode: the plain law of its Base64, its words and its rows of words. -/
import Derived.Test.YtcnhnpkbklakoaaDoorEncWrit
import Derived.Test.YtcnhnpkbklakoaaDoorBadPure
namespace Go.Proofs.YtcnhnpkbklakoaaDoor.Word
open Go.RowKit Go.Proofs.YtcnhnpkbklakoaaDoorW.PrintWords Go.Proofs.YtcnhnpkbklakoaaDoor.PWordEncodes Go.Proofs.YtcnhnpkbklakoaaDoor.Code Go.Proofs.YtcnhnpkbklakoaaDoor.Runes Go.Proofs.YtcnhnpkbklakoaaDoor.Pieces
open Go.Proofs.YtcnhnpkbklakoaaDoor.PWordDecodes (posthornref05_Write.f)
theorem rd_at (x0 u w : List Int) (v : Int) (i : Nat) (h : x0.drop i = u ++ v :: w) : rd x0 ((i + u.length : Nat) : Int) = v := by
  unfold rd
  rw [Int.toNat_natCast]
  have e : (x0.drop i)[u.length]? = some v := by
    rw [h, List.getElem?_append_right (Nat.le_refl _), Nat.sub_self]
    rfl
  rw [List.getElem?_drop] at e
  rw [List.getD_eq_getElem?_getD, e]
  rfl
theorem drop_len (x0 l : List Int) (i : Nat) (h : x0.drop i = l) (h0 : l ≠ []) : x0.length = i + l.length := by
  have e : (x0.drop i).length = l.length := by rw [h]
  rw [List.length_drop] at e
  have : 0 < l.length := List.length_pos_iff.2 h0
  omega
theorem b64_in (x0 acc : List Int) (i j : Nat) (q v : Int) (hj : j < 3) (hi : i < 1099511627776) (hq : 0 ≤ q ∧ q < 16777216) (hv : 0 ≤ v ∧ v < 256) (h : (i + j < x0.length ∧ rd x0 ((i + j : Nat) : Int) = v) ∨ (x0.length ≤ i + j ∧ v = 0)) (k : Nat) : posthornref04_Base64.l1 (k + 1) x0 acc (i : Int) q (j : Int) = posthornref04_Base64.l1 k x0 acc (i : Int) (q * 256 + v) ((j + 1 : Nat) : Int) := by
  have w1 : wrap64 ((i : Int) + (j : Int)) = ((i + j : Nat) : Int) := by
    rw [wrap_at _ (by omega) (by omega)]
    omega
  have w2 : wrap64 (q * 256) = q * 256 := by
    clear w1
    exact wrap_at _ (by omega) (by omega)
  have w3 : wrap64 ((j : Int) + 1) = ((j + 1 : Nat) : Int) := by
    clear w1 w2
    rw [wrap_at _ (by omega) (by omega)]
    omega
  have w4 : wrap64 v = v := by
    clear w1 w2 w3
    exact wrap_at _ (by omega) (by omega)
  have w5 : wrap64 (q * 256 + v) = q * 256 + v := by
    clear w1 w2 w3 w4
    exact wrap_at _ (by omega) (by omega)
  rw [posthornref04_Base64.l1, if_pos (by clear w1 w2 w3 w4 w5; omega), w1, w2, w3]
  rcases h with ⟨h1, h2⟩ | ⟨h1, h2⟩
  · rw [if_pos (by clear w1 w2 w3 w4 w5; omega), if_pos (Int.natCast_nonneg _), h2, w4, w5]
  · rw [if_neg (by clear w1 w2 w3 w4 w5; omega), h2, Int.add_zero]
theorem b64_out (x0 acc : List Int) (i : Nat) (q a b c d : Int) (hi : i < 1099511627776) (hq : 0 ≤ q ∧ q < 16777216) (ha : acc.length < 1099511627776) (k : Nat)
    (e1 : q / 262144 = a) (e2 : q / 4096 % 64 = b) (e3 : q / 64 % 64 = c) (e4 : q % 64 = d) :
    posthornref04_Base64.l1 (k + 1) x0 acc (i : Int) q 3 = posthornref04_Base64.l0 k x0 (acc ++ [bt L64 a, bt L64 b, if x0.length ≤ i + 1 then 61 else bt L64 c, if x0.length ≤ i + 2 then 61 else bt L64 d]) ((i + 3 : Nat) : Int) := by
  have h0 : 0 ≤ q := hq.1
  have d1 : Int.tdiv q 262144 = q / 262144 := Int.tdiv_eq_ediv_of_nonneg h0
  have d2 : Int.tdiv q 4096 = q / 4096 := Int.tdiv_eq_ediv_of_nonneg h0
  have d3 : Int.tdiv q 64 = q / 64 := Int.tdiv_eq_ediv_of_nonneg h0
  have d4 : Int.tmod q 64 = q % 64 := Int.tmod_eq_emod_of_nonneg h0
  have w1 : wrap64 (q / 262144) = q / 262144 := by clear d1 d2 d3 d4; exact wrap_at _ (by omega) (by omega)
  have w2 : wrap64 (q / 4096) = q / 4096 := by clear d1 d2 d3 d4 w1; exact wrap_at _ (by omega) (by omega)
  have w3 : wrap64 (q / 64) = q / 64 := by clear d1 d2 d3 d4 w1 w2; exact wrap_at _ (by omega) (by omega)
  have m2 : Int.tmod (q / 4096) 64 = q / 4096 % 64 := Int.tmod_eq_emod_of_nonneg (by clear d1 d2 d3 d4 w1 w2 w3; omega)
  have m3 : Int.tmod (q / 64) 64 = q / 64 % 64 := Int.tmod_eq_emod_of_nonneg (by clear d1 d2 d3 d4 w1 w2 w3 m2; omega)
  have v1 : wrap64 ((i : Int) + 1) = ((i + 1 : Nat) : Int) := by
    clear d1 d2 d3 d4 w1 w2 w3 m2 m3
    rw [wrap_at _ (by omega) (by omega)]
    omega
  have v2 : wrap64 ((i : Int) + 2) = ((i + 2 : Nat) : Int) := by
    clear d1 d2 d3 d4 w1 w2 w3 m2 m3 v1
    rw [wrap_at _ (by omega) (by omega)]
    omega
  have v3 : wrap64 ((i : Int) + 3) = ((i + 3 : Nat) : Int) := by
    clear d1 d2 d3 d4 w1 w2 w3 m2 m3 v1 v2
    rw [wrap_at _ (by omega) (by omega)]
    omega
  have ra : 0 ≤ a ∧ a < 64 := by clear d1 d2 d3 d4 w1 w2 w3 m2 m3 v1 v2 v3; omega
  have rb : 0 ≤ b ∧ b < 64 := by clear d1 d2 d3 d4 w1 w2 w3 m2 m3 v1 v2 v3; omega
  have rc : 0 ≤ c ∧ c < 64 := by clear d1 d2 d3 d4 w1 w2 w3 m2 m3 v1 v2 v3; omega
  have rd_ : 0 ≤ d ∧ d < 64 := by clear d1 d2 d3 d4 w1 w2 w3 m2 m3 v1 v2 v3; omega
  rw [posthornref04_Base64.l1, if_neg (by decide), d1, d2, d3, d4, w1, w2, w3, m2, m3, v1, v2, v3, e1, e2, e3, e4, if_pos ra.1, if_pos ra.2, if_pos rb.1, if_pos rb.2, if_pos rc.1, if_pos rc.2, if_pos rd_.1, if_pos rd_.2]
  clear d1 d2 d3 d4 w1 w2 w3 m2 m3 v1 v2 v3 e1 e2 e3 e4 ra rb rc rd_ hq h0
  by_cases h1 : x0.length ≤ i + 1
  · have h2 : x0.length ≤ i + 2 := by omega
    rw [if_pos h1, if_pos h2]
    show (if ((i + 1 : Nat) : Int) ≥ (x0.length : Int) then (if ((i + 2 : Nat) : Int) ≥ (x0.length : Int) then (if acc.length + 4 < 140737488355328 then posthornref04_Base64.l0 k x0 (acc ++ [bt L64 a, bt L64 b, 61, 61]) ((i + 3 : Nat) : Int) else none) else _) else _) = _
    rw [if_pos (by omega), if_pos (by omega), if_pos (by omega)]
  · rw [if_neg h1]
    by_cases h2 : x0.length ≤ i + 2
    · rw [if_pos h2]
      show (if ((i + 1 : Nat) : Int) ≥ (x0.length : Int) then _ else (if ((i + 2 : Nat) : Int) ≥ (x0.length : Int) then (if acc.length + 4 < 140737488355328 then posthornref04_Base64.l0 k x0 (acc ++ [bt L64 a, bt L64 b, bt L64 c, 61]) ((i + 3 : Nat) : Int) else none) else _)) = _
      rw [if_neg (by omega), if_pos (by omega), if_pos (by omega)]
    · rw [if_neg h2]
      show (if ((i + 1 : Nat) : Int) ≥ (x0.length : Int) then _ else (if ((i + 2 : Nat) : Int) ≥ (x0.length : Int) then _ else (if acc.length + 4 < 140737488355328 then posthornref04_Base64.l0 k x0 (acc ++ [bt L64 a, bt L64 b, bt L64 c, bt L64 d]) ((i + 3 : Nat) : Int) else none))) = _
      rw [if_neg (by omega), if_neg (by omega), if_pos (by omega)]
theorem b64_bits (a b c : Int) (ha : 0 ≤ a ∧ a < 256) (hb : 0 ≤ b ∧ b < 256) (hc : 0 ≤ c ∧ c < 256) : (0 ≤ ((0 * 256 + a) * 256 + b) * 256 + c ∧ ((0 * 256 + a) * 256 + b) * 256 + c < 16777216) ∧ (((0 * 256 + a) * 256 + b) * 256 + c) / 262144 = a / 4 ∧ (((0 * 256 + a) * 256 + b) * 256 + c) / 4096 % 64 = a % 4 * 16 + b / 16 ∧ (((0 * 256 + a) * 256 + b) * 256 + c) / 64 % 64 = b % 16 * 4 + c / 64 ∧ (((0 * 256 + a) * 256 + b) * 256 + c) % 64 = c % 64 := by
  refine ⟨⟨?_, ?_⟩, ?_, ?_, ?_, ?_⟩ <;> omega
/-- one group -/
theorem b64_group (x0 acc : List Int) (i : Nat) (a b c : Int) (hi : i < x0.length) (hl : x0.length < 1099511627000) (ha : 0 ≤ a ∧ a < 256) (hb : 0 ≤ b ∧ b < 256) (hc : 0 ≤ c ∧ c < 256) (hac : acc.length < 1099511627776)
    (ea : rd x0 ((i + 0 : Nat) : Int) = a) (eb : (i + 1 < x0.length ∧ rd x0 ((i + 1 : Nat) : Int) = b) ∨ (x0.length ≤ i + 1 ∧ b = 0)) (ec : (i + 2 < x0.length ∧ rd x0 ((i + 2 : Nat) : Int) = c) ∨ (x0.length ≤ i + 2 ∧ c = 0)) (k : Nat) :
    posthornref04_Base64.l0 (k + 5) x0 acc (i : Int) = posthornref04_Base64.l0 k x0 (acc ++ [bt L64 (a / 4), bt L64 (a % 4 * 16 + b / 16), if x0.length ≤ i + 1 then 61 else bt L64 (b % 16 * 4 + c / 64), if x0.length ≤ i + 2 then 61 else bt L64 (c % 64)]) ((i + 3 : Nat) : Int) := by
  obtain ⟨hq, e1, e2, e3, e4⟩ := b64_bits a b c ha hb hc
  rw [show k + 5 = (k + 1 + 1 + 1) + 1 + 1 from rfl, posthornref04_Base64.l0, if_pos (by omega)]
  have s0 := b64_in x0 acc i 0 0 a (by decide) (by omega) (by decide) ha (Or.inl ⟨by omega, ea⟩) (k + 1 + 1 + 1)
  have s1 := b64_in x0 acc i 1 (0 * 256 + a) b (by decide) (by omega) (by omega) hb eb (k + 1 + 1)
  have s2 := b64_in x0 acc i 2 ((0 * 256 + a) * 256 + b) c (by decide) (by omega) (by omega) hc ec (k + 1)
  have s3 := b64_out x0 acc i _ _ _ _ _ (by omega) hq hac k e1 e2 e3 e4
  exact ((s0.trans s1).trans s2).trans s3
theorem ref_b64 (x0 : List Int) (hl : x0.length < 1000000000) : ∀ (rest : List Int) (i : Nat) (acc : List Int), x0.drop i = rest → ByteL rest → acc.length ≤ 4 * i → i ≤ x0.length + 3 → ∀ k, posthornref04_Base64.l0 (5 * rest.length + 10 + k) x0 acc (i : Int) = some (strOfNums (acc ++ b64 rest))
  | [], i, acc, hd, hb, ha, hi, k => by
    have := List.drop_eq_nil_iff.1 hd
    rw [show 5 * ([] : List Int).length + 10 + k = (9 + k) + 1 from by simp; omega, posthornref04_Base64.l0, if_neg (by omega), show b64 [] = [] from rfl, List.append_nil]
  | [a], i, acc, hd, hb, ha, hi, k => by
    have hlen := drop_len _ _ _ hd (by simp)
    rw [show [a].length = 1 from rfl] at hlen
    have h := b64_group x0 acc i a 0 0 (by omega) (by omega) (hb a (by simp)) (by decide) (by decide) (by omega) (rd_at x0 [] [] a i hd) (Or.inr ⟨by omega, rfl⟩) (Or.inr ⟨by omega, rfl⟩) (10 + k)
    rw [if_pos (by omega), if_pos (by omega)] at h
    have ih := ref_b64 x0 hl [] (i + 3) (acc ++ [bt L64 (a / 4), bt L64 (a % 4 * 16 + 0 / 16), 61, 61]) (List.drop_eq_nil_of_le (by omega)) (fun x hx => by cases hx) (by simp; omega) (by omega) k
    rw [show 5 * ([] : List Int).length + 10 + k = 10 + k from by simp] at ih
    rw [show 5 * [a].length + 10 + k = 10 + k + 5 from by simp; omega, h, ih, show b64 [] = [] from rfl, List.append_nil, Int.zero_ediv, Int.add_zero]
    rfl
  | [a, b], i, acc, hd, hb, ha, hi, k => by
    have hlen := drop_len _ _ _ hd (by simp)
    rw [show [a, b].length = 2 from rfl] at hlen
    have h := b64_group x0 acc i a b 0 (by omega) (by omega) (hb a (by simp)) (hb b (by simp)) (by decide) (by omega) (rd_at x0 [] [b] a i hd) (Or.inl ⟨by omega, rd_at x0 [a] [] b i hd⟩) (Or.inr ⟨by omega, rfl⟩) (15 + k)
    rw [if_neg (by omega), if_pos (by omega)] at h
    have ih := ref_b64 x0 hl [] (i + 3) (acc ++ [bt L64 (a / 4), bt L64 (a % 4 * 16 + b / 16), bt L64 (b % 16 * 4 + 0 / 64), 61]) (List.drop_eq_nil_of_le (by omega)) (fun x hx => by cases hx) (by simp; omega) (by omega) (5 + k)
    rw [show 5 * ([] : List Int).length + 10 + (5 + k) = 15 + k from by simp; omega] at ih
    rw [show 5 * [a, b].length + 10 + k = 15 + k + 5 from by simp; omega, h, ih, show b64 [] = [] from rfl, List.append_nil, Int.zero_ediv, Int.add_zero]
    rfl
  | a :: b :: c :: r, i, acc, hd, hb, ha, hi, k => by
    have hlen := drop_len _ _ _ hd (by simp)
    rw [show (a :: b :: c :: r).length = r.length + 3 from rfl] at hlen
    have h := b64_group x0 acc i a b c (by omega) (by omega) (hb a (by simp)) (hb b (by simp)) (hb c (by simp)) (by omega) (rd_at x0 [] (b :: c :: r) a i hd) (Or.inl ⟨by omega, rd_at x0 [a] (c :: r) b i hd⟩) (Or.inl ⟨by omega, rd_at x0 [a, b] r c i hd⟩) (5 * r.length + 20 + k)
    rw [if_neg (by omega), if_neg (by omega)] at h
    have ih := ref_b64 x0 hl r (i + 3) (acc ++ [bt L64 (a / 4), bt L64 (a % 4 * 16 + b / 16), bt L64 (b % 16 * 4 + c / 64), bt L64 (c % 64)]) (by rw [← List.drop_drop, hd]; rfl) (fun x hx => hb x (by simp [hx])) (by simp; omega) (by omega) (10 + k)
    rw [show 5 * r.length + 10 + (10 + k) = 5 * r.length + 20 + k from by omega] at ih
    rw [show 5 * (a :: b :: c :: r).length + 10 + k = 5 * r.length + 20 + k + 5 from by simp only [List.length_cons]; omega, h, ih, List.append_assoc]
    rfl
theorem base64_f (p : List Int) (hb : ByteL p) (hl : p.length ≤ 100) (k : Nat) : posthornref04_Base64.f (600 + k) p = some (strOfNums (b64 p)) := by
  have h := ref_b64 p (by omega) p 0 [] rfl hb (by simp) (by omega) (590 - 5 * p.length + k)
  rw [show 5 * p.length + 10 + (590 - 5 * p.length + k) = 600 + k from by omega] at h
  exact h
theorem b64_size : ∀ l : List Int, (b64 l).length = 4 * ((l.length + 2) / 3)
  | [] => by simp [b64]
  | [a] => by simp [b64]
  | [a, b] => by simp [b64]
  | a :: b :: c :: l => by
    rw [show b64 (a :: b :: c :: l) = four a b c ++ b64 l from rfl, List.length_append, b64_size l]
    show 4 + 4 * ((l.length + 2) / 3) = 4 * ((l.length + 3 + 2) / 3)
    omega
theorem wB_size (p : List Int) : (wordB p).size = 12 + 4 * ((p.length + 2) / 3) := by
  unfold wordB
  rw [ByteArray.size_append, ByteArray.size_append, strOfNums_size, b64_size]
  show 10 + _ + 2 = _
  omega
theorem word_B (p : List Int) (hb : ByteL p) (hl : p.length ≤ 100) (k : Nat) : posthornref17_word.f (600 + k) p false = some (wordB p) := by
  unfold posthornref17_word.f
  rw [if_neg (by decide), base64_f p hb hl k]
  have h1 : (strOfNums (b64 p)).size ≤ 200 := by
    rw [strOfNums_size, b64_size]
    omega
  show (if 10 + (strOfNums (b64 p)).size ≤ 9223372036854775807 then (if (hdB ++ strOfNums (b64 p)).size + 2 ≤ 9223372036854775807 then some ((hdB ++ strOfNums (b64 p)) ++ tl) else none) else none) = _
  rw [if_pos (by omega), if_pos (by rw [ByteArray.size_append]; show 10 + _ + 2 ≤ _; omega)]
  rfl
/-- what a byte becomes in Q -/
def qB (n : Nat) : ByteArray := if n = 32 then ⟨#[95]⟩ else if n < 128 ∧ isQ n = true then ⟨#[UInt8.ofNat n]⟩ else strOfNums (eq3 (n : Int))
theorem q_all : ∀ n : Fin 256, posthornref17_q.f 3 (n.val : Int) = some (qB n.val) := by decide +kernel
theorem q_f (n : Nat) (h : n < 256) (k : Nat) : posthornref17_q.f (3 + k) (n : Int) = some (qB n) := by
  have h1 : posthornref17_q.f 3 (n : Int) = some (qB n) := q_all ⟨n, h⟩
  induction k with
  | zero => exact h1
  | succ k ih => exact posthornref17_q.mono _ (3 + k) _ ih
theorem qB_len : ∀ n : Fin 256, 1 ≤ (qB n.val).size ∧ (qB n.val).size ≤ 3 := by decide +kernel
/-- the bytes' text in Q -/
def qL (p : List Int) : List UInt8 := p.flatMap fun n => (qB n.toNat).data.toList
theorem qL_app (p r : List Int) : qL (p ++ r) = qL p ++ qL r := List.flatMap_append
theorem byte_nat {n : Int} (h : 0 ≤ n ∧ n < 256) : n = (n.toNat : Int) ∧ n.toNat < 256 := by omega
theorem qL_len : ∀ (p : List Int), ByteL p → p.length ≤ (qL p).length ∧ (qL p).length ≤ 3 * p.length
  | [], _ => by simp [qL]
  | n :: p, h => by
    obtain ⟨i1, i2⟩ := qL_len p (fun x hx => h x (by simp [hx]))
    have e : qL (n :: p) = (qB n.toNat).data.toList ++ qL p := rfl
    obtain ⟨b1, b2⟩ := qB_len ⟨n.toNat, (byte_nat (h n (by simp))).2⟩
    have e2 : (qB n.toNat).data.toList.length = (qB n.toNat).size := data_length _
    rw [e, List.length_append, e2, List.length_cons]
    simp only at b1 b2
    omega
def wordQ' (p : List Int) : ByteArray := wordQ ⟨(qL p).toArray⟩
theorem wQ_size (p : List Int) : (wordQ' p).size = 12 + (qL p).length := by
  unfold wordQ' wordQ
  rw [ByteArray.size_append, ByteArray.size_append]
  show 10 + (qL p).length + 2 = _
  omega
theorem ref_q (x0 : List Int) (hl : x0.length ≤ 100) (hb : ByteL x0) : ∀ (rest : List Int) (i : Nat) (t : ByteArray), x0.drop i = rest → i ≤ x0.length → t.size ≤ 3 * i → ∀ k, posthornref17_word.l0 (rest.length + 10 + k) t x0 (x0.length : Int) (i : Int) = some (wordQ (t ++ ⟨(qL rest).toArray⟩))
  | [], i, t, hd, hi, ht, k => by
    have := List.drop_eq_nil_iff.1 hd
    rw [show ([] : List Int).length + 10 + k = (9 + k) + 1 from by simp; omega, posthornref17_word.l0, if_neg (by omega)]
    show (if 10 + t.size ≤ 9223372036854775807 then (if (hdQ ++ t).size + 2 ≤ 9223372036854775807 then some ((hdQ ++ t) ++ tl) else none) else none) = _
    rw [if_pos (by omega), if_pos (by rw [ByteArray.size_append]; show 10 + _ + 2 ≤ _; omega)]
    have e : t ++ (⟨(qL []).toArray⟩ : ByteArray) = t := ba_ext (by rw [data_app]; simp [qL])
    rw [e]
    rfl
  | n :: rest, i, t, hd, hi, ht, k => by
    have hlen := drop_len _ _ _ hd (by simp)
    rw [List.length_cons] at hlen
    have hn : 0 ≤ n ∧ n < 256 := hb n (List.mem_of_mem_drop (show n ∈ x0.drop i by rw [hd]; simp))
    obtain ⟨e1, e2⟩ := byte_nat hn
    have e3 := rd_at x0 [] rest n i hd
    have hq := (qB_len ⟨n.toNat, e2⟩).2
    simp only at hq
    have w : wrap64 ((i : Int) + 1) = ((i + 1 : Nat) : Int) := by
      rw [wrap_at _ (by omega) (by omega)]
      omega
    rw [show (n :: rest).length + 10 + k = (rest.length + 10 + k) + 1 from by simp only [List.length_cons]; omega, posthornref17_word.l0, w]
    clear w
    rw [if_pos (by omega), if_pos (by omega), if_pos (by omega), show (i : Int) = ((i + ([] : List Int).length : Nat) : Int) from rfl, e3]
    conv => lhs; rw [e1]
    rw [show rest.length + 10 + k = 3 + (rest.length + 7 + k) from by omega, q_f n.toNat e2]
    show (if t.size + (qB n.toNat).size ≤ 9223372036854775807 then posthornref17_word.l0 (3 + (rest.length + 7 + k)) (t ++ qB n.toNat) x0 (x0.length : Int) ((i + 1 : Nat) : Int) else none) = _
    rw [if_pos (by omega), show 3 + (rest.length + 7 + k) = rest.length + 10 + k from by omega, ref_q x0 hl hb rest (i + 1) (t ++ qB n.toNat) (by rw [← List.drop_drop, hd]; rfl) (by omega) (by rw [ByteArray.size_append]; omega) k]
    have e : t ++ qB n.toNat ++ (⟨(qL rest).toArray⟩ : ByteArray) = t ++ ⟨(qL (n :: rest)).toArray⟩ := ba_ext (by
      rw [data_app, data_app, data_app, List.append_assoc]
      rfl)
    rw [e]
theorem word_Q (p : List Int) (hb : ByteL p) (hl : p.length ≤ 100) (k : Nat) : posthornref17_word.f (600 + k) p true = some (wordQ' p) := by
  unfold posthornref17_word.f
  rw [if_pos rfl]
  have h := ref_q p hl hb p 0 ⟨#[]⟩ rfl (by omega) (by decide) (590 - p.length + k)
  rw [show p.length + 10 + (590 - p.length + k) = 600 + k from by omega] at h
  have e : (⟨#[]⟩ : ByteArray) ++ (⟨(qL p).toArray⟩ : ByteArray) = ⟨(qL p).toArray⟩ := ba_ext (by rw [data_app]; simp)
  rw [e] at h
  exact h
end Go.Proofs.YtcnhnpkbklakoaaDoor.Word
