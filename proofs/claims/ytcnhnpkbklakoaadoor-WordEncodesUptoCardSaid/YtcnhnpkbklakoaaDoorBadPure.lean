/- posthornref05: Write, made, One and Bad: the plain law. -/
import Derived.Test.YtcnhnpkbklakoaaDoorRefUnb
import Derived.Test.YtcnhnpkbklakoaaDoorG5
import Derived.Test.YtcnhnpkbklakoaaDoorRefOne
/- posthornref05.Write: the UTF-8 of a rune. -/
namespace Go.Proofs.YtcnhnpkbklakoaaDoor.Word
open Go.RowKit Go.Proofs.YtcnhnpkbklakoaaDoor.PWordDecodes Go.Proofs.YtcnhnpkbklakoaaDoor.Code Go.Proofs.YtcnhnpkbklakoaaDoor.Runes Go.Proofs.YtcnhnpkbklakoaaDoor.Pieces
theorem wrap_at (n : Int) (h0 : 0 ≤ n) (h : n < 9223372036854775808) : wrap64 n = n := by
  unfold wrap64
  omega
theorem ofNat_int (n : Nat) : ((UInt8.ofNat n).toNat : Int) = (n : Int) % 256 := by
  rw [UInt8.toNat_ofNat']
  omega
theorem wrap_small (k n : Int) (hk : 0 ≤ k ∧ k ≤ 255) (h0 : 0 ≤ n) (h : n ≤ 1114111) : wrap64 (k + n) = k + n := wrap_at _ (by omega) (by omega)
theorem write_wraps (c : Nat) (h : c ≤ 1114111) : wrap64 (192 + (c : Int) / 64) = 192 + (c : Int) / 64 ∧ wrap64 (128 + (c : Int) % 64) = 128 + (c : Int) % 64 ∧ wrap64 (224 + (c : Int) / 4096) = 224 + (c : Int) / 4096 ∧ wrap64 (128 + (c : Int) / 64 % 64) = 128 + (c : Int) / 64 % 64 ∧ wrap64 (240 + (c : Int) / 262144) = 240 + (c : Int) / 262144 ∧ wrap64 (128 + (c : Int) / 4096 % 64) = 128 + (c : Int) / 4096 % 64 := by
  refine ⟨wrap_small _ _ (by decide) ?_ ?_, wrap_small _ _ (by decide) ?_ ?_, wrap_small _ _ (by decide) ?_ ?_, wrap_small _ _ (by decide) ?_ ?_, wrap_small _ _ (by decide) ?_ ?_, wrap_small _ _ (by decide) ?_ ?_⟩ <;> omega
theorem write_plain (c : Nat) (h : c ≤ 1114111) : posthornref05_Write.f (c : Int) = if (c : Int) < 128 then some [(c : Int) % 256] else if (c : Int) < 2048 then some [(192 + (c : Int) / 64) % 256, (128 + (c : Int) % 64) % 256] else if (c : Int) < 65536 then some [(224 + (c : Int) / 4096) % 256, (128 + (c : Int) / 64 % 64) % 256, (128 + (c : Int) % 64) % 256] else some [(240 + (c : Int) / 262144) % 256, (128 + (c : Int) / 4096 % 64) % 256, (128 + (c : Int) / 64 % 64) % 256, (128 + (c : Int) % 64) % 256] := by
  have h0 : (0 : Int) ≤ (c : Int) := Int.natCast_nonneg c
  have hc : (c : Int) ≤ 1114111 := by omega
  have w0 : wrap64 (c : Int) = c := wrap_at _ h0 (by omega)
  have d1 : Int.tdiv (c : Int) 64 = (c : Int) / 64 := Int.tdiv_eq_ediv_of_nonneg h0
  have m1 : Int.tmod (c : Int) 64 = (c : Int) % 64 := Int.tmod_eq_emod_of_nonneg h0
  have d2 : Int.tdiv (c : Int) 4096 = (c : Int) / 4096 := Int.tdiv_eq_ediv_of_nonneg h0
  have d3 : Int.tdiv (c : Int) 262144 = (c : Int) / 262144 := Int.tdiv_eq_ediv_of_nonneg h0
  have v1 : wrap64 ((c : Int) / 64) = (c : Int) / 64 := by clear w0 d1 m1 d2 d3; exact wrap_at _ (by omega) (by omega)
  have v2 : wrap64 ((c : Int) / 4096) = (c : Int) / 4096 := by clear w0 d1 m1 d2 d3 v1; exact wrap_at _ (by omega) (by omega)
  have v3 : wrap64 ((c : Int) / 262144) = (c : Int) / 262144 := by clear w0 d1 m1 d2 d3 v1 v2; exact wrap_at _ (by omega) (by omega)
  have e1 : Int.tmod ((c : Int) / 64) 64 = (c : Int) / 64 % 64 := Int.tmod_eq_emod_of_nonneg (by clear w0 d1 m1 d2 d3 v1 v2 v3; omega)
  have e2 : Int.tmod ((c : Int) / 4096) 64 = (c : Int) / 4096 % 64 := Int.tmod_eq_emod_of_nonneg (by clear w0 d1 m1 d2 d3 v1 v2 v3 e1; omega)
  obtain ⟨b1, b2, b3, b4, b5, b6⟩ := write_wraps c h
  unfold posthornref05_Write.f
  rw [w0, d1, m1, d2, d3, v1, v2, v3, e1, e2, b1, b2, b3, b4, b5, b6]
theorem write_enc (c : Nat) (h : c < 55296 ∨ (57344 ≤ c ∧ c ≤ 1114111)) : posthornref05_Write.f (c : Int) = some (natsOf (encB (c : Int))) := by
  rw [write_plain c (by omega)]
  by_cases h1 : c < 128
  · rw [if_pos (by omega), encB_one c h1]
    simp only [natsOf, List.map_cons, List.map_nil, ofNat_int]
  · rw [if_neg (by omega)]
    by_cases h2 : c < 2048
    · rw [if_pos (by omega), encB_two c (by omega) h2]
      simp only [natsOf, List.map_cons, List.map_nil, ofNat_int, Int.natCast_add, Int.natCast_ediv, Int.natCast_emod]
      rfl
    · rw [if_neg (by omega)]
      by_cases h3 : c < 65536
      · rw [if_pos (by omega), encB_three c (by omega) h3 (by omega)]
        simp only [natsOf, List.map_cons, List.map_nil, ofNat_int, Int.natCast_add, Int.natCast_ediv, Int.natCast_emod]
        rfl
      · rw [if_neg (by omega), encB_four c (by omega) (by omega)]
        simp only [natsOf, List.map_cons, List.map_nil, ofNat_int, Int.natCast_add, Int.natCast_ediv, Int.natCast_emod]
        rfl
end Go.Proofs.YtcnhnpkbklakoaaDoor.Word
/- posthornref05: made, One and Bad: the plain law. -/
namespace Go.Proofs.YtcnhnpkbklakoaaDoor.Word
open Go.RowKit Go.Proofs.YtcnhnpkbklakoaaDoorW.PrintWords Go.Proofs.YtcnhnpkbklakoaaDoor.PWordDecodes Go.Proofs.YtcnhnpkbklakoaaDoor.Code Go.Proofs.YtcnhnpkbklakoaaDoor.Runes Go.Proofs.YtcnhnpkbklakoaaDoor.Pieces
theorem good_is (x : Int) : posthornref05_Is.f x = some (Utf8.valid x) := by
  by_cases hg : Utf8.valid x = true
  · have h1 := (good_iff x).1 hg
    rw [hg]
    unfold posthornref05_Is.f
    rw [if_pos (by omega), if_pos (by omega)]
    by_cases h2 : x < 55296
    · rw [if_pos h2]
    · rw [if_neg h2, decide_eq_true (by omega)]
  · have h1 : ¬ ((0 ≤ x ∧ x < 55296) ∨ (57344 ≤ x ∧ x ≤ 1114111)) := fun h => hg ((good_iff x).2 h)
    rw [Bool.not_eq_true] at hg
    rw [hg]
    unfold posthornref05_Is.f
    by_cases h2 : x ≥ 0
    · rw [if_pos h2]
      by_cases h3 : x ≤ 1114111
      · rw [if_pos h3, if_neg (by omega), decide_eq_false (by omega)]
      · rw [if_neg h3]
    · rw [if_neg h2]
/-- the end of made -/
def madeEnd (b : List Int) (x : Int) : Option (Int × Bool) := (posthornref05_Is.f x).bind fun t217 => (if t217 = true then ((posthornref05_Write.f (wrap32 (x))).bind fun t218 => (some (wrap32 (x), ((strOfNums t218).toList == (strOfNums b).toList)))) else (some (wrap32 (x), false)))
def okq (q : List UInt8) (x : Int) : Bool := Utf8.valid x && (encB x == q)
theorem madeEnd_eq (q : List UInt8) (x : Int) : madeEnd (natsOf q) x = some (wrap32 x, okq q x) := by
  unfold madeEnd okq
  rw [good_is]
  show (if Utf8.valid x = true then _ else _) = _
  by_cases hg : Utf8.valid x = true
  · have h1 := (good_iff x).1 hg
    obtain ⟨c, rfl⟩ : ∃ c : Nat, x = (c : Int) := ⟨x.toNat, by omega⟩
    have w : wrap32 (c : Int) = c := by
      unfold wrap32
      omega
    rw [if_pos hg, w, write_enc c (by omega), hg]
    show some ((c : Int), ((strOfNums (natsOf (encB c))).toList == (strOfNums (natsOf q)).toList)) = some ((c : Int), (true && (encB c == q)))
    rw [str_natsOf, str_natsOf, Lib.toList_data, Lib.toList_data, Bool.true_and]
  · rw [if_neg hg]
    rw [Bool.not_eq_true] at hg
    rw [hg]
    rfl
theorem made_step (b r : List Int) (k : Nat) (x i d : Int) (hd : rd r i = d) (h0 : 0 ≤ i) (h1 : i < (r.length : Int)) (hl : (r.length : Int) < 1000) (hx : -100000000 ≤ x ∧ x ≤ 100000000) (hb : 0 ≤ d ∧ d ≤ 255) : posthornref05_made.l0 (k + 1) b x r (r.length : Int) i = posthornref05_made.l0 k b (64 * x + d - 128) r (r.length : Int) (i + 1) := by
  have w1 : wrap64 (64 * x) = 64 * x := by
    unfold wrap64
    omega
  have w2 : wrap64 d = d := by
    clear w1
    unfold wrap64
    omega
  have w3 : wrap64 (64 * x + d) = 64 * x + d := by
    clear w1 w2
    unfold wrap64
    omega
  have w4 : wrap64 (64 * x + d - 128) = 64 * x + d - 128 := by
    clear w1 w2 w3
    unfold wrap64
    omega
  have w5 : wrap64 (i + 1) = i + 1 := by
    clear w1 w2 w3 w4
    unfold wrap64
    omega
  rw [posthornref05_made.l0, if_pos h1, if_pos h0, if_pos h1, hd, w1, w2, w3, w4, w5]
theorem made_stop (b r : List Int) (k : Nat) (x i : Int) (h1 : i = (r.length : Int)) : posthornref05_made.l0 (k + 1) b x r (r.length : Int) i = madeEnd b x := by
  rw [posthornref05_made.l0, if_neg (by omega)]
  rfl
/-- the value of a piece -/
def valQ : List UInt8 → Int
  | [a] => (a.toNat : Int)
  | [a, b] => 64 * ((a.toNat : Int) - 192) + (b.toNat : Int) - 128
  | [a, b, c] => 64 * (64 * ((a.toNat : Int) - 224) + (b.toNat : Int) - 128) + (c.toNat : Int) - 128
  | [a, b, c, d] => 64 * (64 * (64 * ((a.toNat : Int) - 240) + (b.toNat : Int) - 128) + (c.toNat : Int) - 128) + (d.toNat : Int) - 128
  | _ => 0
theorem byte_lt (a : UInt8) : 0 ≤ (a.toNat : Int) ∧ (a.toNat : Int) ≤ 255 := by
  have := a.toNat_lt
  omega
theorem made_in (a : UInt8) (r : List UInt8) (ld : Int) (hl : posthornref05_lead.f ((natsOf (a :: r)).length : Int) = some ld) (k : Nat) : posthornref05_made.f k (natsOf (a :: r)) = posthornref05_made.l0 k (natsOf (a :: r)) (wrap64 (wrap64 (a.toNat : Int) - ld)) (natsOf r) ((natsOf r).length : Int) 0 := by
  have h : 0 < ((natsOf (a :: r)).length : Int) := by
    rw [natsOf, List.map_cons, List.length_cons]
    omega
  unfold posthornref05_made.f
  rw [if_pos h, hl]
  show (if 1 ≤ ((natsOf (a :: r)).length : Int) then posthornref05_made.l0 k (natsOf (a :: r)) (wrap64 ((wrap64 (rd (natsOf (a :: r)) 0)) - ld)) ((natsOf (a :: r)).drop 1) (((natsOf (a :: r)).drop 1).length : Int) 0 else none) = _
  rw [if_pos (by omega)]
  rfl
theorem sub_wrap (a : UInt8) (n : Int) (h : 0 ≤ n ∧ n ≤ 255) : wrap64 (wrap64 (a.toNat : Int) - n) = (a.toNat : Int) - n := by
  have ha := byte_lt a
  rw [wrap_at (a.toNat : Int) (by omega) (by omega)]
  unfold wrap64
  omega
theorem made_1 (a : UInt8) (k : Nat) : posthornref05_made.f (k + 4) (natsOf [a]) = some (wrap32 (valQ [a]), okq [a] (valQ [a])) := by
  have ha := byte_lt a
  rw [made_in a [] 0 rfl, sub_wrap _ _ (by decide)]
  rw [made_stop (natsOf [a]) (natsOf []) (k + 3) _ 0 rfl, madeEnd_eq]
  rw [Int.sub_zero]
  rfl
theorem made_2 (a b : UInt8) (k : Nat) : posthornref05_made.f (k + 4) (natsOf [a, b]) = some (wrap32 (valQ [a, b]), okq [a, b] (valQ [a, b])) := by
  have ha := byte_lt a
  have hb := byte_lt b
  rw [made_in a [b] 192 rfl, sub_wrap _ _ (by decide)]
  rw [made_step (natsOf [a, b]) (natsOf [b]) (k + 3) _ 0 (b.toNat : Int) rfl (by decide) (by show (0 : Int) < 1; decide) (by show (1 : Int) < 1000; decide) (by omega) hb]
  rw [show (0 : Int) + 1 = 1 from rfl]
  rw [made_stop (natsOf [a, b]) (natsOf [b]) (k + 2) _ 1 rfl, madeEnd_eq]
  rfl
theorem made_3 (a b c : UInt8) (k : Nat) : posthornref05_made.f (k + 4) (natsOf [a, b, c]) = some (wrap32 (valQ [a, b, c]), okq [a, b, c] (valQ [a, b, c])) := by
  have ha := byte_lt a
  have hb := byte_lt b
  have hc := byte_lt c
  rw [made_in a [b, c] 224 rfl, sub_wrap _ _ (by decide)]
  rw [made_step (natsOf [a, b, c]) (natsOf [b, c]) (k + 3) _ 0 (b.toNat : Int) rfl (by decide) (by show (0 : Int) < 2; decide) (by show (2 : Int) < 1000; decide) (by omega) hb]
  rw [show (0 : Int) + 1 = 1 from rfl]
  rw [made_step (natsOf [a, b, c]) (natsOf [b, c]) (k + 2) _ 1 (c.toNat : Int) rfl (by decide) (by show (1 : Int) < 2; decide) (by show (2 : Int) < 1000; decide) (by omega) hc]
  rw [show (1 : Int) + 1 = 2 from rfl]
  rw [made_stop (natsOf [a, b, c]) (natsOf [b, c]) (k + 1) _ 2 rfl, madeEnd_eq]
  rfl
theorem made_4 (a b c d : UInt8) (k : Nat) : posthornref05_made.f (k + 4) (natsOf [a, b, c, d]) = some (wrap32 (valQ [a, b, c, d]), okq [a, b, c, d] (valQ [a, b, c, d])) := by
  have ha := byte_lt a
  have hb := byte_lt b
  have hc := byte_lt c
  have hd := byte_lt d
  rw [made_in a [b, c, d] 240 rfl, sub_wrap _ _ (by decide)]
  rw [made_step (natsOf [a, b, c, d]) (natsOf [b, c, d]) (k + 3) _ 0 (b.toNat : Int) rfl (by decide) (by show (0 : Int) < 3; decide) (by show (3 : Int) < 1000; decide) (by omega) hb]
  rw [show (0 : Int) + 1 = 1 from rfl]
  rw [made_step (natsOf [a, b, c, d]) (natsOf [b, c, d]) (k + 2) _ 1 (c.toNat : Int) rfl (by decide) (by show (1 : Int) < 3; decide) (by show (3 : Int) < 1000; decide) (by omega) hc]
  rw [show (1 : Int) + 1 = 2 from rfl]
  rw [made_step (natsOf [a, b, c, d]) (natsOf [b, c, d]) (k + 1) _ 2 (d.toNat : Int) rfl (by decide) (by show (2 : Int) < 3; decide) (by show (3 : Int) < 1000; decide) (by omega) hd]
  rw [show (2 : Int) + 1 = 3 from rfl]
  rw [made_stop (natsOf [a, b, c, d]) (natsOf [b, c, d]) (k + 0) _ 3 rfl, madeEnd_eq]
  rfl
theorem made_f (q : List UInt8) (h0 : 1 ≤ q.length) (h1 : q.length ≤ 4) (k : Nat) : posthornref05_made.f (k + 4) (natsOf q) = some (wrap32 (valQ q), okq q (valQ q)) := by
  match q, h0, h1 with
  | [a], _, _ => exact made_1 a k
  | [a, b], _, _ => exact made_2 a b k
  | [a, b, c], _, _ => exact made_3 a b c k
  | [a, b, c, d], _, _ => exact made_4 a b c d k
theorem ofNat_lt (n : Nat) (h : n < 256) : ((UInt8.ofNat n).toNat : Int) = (n : Int) := byte_ofNat n h
theorem val_enc (c : Nat) (h : c < 55296 ∨ (57344 ≤ c ∧ c ≤ 1114111)) : valQ (encB (c : Int)) = c := by
  by_cases h1 : c < 128
  · rw [encB_one c h1]
    exact byte_ofNat c (by omega)
  · by_cases h2 : c < 2048
    · rw [encB_two c (by omega) h2]
      show 64 * (((UInt8.ofNat (192 + c / 64)).toNat : Int) - 192) + ((UInt8.ofNat (128 + c % 64)).toNat : Int) - 128 = c
      rw [byte_ofNat _ (by omega), byte_ofNat _ (by omega)]
      omega
    · by_cases h3 : c < 65536
      · rw [encB_three c (by omega) h3 (by omega)]
        show 64 * (64 * (((UInt8.ofNat (224 + c / 4096)).toNat : Int) - 224) + ((UInt8.ofNat (128 + c / 64 % 64)).toNat : Int) - 128) + ((UInt8.ofNat (128 + c % 64)).toNat : Int) - 128 = c
        rw [byte_ofNat _ (by omega), byte_ofNat _ (by omega), byte_ofNat _ (by omega)]
        omega
      · rw [encB_four c (by omega) (by omega)]
        show 64 * (64 * (64 * (((UInt8.ofNat (240 + c / 262144)).toNat : Int) - 240) + ((UInt8.ofNat (128 + c / 4096 % 64)).toNat : Int) - 128) + ((UInt8.ofNat (128 + c / 64 % 64)).toNat : Int) - 128) + ((UInt8.ofNat (128 + c % 64)).toNat : Int) - 128 = c
        rw [byte_ofNat _ (by omega), byte_ofNat _ (by omega), byte_ofNat _ (by omega), byte_ofNat _ (by omega)]
        omega
theorem good_cast {r : Int} (h : Good r) : ∃ c : Nat, r = (c : Int) ∧ (c < 55296 ∨ (57344 ≤ c ∧ c ≤ 1114111)) := by
  have := (good_iff r).1 h
  exact ⟨r.toNat, by omega, by omega⟩
theorem okq_enc (r : Int) (h : Good r) : okq (encB r) (valQ (encB r)) = true := by
  obtain ⟨c, rfl, hc⟩ := good_cast h
  rw [val_enc c hc]
  unfold okq
  rw [show Utf8.valid (c : Int) = true from h]
  simp
theorem okq_good {q : List UInt8} {x : Int} (h : okq q x = true) : Good x ∧ encB x = q := by
  unfold okq at h
  rw [Bool.and_eq_true] at h
  exact ⟨h.1, eq_of_beq h.2⟩
/-- how many bytes a rune with this first byte has -/
def lenB (a : UInt8) : Nat := if a.toNat < 128 then 1 else if a.toNat < 224 then 2 else if a.toNat < 240 then 3 else 4
theorem enc_head (r : Int) (h : Good r) : ∃ a t, encB r = a :: t ∧ (encB r).length = lenB a ∧ 1 ≤ (encB r).length ∧ (encB r).length ≤ 4 := by
  obtain ⟨c, rfl, hc⟩ := good_cast h
  by_cases h1 : c < 128
  · refine ⟨UInt8.ofNat c, [], encB_one c h1, ?_⟩
    rw [encB_one c h1, lenB, nat_byte _ (by omega), if_pos h1]
    exact ⟨rfl, by simp, by simp⟩
  · by_cases h2 : c < 2048
    · refine ⟨_, _, encB_two c (by omega) h2, ?_⟩
      rw [encB_two c (by omega) h2, lenB, nat_byte _ (by omega), if_neg (by omega), if_pos (by omega)]
      exact ⟨rfl, by simp, by simp⟩
    · by_cases h3 : c < 65536
      · refine ⟨_, _, encB_three c (by omega) h3 (by omega), ?_⟩
        rw [encB_three c (by omega) h3 (by omega), lenB, nat_byte _ (by omega), if_neg (by omega), if_neg (by omega), if_pos (by omega)]
        exact ⟨rfl, by simp, by simp⟩
      · refine ⟨_, _, encB_four c (by omega) (by omega), ?_⟩
        rw [encB_four c (by omega) (by omega), lenB, nat_byte _ (by omega), if_neg (by omega), if_neg (by omega), if_neg (by omega)]
        exact ⟨rfl, by simp, by simp⟩
/-- One by lists: how many bytes the first rune has; 0: none -/
def oneFrom (l : List UInt8) : Nat → Nat → Nat
  | 0, _ => 0
  | f + 1, n => if n ≤ l.length then (if okq (l.take n) (valQ (l.take n)) = true then n else oneFrom l f (n + 1)) else 0
def oneQ (l : List UInt8) : Nat := oneFrom l 4 1
theorem one_from (l : List UInt8) : ∀ (f n : Nat), n + f ≤ 5 → 1 ≤ n → oneFrom l f n = 0 ∨ (n ≤ oneFrom l f n ∧ oneFrom l f n ≤ 4 ∧ oneFrom l f n ≤ l.length ∧ okq (l.take (oneFrom l f n)) (valQ (l.take (oneFrom l f n))) = true)
  | 0, _, _, _ => Or.inl rfl
  | f + 1, n, h, h1 => by
    rw [oneFrom]
    by_cases h2 : n ≤ l.length
    · rw [if_pos h2]
      by_cases h3 : okq (l.take n) (valQ (l.take n)) = true
      · rw [if_pos h3]
        exact Or.inr ⟨Nat.le_refl _, by omega, h2, h3⟩
      · rw [if_neg h3]
        rcases one_from l f (n + 1) (by omega) (by omega) with h4 | ⟨h4, h5, h6, h7⟩
        · exact Or.inl h4
        · exact Or.inr ⟨by omega, h5, h6, h7⟩
    · rw [if_neg h2]
      exact Or.inl rfl
theorem one_q (l : List UInt8) (h : oneQ l ≠ 0) : 1 ≤ oneQ l ∧ oneQ l ≤ 4 ∧ oneQ l ≤ l.length ∧ ∃ r, Good r ∧ l.take (oneQ l) = encB r := by
  rcases one_from l 4 1 (by omega) (by omega) with h4 | ⟨h4, h5, h6, h7⟩
  · exact absurd h4 h
  · exact ⟨h4, h5, h6, _, (okq_good h7).1, (okq_good h7).2.symm⟩
theorem from_enc (r : Int) (hg : Good r) (t : List UInt8) : ∀ (f n : Nat), n + f = 5 → 1 ≤ n → n ≤ (encB r).length → oneFrom (encB r ++ t) f n = (encB r).length
  | 0, n, h, h1, h2 => by
    obtain ⟨_, _, _, _, _, h4⟩ := enc_head r hg
    omega
  | f + 1, n, h, h1, h2 => by
    rw [oneFrom, if_pos (by rw [List.length_append]; omega)]
    by_cases h3 : okq ((encB r ++ t).take n) (valQ ((encB r ++ t).take n)) = true
    · rw [if_pos h3]
      obtain ⟨g1, g2⟩ := okq_good h3
      generalize hx : valQ ((encB r ++ t).take n) = x at g1 g2
      obtain ⟨a, u, e1, e2, e3, e4⟩ := enc_head r hg
      obtain ⟨a', u', e1', e2', e3', e4'⟩ := enc_head x g1
      obtain ⟨m, rfl⟩ : ∃ m, n = m + 1 := ⟨n - 1, by omega⟩
      rw [e1', e1, List.cons_append, List.take_succ_cons] at g2
      injection g2 with ha hu
      have hl : (encB x).length = (encB r).length := by rw [e2, e2', ha]
      have : u'.length + 1 = (encB x).length := by rw [e1']; rfl
      have hu2 : u'.length = min m (u ++ t).length := by rw [hu, List.length_take]
      have hr2 : u.length + 1 = (encB r).length := by rw [e1]; rfl
      rw [List.length_append] at hu2
      omega
    · rw [if_neg h3]
      by_cases h5 : n = (encB r).length
      · exfalso
        apply h3
        rw [h5, List.take_left' rfl]
        exact okq_enc r hg
      · exact from_enc r hg t f (n + 1) (by omega) (by omega) (by omega)
theorem q_enc (r : Int) (hg : Good r) (t : List UInt8) : oneQ (encB r ++ t) = (encB r).length := by
  obtain ⟨_, _, _, _, e3, _⟩ := enc_head r hg
  exact from_enc r hg t 4 1 (by omega) (by omega) e3
theorem natsOf_take (b : List UInt8) (n : Nat) : (natsOf b).take n = natsOf (b.take n) := by simp [natsOf]
theorem natsOf_drop (b : List UInt8) (n : Nat) : (natsOf b).drop n = natsOf (b.drop n) := by simp [natsOf]
theorem natsOf_len (b : List UInt8) : (natsOf b).length = b.length := by simp [natsOf]
theorem one_loop (b : List UInt8) (at_ : Nat) (h : at_ ≤ b.length) (hb : b.length < 1099511627776) (k : Nat) : ∀ (f n : Nat), n + f = 5 → 1 ≤ n → ∃ r, posthornref05_One.l0 (2 * f + 6 + k) (natsOf b) (at_ : Int) (n : Int) = some (r, (oneFrom (b.drop at_) f n : Int))
  | 0, n, h1, h2 => by
    refine ⟨0, ?_⟩
    show posthornref05_One.l0 (2 * 0 + 6 + k) (natsOf b) (at_ : Int) (n : Int) = some ((0 : Int), (0 : Int))
    rw [show 2 * 0 + 6 + k = (k + 4) + 1 + 1 from by omega, posthornref05_One.l0, if_neg (by omega), posthornref05_One.j1, if_neg (by decide)]
  | f + 1, n, h1, h2 => by
    have w1 : wrap64 ((at_ : Int) + (n : Int)) = ((at_ + n : Nat) : Int) := by
      rw [wrap_at _ (by omega) (by omega)]
      omega
    have hl : ((natsOf b).length : Int) = (b.length : Int) := by rw [natsOf_len]
    rw [show 2 * (f + 1) + 6 + k = (2 * f + 6 + k) + 1 + 1 from by omega, posthornref05_One.l0, if_pos (by clear w1; omega), w1, hl, posthornref05_One.j1, oneFrom]
    clear w1
    by_cases h3 : at_ + n ≤ b.length
    · rw [if_pos (decide_eq_true (by omega)), if_pos (by omega)]
      have w1 : wrap64 ((at_ : Int) + (n : Int)) = ((at_ + n : Nat) : Int) := by
        rw [wrap_at _ (by omega) (by omega)]
        omega
      rw [w1, hl]
      clear w1
      rw [if_pos (by omega), if_pos (by omega), Int.toNat_natCast, Int.toNat_natCast, natsOf_take, natsOf_drop, List.drop_take, show at_ + n - at_ = n from by omega]
      have hq : (List.take n (b.drop at_)).length = n := by
        rw [List.length_take, List.length_drop]
        omega
      rw [show 2 * f + 6 + k = (2 * f + 2 + k) + 4 from by omega, made_f _ (by omega) (by omega), if_pos (by rw [List.length_drop]; omega)]
      show ∃ r, (if okq (List.take n (b.drop at_)) (valQ (List.take n (b.drop at_))) = true then some (wrap32 (valQ (List.take n (b.drop at_))), (n : Int)) else _) = _
      by_cases h4 : okq (List.take n (b.drop at_)) (valQ (List.take n (b.drop at_))) = true
      · rw [if_pos h4, if_pos h4]
        exact ⟨_, rfl⟩
      · rw [if_neg h4, if_neg h4, wrap_at _ (by omega) (by omega)]
        obtain ⟨r, hr⟩ := one_loop b at_ h hb k f (n + 1) (by omega) (by omega)
        exact ⟨r, by rw [← hr, show 2 * f + 2 + k + 4 = 2 * f + 6 + k from by omega]; rfl⟩
    · rw [if_neg (by rw [decide_eq_true_eq]; omega), if_neg (by rw [List.length_drop]; omega)]
      exact ⟨0, rfl⟩
theorem one_f (b : List UInt8) (at_ : Nat) (h : at_ ≤ b.length) (hb : b.length < 1099511627776) (k : Nat) : ∃ r, posthornref05_One.f (14 + k) (natsOf b) (at_ : Int) = some (r, (oneQ (b.drop at_) : Int)) :=
  one_loop b at_ h hb k 4 1 (by omega) (by omega)
theorem encs_nil : encs [] = [] := rfl
theorem bad_loop (b : List UInt8) (hb : b.length < 1099511627776) : ∀ (m at_ : Nat), at_ ≤ b.length → b.length - at_ ≤ m → ∃ n : Nat, posthornref05_Bad.l0 (14 + m + 1) (natsOf b) (at_ : Int) = some (n : Int) ∧ at_ ≤ n ∧ n ≤ b.length ∧ (n = b.length ↔ ∃ L, (∀ r ∈ L, Good r) ∧ b.drop at_ = encs L) := by
  intro m
  induction m with
  | zero =>
    intro at_ h1 h2
    obtain ⟨r, hr⟩ := one_f b at_ h1 hb 0
    have hd : b.drop at_ = [] := List.drop_eq_nil_of_le (by omega)
    rw [hd] at hr
    refine ⟨at_, ?_, Nat.le_refl _, h1, ?_⟩
    · rw [posthornref05_Bad.l0, hr]
      rfl
    · rw [hd]
      exact ⟨fun _ => ⟨[], by simp, rfl⟩, fun _ => by omega⟩
  | succ m ih =>
    intro at_ h1 h2
    obtain ⟨r, hr⟩ := one_f b at_ h1 hb (m + 1)
    rw [posthornref05_Bad.l0, hr]
    show ∃ n : Nat, (if (oneQ (b.drop at_) : Int) = 0 then some (at_ : Int) else posthornref05_Bad.l0 (14 + (m + 1)) (natsOf b) (wrap64 ((at_ : Int) + (oneQ (b.drop at_) : Int)))) = some (n : Int) ∧ _
    by_cases h3 : oneQ (b.drop at_) = 0
    · rw [if_pos (by omega)]
      refine ⟨at_, rfl, Nat.le_refl _, h1, ⟨fun h => ⟨[], by simp, by rw [List.drop_eq_nil_of_le (by omega)]; rfl⟩, ?_⟩⟩
      rintro ⟨L, hL, he⟩
      cases L with
      | nil =>
        have : (b.drop at_).length = 0 := by rw [he]; rfl
        rw [List.length_drop] at this
        omega
      | cons x L =>
        exfalso
        rw [he, encs_cons, q_enc x (hL x (List.mem_cons_self ..))] at h3
        obtain ⟨_, _, _, _, e3, _⟩ := enc_head x (hL x (List.mem_cons_self ..))
        omega
    · obtain ⟨g1, g2, g3, x, g4, g5⟩ := one_q _ h3
      rw [List.length_drop] at g3
      rw [if_neg (by omega), wrap_at _ (by omega) (by omega)]
      obtain ⟨n, i1, i2, i3, i4⟩ := ih (at_ + oneQ (b.drop at_)) (by omega) (by omega)
      refine ⟨n, ?_, by omega, i3, ?_⟩
      · rw [← i1]
        rfl
      · rw [i4, ← List.drop_drop]
        constructor
        · rintro ⟨L, hL, he⟩
          refine ⟨x :: L, ?_, ?_⟩
          · intro y hy
            rcases List.mem_cons.1 hy with rfl | hy
            · exact g4
            · exact hL y hy
          · rw [encs_cons, ← g5, ← he, List.take_append_drop]
        · rintro ⟨L, hL, he⟩
          cases L with
          | nil =>
            exfalso
            have : (b.drop at_).length = 0 := by rw [he]; rfl
            rw [List.length_drop] at this
            omega
          | cons y L =>
            refine ⟨L, fun z hz => hL z (List.mem_cons_of_mem _ hz), ?_⟩
            rw [he, encs_cons, q_enc y (hL y (List.mem_cons_self ..)), List.drop_left' rfl]
theorem bad_f (b : List UInt8) (hb : b.length < 1099511627776) : ∃ (k n : Nat), posthornref05_Bad.f k (natsOf b) = some (n : Int) ∧ n ≤ b.length ∧ (n = b.length ↔ runesBad b = b.length) := by
  obtain ⟨n, h1, h2, h3, h4⟩ := bad_loop b hb b.length 0 (by omega) (by omega)
  refine ⟨_, n, h1, h3, h4.trans ⟨?_, ?_⟩⟩
  · rintro ⟨L, hL, he⟩
    rw [List.drop_zero] at he
    rw [he]
    exact runesBad_encs L hL
  · intro h
    obtain ⟨g1, g2⟩ := good_text ⟨b.toArray⟩ (by
      show runesBad b = b.length
      exact h)
    exact ⟨_, g1, g2⟩
end Go.Proofs.YtcnhnpkbklakoaaDoor.Word
