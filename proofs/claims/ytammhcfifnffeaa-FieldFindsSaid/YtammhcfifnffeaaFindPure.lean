/- FieldFinds: what Find, its reference and their callees come to, on lists alone. -/
import Derived.Test.YtammhcfifnffeaaPFieldFindsx2
import Derived.Lib.Bytes
namespace Go.Proofs.Ytammhcfifnffeaa.FindPure
open Go.RowKit Go.Proofs.YtammhcfifnffeaaW.PrintWords Go.Proofs.YtammhcfifnffeaaW.PrintLast Go.Proofs.Ytammhcfifnffeaa.PFieldFinds
set_option linter.unusedVariables false

/-- a byte, as a capital if it is a small letter -/
def upB (c : Int) : Int := if 97 ≤ c ∧ c ≤ 122 then c - 32 else c
theorem upB_range {c : Int} (h : 0 ≤ c ∧ c ≤ 255) : 0 ≤ upB c ∧ upB c ≤ 255 := by unfold upB; split <;> omega
theorem upper_f (c : Int) : octet_upper.f c = some (upB c) := by
  unfold octet_upper.f upB
  by_cases h1 : 97 ≤ c
  · rw [if_pos h1]
    by_cases h2 : c ≤ 122
    · rw [if_pos h2, if_pos ⟨h1, h2⟩]
      congr 1
      omega
    · rw [if_neg h2, if_neg (by omega)]
  · rw [if_neg h1, if_neg (by omega)]
/-- two texts are the same but for capitals -/
def sameS (a b : ByteArray) : Bool := decide (a.size = b.size ∧ ∀ j : Nat, j < a.size → upB (bt a j) = upB (bt b j))
theorem sameS_iff (a b : ByteArray) : sameS a b = true ↔ (a.size = b.size ∧ ∀ j : Nat, j < a.size → upB (bt a j) = upB (bt b j)) := by simp [sameS]

theorem same_loop (a b : ByteArray) (ha : a.size ≤ 140737488355328) (hs : a.size = b.size) : ∀ (d : Nat) (i : Nat), a.size ≤ i + d → ∀ k, d < k →
    octet_Same.l0 k a b (a.size : Int) (i : Int) = some (decide (∀ j : Nat, j < a.size → i ≤ j → upB (bt a j) = upB (bt b j))) := by
  intro d
  induction d with
  | zero =>
    intro i hd k hk
    obtain ⟨k, rfl⟩ : ∃ m, k = m + 1 := ⟨k - 1, by omega⟩
    simp only [octet_Same.l0]
    rw [if_neg (by omega)]
    congr 1
    symm
    rw [decide_eq_true_iff]
    intro j h1 h2
    omega
  | succ d ih =>
    intro i hd k hk
    obtain ⟨k, rfl⟩ : ∃ m, k = m + 1 := ⟨k - 1, by omega⟩
    simp only [octet_Same.l0]
    by_cases h : i < a.size
    · rw [if_pos (by omega), if_pos (by omega), if_pos (by omega)]
      simp only [upper_f, Option.bind_some]
      rw [if_pos (by omega)]
      have hw : wrap64 ((i : Int) + 1) = ((i + 1 : Nat) : Int) := by unfold wrap64; omega
      by_cases he : upB (bt a i) = upB (bt b i)
      · rw [if_pos he, hw, ih (i + 1) (by omega) k (by omega)]
        congr 1
        rw [decide_eq_decide]
        constructor
        · intro H j h1 h2
          rcases Nat.eq_or_lt_of_le h2 with rfl | h3
          · exact he
          · exact H j h1 h3
        · intro H j h1 h2
          exact H j h1 (by omega)
      · rw [if_neg he]
        congr 1
        symm
        rw [decide_eq_false_iff_not]
        exact fun H => he (H i h (Nat.le_refl _))
    · rw [if_neg (by omega)]
      congr 1
      symm
      rw [decide_eq_true_iff]
      intro j h1 h2
      omega
theorem same_f (a b : ByteArray) (ha : a.size ≤ 140737488355328) : ∀ k, a.size < k → octet_Same.f k a b = some (sameS a b) := by
  intro k hk
  unfold octet_Same.f sameS
  by_cases hs : a.size = b.size
  · rw [if_pos (by omega)]
    have := same_loop a b ha hs a.size 0 (by omega) k (by omega)
    simp only [Int.natCast_zero] at this
    erw [this]
    congr 1
    rw [decide_eq_decide]
    exact ⟨fun H => ⟨hs, fun j h => H j h (Nat.zero_le _)⟩, fun H j h _ => H.2 j h⟩
  · rw [if_neg (by omega)]
    congr 1
    symm
    rw [decide_eq_false_iff_not]
    exact fun H => hs H.1

/-! the reference -/
def upL (a : ByteArray) (n : Nat) : List Int := (List.range n).map fun j => upB (bt a (j : Nat))
theorem upL_succ (a : ByteArray) (n : Nat) : upL a (n + 1) = upL a n ++ [upB (bt a (n : Nat))] := by simp [upL, List.range_succ]
theorem upL_length (a : ByteArray) (n : Nat) : (upL a n).length = n := by simp [upL]
theorem smalls_at : ∀ n : Nat, n < 26 → bt (⟨#[97, 98, 99, 100, 101, 102, 103, 104, 105, 106, 107, 108, 109, 110, 111, 112, 113, 114, 115, 116, 117, 118, 119, 120, 121, 122]⟩ : ByteArray) (n : Int) = 97 + n := by decide
theorem capitals_at : ∀ n : Nat, n < 26 → bt (⟨#[65, 66, 67, 68, 69, 70, 71, 72, 73, 74, 75, 76, 77, 78, 79, 80, 81, 82, 83, 84, 85, 86, 87, 88, 89, 90]⟩ : ByteArray) (n : Int) = 65 + n := by decide
def upTo (c : Int) (k : Nat) : Int := if 97 ≤ c ∧ c < 97 + k then c - 32 else c
theorem upTo_26 (c : Int) : upTo c 26 = upB c := by unfold upTo upB; split <;> split <;> omega
theorem upper_inner (a : ByteArray) (ha : a.size ≤ 140737488355327) (i : Nat) (hi : i < a.size) (r : ByteArray) (k0 : Nat)
    (hk0 : posthornref01_Upper.l0 k0 a (upL a (i + 1)) ((i + 1 : Nat) : Int) = some r) : ∀ (d n : Nat), n + d = 26 → posthornref01_Upper.l1 (k0 + d + 1) a (upL a i) (i : Int) (upTo (bt a i) n) (n : Int) = some r := by
  intro d
  induction d with
  | zero =>
    intro n hn
    obtain rfl : n = 26 := by omega
    simp only [posthornref01_Upper.l1]
    rw [if_neg (by omega), if_pos (by rw [upL_length]; omega), upTo_26, ← upL_succ]
    have hw : wrap64 ((i : Int) + 1) = ((i + 1 : Nat) : Int) := by unfold wrap64; omega
    rw [hw]
    exact hk0
  | succ d ih =>
    intro n hn
    rw [show k0 + (d + 1) + 1 = (k0 + d + 1) + 1 by omega]
    simp only [posthornref01_Upper.l1]
    rw [if_pos (by omega), if_pos (by omega), if_pos (by omega), if_pos (by omega), smalls_at n (by omega), capitals_at n (by omega)]
    have hw : wrap64 ((n : Int) + 1) = ((n + 1 : Nat) : Int) := by unfold wrap64; omega
    rw [hw]
    have h1 := ih (n + 1) (by omega)
    by_cases h : 97 + (n : Int) = bt a i
    · rw [if_pos h]
      have e : upTo (bt a i) (n + 1) = 65 + n := by unfold upTo; rw [if_pos (by omega)]; omega
      rw [e] at h1
      exact h1
    · rw [if_neg h]
      have e : upTo (bt a i) (n + 1) = upTo (bt a i) n := by
        unfold upTo
        by_cases h2 : 97 ≤ bt a i ∧ bt a i < 97 + n
        · rw [if_pos h2, if_pos (by omega)]
        · rw [if_neg h2, if_neg (by omega)]
      rw [e] at h1
      exact h1
theorem upper_loop (a : ByteArray) (ha : a.size ≤ 140737488355327) : ∀ (d i : Nat), i + d = a.size → ∃ k, posthornref01_Upper.l0 k a (upL a i) (i : Int) = some (strOfNums (upL a a.size)) := by
  intro d
  induction d with
  | zero =>
    intro i hi
    obtain rfl : i = a.size := by omega
    exact ⟨1, by simp only [posthornref01_Upper.l0]; rw [if_neg (by omega)]⟩
  | succ d ih =>
    intro i hi
    obtain ⟨k0, hk0⟩ := ih (i + 1) (by omega)
    refine ⟨k0 + 26 + 1 + 1, ?_⟩
    simp only [posthornref01_Upper.l0]
    rw [if_pos (by omega), if_pos (by omega)]
    have := upper_inner a ha i (by omega) _ k0 hk0 26 0 (by omega)
    have e : upTo (bt a i) 0 = bt a i := by unfold upTo; rw [if_neg (by omega)]
    rw [e] at this
    exact this
theorem upper_ref (a : ByteArray) (ha : a.size ≤ 140737488355327) : ∃ k, posthornref01_Upper.f k a = some (strOfNums (upL a a.size)) := by
  have := upper_loop a ha a.size 0 (by omega)
  simpa [posthornref01_Upper.f, upL] using this
theorem byte_inj {x y : Int} (hx : 0 ≤ x ∧ x ≤ 255) (hy : 0 ≤ y ∧ y ≤ 255) (h : UInt8.ofNat x.toNat = UInt8.ofNat y.toNat) : x = y := by
  have := congrArg UInt8.toNat h
  simp only [UInt8.toNat_ofNat'] at this
  omega
theorem str_eq (a b : ByteArray) : ((strOfNums (upL a a.size)).toList == (strOfNums (upL b b.size)).toList) = sameS a b := by
  rw [Lib.strOfNums_toList, Lib.strOfNums_toList, Bool.eq_iff_iff, beq_iff_eq, sameS_iff]
  unfold Lib.bytesOf upL
  rw [List.map_map, List.map_map]
  constructor
  · intro h
    have hs : a.size = b.size := by have := congrArg List.length h; simpa using this
    refine ⟨hs, fun j hj => ?_⟩
    have h2 := congrArg (fun l => l[j]?) h
    simp only [List.getElem?_map, List.getElem?_range hj, List.getElem?_range (show j < b.size by omega), Option.map_some, Option.some.injEq, Function.comp_apply] at h2
    exact byte_inj (upB_range (bt_range a j)) (upB_range (bt_range b j)) h2
  · rintro ⟨hs, H⟩
    rw [← hs]
    apply List.map_congr_left
    intro j hj
    simp only [Function.comp_apply]
    rw [H j (by simpa using hj)]
theorem same_ref (a b : ByteArray) (ha : a.size ≤ 140737488355327) (hb : b.size ≤ 140737488355327) : ∃ k, posthornref01_Same.f k a b = some (sameS a b) := by
  obtain ⟨k, h1, h2⟩ := together (posthornref01_Upper.mono a) (posthornref01_Upper.mono b) (upper_ref a ha) (upper_ref b hb)
  refine ⟨k, ?_⟩
  unfold posthornref01_Same.f
  rw [h1, h2]
  simp only [Option.bind_some]
  rw [str_eq]

/-- the places of the fields of a name -/
def findTo (l : List S30) (s : ByteArray) (n : Nat) : List Int := ((List.range n).filter fun (i : Nat) => sameS (rd_T30 l (i : Int)).f0 s).map fun (i : Nat) => (i : Int)
def findL (l : List S30) (s : ByteArray) : List Int := findTo l s l.length
theorem findTo_length (l : List S30) (s : ByteArray) (n : Nat) : (findTo l s n).length ≤ n := by
  have := List.length_filter_le (fun (i : Nat) => sameS (rd_T30 l (i : Int)).f0 s) (List.range n)
  simpa [findTo] using this
theorem findTo_succ (l : List S30) (s : ByteArray) (n : Nat) : findTo l s (n + 1) = if sameS (rd_T30 l (n : Int)).f0 s = true then findTo l s n ++ [(n : Int)] else findTo l s n := by
  unfold findTo
  rw [List.range_succ, List.filter_append]
  by_cases h : sameS (rd_T30 l (n : Int)).f0 s = true
  · simp [h]
  · simp [h]
def Sized (l : List S30) : Prop := ∀ x ∈ l, x.f0.size ≤ 140737488355327 ∧ x.f1.size ≤ 140737488355327
theorem Sized.at_ {l : List S30} (h : Sized l) (i : Nat) : (rd_T30 l (i : Int)).f0.size ≤ 140737488355327 := by
  unfold rd_T30
  rw [List.getD_eq_getElem?_getD, Int.toNat_natCast]
  rcases Nat.lt_or_ge i l.length with hi | hi
  · rw [List.getElem?_eq_getElem hi]
    exact (h _ (List.getElem_mem hi)).1
  · rw [List.getElem?_eq_none hi]
    decide
theorem find_ref (l : List S30) (s : ByteArray) (hl : l.length ≤ 4398046511104) (hS : Sized l) (hs : s.size ≤ 140737488355327) : ∃ k, posthornref16_Find.f k l s = some (findL l s) := by
  suffices h : ∀ (d i : Nat), i + d = l.length → ∃ k, posthornref16_Find.l0 k l s (findTo l s i) (i : Int) = some (findL l s) by
    simpa [posthornref16_Find.f, findTo] using h l.length 0 (by omega)
  intro d
  induction d with
  | zero =>
    intro i hi
    obtain rfl : i = l.length := by omega
    exact ⟨1, by simp only [posthornref16_Find.l0]; rw [if_neg (by omega)]; rfl⟩
  | succ d ih =>
    intro i hi
    obtain ⟨k, h1, h2⟩ := together (g := fun k => posthornref01_Same.f k (rd_T30 l (i : Int)).f0 s) (fun k => posthornref01_Same.mono _ _ k) (fun k => (posthornref16_Find.mono_l k) l s (findTo l s (i + 1)) ((i + 1 : Nat) : Int)) (same_ref (rd_T30 l (i : Int)).f0 s (hS.at_ i) hs) (ih (i + 1) (by omega))
    refine ⟨k + 1, ?_⟩
    simp only [posthornref16_Find.l0]
    rw [if_pos (by omega), if_pos (by omega), h1]
    simp only [Option.bind_some]
    have hw : wrap64 ((i : Int) + 1) = ((i + 1 : Nat) : Int) := by unfold wrap64; omega
    have hlen := findTo_length l s i
    rw [hw]
    rw [findTo_succ] at h2
    by_cases h : sameS (rd_T30 l (i : Int)).f0 s = true
    · rw [if_pos h, if_pos (by omega)]
      rw [if_pos h] at h2
      exact h2
    · rw [if_neg h]
      rw [if_neg h] at h2
      exact h2
theorem find_f (l : List S30) (s : ByteArray) (hl : l.length ≤ 4398046511104) (hS : Sized l) : ∃ k, field_Find.f k l s = some (findL l s) := by
  suffices h : ∀ (d i : Nat), i + d = l.length → ∃ k, field_Find.l0 k l s (findTo l s i) (l.length : Int) (i : Int) = some (findL l s) by
    simpa [field_Find.f, findTo] using h l.length 0 (by omega)
  intro d
  induction d with
  | zero =>
    intro i hi
    obtain rfl : i = l.length := by omega
    exact ⟨1, by simp only [field_Find.l0]; rw [if_neg (by omega)]; rfl⟩
  | succ d ih =>
    intro i hi
    have hsz := hS.at_ i
    obtain ⟨k, h1, h2⟩ := together (g := fun k => octet_Same.f k (rd_T30 l (i : Int)).f0 s) (fun k => octet_Same.mono _ _ k) (fun k => (field_Find.mono_l k) l s (findTo l s (i + 1)) (l.length : Int) ((i + 1 : Nat) : Int)) ⟨_, same_f (rd_T30 l (i : Int)).f0 s (by omega) _ (Nat.lt_succ_self _)⟩ (ih (i + 1) (by omega))
    refine ⟨k + 1, ?_⟩
    simp only [field_Find.l0]
    rw [if_pos (by omega), if_pos (by omega), if_pos (by omega), h1]
    simp only [Option.bind_some]
    have hw : wrap64 ((i : Int) + 1) = ((i + 1 : Nat) : Int) := by unfold wrap64; omega
    have hlen := findTo_length l s i
    rw [hw]
    rw [findTo_succ] at h2
    by_cases h : sameS (rd_T30 l (i : Int)).f0 s = true
    · rw [if_pos h, if_pos (by omega)]
      rw [if_pos h] at h2
      exact h2
    · rw [if_neg h]
      rw [if_neg h] at h2
      exact h2
theorem sameInts_refl (l : List Int) (hl : l.length ≤ 4398046511104) : ∃ k, posthornlaw16_sameInts.f k l l = some true := by
  unfold posthornlaw16_sameInts.f
  simp only [if_true]
  suffices h : ∀ (d : Nat) (i : Nat), l.length ≤ i + d → ∀ k, d < k → posthornlaw16_sameInts.l0 k l l (l.length : Int) (i : Int) = some true by
    exact ⟨l.length + 1, h l.length 0 (by omega) _ (by omega)⟩
  intro d
  induction d with
  | zero =>
    intro i hd k hk
    obtain ⟨k, rfl⟩ : ∃ m, k = m + 1 := ⟨k - 1, by omega⟩
    simp only [posthornlaw16_sameInts.l0]
    rw [if_neg (by omega)]
  | succ d ih =>
    intro i hd k hk
    obtain ⟨k, rfl⟩ : ∃ m, k = m + 1 := ⟨k - 1, by omega⟩
    simp only [posthornlaw16_sameInts.l0]
    by_cases h : i < l.length
    · simp only [if_true, show (i : Int) < (l.length : Int) by omega, show (0 : Int) ≤ (i : Int) by omega]
      have hw : wrap64 ((i : Int) + 1) = ((i + 1 : Nat) : Int) := by unfold wrap64; omega
      rw [hw]
      exact ih (i + 1) (by omega) k (by omega)
    · rw [if_neg (by omega)]
theorem find_example : findL [⟨⟨#[120]⟩, ⟨#[]⟩⟩, ⟨⟨#[65]⟩, ⟨#[]⟩⟩] ⟨#[97]⟩ = [1] := by decide +kernel
end Go.Proofs.Ytammhcfifnffeaa.FindPure
