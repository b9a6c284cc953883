/- FieldUnfolds: the reference's Unfold on lists, and that both tell the same. -/
import Derived.Test.YtammhcfifnffeaaUnfoldWalk
namespace Go.Proofs.Ytammhcfifnffeaa.UnfoldPure
open Go.RowKit Go.Proofs.Ytammhcfifnffeaa.RowsIter Go.Proofs.Ytammhcfifnffeaa.UnfoldWalk Go.Proofs.YtammhcfifnffeaaW.PrintWords Go.Proofs.Ytammhcfifnffeaa.PFieldUnfolds
set_option linter.unusedVariables false

/-- the reference, byte by byte -/
def refL : List UInt8 → List UInt8
  | [] => []
  | [c] => [c]
  | [c, d] => [c, d]
  | c :: d :: e :: l => if c = 13 ∧ d = 10 ∧ (e = 32 ∨ e = 9) then refL (e :: l) else c :: refL (d :: e :: l)
theorem head_blank (e : UInt8) (l : List UInt8) : ∃ h t, rowsL (e :: l) = h :: t ∧ blankB h = (decide (e = 32 ∨ e = 9)) := by
  cases l with
  | nil =>
    refine ⟨[e], [], rfl, ?_⟩
    rw [Bool.eq_iff_iff]
    simp [blankB]
  | cons d l =>
    unfold rowsL
    by_cases h : e = 13 ∧ d = 10
    · rw [if_pos h]
      refine ⟨[], _, rfl, ?_⟩
      obtain ⟨rfl, _⟩ := h
      decide
    · rw [if_neg h]
      cases hr : rowsL (d :: l) with
      | nil => exact absurd hr (rowsL_ne _)
      | cons g r =>
        refine ⟨e :: g, r, rfl, ?_⟩
        rw [Bool.eq_iff_iff]
        simp [blankB]
theorem join_ref : ∀ l : List UInt8, joinAll (rowsL l) = refL l
  | [] => rfl
  | [c] => rfl
  | [c, d] => by
    unfold rowsL
    by_cases h : c = 13 ∧ d = 10
    · obtain ⟨rfl, rfl⟩ := h
      rfl
    · rw [if_neg h]
      rfl
  | c :: d :: e :: l => by
    have ih := join_ref (e :: l)
    have ih2 := join_ref (d :: e :: l)
    unfold rowsL refL
    by_cases h : c = 13 ∧ d = 10
    · rw [if_pos h]
      obtain ⟨g, t, hg, hb⟩ := head_blank e l
      rw [hg] at ih ⊢
      simp only [joinAll, joinFrom, List.nil_append] at ih ⊢
      rw [hb]
      obtain ⟨rfl, rfl⟩ := h
      by_cases he : e = 32 ∨ e = 9
      · rw [if_pos (by simpa using he), if_pos ⟨rfl, rfl, he⟩, List.nil_append, ih]
      · rw [if_neg (by simpa using he), if_neg (fun h => he h.2.2)]
        have : refL (10 :: e :: l) = 10 :: refL (e :: l) := by
          cases l with
          | nil => rfl
          | cons f l =>
            conv => lhs; unfold refL
            rw [if_neg (by intro h; exact absurd h.1 (by decide))]
        rw [this, ← ih]
        simp
    · rw [if_neg h, if_neg (fun h' => h ⟨h'.1, h'.2.1⟩)]
      cases hr : rowsL (d :: e :: l) with
      | nil => exact absurd hr (rowsL_ne _)
      | cons g r =>
        rw [hr] at ih2
        simp only [joinAll] at ih2 ⊢
        rw [← ih2]
        rfl

def sl (s : ByteArray) (i : Nat) : List UInt8 := s.data.toList.drop i
theorem sl_cons (s : ByteArray) (i : Nat) (h : i < s.size) : ∃ c, sl s i = c :: sl s (i + 1) ∧ bt s i = c.toNat := by
  have hl : i < s.data.toList.length := by rw [data_length]; exact h
  refine ⟨s.data.toList[i], List.drop_eq_getElem_cons hl, ?_⟩
  unfold bt
  rw [dif_pos (by simpa using h)]
  simp only [Int.toNat_natCast]
  rfl
theorem sl_end (s : ByteArray) : sl s s.size = [] := by unfold sl; rw [← data_length]; exact List.drop_length
theorem blank_f (c : Int) : posthornref16_blank.f c = some (decide (c = 32 ∨ c = 9)) := by
  unfold posthornref16_blank.f
  by_cases h : c = 32
  · rw [if_pos h]; simp [h]
  · rw [if_neg h]
    congr 1
    rw [Bool.eq_iff_iff]
    simp [h]
theorem ends_f (s : ByteArray) (i : Nat) (hs : s.size < 4294967281) (h : i < s.size) : posthornref16_ends.f s i = some (decide (i + 1 < s.size ∧ bt s i = 13 ∧ bt s ((i + 1 : Nat) : Int) = 10)) := by
  unfold posthornref16_ends.f
  have hw : wrap64 ((i : Int) + 1) = ((i + 1 : Nat) : Int) := by unfold wrap64; omega
  rw [hw]
  by_cases h1 : i + 1 < s.size
  · rw [if_pos (by omega), if_pos (by omega), if_pos (by omega)]
    by_cases h2 : bt s i = 13
    · rw [if_pos h2, if_pos (by omega)]
      congr 1
      rw [Bool.eq_iff_iff]
      simp [h1, h2]
    · rw [if_neg h2]
      simp [h2]
  · rw [if_neg (by omega)]
    congr 1
    symm
    rw [decide_eq_false_iff_not]
    omega
theorem u8_eq (c : UInt8) (n : Nat) (hn : n < 256) : ((c.toNat : Int) = (n : Int)) ↔ c = UInt8.ofNat n := by
  constructor
  · intro h
    apply UInt8.toNat_inj.1
    rw [UInt8.toNat_ofNat']
    omega
  · rintro rfl
    rw [UInt8.toNat_ofNat']
    omega
theorem ref_loop (s : ByteArray) (hs : s.size < 4294967281) : ∀ (d i : Nat) (out : List UInt8), s.size ≤ i + d → i ≤ s.size → out.length ≤ i →
    ∀ k, d < k → posthornref16_Unfold.l0 k s (ints out) (i : Int) = some (strOfNums (ints (out ++ refL (sl s i)))) := by
  intro d
  induction d using Nat.strongRecOn with
  | _ d ih =>
    intro i out hd hi ho k hk
    obtain ⟨k, rfl⟩ : ∃ m, k = m + 1 := ⟨k - 1, by omega⟩
    simp only [posthornref16_Unfold.l0]
    by_cases hlt : i < s.size
    · rw [if_pos (by omega), ends_f s i hs hlt]
      simp only [Option.bind_some]
      have hw1 : wrap64 ((i : Int) + 1) = ((i + 1 : Nat) : Int) := by unfold wrap64; omega
      have hw2 : wrap64 ((i : Int) + 2) = ((i + 2 : Nat) : Int) := by unfold wrap64; omega
      have hw3 : wrap64 (((i + 1 : Nat) : Int) + 1) = ((i + 2 : Nat) : Int) := by unfold wrap64; omega
      rw [hw1, hw2, hw3]
      have hil := ints_length out
      obtain ⟨c, hc, hbc⟩ := sl_cons s i hlt
      have hcopy : posthornref16_Unfold.l0 k s (ints out ++ [bt s i]) ((i + 1 : Nat) : Int) = some (strOfNums (ints (out ++ c :: refL (sl s (i + 1))))) := by
        have e : ints out ++ [bt s i] = ints (out ++ [c]) := by rw [ints_append, hbc]; rfl
        rw [e, ih (d - 1) (by omega) (i + 1) (out ++ [c]) (by omega) (by omega) (by simp; omega) k (by omega)]
        simp
      have hnum : (ints out).length < 140737488355328 := by omega
      by_cases he : i + 1 < s.size ∧ bt s i = 13 ∧ bt s ((i + 1 : Nat) : Int) = 10
      · rw [if_pos (by simpa using he)]
        obtain ⟨c2, hc2, hbc2⟩ := sl_cons s (i + 1) he.1
        have h13 : c = 13 := by have := he.2.1; rw [hbc] at this; exact (u8_eq c 13 (by omega)).1 this
        have h10 : c2 = 10 := by have := he.2.2; rw [hbc2] at this; exact (u8_eq c2 10 (by omega)).1 this
        by_cases h2 : i + 2 < s.size
        · obtain ⟨c3, hc3, hbc3⟩ := sl_cons s (i + 2) h2
          rw [if_pos (by omega), if_pos (by omega), blank_f]
          simp only [Option.bind_some]
          have hsl : sl s i = c :: c2 :: c3 :: sl s (i + 3) := by rw [hc, hc2, hc3]
          by_cases hb : bt s ((i + 2 : Nat) : Int) = 32 ∨ bt s ((i + 2 : Nat) : Int) = 9
          · rw [if_pos (by simpa using hb)]
            rw [ih (d - 2) (by omega) (i + 2) out (by omega) (by omega) (by omega) k (by omega)]
            rw [hsl]
            have hb' : c3 = 32 ∨ c3 = 9 := by
              rw [hbc3] at hb
              rcases hb with hb | hb
              · exact .inl ((u8_eq c3 32 (by omega)).1 hb)
              · exact .inr ((u8_eq c3 9 (by omega)).1 hb)
            conv => rhs; unfold refL
            rw [if_pos ⟨h13, h10, hb'⟩, hc3]
          · rw [if_neg (by simpa using hb), if_pos (by omega), if_pos hnum, hcopy, hsl]
            have hb' : ¬ (c3 = 32 ∨ c3 = 9) := by
              intro h
              apply hb
              rw [hbc3]
              rcases h with rfl | rfl
              · exact .inl rfl
              · exact .inr rfl
            conv => rhs; unfold refL
            rw [if_neg (fun h => hb' h.2.2), hc2, hc3]
        · rw [if_neg (by omega), if_pos (by omega), if_pos hnum, hcopy]
          have : sl s (i + 2) = [] := by
            have : i + 2 = s.size := by omega
            rw [this, sl_end]
          rw [hc, hc2, this]
          rfl
      · rw [if_neg (by simpa using he), if_pos (by omega), if_pos hnum, hcopy, hc]
        have : refL (c :: sl s (i + 1)) = c :: refL (sl s (i + 1)) := by
          by_cases h1 : i + 1 < s.size
          · obtain ⟨c2, hc2, hbc2⟩ := sl_cons s (i + 1) h1
            rw [hc2]
            cases hr : sl s (i + 1 + 1) with
            | nil => rfl
            | cons c3 r =>
              conv => lhs; unfold refL
              rw [if_neg ?_]
              rintro ⟨rfl, rfl, _⟩
              exact he ⟨h1, hbc, hbc2⟩
          · have : sl s (i + 1) = [] := by
              have : i + 1 = s.size := by omega
              rw [this, sl_end]
            rw [this]
            rfl
        rw [this]
    · rw [if_neg (by omega)]
      obtain rfl : i = s.size := by omega
      rw [sl_end]
      simp [refL]
theorem unfold_ref (s : ByteArray) (hs : s.size < 4294967281) : ∃ k, posthornref16_Unfold.f k s = some (strOfNums (ints (joinAll (rowsL s.data.toList)))) := by
  refine ⟨s.size + 1, ?_⟩
  have := ref_loop s hs s.size 0 [] (by omega) (by omega) (by simp) (s.size + 1) (by omega)
  rw [join_ref]
  simpa [posthornref16_Unfold.f, ints, sl] using this
theorem example_rows : strOfNums (ints (joinAll (rowsL [97, 13, 10, 32, 98]))) = ⟨#[97, 32, 98]⟩ := by decide +kernel
end Go.Proofs.Ytammhcfifnffeaa.UnfoldPure
