/- FieldFolds: the joints by the reference are the joints of field.joints. -/
import Derived.Test.YtammhcfifnffeaaDoorFoldScan
namespace Go.Proofs.YtammhcfifnffeaaDoor.FoldWords
open Go.Proofs.YtammhcfifnffeaaDoor.AnyEnd Go.Proofs.YtammhcfifnffeaaDoor.JointsIter Go.Proofs.YtammhcfifnffeaaDoor.FoldBase Go.Proofs.YtammhcfifnffeaaDoor.FoldScan
set_option linter.unusedVariables false

theorem split_words (s : List UInt8) : ∃ t, s = Lib.trimRightS s [32, 9] ++ t ∧ blanksB t = true ∧ ∀ i, i < words s → blanksB ((Lib.trimRightS s [32, 9]).drop i) = false := by
  have hp : (fun b : UInt8 => ([32, 9] : List UInt8).contains b) = fun b => b == 32 || b == 9 := funext blank_contains
  refine ⟨(s.reverse.takeWhile (fun b => b == 32 || b == 9)).reverse, ?_, ?_, ?_⟩
  · unfold Lib.trimRightS
    rw [hp, ← List.reverse_append, List.takeWhile_append_dropWhile, List.reverse_reverse]
  · unfold blanksB
    rw [List.all_reverse]
    exact List.all_takeWhile
  · intro i hi
    unfold words at hi
    cases hb : blanksB ((Lib.trimRightS s [32, 9]).drop i) with
    | false => rfl
    | true =>
      exfalso
      unfold Lib.trimRightS at hi hb
      rw [hp] at hi hb
      cases hd : s.reverse.dropWhile (fun b => b == 32 || b == 9) with
      | nil => rw [hd] at hi; simp at hi
      | cons x r =>
        have h2 := List.head?_dropWhile_not (fun b : UInt8 => b == 32 || b == 9) s.reverse
        rw [hd] at h2 hb hi
        simp only [List.head?_cons] at h2
        unfold blanksB at hb
        have hmem : x ∈ ((x :: r).reverse).drop i := by
          rw [List.reverse_cons, List.drop_append_of_le_length (by simp at hi ⊢; omega)]
          simp
        have := List.all_eq_true.1 hb x hmem
        rw [this] at h2
        cases h2
theorem blanks_drop (s : List UInt8) (i : Nat) (hi : i ≤ s.length) : blanksB (s.drop i) = decide (words s ≤ i) := by
  obtain ⟨t, hs, ht, hw⟩ := split_words s
  by_cases h : words s ≤ i
  · rw [decide_eq_true h]
    have e : s.drop i = t.drop (i - words s) := by
      conv => lhs; rw [hs]
      rw [List.drop_append, List.drop_eq_nil_of_le h, List.nil_append]
      rfl
    rw [e]
    unfold blanksB at ht ⊢
    rw [List.all_eq_true] at ht ⊢
    intro x hx
    exact ht x (List.mem_of_mem_drop hx)
  · rw [decide_eq_false h]
    have e : s.drop i = (Lib.trimRightS s [32, 9]).drop i ++ t := by
      conv => lhs; rw [hs]
      rw [List.drop_append_of_le_length (by unfold words at h; omega)]
    rw [e]
    have h2 := hw i (by omega)
    unfold blanksB at h2 ⊢
    rw [List.all_append, h2, Bool.false_and]
theorem jointB_eq (s : List UInt8) (i : Nat) (hi : i ≤ s.length) : jointB s i = (decide (1 ≤ i) && (jointAt s i && decide (i < words s))) := by
  unfold jointB
  rw [blanks_drop s i hi]
  congr 2
  rw [Bool.eq_iff_iff]
  simp

theorem jointsL_range (s : List UInt8) : jointsL s = (List.range s.length).filter (jointB s) := by
  have hw := words_le s
  have e : List.range s.length = List.range (words s) ++ List.range' (words s) (s.length - words s) := by
    rw [List.range_eq_range', List.range_eq_range']
    have := List.range'_append_1 (s := 0) (m := words s) (n := s.length - words s)
    rw [Nat.zero_add] at this
    rw [this]
    congr 1
    omega
  rw [e, List.filter_append]
  have h2 : (List.range' (words s) (s.length - words s)).filter (jointB s) = [] := by
    rw [List.filter_eq_nil_iff]
    intro x hx
    rw [List.mem_range'_1] at hx
    rw [jointB_eq s x (by omega), decide_eq_false (p := x < words s) (by omega), Bool.and_false, Bool.and_false]
    simp
  rw [h2, List.append_nil]
  unfold jointsL jointsTo
  apply List.filter_congr
  intro x hx
  rw [List.mem_range] at hx
  rw [jointB_eq s x (by omega), decide_eq_true hx, Bool.and_true]
theorem joints_behind (s : List UInt8) (i : Nat) (hi : i ≤ s.length) : jointsFrom s i (s.length - i) = (jointsL s).filter (fun x => decide (i ≤ x)) := by
  rw [jointsL_range, List.filter_filter]
  have e : List.range s.length = List.range i ++ List.range' i (s.length - i) := by
    rw [List.range_eq_range', List.range_eq_range']
    have := List.range'_append_1 (s := 0) (m := i) (n := s.length - i)
    rw [Nat.zero_add] at this
    rw [this]
    congr 1
    omega
  rw [e, List.filter_append]
  have h2 : (List.range i).filter (fun x => decide (i ≤ x) && jointB s x) = [] := by
    rw [List.filter_eq_nil_iff]
    intro x hx
    rw [List.mem_range] at hx
    rw [decide_eq_false (by omega), Bool.false_and]
    simp
  rw [h2, List.nil_append]
  unfold jointsFrom
  apply List.filter_congr
  intro x hx
  rw [List.mem_range'_1] at hx
  rw [decide_eq_true (by omega), Bool.true_and]
theorem joints_sorted (s : List UInt8) : (jointsL s).Pairwise (· < ·) := by
  rw [jointsL_range]
  exact List.Pairwise.filter _ List.pairwise_lt_range
end Go.Proofs.YtammhcfifnffeaaDoor.FoldWords
