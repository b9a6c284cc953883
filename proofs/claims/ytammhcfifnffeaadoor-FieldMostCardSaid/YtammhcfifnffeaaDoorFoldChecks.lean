/- FieldFolds: what Check tells of a folded body: the rows of a text that was put together. -/
import Derived.Test.YtammhcfifnffeaaDoorCheckPure
namespace Go.Proofs.YtammhcfifnffeaaDoor.FoldChecks
open Go.Proofs.YtammhcfifnffeaaDoor.RowsIter Go.Proofs.YtammhcfifnffeaaDoor.AnyEnd Go.Proofs.YtammhcfifnffeaaDoor.CheckPure
set_option linter.unusedVariables false
theorem clean_of (x : List UInt8) (h : hasEnd x = false) : ∀ b ∈ x, b ≠ 13 ∧ b ≠ 10 := by
  intro b hb
  unfold hasEnd at h
  rw [List.any_eq_false] at h
  have := h b hb
  simp only [Bool.or_eq_true, beq_iff_eq, not_or] at this
  exact this
theorem hasEnd_sub {x y : List UInt8} (h : hasEnd y = false) (hs : ∀ b ∈ x, b ∈ y) : hasEnd x = false := by
  unfold hasEnd at h ⊢
  rw [List.any_eq_false] at h ⊢
  exact fun b hb => h b (hs b hb)
/-- a piece, a line end, and what follows -/
theorem rowsL_cut (x y : List UInt8) (h : hasEnd x = false) : rowsL (x ++ [13, 10] ++ y) = x :: rowsL y := by
  rw [List.append_assoc, rowsL_clean x _ (clean_of x h)]
  have e : rowsL ([13, 10] ++ y) = [] :: rowsL y := by simp [rowsL]
  rw [e]
  simp [joinH]
theorem rowsL_last (x : List UInt8) (h : hasEnd x = false) : rowsL x = [x] := by
  have := rowsL_clean x [] (clean_of x h)
  rw [List.append_nil] at this
  rw [this]
  simp [rowsL, joinH]
end Go.Proofs.YtammhcfifnffeaaDoor.FoldChecks
