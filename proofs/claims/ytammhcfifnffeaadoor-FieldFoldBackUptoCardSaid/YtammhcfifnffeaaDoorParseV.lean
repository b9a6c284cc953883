/- field.Parse: what it tells, by lists. -/
import Derived.Test.YtammhcfifnffeaaDoorPrintWalk
import Derived.Test.YtammhcfifnffeaaDoorHand
namespace Go.Proofs.YtammhcfifnffeaaDoor.ParseV
open Go.RowKit Go.Proofs.YtammhcfifnffeaaDoorW.PrintWords Go.Proofs.YtammhcfifnffeaaDoor.PFieldPrints Go.Proofs.YtammhcfifnffeaaDoor.AnyEnd Go.Proofs.YtammhcfifnffeaaDoor.Octet Go.Proofs.YtammhcfifnffeaaDoor.CheckWalk Go.Proofs.YtammhcfifnffeaaDoor.Hand
set_option linter.unusedVariables false

/-- how many bytes stand ahead of the first line end byte -/
def lenRow : List UInt8 → Nat
  | [] => 0
  | c :: l => if c = 13 ∨ c = 10 then 0 else lenRow l + 1
theorem lenRow_le : ∀ l : List UInt8, lenRow l ≤ l.length
  | [] => Nat.le_refl _
  | c :: l => by
    unfold lenRow
    have := lenRow_le l
    split
    · omega
    · simp only [List.length_cons]; omega
theorem lenRow_any : ∀ l : List UInt8, Lib.indexAny l [13, 10] = if lenRow l < l.length then (lenRow l : Int) else -1
  | [] => rfl
  | c :: l => by
    have ih := lenRow_any l
    have hle := lenRow_le l
    have hc : ([13, 10] : List UInt8).contains c = (c == 13 || c == 10) := by simp only [List.contains_cons, List.contains_nil, Bool.or_false]
    unfold Lib.indexAny lenRow
    rw [hc]
    by_cases h : c = 13 ∨ c = 10
    · rw [if_pos h]
      have : (c == 13 || c == 10) = true := by simpa using h
      rw [this]
      simp
    · rw [if_neg h]
      have : (c == 13 || c == 10) = false := by simpa using h
      rw [this, ih]
      simp only [Bool.false_eq_true, if_false, List.length_cons]
      by_cases h2 : lenRow l < l.length
      · have e : ((lenRow l : Int) == -1) = false := beq_eq_false_iff_ne.2 (by omega)
        have h3 : lenRow l + 1 < l.length + 1 := by omega
        simp only [h2, h3, if_true, e, Bool.false_eq_true, if_false]
        omega
      · have h3 : ¬ lenRow l + 1 < l.length + 1 := by omega
        simp [h2]
def isCRLF (l : List UInt8) : Bool := Lib.hasPrefix l [13, 10]
/-- a row more in the last field's body -/
def bump (acc : List S30) (t : List UInt8) : List S30 := acc.set (acc.length - 1) ⟨(rd_T30 acc ((acc.length - 1 : Nat) : Int)).f0, ⟨((rd_T30 acc ((acc.length - 1 : Nat) : Int)).f1.data.toList ++ [13, 10] ++ t).toArray⟩⟩
theorem bump_length (acc : List S30) (t : List UInt8) : (bump acc t).length = acc.length := by unfold bump; rw [List.length_set]
/-- one row: what is left to do -/
inductive RowStep where
  | done (acc : List S30) (i : Nat)
  | fail (e : Int) (i : Nat)
  | next (acc : List S30) (i : Nat)
def rowStep (L : List UInt8) (i : Nat) (acc : List S30) : RowStep :=
  if L.length ≤ i then .done acc i
  else if lenRow (L.drop i) = 0 ∧ isCRLF (L.drop i) = true then .done acc (i + 2)
  else if 998 < lenRow (L.drop i) then .fail 160 (i + 998)
  else if isCRLF (L.drop (i + lenRow (L.drop i))) = false then .fail 160 (i + lenRow (L.drop i))
  else if blankB ((L.drop i).take (lenRow (L.drop i))) = true then
    if acc = [] ∨ blanksB ((L.drop i).take (lenRow (L.drop i))) = true then .fail 161 i
    else .next (bump acc ((L.drop i).take (lenRow (L.drop i)))) (i + lenRow (L.drop i) + 2)
  else if badAt 11 ((L.drop i).take (lenRow (L.drop i))) = 0 ∨ badAt 11 ((L.drop i).take (lenRow (L.drop i))) = lenRow (L.drop i) ∨ ((L.drop i).take (lenRow (L.drop i))).getD (badAt 11 ((L.drop i).take (lenRow (L.drop i)))) 0 ≠ 58 then .fail 160 (i + badAt 11 ((L.drop i).take (lenRow (L.drop i))))
  else if acc.length = 4096 then .fail 160 i
  else .next (acc ++ [⟨⟨(((L.drop i).take (lenRow (L.drop i))).take (badAt 11 ((L.drop i).take (lenRow (L.drop i))))).toArray⟩, ⟨(((L.drop i).take (lenRow (L.drop i))).drop (badAt 11 ((L.drop i).take (lenRow (L.drop i))) + 1)).toArray⟩⟩]) (i + lenRow (L.drop i) + 2)
/-- fields, place, error, its place -/
def parseGo (L : List UInt8) : Nat → Nat → List S30 → List S30 × Nat × Int × Nat
  | 0, i, acc => (acc, i, 0, 0)
  | k + 1, i, acc => match rowStep L i acc with
    | .done a j => (a, j, 0, 0)
    | .fail e j => ([], 0, e, j)
    | .next a j => parseGo L k j a
def parseV (L : List UInt8) : List S30 × Nat × Int × Nat := parseGo L (L.length + 1) 0 []
theorem crlf_len {l : List UInt8} (h : isCRLF l = true) : 2 ≤ l.length := by
  unfold isCRLF Lib.hasPrefix at h
  have := List.isPrefixOf_iff_prefix.1 h
  exact this.length_le
end Go.Proofs.YtammhcfifnffeaaDoor.ParseV
