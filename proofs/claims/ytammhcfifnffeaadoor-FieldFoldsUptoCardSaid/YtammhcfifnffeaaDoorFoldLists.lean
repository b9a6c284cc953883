/- FieldFolds: how field.Fold cuts, told row by row (lists alone). -/
import Derived.Test.YtammhcfifnffeaaDoorFoldWalk
namespace Go.Proofs.YtammhcfifnffeaaDoor.FoldLists
open Go.Proofs.YtammhcfifnffeaaDoor.JointsIter Go.Proofs.YtammhcfifnffeaaDoor.FoldWalk
set_option linter.unusedVariables false

/-- the joint at which a row is cut that began at b: behind 'last' those of R that still fit -/
def pick (most : Int) (b ahead : Nat) : Nat → List Nat → Nat
  | last, [] => last
  | last, k :: r => if most < (ahead : Int) + k - b then last else pick most b ahead k r
/-- the joints that are left behind the cut -/
def rest (most : Int) (b ahead : Nat) : List Nat → List Nat
  | [] => []
  | k :: r => if most < (ahead : Int) + k - b then k :: r else rest most b ahead r
/-- no cut: everything fits -/
theorem foldGo_fits (s : List UInt8) (most : Int) (acc : List UInt8) (b ahead : Nat) : ∀ (L : List Nat) (last : Nat), (∀ k ∈ L, (ahead : Int) + k - b ≤ most) → foldGo s most L acc b last ahead = (acc, b)
  | [], last, _ => rfl
  | k :: r, last, h => by
    rw [foldGo, if_neg (fun e => by have := h k List.mem_cons_self; omega)]
    exact foldGo_fits s most acc b ahead r k (fun x hx => h x (List.mem_cons_of_mem _ hx))
/-- no joint: no cut -/
theorem foldGo_none (s : List UInt8) (most : Int) (acc : List UInt8) (b ahead n : Nat) : foldGo s most [n] acc b b ahead = (acc, b) := by
  rw [foldGo, if_neg (fun e => by omega)]
  rfl
/-- one cut, 'last' having been met -/
theorem foldGo_cut (s : List UInt8) (most : Int) (acc : List UInt8) (b ahead n : Nat) (hn : most < (ahead : Int) + n - b) : ∀ (R : List Nat) (last : Nat), b < last → (∀ k ∈ R, b < k) →
    foldGo s most (R ++ [n]) acc b last ahead = foldGo s most (rest most b ahead R ++ [n]) (acc ++ (s.drop b).take (pick most b ahead last R - b) ++ [13, 10]) (pick most b ahead last R) (pick most b ahead last R) 0
  | [], last, hl, _ => by
    simp only [List.nil_append, pick, rest]
    rw [foldGo, if_pos ⟨hl, hn⟩, foldGo, foldGo_none]
  | k :: r, last, hl, hR => by
    simp only [List.cons_append, pick, rest]
    by_cases h : most < (ahead : Int) + k - b
    · rw [if_pos h, if_pos h, foldGo, if_pos ⟨hl, h⟩]
      simp only [List.cons_append]
      conv => rhs; rw [foldGo, if_neg (fun e => by omega)]
    · rw [if_neg h, if_neg h, foldGo, if_neg (fun e => h e.2)]
      exact foldGo_cut s most acc b ahead n hn r k (hR k List.mem_cons_self) (fun x hx => hR x (List.mem_cons_of_mem _ hx))
/-- a row that begins at b with the joints k :: r ahead of it and does not fit -/
theorem foldGo_row (s : List UInt8) (most : Int) (acc : List UInt8) (b ahead n k : Nat) (r : List Nat) (hn : most < (ahead : Int) + n - b) (hk : b < k) (hr : ∀ x ∈ r, b < x) :
    foldGo s most (k :: r ++ [n]) acc b b ahead = foldGo s most (rest most b ahead r ++ [n]) (acc ++ (s.drop b).take (pick most b ahead k r - b) ++ [13, 10]) (pick most b ahead k r) (pick most b ahead k r) 0 := by
  rw [List.cons_append, foldGo, if_neg (fun e => by omega)]
  exact foldGo_cut s most acc b ahead n hn r k hk hr
end Go.Proofs.YtammhcfifnffeaaDoor.FoldLists
