/- What a row of SaslBoth gives: the two tables of hash hold some numbers. -/
import Derived.Test.YticjpjgfccbhlaaRows
import Derived.Test.YticjpjgfccbhlaaTakes
import Derived.Shelf.Vars
import Derived.OpenShut
import Derived.WalkKit
import Derived.ProofKit
import Derived.ChangeOld
import Derived.Deep.DeepHandedRow
namespace Go.Proofs.Yticjpjgfccbhlaa.Open
open Go.RowKit Go.ChangeShapes Go.WideShapes Go.Proofs.Yticjpjgfccbhlaa.Hash
set_option linter.unusedVariables false
/-- an array of whole numbers in a shaped world: each cell holds some number of that kind -/
theorem cells_of_shapedOpen_ints {P : Program} {w : World} {g n : Nat} {t e : TypeId} {zero : Array Value} {k : IntKind}
    (h : w.ShapedOpen P) (hg : g < P.globals.size)
    (h0 : ((begin P (fun _ _ => 0) default).world.heap[g]?).bind Obj.row? = some (zero, t)) (hz : zero.size = n)
    (hb : P.buildable t = true) (hc : P.cellTypes P.depth t = some (List.replicate n e)) (hu : P.underlying e = some (.int k)) :
    ∀ j, j < n → ∃ m, w.cell? ⟨g, j, none⟩ = some (.int k m) ∧ k.has m := by
  obtain ⟨cs, hh, hs, hr⟩ := h.1 g zero t hg h0
  obtain ⟨ts, hts, _, hall⟩ := hr hb
  rw [hc] at hts
  cases hts
  intro j hj
  have h1 : j < cs.size := by omega
  obtain ⟨u, hu', hok⟩ := hall j cs[j] (by simp [h1])
  have : u = e := by
    rw [List.length_replicate, Nat.mod_eq_of_lt hj, List.getElem?_replicate, if_pos hj] at hu'
    exact (Option.some.inj hu').symm
  subst this
  have hcell : w.cell? ⟨g, j, none⟩ = some cs[j] := by simp [World.cell?, hh, h1]
  rw [hcell]
  unfold Cell.ok at hok
  rw [hu] at hok
  cases hv : cs[j] <;> rw [hv] at hok <;> simp at hok
  case int k' n => exact ⟨n, by rw [hok.1], hok.2⟩
theorem tabs_of {W : World} (h : W.ShapedOpen Try.prog) : ∃ T S, Tabs T S W := by
  have hT := cells_of_shapedOpen_ints (P := Try.prog) (w := W) (g := 1) (n := 64) (t := 165) (e := 140) (k := .u32) (zero := (List.replicate 64 (.int .u32 0)).toArray) h (of_decide_eq_true (by kernel_rfl)) (by kernel_rfl) rfl (by kernel_rfl) (by kernel_rfl) (by kernel_rfl)
  have hS := cells_of_shapedOpen_ints (P := Try.prog) (w := W) (g := 2) (n := 16) (t := 108) (e := 5) (k := .u8) (zero := (List.replicate 16 (.int .u8 0)).toArray) h (of_decide_eq_true (by kernel_rfl)) (by kernel_rfl) rfl (by kernel_rfl) (by kernel_rfl) (by kernel_rfl)
  refine ⟨fun j => if h : j < 64 then (hT j h).choose else 0, fun j => if h : j < 16 then (hS j h).choose else 0, ?_, ?_, ?_⟩
  · intro j hj
    simp only [hj, dite_true]
    exact (hT j hj).choose_spec.1
  · intro j hj
    simp only [hj, dite_true]
    exact (hS j hj).choose_spec.1
  · intro j hj
    simp only [hj, dite_true]
    have := (hS j hj).choose_spec.2
    have h2 : IntKind.u8.min = 0 := rfl
    have h3 := this.1
    omega
end Go.Proofs.Yticjpjgfccbhlaa.Open
namespace Go.Proofs.Yticjpjgfccbhlaa.Witness
theorem own : ownKnob Try.prog.godebug = none := by kernel_rfl
theorem laidOut : laidOutB Try.prog = true := by kernel_rfl
end Go.Proofs.Yticjpjgfccbhlaa.Witness
