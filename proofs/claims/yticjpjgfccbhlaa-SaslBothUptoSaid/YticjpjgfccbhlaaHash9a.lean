/- hash: the equality of digests. -/
import Derived.Test.YticjpjgfccbhlaaHash8
namespace Go.Proofs.Yticjpjgfccbhlaa.Hash
open Go.RowKit Go.Proofs.YticjpjgfccbhlaaW.PrintWords Go.Proofs.YticjpjgfccbhlaaW.PrintLast Go.Proofs.YticjpjgfccbhlaaW.PrintMore Go.Proofs.Yticjpjgfccbhlaa.PSaslBoth
set_option linter.unusedVariables false
set_option linter.unusedSimpArgs false
theorem equal_u8 (a b : Int) (d : Nat) (W : World) : (Op.equalIn (d + 1) 5 (.int .u8 a) (.int .u8 b)).run Try.prog W = .ok (a == b) W := by
  simp [Op.equalIn, run_underlying Try.underlying5, go_sem]
theorem part_u8 (xs : Array Value) (i : Nat) (v : Value) (hv : xs[i]? = some v) (W : World) : (part 5 xs i).run Try.prog W = .ok v W := by
  have he : ∀ W, (isAgg 5).run Try.prog W = .ok false W := fun W => by kernel_rfl
  have hz : ∀ W, (sizeOf 5).run Try.prog W = .ok 1 W := fun W => by kernel_rfl
  simp [part, he, hz, hv, go_sem]
theorem equal_go (d : Nat) (D E : Nat → Int) (n : Nat) : ∀ (k o : Nat) (W : World), o + k = n →
    ∃ r : Option Bool × Unit, (forIn (List.range' o k) ((none, ()) : Option Bool × Unit) (fun i _ => do
      let a ← part 5 (cellsN n D) (i * 1)
      let b ← part 5 (cellsN n E) (i * 1)
      let q ← Op.equalIn (d + 1) 5 a b
      if (!q) = true then pure (ForInStep.done (some false, ())) else pure (ForInStep.yield ((none, ()) : Option Bool × Unit)))).run Try.prog W = .ok r W ∧ ((r.1 = some false ∧ ¬ ∀ j, o ≤ j → j < n → D j = E j) ∨ (r.1 = none ∧ ∀ j, o ≤ j → j < n → D j = E j))
  | 0, o, W, h => ⟨_, rfl, .inr ⟨rfl, fun j h1 h2 => by omega⟩⟩
  | k + 1, o, W, h => by
    rw [List.range'_succ, List.forIn_cons]
    simp only [Sem.run_bind, Nat.mul_one, part_u8 _ o _ (cellsN_at n D o (by omega)), part_u8 _ o _ (cellsN_at n E o (by omega)), equal_u8, Result.andThen_ok, Sem.run_ite]
    by_cases hq : D o = E o
    · rw [if_neg (by simp [hq])]
      obtain ⟨r, h1, h2⟩ := equal_go d D E n k (o + 1) W (by omega)
      refine ⟨r, ?_, ?_⟩
      · simp only [Sem.run_bind, Sem.run_pure, Result.andThen_ok]
        simpa only [Nat.mul_one] using h1
      · rcases h2 with ⟨h2, h3⟩ | ⟨h2, h3⟩
        · exact .inl ⟨h2, fun hh => h3 fun j h4 h5 => hh j (by omega) h5⟩
        · refine .inr ⟨h2, fun j h4 h5 => ?_⟩
          rcases Nat.lt_or_ge o j with h6 | h6
          · exact h3 j h6 h5
          · rw [show j = o by omega]; exact hq
    · rw [if_pos (by simp [hq])]
      exact ⟨_, rfl, .inl ⟨rfl, fun hh => hq (hh o (Nat.le_refl _) (by omega))⟩⟩
theorem equal_runs (d : Nat) (D E : Nat → Int) (b : Bool) (hb : b = true ↔ ∀ j, j < 16 → D j = E j) (W : World) : (Op.equalIn (d + 2) 108 (.agg (cellsN 16 D)) (.agg (cellsN 16 E))).run Try.prog W = .ok b W := by
  have hz : ∀ W, (sizeOf 5).run Try.prog W = .ok 1 W := fun W => by kernel_rfl
  obtain ⟨r, h1, h2⟩ := equal_go d D E 16 16 0 W rfl
  rw [show d + 2 = (d + 1) + 1 from rfl, Op.equalIn]
  simp only [Sem.run_bind, run_underlying Try.underlying108, Result.andThen_ok, hz, Std.Legacy.Range.forIn_eq_forIn_range', Std.Legacy.Range.size]
  simp only [Nat.mul_one] at h1 ⊢
  rw [h1]
  rcases h2 with ⟨h2, h3⟩ | ⟨h2, h3⟩
  · have hf : b = false := by
      cases b with
      | false => rfl
      | true => exact absurd (fun j _ h => hb.1 rfl j h) h3
    simp only [Result.andThen_ok, h2, hf, Sem.run_pure]
  · have hf : b = true := hb.2 fun j h => h3 j (Nat.zero_le _) h
    simp only [Result.andThen_ok, h2, hf, Sem.run_pure]
theorem equal_run (D E : Nat → Int) : ∃ b : Bool, (b = true ↔ ∀ j, j < 16 → D j = E j) ∧ ∀ W, (Op.equalIn 10000 108 (.agg (cellsN 16 D)) (.agg (cellsN 16 E))).run Try.prog W = .ok b W := by
  by_cases h : ∀ j, j < 16 → D j = E j
  · exact ⟨true, ⟨fun _ => h, fun _ => rfl⟩, fun W => equal_runs 9998 D E true ⟨fun _ => h, fun _ => rfl⟩ W⟩
  · exact ⟨false, ⟨fun h2 => (Bool.false_ne_true h2).elim, fun h2 => absurd h2 h⟩, fun W => equal_runs 9998 D E false ⟨fun h2 => (Bool.false_ne_true h2).elim, fun h2 => absurd h2 h⟩ W⟩
end Go.Proofs.Yticjpjgfccbhlaa.Hash
