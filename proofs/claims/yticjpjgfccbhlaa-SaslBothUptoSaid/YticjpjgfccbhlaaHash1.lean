/- hash: step by contract. -/
import Derived.Test.YticjpjgfccbhlaaX0
namespace Go.Proofs.Yticjpjgfccbhlaa.Hash
open Go.RowKit Go.Proofs.YticjpjgfccbhlaaW.PrintWords Go.Proofs.YticjpjgfccbhlaaW.PrintLast Go.Proofs.YticjpjgfccbhlaaW.PrintMore
attribute [local go_sem] max2_int min2_int max_two min_two max_three min_three max_four min_four
set_option linter.unusedVariables false
set_option linter.unusedSimpArgs false
def nt (x : Int) : Int := bits .xor .u32 IntKind.u32.max x
/-- what a round makes of three words, and which word of the row it takes -/
def stepV (i : Nat) (b c d : Int) : Int × Nat :=
  if i < 16 then (bits .or .u32 (bits .and .u32 b c) (bits .and .u32 (nt b) d), i)
  else if i < 32 then (bits .or .u32 (bits .and .u32 d b) (bits .and .u32 (nt d) c), (5 * i + 1) % 16)
  else if i < 48 then (bits .xor .u32 (bits .xor .u32 b c) d, (3 * i + 5) % 16)
  else (bits .xor .u32 c (bits .or .u32 b (nt d)), 7 * i % 16)
theorem stepV_lt (i : Nat) (b c d : Int) : (stepV i b c d).2 < 16 := by
  unfold stepV
  repeat' split
  all_goals (simp only; omega)
theorem ret_two {x y z : Int} {k k2 : IntKind} (h : y = z) : Ending.returned (.tuple #[.int k x, .int k2 y]) = .returned (.tuple #[.int k x, .int k2 z]) := by rw [h]
set_option maxHeartbeats 2000000 in
set_option maxRecDepth 100000 in
theorem step_calls (i : Nat) (b c d : Int) (hi : i < 64) (w : World) :
    Calls Try.prog 112 #[.int .i64 (i : Int), .int .u32 b, .int .u32 c, .int .u32 d] w fun e w' => e = .returned (.tuple #[.int .u32 (stepV i b c d).1, .int .i64 ((stepV i b c d).2 : Nat)]) ∧ w' = w := by
  have hq : i / 16 = 0 ∨ i / 16 = 1 ∨ i / 16 = 2 ∨ i / 16 = 3 := by omega
  have ht : Int.tdiv (i : Int) 16 = ((i / 16 : Nat) : Int) := by
    rw [Int.tdiv_eq_ediv_of_nonneg (by omega)]
    omega
  unfold stepV nt
  rcases hq with h | h | h | h
  · rw [if_pos (by omega)]
    rw [h] at ht
    go_enter Try.func112, Try.ntmps112
    go_wp2
    go_ret2
    exact ⟨rfl, rfl⟩
  · rw [if_neg (by omega), if_pos (by omega)]
    rw [h] at ht
    have e : (((5 * i + 1) % 16 : Nat) : Int) = (5 * (i : Int) + 1) % 16 := by omega
    go_enter Try.func112, Try.ntmps112
    go_wp2
    go_ret2
    exact ⟨ret_two e.symm, rfl⟩
  · rw [if_neg (by omega), if_neg (by omega), if_pos (by omega)]
    rw [h] at ht
    have e : (((3 * i + 5) % 16 : Nat) : Int) = (3 * (i : Int) + 5) % 16 := by omega
    go_enter Try.func112, Try.ntmps112
    go_wp2
    go_ret2
    exact ⟨ret_two e.symm, rfl⟩
  · rw [if_neg (by omega), if_neg (by omega), if_neg (by omega)]
    rw [h] at ht
    have e : ((7 * i % 16 : Nat) : Int) = 7 * (i : Int) % 16 := by omega
    go_enter Try.func112, Try.ntmps112
    go_wp2
    go_ret2
    exact ⟨ret_two e.symm, rfl⟩
/-- the word at a place of a row -/
def wordV (m : Nat → Int) (g : Nat) : Int :=
  bits .or .u32 (bits .or .u32 (bits .or .u32 (m (g * 4) % 4294967296) (m (g * 4 + 1) % 4294967296 * 256 % 4294967296)) (m (g * 4 + 2) % 4294967296 * 65536 % 4294967296)) (m (g * 4 + 3) % 4294967296 * 16777216 % 4294967296)
set_option maxHeartbeats 4000000 in
set_option maxRecDepth 100000 in
theorem word_calls (B : Nat) (m : Nat → Int) (g : Nat) (hg : g < 16) (w : World) (hm : ∀ j, j < 64 → w.cell? ⟨B, j, none⟩ = some (.int .u8 (m j))) :
    Calls Try.prog 113 #[.pointer (some ⟨B, 0, none⟩), .int .i64 (g : Int)] w fun e w' => e = .returned (.int .u32 (wordV m g)) ∧ Below w.heap.size w w' := by
  have x0 := hm (g * 4) (by omega)
  have x1 := hm (g * 4 + 1) (by omega)
  have x2 := hm (g * 4 + 2) (by omega)
  have x3 := hm (g * 4 + 3) (by omega)
  go_enter Try.func113, Try.ntmps113
  go_wp2
  go_region
  go_wp2
  go_ret
  exact ⟨rfl, (Below.refl _ _).drew⟩
end Go.Proofs.Yticjpjgfccbhlaa.Hash
