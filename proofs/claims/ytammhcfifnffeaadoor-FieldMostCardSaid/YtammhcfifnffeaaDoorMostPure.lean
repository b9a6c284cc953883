/- 4096 fields: what is printed and read (lists alone). -/
import Derived.Test.YtammhcfifnffeaaDoorBack
namespace Go.Proofs.YtammhcfifnffeaaDoor.MostPure
open Go.RowKit Go.Proofs.YtammhcfifnffeaaDoorW.PrintWords Go.Proofs.YtammhcfifnffeaaDoor.PFieldPrints Go.Proofs.YtammhcfifnffeaaDoor.PrintWalk Go.Proofs.YtammhcfifnffeaaDoor.ParseV Go.Proofs.YtammhcfifnffeaaDoor.Back
set_option linter.unusedVariables false
def one : S30 := ⟨⟨#[65]⟩, ⟨#[]⟩⟩
def many (n : Nat) : List S30 := List.replicate n one
theorem one_ok : checkF one = 0 := by decide +kernel
theorem one_line : lineU one = [65, 58, 13, 10] := by decide +kernel
theorem many_ok {n : Nat} : ∀ f ∈ many n, checkF f = 0 := fun f hf => by rw [List.eq_of_mem_replicate hf]; exact one_ok
theorem many_len (n : Nat) : (many n).length = n := List.length_replicate
theorem many_more (n : Nat) : many n ++ [one] = many (n + 1) := (List.replicate_succ' ..).symm
theorem many_lines : ∀ n : Nat, ((many n).flatMap lineU).length = 4 * n
  | 0 => rfl
  | n + 1 => by
    rw [← many_more, List.flatMap_append, List.length_append, many_lines n]
    simp only [List.flatMap_cons, List.flatMap_nil, one_line, List.append_nil, List.length_cons, List.length_nil]
    omega
theorem many_print : ¬ 4096 < (many 4096).length := by rw [many_len]; decide
theorem over_print : printV (many 4097) = ([], 160) := by
  unfold printV
  rw [many_len, if_pos (by decide)]
theorem read_alone : parseV ((many 4096).flatMap lineU) = (many 4096, 16384, 0, 0) := by
  rw [back_alone _ many_ok (by rw [many_len]; decide), many_lines]
theorem read_over : parseV ((many 4096).flatMap lineU ++ [65, 58, 13, 10]) = ([], 0, 160, 16384) := by
  rw [← one_line, back_over _ many_ok (many_len 4096) one one_ok, many_lines]
theorem read_ahead : parseV ((many 4096).flatMap lineU ++ [13, 10]) = (many 4096, 16386, 0, 0) := by
  rw [back_ahead _ many_ok (by rw [many_len]; decide) [], many_lines]
end Go.Proofs.YtammhcfifnffeaaDoor.MostPure
