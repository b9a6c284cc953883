/- SaslNames: sasl.Mechanisms tells PLAIN, LOGIN, CRAM-MD5 at every call, in new memory; no condition beyond the row's own. -/
import Derived.Test.YticjpjgfccbhlaaPSaslNamesx1
namespace Go.Proofs.Yticjpjgfccbhlaa.Pure
open Go.RowKit Go.Proofs.Yticjpjgfccbhlaa.PSaslNames Go.Proofs.YticjpjgfccbhlaaW.PrintWords Go.Proofs.YticjpjgfccbhlaaW.PrintLast

theorem place (a : Int) : ∃ j : Int, mx (Int.tmod a 3) (wrap64 (-(Int.tmod a 3))) = j ∧ 0 ≤ j ∧ j < 3 := by
  have h1 : Int.tmod a 3 < 3 := Int.tmod_lt_of_pos a (by omega)
  have h2 : -3 < Int.tmod a 3 := by
    rcases Int.le_total 0 a with h | h
    · have := Int.tmod_nonneg 3 h
      omega
    · have h4 : Int.tmod (-a) 3 < 3 := Int.tmod_lt_of_pos (-a) (by omega)
      rw [Int.neg_tmod] at h4
      omega
  refine ⟨_, rfl, ?_, ?_⟩ <;> (unfold mx wrap64; split <;> omega)

theorem SaslNames : posthornlaw22_SaslNames.Pure := by
  intro a _
  obtain ⟨j, hj, h0, h3⟩ := place a
  unfold posthornlaw22_SaslNames.f sasl_Mechanisms.f
  rw [hj]
  generalize hx : (⟨#[115, 112, 111, 105, 108, 116]⟩ : ByteArray) = x
  generalize (⟨#[109, 111, 114, 101]⟩ : ByteArray) = y
  simp only [Option.bind_some]
  rw [if_pos (by rfl), if_pos (by rfl), if_pos h0, if_pos (by simpa using h3)]
  rw [if_pos (by rw [List.length_set]; decide)]
  rw [if_pos (by decide +kernel), if_pos (by decide +kernel), if_pos (by decide +kernel), if_pos (by decide +kernel), if_pos (by decide +kernel), if_pos (by decide +kernel)]
  rw [if_pos (by rfl), if_pos (by decide +kernel), if_pos (by decide +kernel), if_pos (by decide +kernel), if_pos (by decide +kernel), if_pos (by decide +kernel), if_pos (by decide +kernel)]
  simp

end Go.Proofs.Yticjpjgfccbhlaa.Pure
