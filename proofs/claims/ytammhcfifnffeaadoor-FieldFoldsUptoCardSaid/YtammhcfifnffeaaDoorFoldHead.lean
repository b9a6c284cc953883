/- FieldFolds: the reference's Fold ahead of its rows. -/
import Derived.Test.YtammhcfifnffeaaDoorFoldWords
namespace Go.Proofs.YtammhcfifnffeaaDoor.FoldHead
open Go.RowKit Go Go.Proofs Go.Proofs.YtammhcfifnffeaaDoorW.PrintWords Go.Proofs.YtammhcfifnffeaaDoor.PFieldFolds Go.Proofs.YtammhcfifnffeaaDoor.JointsIter Go.Proofs.YtammhcfifnffeaaDoor.AnyEnd Go.Proofs.YtammhcfifnffeaaDoor.Octet Go.Proofs.YtammhcfifnffeaaDoor.FoldWalk Go.Proofs.YtammhcfifnffeaaDoor.FoldBase
/-- the reference's Fold ahead of its rows -/
theorem fold_head (nm s : ByteArray) (most : Int) (hn : nm.size < 4294967296) (hs : s.size < 4294967296) (k : Nat) (hk : nm.size + s.size + 20 < k) :
    posthornref16_Fold.f (k + 1 + 1) nm s most = if nameB nm.data.toList = false ∨ hasEnd s.data.toList = true then some ((⟨#[]⟩ : ByteArray), (⟨#[]⟩ : ByteArray), 160) else if most < 1 ∨ 998 < most then some ((⟨#[]⟩ : ByteArray), (⟨#[]⟩ : ByteArray), 2) else posthornref16_Fold.l0 k nm s most (⟨#[]⟩ : ByteArray) 0 ((nm.size + 1 : Nat) : Int) := by
  unfold posthornref16_Fold.f
  rw [name_f nm (by omega) (k + 1 + 1) (by omega)]
  simp only [Option.bind_some]
  have hw : wrap64 ((nm.size : Int) + 1) = ((nm.size + 1 : Nat) : Int) := by unfold wrap64; omega
  cases hnm : nameB nm.data.toList
  · rw [if_neg (by simp), if_pos (.inl rfl)]
    simp only [posthornref16_Fold.j0, if_true]
  · obtain ⟨r, h1, h2⟩ := row_f s (by omega) (k + 1 + 1) (by omega)
    rw [if_pos rfl, h1]
    simp only [Option.bind_some]
    have h2' : decide ((r.size : Int) < (s.size : Int)) = hasEnd s.data.toList := by rw [← h2, decide_eq_decide]; omega
    rw [h2']
    cases he : hasEnd s.data.toList
    · simp only [posthornref16_Fold.j0, posthornref16_Fold.j1, Bool.false_eq_true, if_false, or_self, Bool.true_eq_false, if_true]
      by_cases h3 : most < 1
      · rw [if_pos h3, if_pos (.inl h3)]
      · rw [if_neg h3]
        by_cases h4 : 998 < most
        · rw [if_pos (decide_eq_true h4), if_pos (.inr h4)]
        · rw [if_neg (by simpa using h4), if_neg (by omega), hw]
    · rw [if_pos (.inr rfl)]
      simp only [posthornref16_Fold.j0, if_true]
end Go.Proofs.YtammhcfifnffeaaDoor.FoldHead
