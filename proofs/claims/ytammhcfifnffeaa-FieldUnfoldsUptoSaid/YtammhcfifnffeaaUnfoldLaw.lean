/- FieldUnfolds: the walk of the law, over the contracts of its callees. -/
import Derived.Test.YtammhcfifnffeaaUnfoldPure
namespace Go.Proofs.Ytammhcfifnffeaa.UnfoldLaw
open Go.RowKit Go.Proofs.Ytammhcfifnffeaa.RowsIter Go.Proofs.Ytammhcfifnffeaa.UnfoldWalk Go.Proofs.Ytammhcfifnffeaa.UnfoldPure Go.Proofs.YtammhcfifnffeaaW.PrintWords Go.Proofs.Ytammhcfifnffeaa.PFieldUnfolds
set_option linter.unusedVariables false
set_option maxHeartbeats 1000000 in
set_option maxRecDepth 100000 in
theorem law_calls (s : ByteArray) (m : Int) (w : World) (hs : s.size < 4294967281) (hm : w.cell? ⟨0, 0, none⟩ = some (.int .i64 m)) :
    Calls Try.prog 4 #[.string s] w fun e w' => e = .returned (.bool true) ∧ Below w.heap.size w w' := by
  obtain ⟨k, hk⟩ := unfold_ref s hs
  have HK := Aside0.mk hk
  have HM := Aside0.mk hm
  clear hk hm
  generalize hG : strOfNums (ints (joinAll (rowsL s.data.toList))) = r at *
  have HG := Aside0.mk hG
  clear hG
  go_enter Try.func4, Try.ntmps4
  go_wp2_with fail
  refine (unfold_calls s m _ hs HM.out).mono ?_
  rintro e w1 ⟨rfl, hb1⟩
  rw [HG.out]
  have HB1 := Aside0.mk hb1
  have HM1 := Aside0.mk ((hb1.cell (World.block_lt_of_cell? w _ HM.out)).trans HM.out)
  have s1 := hb1.size
  clear hb1
  go_wp2_with fail
  refine (posthornref16_Unfold.calls k s r _ HK.out).mono ?_
  rintro e w2 ⟨rfl, hb2⟩
  have HB2 := Aside0.mk hb2
  have HM2 := Aside0.mk ((hb2.cell (World.block_lt_of_cell? w1 _ HM1.out)).trans HM1.out)
  have s2 := hb2.size
  clear hb2
  go_wp2_with fail
  refine (unfold_calls ⟨#[97, 13, 10, 32, 98]⟩ m _ (by decide) HM2.out).mono ?_
  rintro e w3 ⟨rfl, hb3⟩
  rw [show (⟨#[97, 13, 10, 32, 98]⟩ : ByteArray).data.toList = [97, 13, 10, 32, 98] from rfl, example_rows]
  have HB3 := Aside0.mk hb3
  clear hb3
  have e1 : (⟨#[97, 32, 98]⟩ : ByteArray).toList = [97, 32, 98] := by decide +kernel
  go_wp2
  go_ret
  exact ⟨by simp, below_then (below_then HB1.out s1 HB2.out) (by omega) HB3.out⟩
end Go.Proofs.Ytammhcfifnffeaa.UnfoldLaw
