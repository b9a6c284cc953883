/- FieldFolds: the walk of the law, over the contracts of its callees. -/
import Derived.Test.YtammhcfifnffeaaDoorFoldPure
import Derived.RegionTactic
import Derived.ChangeAlike
namespace Go.Proofs.YtammhcfifnffeaaDoor.FoldsLaw
open Go.RowKit Go.Proofs.YtammhcfifnffeaaDoorW.PrintWords Go.Proofs.YtammhcfifnffeaaDoor.PFieldFolds Go.Proofs.YtammhcfifnffeaaDoor.Octet Go.Proofs.YtammhcfifnffeaaDoor.CheckWalk Go.Proofs.YtammhcfifnffeaaDoor.FoldWalk Go.Proofs.YtammhcfifnffeaaDoor.FoldPure
open Go.Proofs.YtammhcfifnffeaaDoor.CheckPure (mk mk_data)
set_option linter.unusedVariables false
set_option linter.unusedSimpArgs false

theorem example_fold : foldV [65] [98, 32, 99] 4 = ([65], [98, 13, 10, 32, 99], 0) := by decide +kernel
set_option maxHeartbeats 4000000 in
set_option maxRecDepth 100000 in
theorem law_calls (nm s : ByteArray) (most m : Int) (w : World) (hn : nm.size ≤ 1048576) (hs : s.size ≤ 1048576) (hmo : (Lit.int .i64 most).wf = true) (hm : w.cell? ⟨0, 0, none⟩ = some (.int .i64 m)) (hT : Laid w) :
    Calls Tryd.prog 4 #[.string nm, .string s, .int .i64 most] w fun e w' => e = .returned (.bool true) ∧ Below w.heap.size w w' := by
  have hu30 := Tryd.underlying30
  obtain ⟨K, hK⟩ := fold_f nm s most (by omega) (by omega)
  have HK := Lib.hid (hK K (Nat.le_refl _))
  have HM := Lib.hid hm
  have HT := Lib.hid hT
  have h0lt := World.block_lt_of_cell? w _ hm
  clear hK hm hT
  generalize hG : foldV nm.data.toList s.data.toList most = V at *
  obtain ⟨x, y, c⟩ := V
  have HG := Lib.hid hG
  clear hG
  go_enter Tryd.func4, Tryd.ntmps4
  go_wp2_with fail
  refine (fold_calls nm s most m _ (by omega) hs hmo HM.out HT.out).mono ?_
  rintro e w1 ⟨x1, y1, c1, hv, rfl, hb1⟩
  rw [HG.out] at hv
  cases hv
  have hR1 : (w1.alloc (.cells #[.string ⟨x.toArray⟩, .string ⟨y.toArray⟩] 30)).heap[w1.heap.size]? = some (.cells #[.string ⟨x.toArray⟩, .string ⟨y.toArray⟩] 30 (0, 0)) := World.alloc_heap_new w1 _
  have HR1 := Lib.hid hR1
  have HB1 := Lib.hid (hb1.alloc hb1.size (.cells #[.string ⟨x.toArray⟩, .string ⟨y.toArray⟩] 30))
  clear hb1 hR1
  go_wp2_with fail
  refine (posthornref16_Fold.calls K nm s most _ _ _ _ HK.out).mono ?_
  rintro e w2 ⟨rfl, hb2⟩
  obtain ⟨r0, _, _, _, _⟩ := res_cells HR1.out hb2
  have r0' := (res_cells r0 ((Below.refl _ _).alloc (Nat.le_refl _) (.cells #[.string ⟨x.toArray⟩, .string ⟨y.toArray⟩] 30))).1
  have HR2 := Lib.hid r0'
  have hR2 : (w2.alloc (.cells #[.string ⟨x.toArray⟩, .string ⟨y.toArray⟩] 30)).heap[w2.heap.size]? = some (.cells #[.string ⟨x.toArray⟩, .string ⟨y.toArray⟩] 30 (0, 0)) := World.alloc_heap_new w2 _
  have HS2 := Lib.hid hR2
  have hB2 := HB1.out.trans (hb2.mono HB1.out.size)
  have HB2 := Lib.hid (hB2.alloc hB2.size (.cells #[.string ⟨x.toArray⟩, .string ⟨y.toArray⟩] 30))
  clear hb2 r0 hR2 hB2 r0'
  simp only [mk] at *
  go_wp2_with fail
  refine (fold_calls ⟨#[65]⟩ ⟨#[98, 32, 99]⟩ 4 m _ (by decide) (by decide) (by decide) ((HB2.out.cell h0lt).trans HM.out) (HT.out.below HT.out.size HB2.out)).mono ?_
  rintro e w3 ⟨x3, y3, c3, hv, rfl, hb3⟩
  rw [show (⟨#[65]⟩ : ByteArray).data.toList = [65] from rfl, show (⟨#[98, 32, 99]⟩ : ByteArray).data.toList = [98, 32, 99] from rfl, example_fold] at hv
  cases hv
  have r1 := (res_cells (res_cells HR2.out hb3).1 ((Below.refl _ _).alloc (Nat.le_refl _) (.cells #[.string ⟨#[65]⟩, .string ⟨#[98, 13, 10, 32, 99]⟩] 30))).1
  have r2 := (res_cells (res_cells HS2.out hb3).1 ((Below.refl _ _).alloc (Nat.le_refl _) (.cells #[.string ⟨#[65]⟩, .string ⟨#[98, 13, 10, 32, 99]⟩] 30))).1
  have r3 : (w3.alloc (.cells #[.string ⟨#[65]⟩, .string ⟨#[98, 13, 10, 32, 99]⟩] 30)).heap[w3.heap.size]? = some (.cells #[.string ⟨#[65]⟩, .string ⟨#[98, 13, 10, 32, 99]⟩] 30 (0, 0)) := World.alloc_heap_new w3 _
  have c10 := blk_cell r1 0
  have c11 := blk_cell r1 1
  have c20 := blk_cell r2 0
  have c21 := blk_cell r2 1
  have c30 := blk_cell r3 0
  have c31 := blk_cell r3 1
  have hB3 := HB2.out.trans (hb3.mono HB2.out.size)
  have HB3 := Lib.hid (hB3.alloc hB3.size (.cells #[.string ⟨#[65]⟩, .string ⟨#[98, 13, 10, 32, 99]⟩] 30))
  clear hb3 hB3 r1 r2 r3
  go_wp2
  go_ret
  exact ⟨by simp, HB3.out⟩
end Go.Proofs.YtammhcfifnffeaaDoor.FoldsLaw
