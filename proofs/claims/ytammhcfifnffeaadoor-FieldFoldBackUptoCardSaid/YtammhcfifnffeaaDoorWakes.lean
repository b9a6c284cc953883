/- wakes, which the statements of outright.go ask first, by contract. -/
import Derived.Test.YtammhcfifnffeaaDoorParseWalk
import Derived.Test.YtammhcfifnffeaaDoorUnfoldWalk
import Derived.Test.YtammhcfifnffeaaDoorFoldWalk
import Derived.KernelRfl
namespace Go.Proofs.YtammhcfifnffeaaDoor.Wakes
open Go.RowKit Go.Shelf Go.Proofs.YtammhcfifnffeaaDoorW.PrintWords Go.Proofs.YtammhcfifnffeaaDoorW.PrintLast Go.Proofs.YtammhcfifnffeaaDoorW.PrintMore Go.Proofs.YtammhcfifnffeaaDoor.PFieldPrints Go.Proofs.YtammhcfifnffeaaDoor.Octet Go.Proofs.YtammhcfifnffeaaDoor.CheckWalk Go.Proofs.YtammhcfifnffeaaDoor.PrintWalk Go.Proofs.YtammhcfifnffeaaDoor.Hand Go.Proofs.YtammhcfifnffeaaDoor.BytesAny Go.Proofs.YtammhcfifnffeaaDoor.ParseV Go.Proofs.YtammhcfifnffeaaDoor.ParseWalk Go.Proofs.YtammhcfifnffeaaDoor.FoldWalk
open Go.Proofs.YtammhcfifnffeaaDoor.UnfoldWalk (unfold_calls joinAll ints)
open Go.Proofs.YtammhcfifnffeaaDoor.RowsIter (rowsL)
set_option linter.unusedVariables false
set_option linter.unusedSimpArgs false

/-- the text that is read -/
def msg : ByteArray := ⟨#[65, 58, 32, 49, 13, 10, 32, 50, 13, 10, 98, 58, 13, 10, 13, 10, 120]⟩
def flds : List S30 := [⟨⟨#[65]⟩, ⟨#[32, 49, 13, 10, 32, 50]⟩⟩, ⟨⟨#[98]⟩, ⟨#[]⟩⟩]
theorem msg_parse : parseV msg.data.toList = (flds, 16, 0, 0) := by kernel_rfl
theorem flds_print : printV flds = ([65, 58, 32, 49, 13, 10, 32, 50, 13, 10, 98, 58, 13, 10], 0) := by kernel_rfl
theorem fold_lit : foldV [84, 111] [32, 97, 32, 98] 5 = ([84, 111], [32, 97, 13, 10, 32, 98], 0) := by kernel_rfl
theorem unfold_lit : strOfNums (ints (joinAll (rowsL [32, 97, 13, 10, 32, 98]))) = ⟨#[32, 97, 32, 98]⟩ := by kernel_rfl
theorem small_flds : Small flds := ⟨by
  intro f hf
  unfold flds at hf
  simp only [List.mem_cons, List.not_mem_nil, or_false] at hf
  rcases hf with rfl | rfl <;> decide, by decide⟩
/-- bytes of a literal lie in their block -/
theorem lit_C (W : World) (s : ByteArray) (cs : Array Value) (hcs : cs = ((bytesOf s).map (Value.int .u8)).toArray) (fr : Nat × Nat) (hs : s.size ≤ 9223372036854775807) :
    Kd.C (Kd.int .u8) (W.alloc (.cells cs 5 fr)) (some ⟨W.heap.size, 0, none⟩) s.size (bytesOf s) := by
  refine C_of_At (fun j hj => ?_) hs
  have hh : (W.alloc (.cells cs 5 fr)).heap[W.heap.size]? = some (.cells cs 5 fr) := heap_alloc_new W _
  unfold World.cell?
  rw [hh]
  simp only [Option.isSome_none, Bool.false_eq_true, if_false, Nat.zero_add]
  rw [hcs, List.getElem?_toArray, List.getElem?_map, bytes_at s j hj]
  rfl
theorem fields_C {w : World} {b : Nat} {v : Value} {l : List S30} (h : w.ownsRow b 30 2 v l.length (cellsOf l)) : ∃ A c, v = .slice A l.length c ∧ l.length ≤ c ∧ Kd.C k30 w A l.length l := Kd.R_reads (R_of_cells h)

set_option maxHeartbeats 4000000 in
set_option maxRecDepth 100000 in
theorem wakes_calls (m : Int) (w : World) (hm : w.cell? ⟨0, 0, none⟩ = some (.int .i64 m)) (hT : Laid w) (hU : Lib.Utf8Tabs 1 2 w) :
    Calls Tryd.prog 26 #[] w fun e w' => e = .returned (.bool true) ∧ Below w.heap.size w w' := by
  have hu30 := Tryd.underlying30
  have hu39 := Tryd.underlying39
  have h0lt := World.block_lt_of_cell? w _ hm
  have HM := Lib.hid hm
  have HT := Lib.hid hT
  have HU := Lib.hid hU
  have hb0 : Below w.heap.size w (w.alloc (.cells #[.int .u8 65, .int .u8 58, .int .u8 32, .int .u8 49, .int .u8 13, .int .u8 10, .int .u8 32, .int .u8 50, .int .u8 13, .int .u8 10, .int .u8 98, .int .u8 58, .int .u8 13, .int .u8 10, .int .u8 13, .int .u8 10, .int .u8 120] 5 (17, 18))) := (Below.refl _ _).alloc (Nat.le_refl _) _
  have hcv := Lib.run_convert_bytes_const w 24 5 #[.int .u8 65, .int .u8 58, .int .u8 32, .int .u8 49, .int .u8 13, .int .u8 10, .int .u8 32, .int .u8 50, .int .u8 13, .int .u8 10, .int .u8 98, .int .u8 58, .int .u8 13, .int .u8 10, .int .u8 13, .int .u8 10, .int .u8 120] 17 17 Tryd.underlying24 Tryd.underlying5
  have hP := parse_calls (some ⟨w.heap.size, 0, none⟩) 17 msg m _ (lit_C w msg #[.int .u8 65, .int .u8 58, .int .u8 32, .int .u8 49, .int .u8 13, .int .u8 10, .int .u8 32, .int .u8 50, .int .u8 13, .int .u8 10, .int .u8 98, .int .u8 58, .int .u8 13, .int .u8 10, .int .u8 13, .int .u8 10, .int .u8 120] rfl (17, 18) (by decide)) (by decide) (by decide) ((hb0.cell h0lt).trans hm) (hT.below hT.size hb0) (Utf8Tabs_below hU hb0)
  rw [msg_parse] at hP
  have HP := Lib.hid hP
  have HB0 := Lib.hid hb0
  clear hm hT hU hP hb0
  go_enter Tryd.func26, Tryd.ntmps26
  go_wp2_with fail
  refine HP.out.mono ?_
  rintro e w1 ⟨v, l, i, er, sp, hv, rfl, hown, hb1⟩
  cases hv
  obtain ⟨g, c, rfl, _, _⟩ := own_form hown (by decide)
  obtain ⟨A', c', hA', hc, hC⟩ := fields_C hown
  cases hA'
  have HO1 := Lib.hid hown
  have hB1 := HB0.out.trans (hb1.mono HB0.out.size)
  have hC1 := Kd.C_alloc hC (.cells #[.int .i64 0, .int .i64 0] 39)
  have hB1a := hB1.alloc hB1.size (.cells #[.int .i64 0, .int .i64 0] 39)
  have hS1 : (w1.alloc (.cells #[.int .i64 0, .int .i64 0] 39)).heap[w1.heap.size]? = some (.cells #[.int .i64 0, .int .i64 0] 39 (0, 0)) := World.alloc_heap_new w1 _
  have HC1 := Lib.hid hC1
  have HB1 := Lib.hid hB1a
  have HS1 := Lib.hid hS1
  have hlen2 : flds.length = 2 := rfl
  have HPR := Lib.hid (print_calls (some ⟨g, 0, none⟩) c flds m _ hC1 hc small_flds ((hB1a.cell h0lt).trans HM.out) (HT.out.below HT.out.size hB1a))
  rw [flds_print] at HPR
  clear hown hb1 hB1 hC1 hB1a hS1 hC HP hcv
  rw [hlen2] at HC1 hc HPR ⊢
  go_wp2_with fail
  refine HPR.out.mono ?_
  rintro e w2 ⟨vb, rfl, hvb, hb2⟩
  have HB2 := Lib.hid (HB1.out.trans (hb2.mono HB1.out.size))
  have HO2 := Lib.hid (pw_own_below (pw_own_below HO1.out ((Below.refl _ _).alloc (Nat.le_refl _) (.cells #[.int .i64 0, .int .i64 0] 39))) hb2)
  have HS2 := Lib.hid ((hb2.block _ (Array.getElem?_eq_some_iff.1 HS1.out).1).trans HS1.out)
  have HV2 := Lib.hid hvb
  obtain ⟨Ab, cb, rfl, hcb, _⟩ := Kd.R_reads hvb
  have HF := Lib.hid (fold_calls ⟨#[84, 111]⟩ ⟨#[32, 97, 32, 98]⟩ 5 m _ (by decide) (by decide) (by decide) ((HB2.out.cell h0lt).trans HM.out) (HT.out.below HT.out.size HB2.out))
  clear hvb hb2 HPR
  go_wp2_with fail
  refine HF.out.mono ?_
  rintro e w3 ⟨x3, y3, c3, hv, rfl, hb3⟩
  replace hv : foldV [84, 111] [32, 97, 32, 98] 5 = (x3, y3, c3) := hv
  rw [fold_lit] at hv
  cases hv
  have hB3 := HB2.out.trans (hb3.mono HB2.out.size)
  have HB3 := Lib.hid (hB3.alloc hB3.size (.cells #[.string ⟨#[84, 111]⟩, .string ⟨#[32, 97, 13, 10, 32, 98]⟩] 30))
  have hO3 := pw_own_below (pw_own_below HO2.out hb3) ((Below.refl _ _).alloc (Nat.le_refl _) (.cells #[.string ⟨#[84, 111]⟩, .string ⟨#[32, 97, 13, 10, 32, 98]⟩] 30))
  have x1 := (own_cell_at hO3 1 (.string ⟨#[32, 49, 13, 10, 32, 50]⟩) rfl).1
  have x2 := (own_cell_at hO3 2 (.string ⟨#[98]⟩) rfl).1
  have hS3 := ((hb3.block _ (Array.getElem?_eq_some_iff.1 HS2.out).1).trans HS2.out)
  have hS3a := (Below.heap_alloc w3 (.cells #[.string ⟨#[84, 111]⟩, .string ⟨#[32, 97, 13, 10, 32, 98]⟩] 30) _ (Array.getElem?_eq_some_iff.1 hS3).1).trans hS3
  have s0 := blk_cell hS3a 0
  have hF3 : (w3.alloc (.cells #[.string ⟨#[84, 111]⟩, .string ⟨#[32, 97, 13, 10, 32, 98]⟩] 30)).heap[w3.heap.size]? = some (.cells #[.string ⟨#[84, 111]⟩, .string ⟨#[32, 97, 13, 10, 32, 98]⟩] 30 (0, 0)) := World.alloc_heap_new w3 _
  have f1 := blk_cell hF3 1
  have hV3 := Kd.R_alloc (Kd.R_below HV2.out hb3) (.cells #[.string ⟨#[84, 111]⟩, .string ⟨#[32, 97, 13, 10, 32, 98]⟩] 30)
  have q3 := Kd.C_string (c := cb) Tryd.underlying24 Tryd.underlying5 Tryd.underlying9 (Kd.R_reads' hV3).2.2
  have HUN := Lib.hid (fun (W : World) (hW : W.cell? ⟨0, 0, none⟩ = some (.int .i64 m)) => unfold_calls ⟨#[32, 97, 13, 10, 32, 98]⟩ m W (by decide) hW)
  have hm3 := (HB3.out.cell h0lt).trans HM.out
  rw [show strOfNums [65, 58, 32, 49, 13, 10, 32, 50, 13, 10, 98, 58, 13, 10] = ⟨#[65, 58, 32, 49, 13, 10, 32, 50, 13, 10, 98, 58, 13, 10]⟩ by decide +kernel] at q3
  simp only [List.length_cons, List.length_nil, Nat.reduceAdd] at q3
  have hUC := HUN.out _ hm3
  rw [show (⟨#[32, 97, 13, 10, 32, 98]⟩ : ByteArray).data.toList = [32, 97, 13, 10, 32, 98] from rfl, unfold_lit] at hUC
  have HUC := Lib.hid hUC
  clear hUC hO3 hS3 hS3a hF3 hV3 hB3 HUN hm3 HF HO2 HO1 HS2 HS1 HC1 HV2
  go_wp2_with (go_at_call 28; refine HUC.out.mono ?_; rintro e w4 ⟨rfl, hb4⟩)
  go_ret
  exact ⟨by simp, HB3.out.trans (hb4.mono HB3.out.size)⟩
end Go.Proofs.YtammhcfifnffeaaDoor.Wakes
