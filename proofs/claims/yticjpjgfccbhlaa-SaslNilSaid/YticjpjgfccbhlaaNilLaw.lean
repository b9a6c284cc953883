/- SaslNil: the walk of the law. -/
import Derived.Test.YticjpjgfccbhlaaWakes
namespace Go.Proofs.Yticjpjgfccbhlaa.Parts
open Go.RowKit Go.Proofs.YticjpjgfccbhlaaW.PrintWords Go.Proofs.YticjpjgfccbhlaaW.PrintLast Go.Proofs.YticjpjgfccbhlaaW.PrintMore Go.Proofs.Yticjpjgfccbhlaa.PSaslBoth Go.Proofs.Yticjpjgfccbhlaa.Code
attribute [local go_sem] max2_int min2_int max_two min_two max_three min_three max_four min_four
set_option linter.unusedVariables false
set_option linter.unusedSimpArgs false
set_option maxHeartbeats 4000000 in
set_option maxRecDepth 100000 in
theorem nil_calls (s : ByteArray) (m : Int) (w : World) (hm : w.cell? ⟨0, 0, none⟩ = some (.int .i64 m)) : Calls Try.prog 5 #[.string s] w fun e w' => e = .returned (.bool true) ∧ Below w.heap.size w w' := by
  have hu50 := Try.underlying50
  have hem : (({ data := #[] } : ByteArray) ++ ⟨#[]⟩ ++ ⟨#[]⟩ ++ ⟨#[]⟩).toList.isEmpty = true := by decide +kernel
  have h0lt := World.block_lt_of_cell? w _ hm
  have hB1 : Below w.heap.size w (w.alloc (.cells #[.slice none 0 0, .int .i64 0, .nilIface, .string ⟨#[]⟩] 50)) := (Below.refl _ _).alloc (Nat.le_refl _) _
  have hU : (w.alloc (.cells #[.slice none 0 0, .int .i64 0, .nilIface, .string ⟨#[]⟩] 50)).heap[w.heap.size]? = some (.cells #[.slice none 0 0, .int .i64 0, .nilIface, .string ⟨#[]⟩] 50 (0, 0)) := heap_alloc_new w _
  have HW := Lib.hid (wakes_calls m (w.alloc (.cells #[.slice none 0 0, .int .i64 0, .nilIface, .string ⟨#[]⟩] 50)) ((hB1.cell h0lt).trans hm))
  have HU := Lib.hid hU
  have HB1 := Lib.hid hB1
  have hul := (Array.getElem?_eq_some_iff.1 hU).1
  clear hm hU hB1
  go_enter Try.func5, Try.ntmps5
  go_wp2_with fail
  refine HW.out.mono ?_
  rintro e w2 ⟨rfl, hb2⟩
  have HB2 := Lib.hid (HB1.out.trans (hb2.mono HB1.out.size))
  have hU2 := (hb2.block _ hul).trans HU.out
  have SN := Lib.hid (state_nil w2)
  have SX := Lib.hid (state_calls w.heap.size 0 w2 (blk_cell hU2 1))
  have AN := Lib.hid (ask_nil w2)
  have AX := Lib.hid (ask_not w.heap.size 0 w2 (blk_cell hU2 1) rfl)
  have UN := Lib.hid (user_nil w2)
  have UX := Lib.hid (user_not w.heap.size 0 w2 (blk_cell hU2 1) rfl)
  have RN := Lib.hid (answer_nil s w2)
  have RX := Lib.hid (answer_zero w.heap.size s w2 (blk_cell hU2 1))
  clear hb2 hU2 HW
  go_wp2_with fail
  refine SN.out.mono ?_
  rintro e w7 ⟨rfl, rfl⟩
  go_wp2_with fail
  refine SX.out.mono ?_
  rintro e w7 ⟨rfl, rfl⟩
  go_wp2_with fail
  refine AN.out.mono ?_
  rintro e w7 ⟨rfl, rfl⟩
  go_wp2_with fail
  refine AX.out.mono ?_
  rintro e w7 ⟨rfl, rfl⟩
  go_wp2_with fail
  refine UN.out.mono ?_
  rintro e w7 ⟨rfl, rfl⟩
  go_wp2_with fail
  refine UX.out.mono ?_
  rintro e w7 ⟨rfl, rfl⟩
  go_wp2_with fail
  refine RN.out.mono ?_
  rintro e w7 ⟨rfl, rfl⟩
  go_wp2_with fail
  refine RX.out.mono ?_
  rintro e w7 ⟨rfl, rfl⟩
  go_wp2_with fail
  refine SX.out.mono ?_
  rintro e w7 ⟨rfl, rfl⟩
  go_wp2
  go_ret
  exact ⟨rfl, HB2.out⟩
end Go.Proofs.Yticjpjgfccbhlaa.Parts
