/- sasl: wakes by contract. -/
import Derived.Test.YticjpjgfccbhlaaTell
namespace Go.Proofs.Yticjpjgfccbhlaa.Parts
open Go.RowKit Go.Proofs.YticjpjgfccbhlaaW.PrintWords Go.Proofs.YticjpjgfccbhlaaW.PrintLast Go.Proofs.YticjpjgfccbhlaaW.PrintMore Go.Proofs.Yticjpjgfccbhlaa.PSaslBoth Go.Proofs.Yticjpjgfccbhlaa.Code
attribute [local go_sem] max2_int min2_int max_two min_two max_three min_three max_four min_four
set_option linter.unusedVariables false
set_option linter.unusedSimpArgs false
theorem line_yes : strOfNums (b64 (bytesOf ⟨#[0, 97, 110, 110, 0, 115, 51]⟩)) = ⟨#[65, 71, 70, 117, 98, 103, 66, 122, 77, 119, 61, 61]⟩ := by kernel_rfl
theorem line_no : strOfNums (b64 (bytesOf ⟨#[0, 97, 110, 110, 0, 115, 52]⟩)) = ⟨#[65, 71, 70, 117, 98, 103, 66, 122, 78, 65, 61, 61]⟩ := by kernel_rfl
theorem line_user : strOfNums (b64 (bytesOf ⟨#[85, 115, 101, 114, 110, 97, 109, 101, 58]⟩)) = ⟨#[86, 88, 78, 108, 99, 109, 53, 104, 98, 87, 85, 54]⟩ := by kernel_rfl
set_option maxHeartbeats 4000000 in
set_option maxRecDepth 100000 in
theorem wakes_calls (m : Int) (w : World) (hm : w.cell? ⟨0, 0, none⟩ = some (.int .i64 m)) : Calls Try.prog 20 #[] w fun e w' => e = .returned (.bool true) ∧ Below w.heap.size w w' := by
  have hu41 := Try.underlying41
  have h0lt := World.block_lt_of_cell? w _ hm
  have hB1 : Below w.heap.size w (w.alloc (.cells #[.string ⟨#[97, 110, 110]⟩, .string ⟨#[115, 51]⟩] 41)) := (Below.refl _ _).alloc (Nat.le_refl _) _
  have hU : (w.alloc (.cells #[.string ⟨#[97, 110, 110]⟩, .string ⟨#[115, 51]⟩] 41)).heap[w.heap.size]? = some (.cells #[.string ⟨#[97, 110, 110]⟩, .string ⟨#[115, 51]⟩] 41 (0, 0)) := heap_alloc_new w _
  have HL1 := Lib.hid (line_calls ⟨#[0, 97, 110, 110, 0, 115, 51]⟩ (w.alloc (.cells #[.string ⟨#[97, 110, 110]⟩, .string ⟨#[115, 51]⟩] 41)) (by decide))
  rw [line_yes] at HL1
  have HM := Lib.hid hm
  have HU := Lib.hid hU
  have HB1 := Lib.hid hB1
  have hul := (Array.getElem?_eq_some_iff.1 hU).1
  clear hm hU hB1
  go_enter Try.func20, Try.ntmps20
  go_wp2_with fail
  refine HL1.out.mono ?_
  rintro e w2 ⟨rfl, hb2⟩
  have HB2 := Lib.hid (HB1.out.trans (hb2.mono HB1.out.size))
  have hU2 := (hb2.block _ hul).trans HU.out
  have HU2 := Lib.hid hU2
  have hul2 := (Array.getElem?_eq_some_iff.1 hU2).1
  have HG1 := Lib.hid (begin_yes w.heap.size 1 m w2 ((HB2.out.cell h0lt).trans HM.out) (blk_cell hU2 0) (blk_cell hU2 1) (by decide))
  clear hb2 hU2 HL1
  go_wp2_with fail
  refine HG1.out.mono ?_
  rintro e w3 ⟨X1, U1, rfl, hX1, hc1, hb3⟩
  have HB3 := Lib.hid (HB2.out.trans (hb3.mono HB2.out.size))
  have hU3 := (hb3.block _ hul2).trans HU2.out
  have HU3 := Lib.hid hU3
  have hul3 := (Array.getElem?_eq_some_iff.1 hU3).1
  have HC1 := Lib.hid hc1
  have hcl1 := (Array.getElem?_eq_some_iff.1 hc1).1
  have HL2 := Lib.hid (line_calls ⟨#[0, 97, 110, 110, 0, 115, 52]⟩ w3 (by decide))
  rw [line_no] at HL2
  clear hb3 hU3 hc1 HG1 hX1
  go_wp2_with fail
  refine HL2.out.mono ?_
  rintro e w4 ⟨rfl, hb4⟩
  have HB4 := Lib.hid (HB3.out.trans (hb4.mono HB3.out.size))
  have hU4 := (hb4.block _ hul3).trans HU3.out
  have HU4 := Lib.hid hU4
  have hul4 := (Array.getElem?_eq_some_iff.1 hU4).1
  have hc14 := (hb4.block _ hcl1).trans HC1.out
  have HC14 := Lib.hid hc14
  have hcl14 := (Array.getElem?_eq_some_iff.1 hc14).1
  have HG2 := Lib.hid (begin_no w.heap.size 1 m w4 ((HB4.out.cell h0lt).trans HM.out) (blk_cell hU4 0) (blk_cell hU4 1) (by decide))
  clear hb4 hU4 hc14 HL2
  go_wp2_with fail
  refine HG2.out.mono ?_
  rintro e w5 ⟨X2, U2, rfl, hX2, hc2, hb5⟩
  have HB5 := Lib.hid (HB4.out.trans (hb5.mono HB4.out.size))
  have hU5 := (hb5.block _ hul4).trans HU4.out
  have hc15 := (hb5.block _ hcl14).trans HC14.out
  have HC15 := Lib.hid hc15
  have hcl15 := (Array.getElem?_eq_some_iff.1 hc15).1
  have HC2 := Lib.hid hc2
  have hcl2 := (Array.getElem?_eq_some_iff.1 hc2).1
  have HG3 := Lib.hid (begin_login w.heap.size 1 m w5 ((HB5.out.cell h0lt).trans HM.out) (blk_cell hU5 0) (blk_cell hU5 1) (by decide))
  clear hb5 hU5 hc15 hc2 HG2 hX2
  go_wp2_with fail
  refine HG3.out.mono ?_
  rintro e w6 ⟨X3, U3, rfl, hX3, hc3, hb6⟩
  have HB6 := Lib.hid (HB5.out.trans (hb6.mono HB5.out.size))
  have hc16 := (hb6.block _ hcl15).trans HC15.out
  have hc26 := (hb6.block _ hcl2).trans HC2.out
  have HS1 := Lib.hid (state_calls X1 2 w6 (blk_cell hc16 1))
  have HS2 := Lib.hid (state_calls X2 3 w6 (blk_cell hc26 1))
  have HS3 := Lib.hid (state_calls X3 1 w6 (blk_cell hc3 1))
  have HN1 := Lib.hid (user_yes X1 _ w6 (blk_cell hc16 1) (blk_cell hc16 3))
  have HN2 := Lib.hid (user_not X2 3 w6 (blk_cell hc26 1) rfl)
  have HA3 := Lib.hid (ask_login X3 w6 (blk_cell hc3 1) (blk_cell hc3 2))
  rw [line_user] at HA3
  have hLU := fun W : World => line_calls ⟨#[85, 115, 101, 114, 110, 97, 109, 101, 58]⟩ W (by decide)
  rw [line_user] at hLU
  have HLU := Lib.hid hLU
  clear hb6 hc16 hc26 hc3 HG3 hX3 hLU
  go_wp2_with fail
  refine HS1.out.mono ?_
  rintro e w7 ⟨rfl, rfl⟩
  go_wp2_with fail
  refine HN1.out.mono ?_
  rintro e w7 ⟨rfl, rfl⟩
  go_wp2_with fail
  refine HS2.out.mono ?_
  rintro e w7 ⟨rfl, rfl⟩
  go_wp2_with fail
  refine HN2.out.mono ?_
  rintro e w7 ⟨rfl, rfl⟩
  go_wp2_with fail
  refine HS3.out.mono ?_
  rintro e w7 ⟨rfl, rfl⟩
  go_wp2_with fail
  refine HA3.out.mono ?_
  rintro e w8 ⟨rfl, hb8⟩
  have HB8 := Lib.hid (HB6.out.trans (hb8.mono HB6.out.size))
  clear hb8
  go_wp2_with fail
  refine (HLU.out w8).mono ?_
  rintro e w9 ⟨rfl, hb9⟩
  have HB9 := Lib.hid (HB8.out.trans (hb9.mono HB8.out.size))
  clear hb9
  go_wp2
  go_ret
  exact ⟨rfl, HB9.out⟩
end Go.Proofs.Yticjpjgfccbhlaa.Parts
