/- the laws' wakes by contract. -/
import Derived.Test.YticjpjgfccbhlaaTell
namespace Go.Proofs.Yticjpjgfccbhlaa.Sasl
open Go.RowKit Go.Proofs.YticjpjgfccbhlaaW.PrintWords Go.Proofs.YticjpjgfccbhlaaW.PrintLast Go.Proofs.YticjpjgfccbhlaaW.PrintMore Go.Proofs.Yticjpjgfccbhlaa.PSaslBoth Go.Proofs.Yticjpjgfccbhlaa.Hash
open Go.Proofs.Yticjpjgfccbhlaa.Code (unV b64)
attribute [local go_sem] max2_int min2_int max_two min_two max_three min_three max_four min_four
set_option linter.unusedVariables false
set_option linter.unusedSimpArgs false
def ann : ByteArray := ⟨#[97, 110, 110]⟩
def s3 : ByteArray := ⟨#[115, 51]⟩
def lineA : ByteArray := ⟨#[65, 71, 70, 117, 98, 103, 66, 122, 77, 119, 61, 61]⟩
def lineB : ByteArray := ⟨#[65, 71, 70, 117, 98, 103, 66, 122, 78, 65, 61, 61]⟩
theorem line_yes : b64S ⟨#[0, 97, 110, 110, 0, 115, 51]⟩ = ⟨#[65, 71, 70, 117, 98, 103, 66, 122, 77, 119, 61, 61]⟩ := by kernel_rfl
theorem line_no : b64S ⟨#[0, 97, 110, 110, 0, 115, 52]⟩ = ⟨#[65, 71, 70, 117, 98, 103, 66, 122, 78, 65, 61, 61]⟩ := by kernel_rfl
theorem line_user : b64S ⟨#[85, 115, 101, 114, 110, 97, 109, 101, 58]⟩ = ⟨#[86, 88, 78, 108, 99, 109, 53, 104, 98, 87, 85, 54]⟩ := by kernel_rfl
theorem begin_yes (T S : Nat → Int) : beginV T S [⟨ann, s3⟩] ⟨#[112, 108, 97, 105, 110]⟩ ⟨#[]⟩ lineA true = (some ⟨[⟨ann, s3⟩], 2, .plain, ann⟩, 0) := by kernel_rfl
theorem begin_no (T S : Nat → Int) : beginV T S [⟨ann, s3⟩] ⟨#[80, 76, 65, 73, 78]⟩ ⟨#[]⟩ lineB true = (some ⟨[⟨ann, s3⟩], 3, .plain, ⟨#[]⟩⟩, 0) := by kernel_rfl
theorem begin_login (T S : Nat → Int) : beginV T S [⟨ann, s3⟩] ⟨#[108, 111, 103, 105, 110]⟩ ⟨#[]⟩ ⟨#[]⟩ false = (some ⟨[⟨ann, s3⟩], 1, .login, ⟨#[]⟩⟩, 0) := by kernel_rfl
theorem users_of_blk {w : World} {g : Nat} {a b : ByteArray} (h : w.heap[g]? = some (.cells #[.string a, .string b] 41 (0, 0))) : Kd.C k40 w (some ⟨g, 0, none⟩) 1 [⟨a, b⟩] := by
  refine ⟨rfl, by decide, fun _ => ⟨_, rfl, fun j p hj => ?_⟩⟩
  match j, hj with
  | 0, hj =>
    cases hj
    refine ⟨[.string a, .string b], rfl, k40_mk w ⟨a, b⟩, fun i u hu => ?_⟩
    rw [Code.add_at]
    match i, hu with
    | 0, hu => cases hu; exact blk_cell h 0
    | 1, hu => cases hu; exact blk_cell h 1
    | i + 2, hu => simp at hu
  | j + 1, hj => simp at hj
theorem ann_ok : OkUs [⟨ann, s3⟩] := ⟨by decide, fun u hu => by rw [List.mem_singleton.1 hu]; decide⟩
set_option maxHeartbeats 4000000 in
set_option maxRecDepth 100000 in
theorem wakes_calls {T S : Nat → Int} {B : Nat} (w : World) (he : Env T S B w) : Calls Try.prog 20 #[] w fun e w' => e = .returned (.bool true) ∧ Below w.heap.size w w' := by
  have hu40 := Try.underlying41
  have hB1 : Below w.heap.size w (w.alloc (.cells #[.string ⟨#[97, 110, 110]⟩, .string ⟨#[115, 51]⟩] 41)) := (Below.refl _ _).alloc (Nat.le_refl _) _
  have hU : (w.alloc (.cells #[.string ⟨#[97, 110, 110]⟩, .string ⟨#[115, 51]⟩] 41)).heap[w.heap.size]? = some (.cells #[.string ann, .string s3] 41 (0, 0)) := heap_alloc_new w _
  have HL1 := Lib.hid (line_calls ⟨#[0, 97, 110, 110, 0, 115, 51]⟩ (w.alloc (.cells #[.string ⟨#[97, 110, 110]⟩, .string ⟨#[115, 51]⟩] 41)) (by decide))
  rw [line_yes] at HL1
  have HE := Lib.hid (fun W (hB : Below w.heap.size w W) => he.below (hB.mono he.size))
  have HU := Lib.hid (users_of_blk hU)
  have HB1 := Lib.hid hB1
  clear hU hB1 he
  go_enter Try.func20, Try.ntmps20
  go_wp2_with fail
  refine HL1.out.mono ?_
  rintro e w2 ⟨rfl, hb2⟩
  have HB2 := Lib.hid (HB1.out.trans (hb2.mono HB1.out.size))
  have HU2 := Lib.hid (Kd.C_below HU.out hb2)
  have HG1 := Lib.hid (begin_calls (some ⟨w.heap.size, 0, none⟩) 1 1 [⟨ann, s3⟩] ⟨#[112, 108, 97, 105, 110]⟩ ⟨#[]⟩ lineA true w2 (HE.out w2 HB2.out) HU2.out rfl (by decide) ann_ok (by decide) (by decide) (by decide))
  rw [begin_yes] at HG1
  clear hb2 HL1
  go_wp2_with fail
  refine HG1.out.mono ?_
  rintro e w3 ⟨⟨X1, rfl, hX1, hc1⟩, hb3⟩
  have HB3 := Lib.hid (HB2.out.trans (hb3.mono HB2.out.size))
  have HU3 := Lib.hid (Kd.C_below HU2.out hb3)
  have HC1 := Lib.hid hc1
  have HL2 := Lib.hid (line_calls ⟨#[0, 97, 110, 110, 0, 115, 52]⟩ w3 (by decide))
  rw [line_no] at HL2
  clear hb3 hc1 HG1 hX1
  go_wp2_with fail
  refine HL2.out.mono ?_
  rintro e w4 ⟨rfl, hb4⟩
  have HB4 := Lib.hid (HB3.out.trans (hb4.mono HB3.out.size))
  have HU4 := Lib.hid (Kd.C_below HU3.out hb4)
  have HC14 := Lib.hid (HC1.out.below hb4)
  have HG2 := Lib.hid (begin_calls (some ⟨w.heap.size, 0, none⟩) 1 1 [⟨ann, s3⟩] ⟨#[80, 76, 65, 73, 78]⟩ ⟨#[]⟩ lineB true w4 (HE.out w4 HB4.out) HU4.out rfl (by decide) ann_ok (by decide) (by decide) (by decide))
  rw [begin_no] at HG2
  clear hb4 HL2
  go_wp2_with fail
  refine HG2.out.mono ?_
  rintro e w5 ⟨⟨X2, rfl, hX2, hc2⟩, hb5⟩
  have HB5 := Lib.hid (HB4.out.trans (hb5.mono HB4.out.size))
  have HU5 := Lib.hid (Kd.C_below HU4.out hb5)
  have HC15 := Lib.hid (HC14.out.below hb5)
  have HC2 := Lib.hid hc2
  have HG3 := Lib.hid (begin_calls (some ⟨w.heap.size, 0, none⟩) 1 1 [⟨ann, s3⟩] ⟨#[108, 111, 103, 105, 110]⟩ ⟨#[]⟩ ⟨#[]⟩ false w5 (HE.out w5 HB5.out) HU5.out rfl (by decide) ann_ok (by decide) (by decide) (by decide))
  rw [begin_login] at HG3
  clear hb5 hc2 HG2 hX2
  go_wp2_with fail
  refine HG3.out.mono ?_
  rintro e w6 ⟨⟨X3, rfl, hX3, hc3⟩, hb6⟩
  have HB6 := Lib.hid (HB5.out.trans (hb6.mono HB5.out.size))
  have hc16 := HC15.out.below hb6
  have hc26 := HC2.out.below hb6
  have HS1 := Lib.hid (state_calls hc16)
  have HS2 := Lib.hid (state_calls hc26)
  have HS3 := Lib.hid (state_calls hc3)
  have HN1 := Lib.hid (user_calls hc16)
  have HN2 := Lib.hid (user_calls hc26)
  have HA3 := Lib.hid (ask_calls hc3 (by decide))
  rw [show userV ⟨[⟨ann, s3⟩], 2, .plain, ann⟩ = ⟨#[97, 110, 110]⟩ from rfl] at HN1
  rw [show userV ⟨[⟨ann, s3⟩], 3, .plain, ⟨#[]⟩⟩ = ⟨#[]⟩ from rfl] at HN2
  rw [show askV ⟨[⟨ann, s3⟩], 1, .login, ⟨#[]⟩⟩ = b64S ⟨#[85, 115, 101, 114, 110, 97, 109, 101, 58]⟩ from rfl, line_user] at HA3
  have hLU := fun W : World => line_calls ⟨#[85, 115, 101, 114, 110, 97, 109, 101, 58]⟩ W (by decide)
  rw [line_user] at hLU
  have HLU := Lib.hid hLU
  clear hb6 hc16 hc26 hc3 HG3 hX3 hLU
  go_wp2_with fail
  refine HS1.out.mono ?_
  rintro e w7 ⟨rfl, rfl⟩
  go_wp2_with fail
  refine HN1.out.mono ?_
  rintro e w7 ⟨rfl, rfl⟩
  go_wp2_with fail
  refine HS2.out.mono ?_
  rintro e w7 ⟨rfl, rfl⟩
  go_wp2_with fail
  refine HN2.out.mono ?_
  rintro e w7 ⟨rfl, rfl⟩
  go_wp2_with fail
  refine HS3.out.mono ?_
  rintro e w7 ⟨rfl, rfl⟩
  go_wp2_with fail
  refine HA3.out.mono ?_
  rintro e w8 ⟨rfl, hb8⟩
  have HB8 := Lib.hid (HB6.out.trans (hb8.mono HB6.out.size))
  clear hb8
  go_wp2_with fail
  refine (HLU.out w8).mono ?_
  rintro e w9 ⟨rfl, hb9⟩
  have HB9 := Lib.hid (HB8.out.trans (hb9.mono HB8.out.size))
  clear hb9
  go_wp2
  go_ret
  exact ⟨rfl, HB9.out⟩
end Go.Proofs.Yticjpjgfccbhlaa.Sasl
