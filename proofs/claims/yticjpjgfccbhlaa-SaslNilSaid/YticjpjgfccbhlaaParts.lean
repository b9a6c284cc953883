/- sasl: paired, first, the steps' asks, by contract (at the values that wakes hands in). -/
import Derived.Test.YticjpjgfccbhlaaUnbase64
import Derived.Test.YticjpjgfccbhlaaShelf
import Derived.Test.YticjpjgfccbhlaaPSaslBothx1
import Derived.KernelRfl
import Derived.Test.YticjpjgfccbhlaaPSaslBothx1
import Derived.KernelRfl
import Derived.Deep.QuietTactic
import Derived.BigQuiet
import Derived.Laws.StructEq
namespace Go.Proofs.Yticjpjgfccbhlaa.Parts
open Go.RowKit Go.Proofs.YticjpjgfccbhlaaW.PrintWords Go.Proofs.YticjpjgfccbhlaaW.PrintLast Go.Proofs.YticjpjgfccbhlaaW.PrintMore Go.Proofs.Yticjpjgfccbhlaa.PSaslBoth Go.Proofs.Yticjpjgfccbhlaa.Code
attribute [local go_sem] max2_int min2_int max_two min_two max_three min_three max_four min_four
set_option linter.unusedVariables false
set_option linter.unusedSimpArgs false
def ann : ByteArray := ⟨#[97, 110, 110]⟩
def s3 : ByteArray := ⟨#[115, 51]⟩
def s4 : ByteArray := ⟨#[115, 52]⟩
set_option maxHeartbeats 2000000 in
set_option maxRecDepth 100000 in
theorem paired_yes (g c : Nat) (w : World) (h0 : w.cell? ⟨g, 0, none⟩ = some (.string ⟨#[97, 110, 110]⟩)) (h1 : w.cell? ⟨g, 1, none⟩ = some (.string ⟨#[115, 51]⟩)) (hc : 1 ≤ c) :
    Calls Try.prog 119 #[.slice (some ⟨g, 0, none⟩) 1 c, .string ⟨#[97, 110, 110]⟩, .string ⟨#[115, 51]⟩] w fun e w' => e = .returned (.bool true) ∧ Below w.heap.size w w' := by
  have hu41 := Try.underlying41
  have hg := World.block_lt_of_cell? w _ h0
  have H0 := Lib.hid h0
  have H1 := Lib.hid h1
  clear h0 h1
  go_enter Try.func119, Try.ntmps119
  go_wp2
  go_loopw [11] (fun v wr => ∃ k : Nat, k ≤ 1 ∧ v = .int .i64 k ∧ Below w.heap.size w wr ∧ (k = 1 → true = false)) (fun v _ => 1 - (intOf v).toNat)
  case atStart => exact ⟨0, by omega, rfl, Below.refl _ _, fun h => by omega⟩
  case round =>
    obtain ⟨k, hk, rfl, hB, hbf⟩ := hrel
    have HB := Lib.hid hB
    clear hB
    by_cases hlt : k < 1
    · obtain rfl : k = 0 := by omega
      have x0 := (HB.out.cell hg).trans H0.out
      have x1 := (HB.out.cell hg).trans H1.out
      have hbz := HB.out.alloc HB.out.size (.cells #[.string ⟨#[97, 110, 110]⟩, .string ⟨#[115, 51]⟩] 41)
      have HBZ := Lib.hid hbz
      clear hbz
      go_wp2
      go_ret
      exact ⟨rfl, HBZ.out⟩
    · obtain rfl : k = 1 := by omega
      exact absurd (hbf rfl) (by simp)
set_option maxHeartbeats 2000000 in
set_option maxRecDepth 100000 in
theorem paired_no (g c : Nat) (w : World) (h0 : w.cell? ⟨g, 0, none⟩ = some (.string ⟨#[97, 110, 110]⟩)) (h1 : w.cell? ⟨g, 1, none⟩ = some (.string ⟨#[115, 51]⟩)) (hc : 1 ≤ c) :
    Calls Try.prog 119 #[.slice (some ⟨g, 0, none⟩) 1 c, .string ⟨#[97, 110, 110]⟩, .string ⟨#[115, 52]⟩] w fun e w' => e = .returned (.bool false) ∧ Below w.heap.size w w' := by
  have hu41 := Try.underlying41
  have hg := World.block_lt_of_cell? w _ h0
  have H0 := Lib.hid h0
  have H1 := Lib.hid h1
  clear h0 h1
  go_enter Try.func119, Try.ntmps119
  go_wp2
  go_loopw [11] (fun v wr => ∃ k : Nat, k ≤ 1 ∧ v = .int .i64 k ∧ Below w.heap.size w wr ∧ (k = 1 → false = false)) (fun v _ => 1 - (intOf v).toNat)
  case atStart => exact ⟨0, by omega, rfl, Below.refl _ _, fun h => by omega⟩
  case round =>
    obtain ⟨k, hk, rfl, hB, hbf⟩ := hrel
    have HB := Lib.hid hB
    clear hB
    by_cases hlt : k < 1
    · obtain rfl : k = 0 := by omega
      have x0 := (HB.out.cell hg).trans H0.out
      have x1 := (HB.out.cell hg).trans H1.out
      have hbz := HB.out.alloc HB.out.size (.cells #[.string ⟨#[97, 110, 110]⟩, .string ⟨#[115, 51]⟩] 41)
      have HBZ := Lib.hid hbz
      clear hbz
      go_wp2
      go_roundw
      case rel => exact ⟨1, by omega, by go_num, HBZ.out, fun _ => by simp⟩
      case measure => simp [intOf]
    · obtain rfl : k = 1 := by omega
      go_wp2
      go_ret
      exact ⟨rfl, HB.out⟩
theorem first_plain_up : octet_Upper.f 100 ⟨#[112, 108, 97, 105, 110]⟩ = some ⟨#[80, 76, 65, 73, 78]⟩ := by kernel_rfl
set_option maxRecDepth 100000 in
theorem first_plain (st : ByteArray) (w : World) : Calls Try.prog 25 #[.string ⟨#[112, 108, 97, 105, 110]⟩, .string st] w fun e w' => e = .returned (.iface 85 (.agg #[])) ∧ Below w.heap.size w w' := by
  have HU := Lib.hid (octet_Upper.calls 100 _ _ w first_plain_up)
  go_enter Try.func25, Try.ntmps25
  go_wp2_with (go_at_call 23; refine HU.out.mono ?_; rintro e w1 ⟨rfl, hb1⟩)
  go_ret
  exact ⟨rfl, hb1⟩
theorem first_PLAIN_up : octet_Upper.f 100 ⟨#[80, 76, 65, 73, 78]⟩ = some ⟨#[80, 76, 65, 73, 78]⟩ := by kernel_rfl
set_option maxRecDepth 100000 in
theorem first_PLAIN (st : ByteArray) (w : World) : Calls Try.prog 25 #[.string ⟨#[80, 76, 65, 73, 78]⟩, .string st] w fun e w' => e = .returned (.iface 85 (.agg #[])) ∧ Below w.heap.size w w' := by
  have HU := Lib.hid (octet_Upper.calls 100 _ _ w first_PLAIN_up)
  go_enter Try.func25, Try.ntmps25
  go_wp2_with (go_at_call 23; refine HU.out.mono ?_; rintro e w1 ⟨rfl, hb1⟩)
  go_ret
  exact ⟨rfl, hb1⟩
theorem first_login_up : octet_Upper.f 100 ⟨#[108, 111, 103, 105, 110]⟩ = some ⟨#[76, 79, 71, 73, 78]⟩ := by kernel_rfl
set_option maxRecDepth 100000 in
theorem first_login (st : ByteArray) (w : World) : Calls Try.prog 25 #[.string ⟨#[108, 111, 103, 105, 110]⟩, .string st] w fun e w' => e = .returned (.iface 86 (.agg #[])) ∧ Below w.heap.size w w' := by
  have HU := Lib.hid (octet_Upper.calls 100 _ _ w first_login_up)
  go_enter Try.func25, Try.ntmps25
  go_wp2_with (go_at_call 23; refine HU.out.mono ?_; rintro e w1 ⟨rfl, hb1⟩)
  go_ret
  exact ⟨rfl, hb1⟩
end Go.Proofs.Yticjpjgfccbhlaa.Parts
