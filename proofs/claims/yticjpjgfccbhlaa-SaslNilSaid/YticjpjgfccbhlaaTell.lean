/- sasl: line, State, User, Ask, Answer, by contract (as SaslNil calls them). -/
import Derived.Test.YticjpjgfccbhlaaBegin
namespace Go.Proofs.Yticjpjgfccbhlaa.Parts
open Go.RowKit Go.Proofs.YticjpjgfccbhlaaW.PrintWords Go.Proofs.YticjpjgfccbhlaaW.PrintLast Go.Proofs.YticjpjgfccbhlaaW.PrintMore Go.Proofs.Yticjpjgfccbhlaa.PSaslBoth Go.Proofs.Yticjpjgfccbhlaa.Code
attribute [local go_sem] max2_int min2_int max_two min_two max_three min_three max_four min_four
set_option linter.unusedVariables false
set_option linter.unusedSimpArgs false
theorem bytes_len (t : ByteArray) : (bytesOf t).length = t.size := by unfold bytesOf; rw [List.length_map, data_length]
theorem bytes_range (t : ByteArray) : ∀ x ∈ bytesOf t, 0 ≤ x ∧ x < 256 := by
  intro x hx
  unfold bytesOf at hx
  obtain ⟨c, _, rfl⟩ := List.mem_map.1 hx
  have := c.toNat_lt
  omega
theorem bytes_C (w : World) (t : ByteArray) (ht : t.size ≤ 1000) : Kd.C (Kd.int .u8) (Lib.bytesWorld w 5 t) (some ⟨w.heap.size, 0, none⟩) t.size (bytesOf t) :=
  C_of_atI (bytes_len t) (fun j x hx => by
    have hj : j < t.size := by have := (List.getElem?_eq_some_iff.1 hx).1; rwa [bytes_len] at this
    rw [Nat.zero_add, Lib.bytesWorld_cell w 5 t j hj]
    unfold bytesOf at hx
    rw [List.getElem?_map] at hx
    obtain ⟨c, hc, rfl⟩ := Option.map_eq_some_iff.1 hx
    rw [List.getD_eq_getElem?_getD, hc]
    rfl) (by omega)
set_option maxRecDepth 100000 in
theorem line_calls (t : ByteArray) (w : World) (ht : t.size ≤ 1000) : Calls Try.prog 34 #[.string t] w fun e w' => e = .returned (.string (strOfNums (b64 (bytesOf t)))) ∧ Below w.heap.size w w' := by
  have hcv := Lib.run_convert_string_bytes (P := Try.prog) w 9 73 5 t Try.underlying9 Try.underlying73 Try.underlying5
  have hb := bytes_below (Below.refl w.heap.size w) (Nat.le_refl _) 5 t
  have HB := Lib.hid hb
  have HL := Lib.hid (base64_calls (some ⟨w.heap.size, 0, none⟩) (grownCap w t.size 0 5) t.size (bytesOf t) (Lib.bytesWorld w 5 t) (bytes_len t) (bytes_C w t ht) (grownCap_ge w t.size 0 5) (by omega) (bytes_range t))
  clear hb
  go_enter Try.func34, Try.ntmps34
  go_wp2_with fail
  refine HL.out.mono ?_
  rintro e w1 ⟨rfl, hb1⟩
  have HB1 := Lib.hid (HB.out.trans (hb1.mono HB.out.size))
  clear hb1 hcv
  go_wp2
  go_ret
  exact ⟨rfl, HB1.out⟩
set_option maxRecDepth 100000 in
theorem state_calls (X : Nat) (st : Int) (w : World) (h : w.cell? ⟨X, 1, none⟩ = some (.int .i64 st)) : Calls Try.prog 12 #[.pointer (some ⟨X, 0, none⟩)] w fun e w' => e = .returned (.int .i64 st) ∧ w' = w := by
  go_enter Try.func12, Try.ntmps12
  go_wp2
  go_ret
  exact ⟨rfl, rfl⟩
set_option maxRecDepth 100000 in
theorem state_nil (w : World) : Calls Try.prog 12 #[.pointer none] w fun e w' => e = .returned (.int .i64 0) ∧ w' = w := by
  go_enter Try.func12, Try.ntmps12
  go_wp2
  go_ret
  exact ⟨rfl, rfl⟩
set_option maxRecDepth 100000 in
theorem user_yes (X : Nat) (nm : ByteArray) (w : World) (h : w.cell? ⟨X, 1, none⟩ = some (.int .i64 2)) (h3 : w.cell? ⟨X, 3, none⟩ = some (.string nm)) : Calls Try.prog 16 #[.pointer (some ⟨X, 0, none⟩)] w fun e w' => e = .returned (.string nm) ∧ w' = w := by
  have HS := Lib.hid (state_calls X 2 w h)
  go_enter Try.func16, Try.ntmps16
  go_wp2_with (go_at_call 12; refine HS.out.mono ?_; rintro e w1 ⟨rfl, rfl⟩)
  go_ret
  exact ⟨rfl, rfl⟩
set_option maxRecDepth 100000 in
theorem user_not (X : Nat) (st : Int) (w : World) (h : w.cell? ⟨X, 1, none⟩ = some (.int .i64 st)) (hst : (st != 2) = true) : Calls Try.prog 16 #[.pointer (some ⟨X, 0, none⟩)] w fun e w' => e = .returned (.string ⟨#[]⟩) ∧ w' = w := by
  have HS := Lib.hid (state_calls X st w h)
  go_enter Try.func16, Try.ntmps16
  go_wp2_with (go_at_call 12; refine HS.out.mono ?_; rintro e w1 ⟨rfl, rfl⟩)
  go_ret
  exact ⟨rfl, rfl⟩
set_option maxRecDepth 100000 in
theorem user_nil (w : World) : Calls Try.prog 16 #[.pointer none] w fun e w' => e = .returned (.string ⟨#[]⟩) ∧ w' = w := by
  have HS := Lib.hid (state_nil w)
  go_enter Try.func16, Try.ntmps16
  go_wp2_with (go_at_call 12; refine HS.out.mono ?_; rintro e w1 ⟨rfl, rfl⟩)
  go_ret
  exact ⟨rfl, rfl⟩
set_option maxRecDepth 100000 in
theorem ask_nil (w : World) : Calls Try.prog 14 #[.pointer none] w fun e w' => e = .returned (.string ⟨#[]⟩) ∧ w' = w := by
  have HS := Lib.hid (state_nil w)
  go_enter Try.func14, Try.ntmps14
  go_wp2_with (go_at_call 12; refine HS.out.mono ?_; rintro e w1 ⟨rfl, rfl⟩)
  go_ret
  exact ⟨rfl, rfl⟩
set_option maxRecDepth 100000 in
theorem ask_not (X : Nat) (st : Int) (w : World) (h : w.cell? ⟨X, 1, none⟩ = some (.int .i64 st)) (hst : (st != 1) = true) : Calls Try.prog 14 #[.pointer (some ⟨X, 0, none⟩)] w fun e w' => e = .returned (.string ⟨#[]⟩) ∧ w' = w := by
  have HS := Lib.hid (state_calls X st w h)
  go_enter Try.func14, Try.ntmps14
  go_wp2_with (go_at_call 12; refine HS.out.mono ?_; rintro e w1 ⟨rfl, rfl⟩)
  go_ret
  exact ⟨rfl, rfl⟩
set_option maxRecDepth 100000 in
theorem answer_nil (t : ByteArray) (w : World) : Calls Try.prog 18 #[.pointer none, .string t] w fun e w' => e = .returned (.int .i64 1) ∧ w' = w := by
  have HS := Lib.hid (state_nil w)
  go_enter Try.func18, Try.ntmps18
  go_wp2_with (go_at_call 12; refine HS.out.mono ?_; rintro e w1 ⟨rfl, rfl⟩)
  go_ret
  exact ⟨rfl, rfl⟩
set_option maxRecDepth 100000 in
theorem answer_zero (X : Nat) (t : ByteArray) (w : World) (h : w.cell? ⟨X, 1, none⟩ = some (.int .i64 0)) : Calls Try.prog 18 #[.pointer (some ⟨X, 0, none⟩), .string t] w fun e w' => e = .returned (.int .i64 1) ∧ w' = w := by
  have HS := Lib.hid (state_calls X 0 w h)
  go_enter Try.func18, Try.ntmps18
  go_wp2_with (go_at_call 12; refine HS.out.mono ?_; rintro e w1 ⟨rfl, rfl⟩)
  go_ret
  exact ⟨rfl, rfl⟩
def uname : ByteArray := ⟨#[85, 115, 101, 114, 110, 97, 109, 101, 58]⟩
set_option maxRecDepth 100000 in
theorem asks_login (w : World) : Calls Try.prog 131 #[.agg #[]] w fun e w' => e = .returned (.string ⟨#[85, 115, 101, 114, 110, 97, 109, 101, 58]⟩) ∧ Below w.heap.size w w' := by
  go_enter Try.func131, Try.ntmps131
  go_wp2
  go_ret
  exact ⟨rfl, (Below.refl _ _).alloc (Nat.le_refl _) _⟩
set_option maxHeartbeats 2000000 in
set_option maxRecDepth 100000 in
theorem ask_login (X : Nat) (w : World) (h : w.cell? ⟨X, 1, none⟩ = some (.int .i64 1)) (h2 : w.cell? ⟨X, 2, none⟩ = some (.iface 86 (.agg #[]))) : Calls Try.prog 14 #[.pointer (some ⟨X, 0, none⟩)] w fun e w' => e = .returned (.string (strOfNums (b64 (bytesOf ⟨#[85, 115, 101, 114, 110, 97, 109, 101, 58]⟩)))) ∧ Below w.heap.size w w' := by
  have HS := Lib.hid (state_calls X 1 w h)
  have HA := Lib.hid (asks_login w)
  have hmt := meth_asks
  have hcv : ∀ W : World, (convert 9 73 (.string ⟨#[85, 115, 101, 114, 110, 97, 109, 101, 58]⟩)).run Try.prog W = .ok (.slice (some ⟨W.heap.size, 0, none⟩) 9 (grownCap W 9 0 5)) (Lib.bytesWorld W 5 ⟨#[85, 115, 101, 114, 110, 97, 109, 101, 58]⟩) := fun W => Lib.run_convert_string_bytes (P := Try.prog) W 9 73 5 ⟨#[85, 115, 101, 114, 110, 97, 109, 101, 58]⟩ Try.underlying9 Try.underlying73 Try.underlying5
  have HBL := Lib.hid (fun (W : World) => base64_calls (some ⟨W.heap.size, 0, none⟩) (grownCap W 9 0 5) 9 (bytesOf ⟨#[85, 115, 101, 114, 110, 97, 109, 101, 58]⟩) (Lib.bytesWorld W 5 ⟨#[85, 115, 101, 114, 110, 97, 109, 101, 58]⟩) (by decide) (bytes_C W ⟨#[85, 115, 101, 114, 110, 97, 109, 101, 58]⟩ (by decide)) (grownCap_ge W 9 0 5) (by decide) (bytes_range _))
  go_enter Try.func14, Try.ntmps14
  go_wp2_with (first | (go_at_call 12; refine HS.out.mono ?_; rintro e w1 ⟨rfl, rfl⟩) | (go_at_call 131; refine HA.out.mono ?_; rintro e w2 ⟨rfl, hb2⟩; have HB2 := Lib.hid hb2; clear hb2) | (go_at_call 32; refine (HBL.out w2).mono ?_; rintro e w3 ⟨rfl, hb3⟩; have HB3 := Lib.hid hb3; clear hb3))
  go_ret
  exact ⟨rfl, (bytes_below HB2.out HB2.out.size 5 _).trans (HB3.out.mono (bytes_below HB2.out HB2.out.size 5 _).size)⟩
end Go.Proofs.Yticjpjgfccbhlaa.Parts
