/- digest of the law and of sasl by contract. -/
import Derived.Test.YticjpjgfccbhlaaHash9
namespace Go.Proofs.Yticjpjgfccbhlaa.Hash
open Go.RowKit Go.Proofs.YticjpjgfccbhlaaW.PrintWords Go.Proofs.YticjpjgfccbhlaaW.PrintLast Go.Proofs.YticjpjgfccbhlaaW.PrintMore Go.Proofs.Yticjpjgfccbhlaa.PSaslBoth
attribute [local go_sem] max2_int min2_int max_two min_two max_three min_three max_four min_four
set_option linter.unusedVariables false
set_option linter.unusedSimpArgs false
theorem bytes_len (t : ByteArray) : (bytesOf t).length = t.size := by unfold bytesOf; rw [List.length_map, data_length]
theorem bytes_range (t : ByteArray) : ∀ x ∈ bytesOf t, 0 ≤ x ∧ x < 256 := by
  intro x hx
  unfold bytesOf at hx
  obtain ⟨c, _, rfl⟩ := List.mem_map.1 hx
  have := c.toNat_lt
  omega
theorem bytes_C (w : World) (t : ByteArray) (ht : t.size ≤ 1000000000) : Kd.C (Kd.int .u8) (Lib.bytesWorld w 5 t) (some ⟨w.heap.size, 0, none⟩) t.size (bytesOf t) :=
  Code.C_of_atI (bytes_len t) (fun j x hx => by
    have hj : j < t.size := by have := (List.getElem?_eq_some_iff.1 hx).1; rwa [bytes_len] at this
    rw [Nat.zero_add, Lib.bytesWorld_cell w 5 t j hj]
    unfold bytesOf at hx
    rw [List.getElem?_map] at hx
    obtain ⟨c, hc, rfl⟩ := Option.map_eq_some_iff.1 hx
    rw [List.getD_eq_getElem?_getD, hc]
    rfl) (by omega)
/-- what a client of CRAM-MD5 shows -/
def digestV (T S : Nat → Int) (secret stamp : ByteArray) : ByteArray := tellV (macV T S (bytesOf secret) (bytesOf stamp))
theorem macV_range (T S : Nat → Int) (key b : List Int) : ∀ j, j < 16 → 0 ≤ macV T S key b j ∧ macV T S key b j < 256 := by
  intro j _
  unfold macV sumD digB
  exact ⟨Int.emod_nonneg _ (by decide), Int.emod_lt_of_pos _ (by decide)⟩
set_option maxHeartbeats 4000000 in
set_option maxRecDepth 100000 in
theorem digest_calls2 {T S : Nat → Int} (secret stamp : ByteArray) (w : World) (ht : Tabs T S w) (h1 : secret.size ≤ 100000000) (h2 : stamp.size ≤ 100000000) :
    Calls Try.prog 99 #[.string secret, .string stamp] w fun e w' => e = .returned (.string (digestV T S secret stamp)) ∧ Below w.heap.size w w' := by
  have hcv := Lib.run_convert_string_bytes (P := Try.prog) w 9 73 5 secret Try.underlying9 Try.underlying73 Try.underlying5
  obtain ⟨W1, hW1⟩ : ∃ W1, W1 = Lib.bytesWorld w 5 secret := ⟨_, rfl⟩
  have hcv2 := Lib.run_convert_string_bytes (P := Try.prog) W1 9 73 5 stamp Try.underlying9 Try.underlying73 Try.underlying5
  have hb1 : Below w.heap.size w W1 := hW1 ▸ bytes_below (Below.refl w.heap.size w) (Nat.le_refl _) 5 secret
  have hb2 : Below w.heap.size w (Lib.bytesWorld W1 5 stamp) := bytes_below hb1 hb1.size 5 stamp
  have hk : Kd.C (Kd.int .u8) W1 (some ⟨w.heap.size, 0, none⟩) secret.size (bytesOf secret) := hW1 ▸ bytes_C w secret (by omega)
  have hk2 := Kd.C_below hk (bytes_below (Below.refl W1.heap.size W1) (Nat.le_refl _) 5 stamp)
  have HM := Lib.hid (mac_calls (ht.below hb2 ht.size) hk2 (bytes_len secret) (grownCap_ge w secret.size 0 5) (by omega) (bytes_C W1 stamp (by omega)) (bytes_len stamp) (grownCap_ge W1 stamp.size 0 5) (by omega))
  have HB2 := Lib.hid hb2
  have HW1 := Lib.hid hW1
  clear hb1 hb2 hk hk2
  rw [hW1] at hcv2
  clear hW1
  go_enter Try.func99, Try.ntmps99
  go_wp2_with fail
  rw [← HW1.out]
  refine HM.out.mono ?_
  rintro e w1 ⟨rfl, hb1⟩
  have HB3 := Lib.hid (HB2.out.trans (hb1.mono HB2.out.size))
  have HT := Lib.hid (tell_calls (macV T S (bytesOf secret) (bytesOf stamp)) (macV_range T S (bytesOf secret) (bytesOf stamp)) w1)
  clear hb1 hcv hcv2
  go_wp2_with fail
  refine HT.out.mono ?_
  rintro e w2 ⟨rfl, hb2⟩
  have HB4 := Lib.hid (HB3.out.trans (hb2.mono HB3.out.size))
  clear hb2
  go_wp2
  go_ret
  exact ⟨rfl, HB4.out⟩
end Go.Proofs.Yticjpjgfccbhlaa.Hash
