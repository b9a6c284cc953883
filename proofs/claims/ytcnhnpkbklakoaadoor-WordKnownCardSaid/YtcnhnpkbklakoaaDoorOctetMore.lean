/- octet.Span from any place, and over bytes. -/
import Derived.Test.YtcnhnpkbklakoaaDoorOctet
import Derived.Test.YtcnhnpkbklakoaaDoorBase64
namespace Go.Proofs.YtcnhnpkbklakoaaDoor.Octet
open Go.RowKit Go.Proofs.YtcnhnpkbklakoaaDoorW.PrintWords Go.Proofs.YtcnhnpkbklakoaaDoorW.PrintLast Go.Proofs.YtcnhnpkbklakoaaDoorW.PrintMore
set_option linter.unusedVariables false
set_option linter.unusedSimpArgs false
set_option maxHeartbeats 2000000 in
set_option maxRecDepth 100000 in
theorem SpanFrom_calls (c : Int) (h5 : c ≠ 5) (h10 : c ≠ 10) (s : ByteArray) (i : Nat) (hi : i ≤ s.size) (hs : s.size ≤ 9223372036854775806) (w : World) (hT : Laid w) :
    Calls Tryd.prog 51 #[.int .i64 c, .string s, .int .i64 (i : Int)] w fun e w' => e = .returned (.int .i64 ((i + badAt c (s.data.toList.drop i) : Nat) : Int)) ∧ Below w.heap.size w w' := by
  have HT := Lib.hid hT
  have hlen : s.data.toList.length = s.size := data_length s
  have hi0 : decide ((i : Int) < 0) = false := decide_eq_false (by omega)
  clear hT
  go_enter Tryd.func51, Tryd.ntmps51
  go_wp2
  go_loopw [2] (fun v wr => ∃ k : Nat, i + k ≤ s.size ∧ v = .int .i64 ((i + k : Nat) : Int) ∧ Below w.heap.size w wr ∧ ∀ j b, j < k → (s.data.toList.drop i)[j]? = some b → isIn c b.toNat = true) (fun v _ => s.size - (intOf v).toNat)
  case atStart => exact ⟨0, by omega, rfl, Below.refl _ _, fun j b h => by omega⟩
  case round =>
    obtain ⟨k, hk, rfl, hB, hno⟩ := hrel
    have HN := Lib.hid hno
    have HB := Lib.hid hB
    clear hno hB
    by_cases hlt : i + k < s.size
    · obtain ⟨q, hq⟩ : ∃ q, q = i + k := ⟨_, rfl⟩
      rw [← hq]
      have hqs : q < s.size := by omega
      obtain ⟨x, hx⟩ : ∃ x : UInt8, s[q]'hqs = x := ⟨_, rfl⟩
      have hxl : (s.data.toList.drop i)[k]? = some x := by rw [List.getElem?_drop, ← hq, ← hx]; exact Lib.data_getElem? s q hqs
      have HX := Lib.hid hxl
      have HQ := Lib.hid hq
      have hx256 := x.toNat_lt
      have HC := Lib.hid (Is_calls c h5 h10 x.toNat (by omega) wr (HT.out.below HT.out.size HB.out))
      clear hxl hq
      cases hin : isIn c x.toNat
      · go_wp2_with (go_at_call 78; refine HC.out.mono ?_; rintro e w' ⟨rfl, hw⟩; rw [hin])
        go_ret
        refine ⟨?_, HB.out.trans (hw.mono HB.out.size)⟩
        rw [badAt_at HN.out HX.out hin, HQ.out]
        rfl
      · go_wp2_with (go_at_call 78; refine HC.out.mono ?_; rintro e w' ⟨rfl, hw⟩; rw [hin])
        go_roundw
        case rel =>
          refine ⟨k + 1, by omega, by rw [HQ.out]; go_num, HB.out.trans (hw.mono HB.out.size), fun j b hj hb => ?_⟩
          rcases Nat.lt_or_ge j k with h' | h'
          · exact HN.out j b h' hb
          · obtain rfl : j = k := by omega
            rw [HX.out] at hb
            cases hb
            exact hin
        case measure => simp [intOf]; omega
    · obtain ⟨q, hq⟩ : ∃ q, q = i + k := ⟨_, rfl⟩
      have hqs : q = s.size := by omega
      rw [← hq]
      have HQ := Lib.hid hq
      clear hq
      subst hqs
      go_wp2
      go_ret
      refine ⟨?_, HB.out⟩
      rw [badAt_all (fun j b hb => HN.out j b (by have := (List.getElem?_eq_some_iff.1 hb).1; rw [List.length_drop, hlen] at this; have := HQ.out; omega) hb), List.length_drop, hlen, show i + (s.size - i) = s.size by omega]
      rfl
theorem bytes_isIn {c : Int} {l : List UInt8} {j : Nat} {x : UInt8} (h : l[j]? = some x) : (l.map fun (b : UInt8) => (b.toNat : Int))[j]? = some (x.toNat : Int) := by
  rw [List.getElem?_map, h]
  rfl
set_option maxHeartbeats 2000000 in
set_option maxRecDepth 100000 in
/-- octet.Span over bytes, from their begin -/
theorem SpanB_calls (c : Int) (h5 : c ≠ 5) (h10 : c ≠ 10) (A : Option Addr) (cp n : Nat) (l : List UInt8) (hn : l.length = n) (w : World) (hr : Kd.C (Kd.int .u8) w A n (l.map fun (b : UInt8) => (b.toNat : Int))) (hc : n ≤ cp) (hs : n ≤ 9223372036854775806) (hT : Laid w) :
    Calls Tryd.prog 75 #[.int .i64 c, .slice A n cp, .int .i64 0] w fun e w' => e = .returned (.int .i64 (badAt c l)) ∧ Below w.heap.size w w' := by
  have HT := Lib.hid hT
  have HR := Lib.hid hr
  clear hT hr
  go_enter Tryd.func75, Tryd.ntmps75
  go_wp2
  go_loopw [2] (fun v wr => ∃ k : Nat, k ≤ n ∧ v = .int .i64 k ∧ Below w.heap.size w wr ∧ ∀ j b, j < k → l[j]? = some b → isIn c b.toNat = true) (fun v _ => n - (intOf v).toNat)
  case atStart => exact ⟨0, by omega, rfl, Below.refl _ _, fun j b h => by omega⟩
  case round =>
    obtain ⟨k, hk, rfl, hB, hno⟩ := hrel
    have HN := Lib.hid hno
    have HB := Lib.hid hB
    clear hno hB
    by_cases hlt : k < n
    · obtain ⟨x, hx⟩ : ∃ x, l[k]? = some x := ⟨_, List.getElem?_eq_getElem (by omega)⟩
      obtain ⟨B, off, rfl, hat⟩ := Code.atI_of_C HR.out (by omega)
      have y0 := hat k _ (bytes_isIn (c := c) hx)
      have x0 := (HB.out.cell (World.block_lt_of_cell? w _ y0)).trans y0
      have HX := Lib.hid hx
      have hx256 := x.toNat_lt
      have HC := Lib.hid (Is_calls c h5 h10 x.toNat (by omega) wr (HT.out.below HT.out.size HB.out))
      clear hx hat y0
      cases hin : isIn c x.toNat
      · go_wp2_with (go_at_call 78; refine HC.out.mono ?_; rintro e w' ⟨rfl, hw⟩; rw [hin])
        go_ret
        refine ⟨?_, HB.out.trans (hw.mono HB.out.size)⟩
        rw [badAt_at HN.out HX.out hin]
        rfl
      · go_wp2_with (go_at_call 78; refine HC.out.mono ?_; rintro e w' ⟨rfl, hw⟩; rw [hin])
        refine ⟨⟨k + 1, by omega, rfl, HB.out.trans (hw.mono HB.out.size), fun j b hj hb => ?_⟩, by simp [intOf]; omega⟩
        rcases Nat.lt_or_ge j k with h' | h'
        · exact HN.out j b h' hb
        · obtain rfl : j = k := by omega
          rw [HX.out] at hb
          cases hb
          exact hin
    · obtain rfl : k = n := by omega
      go_wp2
      go_ret
      refine ⟨?_, HB.out⟩
      rw [badAt_all (fun j b hb => HN.out j b (by have := (List.getElem?_eq_some_iff.1 hb).1; omega) hb), hn]
      rfl
set_option maxRecDepth 100000 in
theorem BadB_calls (c : Int) (h5 : c ≠ 5) (h10 : c ≠ 10) (A : Option Addr) (cp n : Nat) (l : List UInt8) (hn : l.length = n) (w : World) (hr : Kd.C (Kd.int .u8) w A n (l.map fun (b : UInt8) => (b.toNat : Int))) (hc : n ≤ cp) (hs : n ≤ 9223372036854775806) (hT : Laid w) :
    Calls Tryd.prog 49 #[.int .i64 c, .slice A n cp] w fun e w' => e = .returned (.int .i64 (badAt c l)) ∧ Below w.heap.size w w' := by
  have HC := Lib.hid (SpanB_calls c h5 h10 A cp n l hn w hr hc hs hT)
  clear hT hr
  go_enter Tryd.func49, Tryd.ntmps49
  go_wp2_with (go_at_call 75; refine HC.out.mono ?_; rintro e w1 ⟨rfl, hb⟩)
  go_ret
  exact ⟨rfl, hb⟩
end Go.Proofs.YtcnhnpkbklakoaaDoor.Octet
