/- octet.Is, Span and Bad from the table as it is laid. -/
import Derived.Test.YtcnhnpkbklakoaaDoorProg
import Derived.Test.YtcnhnpkbklakoaaDoorWWords
import Derived.Test.YtcnhnpkbklakoaaDoorWLast
import Derived.Test.YtcnhnpkbklakoaaDoorWMore
import Derived.Lib.Hide
import Derived.Lib.IndexBytes
namespace Go.Proofs.YtcnhnpkbklakoaaDoor.Octet
open Go.RowKit Go.Proofs.YtcnhnpkbklakoaaDoorW.PrintWords Go.Proofs.YtcnhnpkbklakoaaDoorW.PrintLast Go.Proofs.YtcnhnpkbklakoaaDoorW.PrintMore
set_option linter.unusedVariables false
set_option linter.unusedSimpArgs false

/-- the table: a class, and the first and the last byte of a stretch of it -/
def tab : List (Nat × Nat × Nat) := [(1, 65, 90), (1, 97, 122), (2, 48, 57), (3, 65, 90), (3, 97, 122), (3, 48, 57), (4, 48, 57), (4, 65, 70), (4, 97, 102), (5, 33, 33), (5, 35, 39), (5, 42, 43), (5, 45, 45), (5, 47, 47), (5, 61, 61), (5, 63, 63), (5, 94, 96), (5, 123, 126), (6, 32, 33), (6, 35, 91), (6, 93, 126), (7, 33, 90), (7, 94, 126), (8, 33, 60), (8, 62, 126), (9, 33, 42), (9, 44, 60), (9, 62, 126), (10, 45, 45), (11, 33, 57), (11, 59, 126), (12, 9, 9), (12, 32, 126), (13, 0, 127), (14, 128, 255)]
def row (k : Nat) : Nat × Nat × Nat := tab.getD k (0, 0, 0)
/-- the table lies in the world -/
def Laid (w : World) : Prop := ∀ k, k < 35 → w.cell? ⟨0, k * 3, none⟩ = some (.int .i64 (row k).1) ∧ w.cell? ⟨0, k * 3 + 1, none⟩ = some (.int .u8 (row k).2.1) ∧ w.cell? ⟨0, k * 3 + 2, none⟩ = some (.int .u8 (row k).2.2)
theorem Laid.below {w w' : World} (h : Laid w) {B : Nat} (hB : 0 < B) (hb : Below B w w') : Laid w' := fun k hk => by
  obtain ⟨h1, h2, h3⟩ := h k hk
  exact ⟨(hb.cell (p := ⟨0, k * 3, none⟩) hB).trans h1, (hb.cell (p := ⟨0, k * 3 + 1, none⟩) hB).trans h2, (hb.cell (p := ⟨0, k * 3 + 2, none⟩) hB).trans h3⟩
theorem Laid.size {w : World} (h : Laid w) : 0 < w.heap.size := World.block_lt_of_cell? w _ (h 0 (by omega)).1
/-- one stretch holds the byte -/
def hit (c : Int) (b : Nat) (k : Nat) : Bool := decide (((row k).1 : Int) = c ∧ (row k).2.1 ≤ b ∧ b ≤ (row k).2.2)
def isIn (c : Int) (b : Nat) : Bool := (List.range 35).any (hit c b)

theorem info128 : (Tryd.prog.info? 128).map (fun i => (i.zero, i.size, i.bytes)) = some (some (.agg #[(.int .i64 0), (.int .u8 0), (.int .u8 0)]), 3, 16) := by kernel_rfl

set_option maxHeartbeats 2000000 in
set_option maxRecDepth 100000 in
theorem Is_calls (c : Int) (h5 : c ≠ 5) (h10 : c ≠ 10) (b : Nat) (hb : b < 256) (w : World) (hT : Laid w) :
    Calls Tryd.prog 78 #[.int .i64 c, .int .u8 b] w fun e w' => e = .returned (.bool (isIn c b)) ∧ Below w.heap.size w w' := by
  have hu128 := Tryd.underlying128
  have hu129 := Tryd.underlying129
  have e5 : (c == 5) = false := beq_eq_false_iff_ne.2 h5
  have e10 : (c == 10) = false := beq_eq_false_iff_ne.2 h10
  have HT := Lib.hid hT
  clear hT h5 h10
  go_enter Tryd.func78, Tryd.ntmps78
  go_wp2
  go_loopw [7] (fun v wr => ∃ k : Nat, k ≤ 35 ∧ v = .int .i64 k ∧ Below w.heap.size w wr ∧ ∀ j, j < k → hit c b j = false) (fun v _ => 35 - (intOf v).toNat)
  case atStart => exact ⟨0, by omega, rfl, Below.refl _ _, fun j h => by omega⟩
  case round =>
    obtain ⟨k, hk, rfl, hB, hno⟩ := hrel
    have HN := Lib.hid hno
    have HB := Lib.hid hB
    clear hno hB
    by_cases hlt : k < 35
    · obtain ⟨h1, h2, h3⟩ := (HT.out.below HT.out.size HB.out) k hlt
      have hhit : hit c b k = (((row k).1 : Int) == c && decide (((row k).2.1 : Int) ≤ b) && decide ((b : Int) ≤ (row k).2.2)) := by
        unfold hit
        rw [Bool.eq_iff_iff]
        simp only [decide_eq_true_eq, Bool.and_eq_true, beq_iff_eq]
        omega
      generalize hr : row k = r at h1 h2 h3 hhit
      obtain ⟨rc, rlo, rhi⟩ := r
      simp only at h1 h2 h3 hhit
      have goOn : hit c b k = false → ∀ u v, ∃ k1 : Nat, k1 ≤ 35 ∧ Value.int IntKind.i64 ((k : Int) + 1) = .int .i64 k1 ∧ Below w.heap.size w (wr.alloc (.cells u v)) ∧ ∀ j, j < k1 → hit c b j = false := by
        intro h u v
        refine ⟨k + 1, by omega, rfl, HB.out.alloc HB.out.size _, fun j hj => ?_⟩
        rcases Nat.lt_or_ge j k with h' | h'
        · exact HN.out j h'
        · rw [show j = k by omega]; exact h
      have HG := Lib.hid goOn
      have HH := Lib.hid hhit
      clear goOn hhit
      by_cases c1 : (rc : Int) = c
      · by_cases c2 : (rlo : Int) ≤ b
        · by_cases c3 : (b : Int) ≤ rhi
          · go_wp2
            go_ret
            refine ⟨?_, HB.out.alloc HB.out.size _⟩
            have : isIn c b = true := by
              unfold isIn
              rw [List.any_eq_true]
              refine ⟨k, List.mem_range.2 hlt, ?_⟩
              rw [HH.out]
              simp [c1, c2, c3]
            rw [this]
            rfl
          · have hf := HG.out (by rw [HH.out]; simp [c3])
            go_wp2
            exact ⟨hf _ _, by simp [intOf]; omega⟩
        · have hf := HG.out (by rw [HH.out]; simp [c2])
          go_wp2
          exact ⟨hf _ _, by simp [intOf]; omega⟩
      · have hf := HG.out (by rw [HH.out]; simp [c1])
        have c1b : ((rc : Int) == c) = false := beq_eq_false_iff_ne.2 c1
        go_wp2
        exact ⟨hf _ _, by simp [intOf]; omega⟩
    · obtain rfl : k = 35 := by omega
      have hF : isIn c b = false := by
        unfold isIn
        rw [List.any_eq_false]
        intro j hj
        rw [HN.out j (List.mem_range.1 hj)]
        simp
      go_wp2
      go_ret
      exact ⟨by rw [hF]; rfl, HB.out⟩

/-- how many bytes from the front are of the class -/
def badAt (c : Int) (s : List UInt8) : Nat := s.findIdx fun b => !isIn c b.toNat
theorem badAt_le (c : Int) (s : List UInt8) : badAt c s ≤ s.length := List.findIdx_le_length
theorem badAt_at {c : Int} {s : List UInt8} {k : Nat} {x : UInt8} (h : ∀ j b, j < k → s[j]? = some b → isIn c b.toNat = true) (hx : s[k]? = some x) (hin : isIn c x.toNat = false) : badAt c s = k := by
  obtain ⟨hk, hxe⟩ := List.getElem?_eq_some_iff.1 hx
  unfold badAt
  rw [List.findIdx_eq hk]
  refine ⟨by rw [hxe, hin]; rfl, fun j hj => ?_⟩
  rw [h j _ hj (List.getElem?_eq_getElem (by omega))]
  rfl
theorem badAt_all {c : Int} {s : List UInt8} (h : ∀ (j : Nat) b, s[j]? = some b → isIn c b.toNat = true) : badAt c s = s.length := by
  unfold badAt
  rw [List.findIdx_eq_length]
  intro b hb
  obtain ⟨j, hj, rfl⟩ := List.getElem_of_mem hb
  rw [h j _ (List.getElem?_eq_getElem hj)]
  rfl
set_option maxHeartbeats 2000000 in
set_option maxRecDepth 100000 in
theorem Span_calls (c : Int) (h5 : c ≠ 5) (h10 : c ≠ 10) (s : ByteArray) (hs : s.size ≤ 9223372036854775806) (w : World) (hT : Laid w) :
    Calls Tryd.prog 51 #[.int .i64 c, .string s, .int .i64 0] w fun e w' => e = .returned (.int .i64 (badAt c s.data.toList)) ∧ Below w.heap.size w w' := by
  have HT := Lib.hid hT
  have hlen : s.data.toList.length = s.size := data_length s
  clear hT
  go_enter Tryd.func51, Tryd.ntmps51
  go_wp2
  go_loopw [2] (fun v wr => ∃ k : Nat, k ≤ s.size ∧ v = .int .i64 k ∧ Below w.heap.size w wr ∧ ∀ j b, j < k → s.data.toList[j]? = some b → isIn c b.toNat = true) (fun v _ => s.size - (intOf v).toNat)
  case atStart => exact ⟨0, by omega, rfl, Below.refl _ _, fun j b h => by omega⟩
  case round =>
    obtain ⟨k, hk, rfl, hB, hno⟩ := hrel
    have HN := Lib.hid hno
    have HB := Lib.hid hB
    clear hno hB
    by_cases hlt : k < s.size
    · obtain ⟨x, hx⟩ : ∃ x : UInt8, s[k]'hlt = x := ⟨_, rfl⟩
      have hxl : s.data.toList[k]? = some x := by rw [← hx]; exact Lib.data_getElem? s k hlt
      have HX := Lib.hid hxl
      have hx256 := x.toNat_lt
      have HC := Lib.hid (Is_calls c h5 h10 x.toNat (by omega) wr (HT.out.below HT.out.size HB.out))
      clear hxl
      cases hin : isIn c x.toNat
      · go_wp2_with (go_at_call 78; refine HC.out.mono ?_; rintro e w' ⟨rfl, hw⟩; rw [hin])
        go_ret
        refine ⟨?_, HB.out.trans (hw.mono HB.out.size)⟩
        rw [badAt_at HN.out HX.out hin]
        rfl
      · go_wp2_with (go_at_call 78; refine HC.out.mono ?_; rintro e w' ⟨rfl, hw⟩; rw [hin])
        refine ⟨⟨k + 1, by omega, rfl, HB.out.trans (hw.mono HB.out.size), fun j b hj hb => ?_⟩, by simp [intOf]; omega⟩
        rcases Nat.lt_or_ge j k with h' | h'
        · exact HN.out j b h' hb
        · obtain rfl : j = k := by omega
          rw [HX.out] at hb
          cases hb
          exact hin
    · obtain rfl : k = s.size := by omega
      go_wp2
      go_ret
      refine ⟨?_, HB.out⟩
      rw [badAt_all (fun j b hb => HN.out j b (by rw [← hlen]; exact (List.getElem?_eq_some_iff.1 hb).1) hb), hlen]
      rfl
set_option maxRecDepth 100000 in
theorem Bad_calls (c : Int) (h5 : c ≠ 5) (h10 : c ≠ 10) (s : ByteArray) (hs : s.size ≤ 9223372036854775806) (w : World) (hT : Laid w) :
    Calls Tryd.prog 30 #[.int .i64 c, .string s] w fun e w' => e = .returned (.int .i64 (badAt c s.data.toList)) ∧ Below w.heap.size w w' := by
  have HC := Lib.hid (Span_calls c h5 h10 s hs w hT)
  clear hT
  go_enter Tryd.func30, Tryd.ntmps30
  go_wp2_with (go_at_call 51; refine HC.out.mono ?_; rintro e w' ⟨rfl, hw⟩)
  go_ret
  exact ⟨rfl, hw⟩
/-- is it a field's name? -/
def nameB (s : List UInt8) : Bool := !s.isEmpty && s.all fun b => isIn 11 b.toNat
theorem badAt_full (c : Int) (s : List UInt8) : (badAt c s = s.length ↔ s.all (fun b => isIn c b.toNat) = true) := by
  unfold badAt
  rw [List.findIdx_eq_length, List.all_eq_true]
  simp
end Go.Proofs.YtcnhnpkbklakoaaDoor.Octet
