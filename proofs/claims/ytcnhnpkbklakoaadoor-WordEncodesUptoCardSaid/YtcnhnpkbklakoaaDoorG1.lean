/- octet and code by contract: classes of bytes, base64, hexadecimal digits, word.row, octet.Upper. (Parts began as printed by print.sh: code.value, word.row, octet.Upper, octet.value.) -/
import Derived.Test.YtcnhnpkbklakoaaDoorProg
import Derived.Test.YtcnhnpkbklakoaaDoorWWords
import Derived.Test.YtcnhnpkbklakoaaDoorWLast
import Derived.Test.YtcnhnpkbklakoaaDoorX0
import Derived.Lib.Hide
import Derived.Lib.IndexBytes
import Derived.Deep.AppendLies
import Derived.RegionTactic
import Derived.Deep.CutBlock
import Derived.Deep.DeepCutAuto
import Derived.ChangeAlike
import Derived.StillTailTactics
/- octet.Is, Span and Bad from the table as it is laid. -/
namespace Go.Proofs.YtcnhnpkbklakoaaDoor.Octet
open Go.RowKit Go.Proofs.YtcnhnpkbklakoaaDoorW.PrintWords Go.Proofs.YtcnhnpkbklakoaaDoorW.PrintLast Go.Proofs.YtcnhnpkbklakoaaDoorW.PrintMore
set_option linter.unusedVariables false
set_option linter.unusedSimpArgs false

/-- the table: a class, and the first and the last byte of a stretch of it -/
def tab : List (Nat × Nat × Nat) := [(1, 65, 90), (1, 97, 122), (2, 48, 57), (3, 65, 90), (3, 97, 122), (3, 48, 57), (4, 48, 57), (4, 65, 70), (4, 97, 102), (5, 33, 33), (5, 35, 39), (5, 42, 43), (5, 45, 45), (5, 47, 47), (5, 61, 61), (5, 63, 63), (5, 94, 96), (5, 123, 126), (6, 32, 33), (6, 35, 91), (6, 93, 126), (7, 33, 90), (7, 94, 126), (8, 33, 60), (8, 62, 126), (9, 33, 42), (9, 44, 60), (9, 62, 126), (10, 45, 45), (11, 33, 57), (11, 59, 126), (12, 9, 9), (12, 32, 126), (13, 0, 127), (14, 128, 255)]
def row (k : Nat) : Nat × Nat × Nat := tab.getD k (0, 0, 0)
/-- the table lies in the world -/
def Laid (w : World) : Prop := ∀ k, k < 35 → w.cell? ⟨0, k * 3, none⟩ = some (.int .i64 (row k).1) ∧ w.cell? ⟨0, k * 3 + 1, none⟩ = some (.int .u8 (row k).2.1) ∧ w.cell? ⟨0, k * 3 + 2, none⟩ = some (.int .u8 (row k).2.2)
theorem Laid.below {w w' : World} (h : Laid w) {B : Nat} (hB : 0 < B) (hb : Below B w w') : Laid w' := fun k hk => by
  obtain ⟨h1, h2, h3⟩ := h k hk
  exact ⟨(hb.cell (p := ⟨0, k * 3, none⟩) hB).trans h1, (hb.cell (p := ⟨0, k * 3 + 1, none⟩) hB).trans h2, (hb.cell (p := ⟨0, k * 3 + 2, none⟩) hB).trans h3⟩
theorem Laid.size {w : World} (h : Laid w) : 0 < w.heap.size := World.block_lt_of_cell? w _ (h 0 (by omega)).1
/-- one stretch holds the byte -/
def hit (c : Int) (b : Nat) (k : Nat) : Bool := decide (((row k).1 : Int) = c ∧ (row k).2.1 ≤ b ∧ b ≤ (row k).2.2)
def isIn (c : Int) (b : Nat) : Bool := (List.range 35).any (hit c b)

theorem info128 : (Tryd.prog.info? 128).map (fun i => (i.zero, i.size, i.bytes)) = some (some (.agg #[(.int .i64 0), (.int .u8 0), (.int .u8 0)]), 3, 16) := by kernel_rfl

set_option maxHeartbeats 2000000 in
set_option maxRecDepth 100000 in
theorem Is_calls (c : Int) (h5 : c ≠ 5) (h10 : c ≠ 10) (b : Nat) (hb : b < 256) (w : World) (hT : Laid w) :
    Calls Tryd.prog 78 #[.int .i64 c, .int .u8 b] w fun e w' => e = .returned (.bool (isIn c b)) ∧ Below w.heap.size w w' := by
  have hu128 := Tryd.underlying128
  have hu129 := Tryd.underlying129
  have e5 : (c == 5) = false := beq_eq_false_iff_ne.2 h5
  have e10 : (c == 10) = false := beq_eq_false_iff_ne.2 h10
  have HT := Lib.hid hT
  clear hT h5 h10
  go_enter Tryd.func78, Tryd.ntmps78
  go_wp2
  go_loopw [7] (fun v wr => ∃ k : Nat, k ≤ 35 ∧ v = .int .i64 k ∧ Below w.heap.size w wr ∧ ∀ j, j < k → hit c b j = false) (fun v _ => 35 - (intOf v).toNat)
  case atStart => exact ⟨0, by omega, rfl, Below.refl _ _, fun j h => by omega⟩
  case round =>
    obtain ⟨k, hk, rfl, hB, hno⟩ := hrel
    have HN := Lib.hid hno
    have HB := Lib.hid hB
    clear hno hB
    by_cases hlt : k < 35
    · obtain ⟨h1, h2, h3⟩ := (HT.out.below HT.out.size HB.out) k hlt
      have hhit : hit c b k = (((row k).1 : Int) == c && decide (((row k).2.1 : Int) ≤ b) && decide ((b : Int) ≤ (row k).2.2)) := by
        unfold hit
        rw [Bool.eq_iff_iff]
        simp only [decide_eq_true_eq, Bool.and_eq_true, beq_iff_eq]
        omega
      generalize hr : row k = r at h1 h2 h3 hhit
      obtain ⟨rc, rlo, rhi⟩ := r
      simp only at h1 h2 h3 hhit
      have goOn : hit c b k = false → ∀ u v, ∃ k1 : Nat, k1 ≤ 35 ∧ Value.int IntKind.i64 ((k : Int) + 1) = .int .i64 k1 ∧ Below w.heap.size w (wr.alloc (.cells u v)) ∧ ∀ j, j < k1 → hit c b j = false := by
        intro h u v
        refine ⟨k + 1, by omega, rfl, HB.out.alloc HB.out.size _, fun j hj => ?_⟩
        rcases Nat.lt_or_ge j k with h' | h'
        · exact HN.out j h'
        · rw [show j = k by omega]; exact h
      have HG := Lib.hid goOn
      have HH := Lib.hid hhit
      clear goOn hhit
      by_cases c1 : (rc : Int) = c
      · by_cases c2 : (rlo : Int) ≤ b
        · by_cases c3 : (b : Int) ≤ rhi
          · go_wp2
            go_ret
            refine ⟨?_, HB.out.alloc HB.out.size _⟩
            have : isIn c b = true := by
              unfold isIn
              rw [List.any_eq_true]
              refine ⟨k, List.mem_range.2 hlt, ?_⟩
              rw [HH.out]
              simp [c1, c2, c3]
            rw [this]
            rfl
          · have hf := HG.out (by rw [HH.out]; simp [c3])
            go_wp2
            exact ⟨hf _ _, by simp [intOf]; omega⟩
        · have hf := HG.out (by rw [HH.out]; simp [c2])
          go_wp2
          exact ⟨hf _ _, by simp [intOf]; omega⟩
      · have hf := HG.out (by rw [HH.out]; simp [c1])
        have c1b : ((rc : Int) == c) = false := beq_eq_false_iff_ne.2 c1
        go_wp2
        exact ⟨hf _ _, by simp [intOf]; omega⟩
    · obtain rfl : k = 35 := by omega
      have hF : isIn c b = false := by
        unfold isIn
        rw [List.any_eq_false]
        intro j hj
        rw [HN.out j (List.mem_range.1 hj)]
        simp
      go_wp2
      go_ret
      exact ⟨by rw [hF]; rfl, HB.out⟩

/-- how many bytes from the front are of the class -/
def badAt (c : Int) (s : List UInt8) : Nat := s.findIdx fun b => !isIn c b.toNat
theorem badAt_le (c : Int) (s : List UInt8) : badAt c s ≤ s.length := List.findIdx_le_length
theorem badAt_at {c : Int} {s : List UInt8} {k : Nat} {x : UInt8} (h : ∀ j b, j < k → s[j]? = some b → isIn c b.toNat = true) (hx : s[k]? = some x) (hin : isIn c x.toNat = false) : badAt c s = k := by
  obtain ⟨hk, hxe⟩ := List.getElem?_eq_some_iff.1 hx
  unfold badAt
  rw [List.findIdx_eq hk]
  refine ⟨by rw [hxe, hin]; rfl, fun j hj => ?_⟩
  rw [h j _ hj (List.getElem?_eq_getElem (by omega))]
  rfl
theorem badAt_all {c : Int} {s : List UInt8} (h : ∀ (j : Nat) b, s[j]? = some b → isIn c b.toNat = true) : badAt c s = s.length := by
  unfold badAt
  rw [List.findIdx_eq_length]
  intro b hb
  obtain ⟨j, hj, rfl⟩ := List.getElem_of_mem hb
  rw [h j _ (List.getElem?_eq_getElem hj)]
  rfl
set_option maxHeartbeats 2000000 in
set_option maxRecDepth 100000 in
theorem Span_calls (c : Int) (h5 : c ≠ 5) (h10 : c ≠ 10) (s : ByteArray) (hs : s.size ≤ 9223372036854775806) (w : World) (hT : Laid w) :
    Calls Tryd.prog 51 #[.int .i64 c, .string s, .int .i64 0] w fun e w' => e = .returned (.int .i64 (badAt c s.data.toList)) ∧ Below w.heap.size w w' := by
  have HT := Lib.hid hT
  have hlen : s.data.toList.length = s.size := data_length s
  clear hT
  go_enter Tryd.func51, Tryd.ntmps51
  go_wp2
  go_loopw [2] (fun v wr => ∃ k : Nat, k ≤ s.size ∧ v = .int .i64 k ∧ Below w.heap.size w wr ∧ ∀ j b, j < k → s.data.toList[j]? = some b → isIn c b.toNat = true) (fun v _ => s.size - (intOf v).toNat)
  case atStart => exact ⟨0, by omega, rfl, Below.refl _ _, fun j b h => by omega⟩
  case round =>
    obtain ⟨k, hk, rfl, hB, hno⟩ := hrel
    have HN := Lib.hid hno
    have HB := Lib.hid hB
    clear hno hB
    by_cases hlt : k < s.size
    · obtain ⟨x, hx⟩ : ∃ x : UInt8, s[k]'hlt = x := ⟨_, rfl⟩
      have hxl : s.data.toList[k]? = some x := by rw [← hx]; exact Lib.data_getElem? s k hlt
      have HX := Lib.hid hxl
      have hx256 := x.toNat_lt
      have HC := Lib.hid (Is_calls c h5 h10 x.toNat (by omega) wr (HT.out.below HT.out.size HB.out))
      clear hxl
      cases hin : isIn c x.toNat
      · go_wp2_with (go_at_call 78; refine HC.out.mono ?_; rintro e w' ⟨rfl, hw⟩; rw [hin])
        go_ret
        refine ⟨?_, HB.out.trans (hw.mono HB.out.size)⟩
        rw [badAt_at HN.out HX.out hin]
        rfl
      · go_wp2_with (go_at_call 78; refine HC.out.mono ?_; rintro e w' ⟨rfl, hw⟩; rw [hin])
        refine ⟨⟨k + 1, by omega, rfl, HB.out.trans (hw.mono HB.out.size), fun j b hj hb => ?_⟩, by simp [intOf]; omega⟩
        rcases Nat.lt_or_ge j k with h' | h'
        · exact HN.out j b h' hb
        · obtain rfl : j = k := by omega
          rw [HX.out] at hb
          cases hb
          exact hin
    · obtain rfl : k = s.size := by omega
      go_wp2
      go_ret
      refine ⟨?_, HB.out⟩
      rw [badAt_all (fun j b hb => HN.out j b (by rw [← hlen]; exact (List.getElem?_eq_some_iff.1 hb).1) hb), hlen]
      rfl
set_option maxRecDepth 100000 in
theorem Bad_calls (c : Int) (h5 : c ≠ 5) (h10 : c ≠ 10) (s : ByteArray) (hs : s.size ≤ 9223372036854775806) (w : World) (hT : Laid w) :
    Calls Tryd.prog 30 #[.int .i64 c, .string s] w fun e w' => e = .returned (.int .i64 (badAt c s.data.toList)) ∧ Below w.heap.size w w' := by
  have HC := Lib.hid (Span_calls c h5 h10 s hs w hT)
  clear hT
  go_enter Tryd.func30, Tryd.ntmps30
  go_wp2_with (go_at_call 51; refine HC.out.mono ?_; rintro e w' ⟨rfl, hw⟩)
  go_ret
  exact ⟨rfl, hw⟩
/-- is it a field's name? -/
def nameB (s : List UInt8) : Bool := !s.isEmpty && s.all fun b => isIn 11 b.toNat
theorem badAt_full (c : Int) (s : List UInt8) : (badAt c s = s.length ↔ s.all (fun b => isIn c b.toNat) = true) := by
  unfold badAt
  rw [List.findIdx_eq_length, List.all_eq_true]
  simp
end Go.Proofs.YtcnhnpkbklakoaaDoor.Octet
/- code.Base64 by contract. -/
namespace Go.Proofs.YtcnhnpkbklakoaaDoor.Code
open Go.RowKit Go.Proofs.YtcnhnpkbklakoaaDoorW.PrintWords Go.Proofs.YtcnhnpkbklakoaaDoorW.PrintLast Go.Proofs.YtcnhnpkbklakoaaDoorW.PrintMore Go.Proofs.YtcnhnpkbklakoaaDoor.PWordEncodes
attribute [local go_sem] max2_int min2_int max_two min_two max_three min_three max_four min_four
set_option linter.unusedVariables false
set_option linter.unusedSimpArgs false
def L64 : ByteArray := ⟨#[65, 66, 67, 68, 69, 70, 71, 72, 73, 74, 75, 76, 77, 78, 79, 80, 81, 82, 83, 84, 85, 86, 87, 88, 89, 90, 97, 98, 99, 100, 101, 102, 103, 104, 105, 106, 107, 108, 109, 110, 111, 112, 113, 114, 115, 116, 117, 118, 119, 120, 121, 122, 48, 49, 50, 51, 52, 53, 54, 55, 56, 57, 43, 47]⟩
/-- the four letters -/
def four (a b c : Int) : List Int := [bt L64 (a / 4), bt L64 (a % 4 * 16 + b / 16), bt L64 (b % 16 * 4 + c / 64), bt L64 (c % 64)]
def b64 : List Int → List Int
  | a :: b :: c :: l => four a b c ++ b64 l
  | [a, b] => [bt L64 (a / 4), bt L64 (a % 4 * 16 + b / 16), bt L64 (b % 16 * 4), 61]
  | [a] => [bt L64 (a / 4), bt L64 (a % 4 * 16), 61, 61]
  | [] => []
def lenOf : Value → Nat
  | .slice _ n _ => n
  | _ => 0
theorem u8_and3 {x : Int} (h₀ : 0 ≤ x) (h₁ : x < 256) : bits .and .u8 x 3 = x % 4 := bits_mask .u8 8 (by decide) wraps_u8 2 (by decide) x h₀ h₁
theorem u8_or4 (x y : Int) (h0 : 0 ≤ x) (h1 : x % 16 = 0) (h2 : x < 256) (h3 : 0 ≤ y) (h4 : y < 16) : bits .or .u8 x y = x + y := bits_join .u8 8 (by decide) wraps_u8 4 x y h0 h1 h2 h3 h4 (by omega)
theorem u8_or2 (x y : Int) (h0 : 0 ≤ x) (h1 : x % 4 = 0) (h2 : x < 256) (h3 : 0 ≤ y) (h4 : y < 4) : bits .or .u8 x y = x + y := bits_join .u8 8 (by decide) wraps_u8 2 x y h0 h1 h2 h3 h4 (by omega)
theorem nums_one (l : List Int) : ∀ u ∈ nums .u8 l, u.oneCell' = true := by
  intro u hu
  simp only [nums, List.mem_map] at hu
  obtain ⟨q, _, rfl⟩ := hu
  rfl
theorem own_drew {w : World} {b e s n : Nat} {v : Value} {xs : List Value} (h : w.ownsRow b e s v n xs) : w.drew.ownsRow b e s v n xs := h
theorem add_at (b off j : Nat) : (⟨b, off, none⟩ : Addr).add j = ⟨b, off + j, none⟩ := by
  unfold Addr.add
  split
  · next h => subst h; rfl
  · rfl
def AtI (w : World) (b off : Nat) (l : List Int) : Prop := ∀ (j : Nat) x, l[j]? = some x → w.cell? ⟨b, off + j, none⟩ = some (.int .u8 x)
theorem atI_of_C {w : World} {A : Option Addr} {n : Nat} {l : List Int} (h : Kd.C (Kd.int .u8) w A n l) (h0 : 0 < n) : ∃ b off, A = some ⟨b, off, none⟩ ∧ AtI w b off l := by
  have hn : l.length = n := h.1
  obtain ⟨ad, rfl, hc⟩ := h.2.2 h0
  have hx : ∀ (j : Nat) x, l[j]? = some x → w.cell? (ad.add j) = some (.int .u8 x) := by
    intro j x hj
    obtain ⟨cs, hl, hk, hu⟩ := hc j x hj
    obtain rfl : cs = [.int .u8 x] := hk
    have := hu 0 _ rfl
    rw [Nat.add_zero] at this
    rwa [show j * (Kd.int .u8).sz = j from Nat.mul_one j] at this
  obtain ⟨b, off, sp⟩ := ad
  have hsp : sp = none := by
    have := hx 0 _ (List.getElem?_eq_getElem (by omega))
    unfold World.cell? at this
    split at this
    · cases sp with
      | none => rfl
      | some k => simp [Addr.add] at this
    · cases this
  subst hsp
  exact ⟨b, off, rfl, fun j x hj => by rw [← add_at]; exact hx j x hj⟩
theorem C_of_atI {w : World} {b off n : Nat} {l : List Int} (hn : l.length = n) (h : AtI w b off l) (hs : n ≤ 9223372036854775807) : Kd.C (Kd.int .u8) w (some ⟨b, off, none⟩) n l := by
  refine ⟨hn, hs, fun _ => ⟨_, rfl, fun j p hj => ?_⟩⟩
  refine ⟨[.int .u8 p], rfl, rfl, fun i u hu => ?_⟩
  match i with
  | 0 =>
    cases hu
    rw [Nat.add_zero, show j * (Kd.int .u8).sz = j from Nat.mul_one j]
    rw [add_at]
    exact h j p hj
  | i + 1 => simp at hu
theorem AtI.drop {w : World} {b off : Nat} {l : List Int} (h : AtI w b off l) (k : Nat) : AtI w b (off + k) (l.drop k) := fun j x hj => by
  rw [List.getElem?_drop] at hj
  rw [Nat.add_assoc]
  exact h (k + j) x hj
def one1 (a : Int) : List Int := [bt L64 (a / 4), bt L64 (a % 4 * 16), 61, 61]
def two2 (a b : Int) : List Int := [bt L64 (a / 4), bt L64 (a % 4 * 16 + b / 16), bt L64 (b % 16 * 4), 61]
theorem str_of (W : World) {A : Option Addr} {n c : Nat} {xs : List Int} (h : Kd.C (Kd.int .u8) W A n xs) : (convert 39 9 (.slice A n c)).run Tryd.prog W = .ok (.string (strOfNums xs)) W := Kd.C_string Tryd.underlying39 Tryd.underlying5 Tryd.underlying9 h
theorem own_C {w : World} {b n : Nat} {v : Value} {l : List Int} (hn : l.length = n) (h : w.ownsRow b 5 1 v n (nums .u8 l)) : ∃ A c, v = .slice A n c ∧ n ≤ c ∧ Kd.C (Kd.int .u8) w A n l := by
  subst hn
  exact Kd.R_reads (Kd.R_of_own (enc := Value.int .u8) (h1 := fun _ => rfl) (ok := fun _ => True) h (fun _ _ => trivial))
theorem news_lit (W : World) (l : List Int) (t : TypeId) : ∀ j u, (nums .u8 l)[j]? = some u → (W.alloc (.cells (nums .u8 l).toArray t)).cell? ((⟨W.heap.size, 0, none⟩ : Addr).add j) = some u := by
  simpa using World.news_of_block (cs := (nums .u8 l).toArray) (t := t) (fr := (0, 0)) (heap_alloc_new W (.cells (nums .u8 l).toArray t))
theorem nums_append (l m : List Int) : nums .u8 (l ++ m) = nums .u8 l ++ nums .u8 m := by simp [nums]
theorem C_tail {w : World} {B off N c : Nat} {x : List Int} (k : Nat) (h : Kd.C (Kd.int .u8) w (some ⟨B, off, none⟩) N x) (hk : k ≤ N) (hN : 0 < N) (hc : N ≤ c) : Kd.C (Kd.int .u8) w (if c = k then some ⟨B, off, none⟩ else some ⟨B, off + k, none⟩) (N - k) (x.drop k) := by
  have hl : x.length = N := h.1
  obtain ⟨b, o, e, hat⟩ := atI_of_C h hN
  cases e
  split
  · refine ⟨by rw [List.length_drop]; omega, by have := h.2.1; omega, fun h0 => by omega⟩
  · exact C_of_atI (by rw [List.length_drop]; omega) (hat.drop k) (by have := h.2.1; omega)
set_option maxHeartbeats 4000000 in
set_option maxRecDepth 100000 in
theorem base64_calls (A : Option Addr) (c n : Nat) (l : List Int) (w : World) (hn : l.length = n) (hr : Kd.C (Kd.int .u8) w A n l) (hc : n ≤ c) (hl : n ≤ 100000000) (hb : ∀ x ∈ l, 0 ≤ x ∧ x < 256) :
    Calls Tryd.prog 53 #[.slice A n c] w fun e w' => e = .returned (.string (strOfNums (b64 l))) ∧ Below w.heap.size w w' := by
  obtain ⟨i0, hi, hz0, hz1, hz2⟩ := info_parts info5
  have HR := Lib.hid hr
  have HBY := Lib.hid hb
  clear hr hb
  go_enter Tryd.func53, Tryd.ntmps53
  go_wp2_with (at_make; refine wpList_make_own _ rfl _ _ 39 rfl w.heap.size 5 i0 _ 1 Tryd.underlying39 hi hz0 hz1 _ _ _ ((n + 2) / 3 * 4) rfl rfl (by omega) ?b2 ?b3 (Nat.le_refl _) ?_)
  case b2 => rw [hz2]; omega
  case b3 => unfold maxLen; omega
  intro w0 hown0 hgrow0
  have hB0 : Below w.heap.size w w0 := (Below.refl w.heap.size w).grown hgrow0 (Nat.le_refl _) (fun k h => by cases h)
  go_wp2
  go_loopw [0, 3] (fun v o wr => ∃ (N : Nat) (r d : List Int) (A' : Option Addr) (c' : Nat) (V : Value), v = .slice A' N c' ∧ V = o ∧ N ≤ c' ∧ r.length = N ∧ Kd.C (Kd.int .u8) w A' N r ∧ (∀ x ∈ r, 0 ≤ x ∧ x < 256) ∧ b64 l = d ++ b64 r ∧ d.length + 2 * N ≤ 2 * n ∧ N ≤ n
    ∧ wr.ownsRow w.heap.size 5 1 V d.length (nums .u8 d) ∧ Below w.heap.size w wr) (fun v _ _ => lenOf v)
  case atStart => exact ⟨n, l, [], A, c, _, rfl, rfl, hc, hn, HR.out, HBY.out, rfl, by simp, Nat.le_refl _, hown0, hB0⟩
  case round =>
    obtain ⟨N, r, d, A', c', V, rfl, hoV, hc', hrN, hC, hby, heq, hdn, hNn, hO, hB⟩ := hrel
    subst hoV
    have HEQ := Lib.hid heq
    have HO := Lib.hid hO
    have HB := Lib.hid hB
    clear heq hO hB hown0 hgrow0 hB0
    by_cases hlt : 3 ≤ N
    · obtain ⟨a, b, e, t, rfl⟩ : ∃ a b e t, r = a :: b :: e :: t := by
        match r, hrN, hlt with
        | [], h, h2 => simp at h; omega
        | [_], h, h2 => simp at h; omega
        | [_, _], h, h2 => simp at h; omega
        | a :: b :: e :: t, _, _ => exact ⟨a, b, e, t, rfl⟩
      obtain ⟨B, off, rfl, hat⟩ := atI_of_C hC (by omega)
      have HC := Lib.hid hC
      have y0 : w.cell? ⟨B, off, none⟩ = some (.int .u8 a) := hat 0 a rfl
      have y1 : w.cell? ⟨B, off + 1, none⟩ = some (.int .u8 b) := hat 1 b rfl
      have y2 : w.cell? ⟨B, off + 2, none⟩ = some (.int .u8 e) := hat 2 e rfl
      have hBl := World.block_lt_of_cell? w _ y0
      have x0 := (HB.out.cell hBl).trans y0
      have x1 := (HB.out.cell (World.block_lt_of_cell? w _ y1)).trans y1
      have x2 := (HB.out.cell (World.block_lt_of_cell? w _ y2)).trans y2
      obtain ⟨ha0, ha1⟩ := hby a (by simp)
      obtain ⟨hb0, hb1⟩ := hby b (by simp)
      obtain ⟨he0, he1⟩ := hby e (by simp)
      have HBY2 := Lib.hid (show ∀ x ∈ t, 0 ≤ x ∧ x < 256 from fun x hx => hby x (by simp [hx]))
      clear y0 y1 y2 hat hC hby
      have m0 : (0 < N) = True := eq_true (by omega)
      have m1 : (1 < N) = True := eq_true (by omega)
      have m2 : (2 < N) = True := eq_true (by omega)
      have n0 : ((0 : Int) < (N : Int)) = True := eq_true (by omega)
      have n1 : ((1 : Int) < (N : Int)) = True := eq_true (by omega)
      have n2 : ((2 : Int) < (N : Int)) = True := eq_true (by omega)
      have hlt' : decide ((3 : Int) ≤ (N : Int)) = true := decide_eq_true (by omega)
      have e1 := u8_and3 ha0 ha1
      have e2 := u8_and15 b hb0 hb1
      have e3 := u8_and63 e he0 he1
      have v1 : IntKind.u8.wrap (a % 4 * 16) = a % 4 * 16 := by rw [IntKind.wrap_u8]; omega
      have v2 : IntKind.u8.wrap (b % 16 * 4) = b % 16 * 4 := by rw [IntKind.wrap_u8]; omega
      have o1 : bits .or .u8 (a % 4 * 16) (b / 16) = a % 4 * 16 + b / 16 := u8_or4 _ _ (by omega) (by omega) (by omega) (by omega) (by omega)
      have o2 : bits .or .u8 (b % 16 * 4) (e / 64) = b % 16 * 4 + e / 64 := u8_or2 _ _ (by omega) (by omega) (by omega) (by omega) (by omega)
      have p0 : (0 ≤ a / 4) = True := eq_true (by omega)
      have q0 : (a / 4 < 64) = True := eq_true (by omega)
      have p1 : (0 ≤ a % 4 * 16 + b / 16) = True := eq_true (by omega)
      have q1 : (a % 4 * 16 + b / 16 < 64) = True := eq_true (by omega)
      have p2 : (0 ≤ b % 16 * 4 + e / 64) = True := eq_true (by omega)
      have q2 : (b % 16 * 4 + e / 64 < 64) = True := eq_true (by omega)
      have p3 : (0 ≤ e % 64) = True := eq_true (by omega)
      have q3 : (e % 64 < 64) = True := eq_true (by omega)
      have z0 := bt_at L64 (a / 4)
      have z1 := bt_at L64 (a % 4 * 16 + b / 16)
      have z2 := bt_at L64 (b % 16 * 4 + e / 64)
      have z3 := bt_at L64 (e % 64)
      unfold L64 at z0 z1 z2 z3
      clear ha0 ha1 hb0 hb1 he0 he1
      go_wp2
      refine start_ (n := 36) (S := fun w' => w'.cell? ⟨B, off, none⟩ = some (.int .u8 a) ∧ w'.cell? ⟨B, off + 1, none⟩ = some (.int .u8 b) ∧ w'.cell? ⟨B, off + 2, none⟩ = some (.int .u8 e)) (ds := [33, 34]) #[false, false, false, false, false, false, false, false, false, false, false, false, false, false, false, false, false, false, false, false, false, false, false, false, false, false, false, false, false, false, false, false, false, false, false, false] (by kernel_rfl) rfl rfl ⟨x0, x1, x2⟩ (fun hHeld => ?_)
      generalize hdr : wr.drew = w2 at hHeld ⊢
      have HO2 := Lib.hid (show w2.ownsRow w.heap.size 5 1 V d.length (nums .u8 d) from hdr ▸ HO.out)
      have HB2 := Lib.hid (show Below w.heap.size w w2 from hdr ▸ below_drew1 HB.out)
      have hsz2 := HB2.out.size
      refine pure_ (i := 0) (N := some 15) (v := ?_) (a' := ?_) #[true, false, false, false, false, false, false, false, false, false, false, false, false, false, false, false, false, false, false, false, false, false, false, false, false, false, false, false, false, false, false, false, false, false, false, false] rfl rfl (by kernel_rfl) (fun _ _ _ h => h) (Or.inl ⟨by rfl, ?_⟩) ?_ ?_
      rotate_left
      · intro w'
        go_simp
        with_reducible rfl
      rotate_left
      · simp only [Act.put, List.setIfInBounds_toArray, List.set_cons_zero, List.set_cons_succ, i64_w, i32_w]
        rfl
      refine pure_ (i := 1) (N := some 16) (v := ?_) (a' := ?_) #[true, true, false, false, false, false, false, false, false, false, false, false, false, false, false, false, false, false, false, false, false, false, false, false, false, false, false, false, false, false, false, false, false, false, false, false] rfl rfl (by kernel_rfl) (fun _ _ _ h => h) (Or.inl ⟨by rfl, ?_⟩) ?_ ?_
      rotate_left
      · intro w'
        go_simp
        with_reducible rfl
      rotate_left
      · simp only [Act.put, List.setIfInBounds_toArray, List.set_cons_zero, List.set_cons_succ, i64_w, i32_w]
        rfl
      refine pure_ (i := 2) (N := some 17) (v := ?_) (a' := ?_) #[true, true, true, false, false, false, false, false, false, false, false, false, false, false, false, false, false, false, false, false, false, false, false, false, false, false, false, false, false, false, false, false, false, false, false, false] rfl rfl (by kernel_rfl) (fun _ _ _ h => h) (Or.inl ⟨by rfl, ?_⟩) ?_ ?_
      rotate_left
      · intro w'
        go_simp
        with_reducible rfl
      rotate_left
      · simp only [Act.put, List.setIfInBounds_toArray, List.set_cons_zero, List.set_cons_succ, i64_w, i32_w]
        rfl
      refine pure_ (i := 6) (N := some 21) (v := ?_) (a' := ?_) #[true, true, true, false, false, false, true, false, false, false, false, false, false, false, false, false, false, false, false, false, false, false, false, false, false, false, false, false, false, false, false, false, false, false, false, false] rfl rfl (by kernel_rfl) (fun _ _ _ h => h) (Or.inl ⟨by rfl, ?_⟩) ?_ ?_
      rotate_left
      · intro w'
        go_simp
        with_reducible rfl
      rotate_left
      · simp only [Act.put, List.setIfInBounds_toArray, List.set_cons_zero, List.set_cons_succ, i64_w, i32_w]
        rfl
      refine pure_ (i := 7) (N := some 22) (v := ?_) (a' := ?_) #[true, true, true, false, false, false, true, true, false, false, false, false, false, false, false, false, false, false, false, false, false, false, false, false, false, false, false, false, false, false, false, false, false, false, false, false] rfl rfl (by kernel_rfl) (fun _ _ _ h => h) (Or.inl ⟨by rfl, ?_⟩) ?_ ?_
      rotate_left
      · intro w'
        go_simp
        with_reducible rfl
      rotate_left
      · simp only [Act.put, List.setIfInBounds_toArray, List.set_cons_zero, List.set_cons_succ, i64_w, i32_w]
        rfl
      refine pure_ (i := 11) (N := some 26) (v := ?_) (a' := ?_) #[true, true, true, false, false, false, true, true, false, false, false, true, false, false, false, false, false, false, false, false, false, false, false, false, false, false, false, false, false, false, false, false, false, false, false, false] rfl rfl (by kernel_rfl) (fun _ _ _ h => h) (Or.inl ⟨by rfl, ?_⟩) ?_ ?_
      rotate_left
      · intro w'
        go_simp
        with_reducible rfl
      rotate_left
      · simp only [Act.put, List.setIfInBounds_toArray, List.set_cons_zero, List.set_cons_succ, i64_w, i32_w]
        rfl
      refine pure_ (i := 12) (N := some 27) (v := ?_) (a' := ?_) #[true, true, true, false, false, false, true, true, false, false, false, true, true, false, false, false, false, false, false, false, false, false, false, false, false, false, false, false, false, false, false, false, false, false, false, false] rfl rfl (by kernel_rfl) (fun _ _ _ h => h) (Or.inl ⟨by rfl, ?_⟩) ?_ ?_
      rotate_left
      · intro w'
        go_simp
        with_reducible rfl
      rotate_left
      · simp only [Act.put, List.setIfInBounds_toArray, List.set_cons_zero, List.set_cons_succ, i64_w, i32_w]
        rfl
      refine pure_ (i := 17) (N := some 32) (v := ?_) (a' := ?_) #[true, true, true, false, false, false, true, true, false, false, false, true, true, false, false, false, false, true, false, false, false, false, false, false, false, false, false, false, false, false, false, false, false, false, false, false] rfl rfl (by kernel_rfl) (fun _ _ _ h => h) (Or.inl ⟨by rfl, ?_⟩) ?_ ?_
      rotate_left
      · intro w'
        go_simp
        with_reducible rfl
      rotate_left
      · simp only [Act.put, List.setIfInBounds_toArray, List.set_cons_zero, List.set_cons_succ, i64_w, i32_w]
        rfl
      refine pure_ (i := 18) (N := some 33) (v := ?_) (a' := ?_) #[true, true, true, false, false, false, true, true, false, false, false, true, true, false, false, false, false, true, true, false, false, false, false, false, false, false, false, false, false, false, false, false, false, false, false, false] rfl rfl (by kernel_rfl) (fun _ _ _ h => h) (Or.inl ⟨by rfl, ?_⟩) ?_ ?_
      rotate_left
      · intro w'
        go_simp
        with_reducible rfl
      rotate_left
      · simp only [Act.put, List.setIfInBounds_toArray, List.set_cons_zero, List.set_cons_succ, i64_w, i32_w]
        rfl
      refine pure_ (i := 22) (N := some 37) (v := ?_) (a' := ?_) #[true, true, true, false, false, false, true, true, false, false, false, true, true, false, false, false, false, true, true, false, false, false, true, false, false, false, false, false, false, false, false, false, false, false, false, false] rfl rfl (by kernel_rfl) (fun _ _ _ h => h) (Or.inl ⟨by rfl, ?_⟩) ?_ ?_
      rotate_left
      · intro w'
        go_simp
        with_reducible rfl
      rotate_left
      · simp only [Act.put, List.setIfInBounds_toArray, List.set_cons_zero, List.set_cons_succ, i64_w, i32_w]
        rfl
      refine pure_ (i := 23) (N := some 38) (v := ?_) (a' := ?_) #[true, true, true, false, false, false, true, true, false, false, false, true, true, false, false, false, false, true, true, false, false, false, true, true, false, false, false, false, false, false, false, false, false, false, false, false] rfl rfl (by kernel_rfl) (fun _ _ _ h => h) (Or.inl ⟨by rfl, ?_⟩) ?_ ?_
      rotate_left
      · intro w'
        go_simp
        with_reducible rfl
      rotate_left
      · simp only [Act.put, List.setIfInBounds_toArray, List.set_cons_zero, List.set_cons_succ, i64_w, i32_w]
        rfl
      refine pure_ (i := 28) (N := some 43) (v := ?_) (a' := ?_) #[true, true, true, false, false, false, true, true, false, false, false, true, true, false, false, false, false, true, true, false, false, false, true, true, false, false, false, false, true, false, false, false, false, false, false, false] rfl rfl (by kernel_rfl) (fun _ _ _ h => h) (Or.inl ⟨by rfl, ?_⟩) ?_ ?_
      rotate_left
      · intro w'
        go_simp
        with_reducible rfl
      rotate_left
      · simp only [Act.put, List.setIfInBounds_toArray, List.set_cons_zero, List.set_cons_succ, i64_w, i32_w]
        rfl
      refine pure_ (i := 29) (N := some 44) (v := ?_) (a' := ?_) #[true, true, true, false, false, false, true, true, false, false, false, true, true, false, false, false, false, true, true, false, false, false, true, true, false, false, false, false, true, true, false, false, false, false, false, false] rfl rfl (by kernel_rfl) (fun _ _ _ h => h) (Or.inl ⟨by rfl, ?_⟩) ?_ ?_
      rotate_left
      · intro w'
        go_simp
        with_reducible rfl
      rotate_left
      · simp only [Act.put, List.setIfInBounds_toArray, List.set_cons_zero, List.set_cons_succ, i64_w, i32_w]
        rfl
      refine take_ (i := 3) (N := some 18) (v := ?_) (a' := ?_) #[true, true, true, true, false, false, true, true, false, false, false, true, true, false, false, false, false, true, true, false, false, false, true, true, false, false, false, false, true, true, false, false, false, false, false, false] rfl rfl (by kernel_rfl) (fun _ _ _ h => h) (Or.inl ⟨by rfl, ?_⟩) hHeld ?_ ?_
      rotate_left
      · rintro w' ⟨s0, s1, s2⟩
        go_simp
        with_reducible rfl
      rotate_left
      · simp only [Act.put, List.setIfInBounds_toArray, List.set_cons_zero, List.set_cons_succ, i64_w, i32_w]
        rfl
      refine pure_ (i := 4) (N := some 19) (v := ?_) (a' := ?_) #[true, true, true, true, true, false, true, true, false, false, false, true, true, false, false, false, false, true, true, false, false, false, true, true, false, false, false, false, true, true, false, false, false, false, false, false] rfl rfl (by kernel_rfl) (fun _ _ _ h => h) (Or.inl ⟨by rfl, ?_⟩) ?_ ?_
      rotate_left
      · intro w'
        go_simp
        with_reducible rfl
      rotate_left
      · simp only [Act.put, List.setIfInBounds_toArray, List.set_cons_zero, List.set_cons_succ, i64_w, i32_w]
        rfl
      refine take_ (i := 5) (N := some 20) (v := ?_) (a' := ?_) #[true, true, true, true, true, true, true, true, false, false, false, true, true, false, false, false, false, true, true, false, false, false, true, true, false, false, false, false, true, true, false, false, false, false, false, false] rfl rfl (by kernel_rfl) (fun _ _ _ h => h) (Or.inl ⟨by rfl, ?_⟩) hHeld ?_ ?_
      rotate_left
      · rintro w' ⟨s0, s1, s2⟩
        go_simp
        with_reducible rfl
      rotate_left
      · simp only [Act.put, List.setIfInBounds_toArray, List.set_cons_zero, List.set_cons_succ, i64_w, i32_w]
        rfl
      refine take_ (i := 8) (N := some 23) (v := ?_) (a' := ?_) #[true, true, true, true, true, true, true, true, true, false, false, true, true, false, false, false, false, true, true, false, false, false, true, true, false, false, false, false, true, true, false, false, false, false, false, false] rfl rfl (by kernel_rfl) (fun _ _ _ h => h) (Or.inl ⟨by rfl, ?_⟩) hHeld ?_ ?_
      rotate_left
      · rintro w' ⟨s0, s1, s2⟩
        go_simp
        with_reducible rfl
      rotate_left
      · simp only [Act.put, List.setIfInBounds_toArray, List.set_cons_zero, List.set_cons_succ, i64_w, i32_w]
        rfl
      refine pure_ (i := 9) (N := some 24) (v := ?_) (a' := ?_) #[true, true, true, true, true, true, true, true, true, true, false, true, true, false, false, false, false, true, true, false, false, false, true, true, false, false, false, false, true, true, false, false, false, false, false, false] rfl rfl (by kernel_rfl) (fun _ _ _ h => h) (Or.inl ⟨by rfl, ?_⟩) ?_ ?_
      rotate_left
      · intro w'
        go_simp
        with_reducible rfl
      rotate_left
      · simp only [Act.put, List.setIfInBounds_toArray, List.set_cons_zero, List.set_cons_succ, i64_w, i32_w]
        rfl
      refine pure_ (i := 10) (N := some 25) (v := ?_) (a' := ?_) #[true, true, true, true, true, true, true, true, true, true, true, true, true, false, false, false, false, true, true, false, false, false, true, true, false, false, false, false, true, true, false, false, false, false, false, false] rfl rfl (by kernel_rfl) (fun _ _ _ h => h) (Or.inl ⟨by rfl, ?_⟩) ?_ ?_
      rotate_left
      · intro w'
        go_simp
        with_reducible rfl
      rotate_left
      · simp only [Act.put, List.setIfInBounds_toArray, List.set_cons_zero, List.set_cons_succ, i64_w, i32_w]
        rfl
      refine take_ (i := 13) (N := some 28) (v := ?_) (a' := ?_) #[true, true, true, true, true, true, true, true, true, true, true, true, true, true, false, false, false, true, true, false, false, false, true, true, false, false, false, false, true, true, false, false, false, false, false, false] rfl rfl (by kernel_rfl) (fun _ _ _ h => h) (Or.inl ⟨by rfl, ?_⟩) hHeld ?_ ?_
      rotate_left
      · rintro w' ⟨s0, s1, s2⟩
        go_simp
        with_reducible rfl
      rotate_left
      · simp only [Act.put, List.setIfInBounds_toArray, List.set_cons_zero, List.set_cons_succ, i64_w, i32_w]
        rfl
      refine pure_ (i := 14) (N := some 29) (v := ?_) (a' := ?_) #[true, true, true, true, true, true, true, true, true, true, true, true, true, true, true, false, false, true, true, false, false, false, true, true, false, false, false, false, true, true, false, false, false, false, false, false] rfl rfl (by kernel_rfl) (fun _ _ _ h => h) (Or.inl ⟨by rfl, ?_⟩) ?_ ?_
      rotate_left
      · intro w'
        go_simp
        with_reducible rfl
      rotate_left
      · simp only [Act.put, List.setIfInBounds_toArray, List.set_cons_zero, List.set_cons_succ, i64_w, i32_w]
        rfl
      refine pure_ (i := 15) (N := some 30) (v := ?_) (a' := ?_) #[true, true, true, true, true, true, true, true, true, true, true, true, true, true, true, true, false, true, true, false, false, false, true, true, false, false, false, false, true, true, false, false, false, false, false, false] rfl rfl (by kernel_rfl) (fun _ _ _ h => h) (Or.inl ⟨by rfl, ?_⟩) ?_ ?_
      rotate_left
      · intro w'
        go_simp
        with_reducible rfl
      rotate_left
      · simp only [Act.put, List.setIfInBounds_toArray, List.set_cons_zero, List.set_cons_succ, i64_w, i32_w]
        rfl
      refine take_ (i := 16) (N := some 31) (v := ?_) (a' := ?_) #[true, true, true, true, true, true, true, true, true, true, true, true, true, true, true, true, true, true, true, false, false, false, true, true, false, false, false, false, true, true, false, false, false, false, false, false] rfl rfl (by kernel_rfl) (fun _ _ _ h => h) (Or.inl ⟨by rfl, ?_⟩) hHeld ?_ ?_
      rotate_left
      · rintro w' ⟨s0, s1, s2⟩
        go_simp
        with_reducible rfl
      rotate_left
      · simp only [Act.put, List.setIfInBounds_toArray, List.set_cons_zero, List.set_cons_succ, i64_w, i32_w]
        rfl
      refine take_ (i := 19) (N := some 34) (v := ?_) (a' := ?_) #[true, true, true, true, true, true, true, true, true, true, true, true, true, true, true, true, true, true, true, true, false, false, true, true, false, false, false, false, true, true, false, false, false, false, false, false] rfl rfl (by kernel_rfl) (fun _ _ _ h => h) (Or.inl ⟨by rfl, ?_⟩) hHeld ?_ ?_
      rotate_left
      · rintro w' ⟨s0, s1, s2⟩
        go_simp
        with_reducible rfl
      rotate_left
      · simp only [Act.put, List.setIfInBounds_toArray, List.set_cons_zero, List.set_cons_succ, i64_w, i32_w]
        rfl
      refine pure_ (i := 20) (N := some 35) (v := ?_) (a' := ?_) #[true, true, true, true, true, true, true, true, true, true, true, true, true, true, true, true, true, true, true, true, true, false, true, true, false, false, false, false, true, true, false, false, false, false, false, false] rfl rfl (by kernel_rfl) (fun _ _ _ h => h) (Or.inl ⟨by rfl, ?_⟩) ?_ ?_
      rotate_left
      · intro w'
        go_simp
        with_reducible rfl
      rotate_left
      · simp only [Act.put, List.setIfInBounds_toArray, List.set_cons_zero, List.set_cons_succ, i64_w, i32_w]
        rfl
      refine pure_ (i := 21) (N := some 36) (v := ?_) (a' := ?_) #[true, true, true, true, true, true, true, true, true, true, true, true, true, true, true, true, true, true, true, true, true, true, true, true, false, false, false, false, true, true, false, false, false, false, false, false] rfl rfl (by kernel_rfl) (fun _ _ _ h => h) (Or.inl ⟨by rfl, ?_⟩) ?_ ?_
      rotate_left
      · intro w'
        go_simp
        with_reducible rfl
      rotate_left
      · simp only [Act.put, List.setIfInBounds_toArray, List.set_cons_zero, List.set_cons_succ, i64_w, i32_w]
        rfl
      refine take_ (i := 24) (N := some 39) (v := ?_) (a' := ?_) #[true, true, true, true, true, true, true, true, true, true, true, true, true, true, true, true, true, true, true, true, true, true, true, true, true, false, false, false, true, true, false, false, false, false, false, false] rfl rfl (by kernel_rfl) (fun _ _ _ h => h) (Or.inl ⟨by rfl, ?_⟩) hHeld ?_ ?_
      rotate_left
      · rintro w' ⟨s0, s1, s2⟩
        go_simp
        with_reducible rfl
      rotate_left
      · simp only [Act.put, List.setIfInBounds_toArray, List.set_cons_zero, List.set_cons_succ, i64_w, i32_w]
        rfl
      refine pure_ (i := 25) (N := some 40) (v := ?_) (a' := ?_) #[true, true, true, true, true, true, true, true, true, true, true, true, true, true, true, true, true, true, true, true, true, true, true, true, true, true, false, false, true, true, false, false, false, false, false, false] rfl rfl (by kernel_rfl) (fun _ _ _ h => h) (Or.inl ⟨by rfl, ?_⟩) ?_ ?_
      rotate_left
      · intro w'
        go_simp
        with_reducible rfl
      rotate_left
      · simp only [Act.put, List.setIfInBounds_toArray, List.set_cons_zero, List.set_cons_succ, i64_w, i32_w]
        rfl
      refine pure_ (i := 26) (N := some 41) (v := ?_) (a' := ?_) #[true, true, true, true, true, true, true, true, true, true, true, true, true, true, true, true, true, true, true, true, true, true, true, true, true, true, true, false, true, true, false, false, false, false, false, false] rfl rfl (by kernel_rfl) (fun _ _ _ h => h) (Or.inl ⟨by rfl, ?_⟩) ?_ ?_
      rotate_left
      · intro w'
        go_simp
        with_reducible rfl
      rotate_left
      · simp only [Act.put, List.setIfInBounds_toArray, List.set_cons_zero, List.set_cons_succ, i64_w, i32_w]
        rfl
      refine take_ (i := 27) (N := some 42) (v := ?_) (a' := ?_) #[true, true, true, true, true, true, true, true, true, true, true, true, true, true, true, true, true, true, true, true, true, true, true, true, true, true, true, true, true, true, false, false, false, false, false, false] rfl rfl (by kernel_rfl) (fun _ _ _ h => h) (Or.inl ⟨by rfl, ?_⟩) hHeld ?_ ?_
      rotate_left
      · rintro w' ⟨s0, s1, s2⟩
        go_simp
        with_reducible rfl
      rotate_left
      · simp only [Act.put, List.setIfInBounds_toArray, List.set_cons_zero, List.set_cons_succ, i64_w, i32_w]
        rfl
      refine take_ (i := 30) (N := some 45) (v := ?_) (a' := ?_) #[true, true, true, true, true, true, true, true, true, true, true, true, true, true, true, true, true, true, true, true, true, true, true, true, true, true, true, true, true, true, true, false, false, false, false, false] rfl rfl (by kernel_rfl) (fun _ _ _ h => h) (Or.inl ⟨by rfl, ?_⟩) hHeld ?_ ?_
      rotate_left
      · rintro w' ⟨s0, s1, s2⟩
        go_simp
        with_reducible rfl
      rotate_left
      · simp only [Act.put, List.setIfInBounds_toArray, List.set_cons_zero, List.set_cons_succ, i64_w, i32_w]
        rfl
      refine pure_ (i := 31) (N := some 46) (v := ?_) (a' := ?_) #[true, true, true, true, true, true, true, true, true, true, true, true, true, true, true, true, true, true, true, true, true, true, true, true, true, true, true, true, true, true, true, true, false, false, false, false] rfl rfl (by kernel_rfl) (fun _ _ _ h => h) (Or.inl ⟨by rfl, ?_⟩) ?_ ?_
      rotate_left
      · intro w'
        go_simp
        with_reducible rfl
      rotate_left
      · simp only [Act.put, List.setIfInBounds_toArray, List.set_cons_zero, List.set_cons_succ, i64_w, i32_w]
        rfl
      refine take_ (i := 32) (N := some 47) (v := ?_) (a' := ?_) #[true, true, true, true, true, true, true, true, true, true, true, true, true, true, true, true, true, true, true, true, true, true, true, true, true, true, true, true, true, true, true, true, true, false, false, false] rfl rfl (by kernel_rfl) (fun _ _ _ h => h) (Or.inl ⟨by rfl, ?_⟩) hHeld ?_ ?_
      rotate_left
      · rintro w' ⟨s0, s1, s2⟩
        go_simp
        with_reducible rfl
      rotate_left
      · simp only [Act.put, List.setIfInBounds_toArray, List.set_cons_zero, List.set_cons_succ, i64_w, i32_w]
        rfl
      refine last_ (i := 33) (N := some 48) #[true, true, true, true, true, true, true, true, true, true, true, true, true, true, true, true, true, true, true, true, true, true, true, true, true, true, true, true, true, true, true, true, true, true, false, false] rfl rfl (by kernel_rfl) (by decide) (fun K hK => ?_)
      refine value_ (w1 := ?_) (v := ?_) (by rfl) rfl ?_ ?_
      rotate_left 2
      · go_simp
        constructor
        · rfl
        · rfl
      refine hK.out _ _ ?_
      clear hK K
      refine norm_ (a' := ?_) ?_ ?_
      rotate_left
      · show Act.put _ (some 48) _ = _
        simp only [Act.put, List.setIfInBounds_toArray, List.set_cons_zero, List.set_cons_succ, i64_w, i32_w]
        rfl
      refine last_ (i := 34) (N := some 49) #[true, true, true, true, true, true, true, true, true, true, true, true, true, true, true, true, true, true, true, true, true, true, true, true, true, true, true, true, true, true, true, true, true, true, true, false] rfl rfl (by kernel_rfl) (by decide) (fun K hK => ?_)
      refine step_append_lies _ (by rfl) (.tmp 15) (.tmp 48) 39 (by rfl) w.heap.size 5 i0 _ 1 1 Tryd.underlying39 hi hz0 hz1 hz2 rfl (by decide) _ d.length (nums .u8 d) (by rfl) (HO2.out.alloc _) ⟨w2.heap.size, 0, none⟩ 4 4 (nums .u8 (four a b e)) (by rfl) rfl (news_lit _ _ _) (nums_one _) (by decide) (by unfold maxLen; omega) (by omega) (by simp; omega) _ rfl ?_
      intro g cap w4 hown4 hgrow4 hat4 hlt4
      refine hK.out _ _ ?_
      clear hK K
      refine norm_ (a' := ?_) ?_ ?_
      rotate_left
      · show Act.put _ (some 49) _ = _
        simp only [Act.put, List.setIfInBounds_toArray, List.set_cons_zero, List.set_cons_succ, i64_w, i32_w]
        rfl
      refine pure_ (i := 35) (N := some 3) (v := ?_) (a' := ?_) #[true, true, true, true, true, true, true, true, true, true, true, true, true, true, true, true, true, true, true, true, true, true, true, true, true, true, true, true, true, true, true, true, true, true, true, true] rfl rfl (by kernel_rfl) (fun _ _ _ h => h) (Or.inl ⟨by rfl, ?_⟩) ?_ ?_
      rotate_left
      · intro w'
        go_simp
        with_reducible rfl
      rotate_left
      · simp only [Act.put, List.setIfInBounds_toArray, List.set_cons_zero, List.set_cons_succ, i64_w, i32_w]
        rfl
      refine done_ (by kernel_rfl) ?_
      have hB4 : Below w.heap.size w w4 := (HB2.out.alloc hsz2 _).grown hgrow4 (by have := hgrow4.size; simp at this; have := hsz2; simp; omega) (fun k hk => own_base HO2.out k hk)
      rw [← nums_append] at hown4
      have HO4 := Lib.hid hown4
      have HB4 := Lib.hid hB4
      clear hown4 hgrow4 hat4 hlt4 hB4 x0 x1 x2 z0 z1 z2 z3 p0 q0 p1 q1 p2 q2 p3 q3 e1 e2 e3 v1 v2 o1 o2 hHeld HO2 HB2
      go_wp2
      go_roundw
      case rel => exact ⟨N - 3, t, d ++ four a b e, _, c' - 3, _, rfl, rfl, by omega, by simp only [List.length_cons] at hrN; omega, C_tail 3 HC.out (by omega) (by omega) hc', HBY2.out, by rw [HEQ.out, List.append_assoc]; rfl, by rw [List.length_append]; show d.length + 4 + _ ≤ _; omega, by omega, by rw [List.length_append]; exact HO4.out, HB4.out⟩
      case measure =>
        show N - 3 < N
        omega
    · have hlt' : decide ((3 : Int) ≤ (N : Int)) = false := decide_eq_false (by omega)
      match r, hrN with
      | [], h =>
        have hN0 : N = 0 := by simpa using h.symm
        subst hN0
        obtain ⟨A9, c9, rfl, _, hC9⟩ := own_C rfl HO.out
        have q9 := str_of wr (c := c9) hC9
        clear hC9 hC hby
        go_wp2
        go_ret
        exact ⟨by rw [HEQ.out]; simp [b64], HB.out⟩
      | [a], h =>
        have hN1 : N = 1 := by simpa using h.symm
        subst hN1
        obtain ⟨B, off, rfl, hat⟩ := atI_of_C hC (by omega)
        have y0 : w.cell? ⟨B, off, none⟩ = some (.int .u8 a) := hat 0 a rfl
        have x0 := (HB.out.cell (World.block_lt_of_cell? w _ y0)).trans y0
        obtain ⟨ha0, ha1⟩ := hby a (by simp)
        clear y0 hat hC hby
        have e1 := u8_and3 ha0 ha1
        have v1 : IntKind.u8.wrap (a % 4 * 16) = a % 4 * 16 := by rw [IntKind.wrap_u8]; omega
        have p0 : (0 ≤ a / 4) = True := eq_true (by omega)
        have q0 : (a / 4 < 64) = True := eq_true (by omega)
        have p1 : (0 ≤ a % 4 * 16) = True := eq_true (by omega)
        have q1 : (a % 4 * 16 < 64) = True := eq_true (by omega)
        have z0 := bt_at L64 (a / 4)
        have z1 := bt_at L64 (a % 4 * 16)
        unfold L64 at z0 z1
        clear ha0 ha1
        go_wp2
        refine start_ (n := 15) (S := fun w' => w'.cell? ⟨B, off, none⟩ = some (.int .u8 a)) (ds := [12, 13]) #[false, false, false, false, false, false, false, false, false, false, false, false, false, false, false] (by kernel_rfl) rfl rfl (x0) (fun hHeld => ?_)
        generalize hdr : wr.drew = w2 at hHeld ⊢
        have HO2 := Lib.hid (show w2.ownsRow w.heap.size 5 1 V d.length (nums .u8 d) from hdr ▸ HO.out)
        have HB2 := Lib.hid (show Below w.heap.size w w2 from hdr ▸ below_drew1 HB.out)
        have hsz2 := HB2.out.size
        refine pure_ (i := 0) (N := some 54) (v := ?_) (a' := ?_) #[true, false, false, false, false, false, false, false, false, false, false, false, false, false, false] rfl rfl (by kernel_rfl) (fun _ _ _ h => h) (Or.inl ⟨by rfl, ?_⟩) ?_ ?_
        rotate_left
        · intro w'
          go_simp
          with_reducible rfl
        rotate_left
        · simp only [Act.put, List.setIfInBounds_toArray, List.set_cons_zero, List.set_cons_succ, i64_w, i32_w]
          rfl
        refine pure_ (i := 1) (N := some 55) (v := ?_) (a' := ?_) #[true, true, false, false, false, false, false, false, false, false, false, false, false, false, false] rfl rfl (by kernel_rfl) (fun _ _ _ h => h) (Or.inl ⟨by rfl, ?_⟩) ?_ ?_
        rotate_left
        · intro w'
          go_simp
          with_reducible rfl
        rotate_left
        · simp only [Act.put, List.setIfInBounds_toArray, List.set_cons_zero, List.set_cons_succ, i64_w, i32_w]
          rfl
        refine pure_ (i := 2) (N := some 56) (v := ?_) (a' := ?_) #[true, true, true, false, false, false, false, false, false, false, false, false, false, false, false] rfl rfl (by kernel_rfl) (fun _ _ _ h => h) (Or.inl ⟨by rfl, ?_⟩) ?_ ?_
        rotate_left
        · intro w'
          go_simp
          with_reducible rfl
        rotate_left
        · simp only [Act.put, List.setIfInBounds_toArray, List.set_cons_zero, List.set_cons_succ, i64_w, i32_w]
          rfl
        refine pure_ (i := 6) (N := some 60) (v := ?_) (a' := ?_) #[true, true, true, false, false, false, true, false, false, false, false, false, false, false, false] rfl rfl (by kernel_rfl) (fun _ _ _ h => h) (Or.inl ⟨by rfl, ?_⟩) ?_ ?_
        rotate_left
        · intro w'
          go_simp
          with_reducible rfl
        rotate_left
        · simp only [Act.put, List.setIfInBounds_toArray, List.set_cons_zero, List.set_cons_succ, i64_w, i32_w]
          rfl
        refine pure_ (i := 7) (N := some 61) (v := ?_) (a' := ?_) #[true, true, true, false, false, false, true, true, false, false, false, false, false, false, false] rfl rfl (by kernel_rfl) (fun _ _ _ h => h) (Or.inl ⟨by rfl, ?_⟩) ?_ ?_
        rotate_left
        · intro w'
          go_simp
          with_reducible rfl
        rotate_left
        · simp only [Act.put, List.setIfInBounds_toArray, List.set_cons_zero, List.set_cons_succ, i64_w, i32_w]
          rfl
        refine take_ (i := 3) (N := some 57) (v := ?_) (a' := ?_) #[true, true, true, true, false, false, true, true, false, false, false, false, false, false, false] rfl rfl (by kernel_rfl) (fun _ _ _ h => h) (Or.inl ⟨by rfl, ?_⟩) hHeld ?_ ?_
        rotate_left
        · intro w' s0
          go_simp
          with_reducible rfl
        rotate_left
        · simp only [Act.put, List.setIfInBounds_toArray, List.set_cons_zero, List.set_cons_succ, i64_w, i32_w]
          rfl
        refine pure_ (i := 4) (N := some 58) (v := ?_) (a' := ?_) #[true, true, true, true, true, false, true, true, false, false, false, false, false, false, false] rfl rfl (by kernel_rfl) (fun _ _ _ h => h) (Or.inl ⟨by rfl, ?_⟩) ?_ ?_
        rotate_left
        · intro w'
          go_simp
          with_reducible rfl
        rotate_left
        · simp only [Act.put, List.setIfInBounds_toArray, List.set_cons_zero, List.set_cons_succ, i64_w, i32_w]
          rfl
        refine take_ (i := 5) (N := some 59) (v := ?_) (a' := ?_) #[true, true, true, true, true, true, true, true, false, false, false, false, false, false, false] rfl rfl (by kernel_rfl) (fun _ _ _ h => h) (Or.inl ⟨by rfl, ?_⟩) hHeld ?_ ?_
        rotate_left
        · intro w' s0
          go_simp
          with_reducible rfl
        rotate_left
        · simp only [Act.put, List.setIfInBounds_toArray, List.set_cons_zero, List.set_cons_succ, i64_w, i32_w]
          rfl
        refine take_ (i := 8) (N := some 62) (v := ?_) (a' := ?_) #[true, true, true, true, true, true, true, true, true, false, false, false, false, false, false] rfl rfl (by kernel_rfl) (fun _ _ _ h => h) (Or.inl ⟨by rfl, ?_⟩) hHeld ?_ ?_
        rotate_left
        · intro w' s0
          go_simp
          with_reducible rfl
        rotate_left
        · simp only [Act.put, List.setIfInBounds_toArray, List.set_cons_zero, List.set_cons_succ, i64_w, i32_w]
          rfl
        refine pure_ (i := 9) (N := some 63) (v := ?_) (a' := ?_) #[true, true, true, true, true, true, true, true, true, true, false, false, false, false, false] rfl rfl (by kernel_rfl) (fun _ _ _ h => h) (Or.inl ⟨by rfl, ?_⟩) ?_ ?_
        rotate_left
        · intro w'
          go_simp
          with_reducible rfl
        rotate_left
        · simp only [Act.put, List.setIfInBounds_toArray, List.set_cons_zero, List.set_cons_succ, i64_w, i32_w]
          rfl
        refine pure_ (i := 10) (N := some 64) (v := ?_) (a' := ?_) #[true, true, true, true, true, true, true, true, true, true, true, false, false, false, false] rfl rfl (by kernel_rfl) (fun _ _ _ h => h) (Or.inl ⟨by rfl, ?_⟩) ?_ ?_
        rotate_left
        · intro w'
          go_simp
          with_reducible rfl
        rotate_left
        · simp only [Act.put, List.setIfInBounds_toArray, List.set_cons_zero, List.set_cons_succ, i64_w, i32_w]
          rfl
        refine take_ (i := 11) (N := some 65) (v := ?_) (a' := ?_) #[true, true, true, true, true, true, true, true, true, true, true, true, false, false, false] rfl rfl (by kernel_rfl) (fun _ _ _ h => h) (Or.inl ⟨by rfl, ?_⟩) hHeld ?_ ?_
        rotate_left
        · intro w' s0
          go_simp
          with_reducible rfl
        rotate_left
        · simp only [Act.put, List.setIfInBounds_toArray, List.set_cons_zero, List.set_cons_succ, i64_w, i32_w]
          rfl
        refine last_ (i := 12) (N := some 66) #[true, true, true, true, true, true, true, true, true, true, true, true, true, false, false] rfl rfl (by kernel_rfl) (by decide) (fun K hK => ?_)
        refine value_ (w1 := ?_) (v := ?_) (by rfl) rfl ?_ ?_
        rotate_left 2
        · go_simp
          constructor
          · rfl
          · rfl
        refine hK.out _ _ ?_
        clear hK K
        refine norm_ (a' := ?_) ?_ ?_
        rotate_left
        · show Act.put _ (some 66) _ = _
          simp only [Act.put, List.setIfInBounds_toArray, List.set_cons_zero, List.set_cons_succ, i64_w, i32_w]
          rfl
        refine last_ (i := 13) (N := some 67) #[true, true, true, true, true, true, true, true, true, true, true, true, true, true, false] rfl rfl (by kernel_rfl) (by decide) (fun K hK => ?_)
        refine step_append_lies _ (by rfl) (.tmp 54) (.tmp 66) 39 (by rfl) w.heap.size 5 i0 _ 1 1 Tryd.underlying39 hi hz0 hz1 hz2 rfl (by decide) _ d.length (nums .u8 d) (by rfl) (HO2.out.alloc _) ⟨w2.heap.size, 0, none⟩ 4 4 (nums .u8 (one1 a)) (by rfl) rfl (news_lit _ _ _) (nums_one _) (by decide) (by unfold maxLen; omega) (by omega) (by simp; omega) _ rfl ?_
        intro g cap w4 hown4 hgrow4 hat4 hlt4
        refine hK.out _ _ ?_
        clear hK K
        refine norm_ (a' := ?_) ?_ ?_
        rotate_left
        · show Act.put _ (some 67) _ = _
          simp only [Act.put, List.setIfInBounds_toArray, List.set_cons_zero, List.set_cons_succ, i64_w, i32_w]
          rfl
        refine pure_ (i := 14) (N := some 3) (v := ?_) (a' := ?_) #[true, true, true, true, true, true, true, true, true, true, true, true, true, true, true] rfl rfl (by kernel_rfl) (fun _ _ _ h => h) (Or.inl ⟨by rfl, ?_⟩) ?_ ?_
        rotate_left
        · intro w'
          go_simp
          with_reducible rfl
        rotate_left
        · simp only [Act.put, List.setIfInBounds_toArray, List.set_cons_zero, List.set_cons_succ, i64_w, i32_w]
          rfl
        refine done_ (by kernel_rfl) ?_
        have hB4 : Below w.heap.size w w4 := (HB2.out.alloc hsz2 _).grown hgrow4 (by have := hgrow4.size; simp at this; have := hsz2; simp; omega) (fun k hk => own_base HO2.out k hk)
        rw [← nums_append] at hown4
        obtain ⟨A9, c9, hv9, _, hC9⟩ := own_C (l := d ++ one1 a) (by rw [List.length_append]; rfl) hown4
        cases hv9
        have q9 := str_of w4 (c := cap) hC9
        clear hown4 hgrow4 hat4 hlt4 x0 z0 z1 p0 q0 p1 q1 e1 v1 hHeld HO2 HB2 hC9
        go_wp2
        go_ret
        exact ⟨by rw [HEQ.out]; rfl, hB4⟩
      | [a, b], h =>
        have hN1 : N = 2 := by simpa using h.symm
        subst hN1
        obtain ⟨B, off, rfl, hat⟩ := atI_of_C hC (by omega)
        have y0 : w.cell? ⟨B, off, none⟩ = some (.int .u8 a) := hat 0 a rfl
        have y1 : w.cell? ⟨B, off + 1, none⟩ = some (.int .u8 b) := hat 1 b rfl
        have x0 := (HB.out.cell (World.block_lt_of_cell? w _ y0)).trans y0
        have x1 := (HB.out.cell (World.block_lt_of_cell? w _ y1)).trans y1
        obtain ⟨ha0, ha1⟩ := hby a (by simp)
        obtain ⟨hb0, hb1⟩ := hby b (by simp)
        clear y0 y1 hat hC hby
        have e1 := u8_and3 ha0 ha1
        have e2 := u8_and15 b hb0 hb1
        have v1 : IntKind.u8.wrap (a % 4 * 16) = a % 4 * 16 := by rw [IntKind.wrap_u8]; omega
        have v2 : IntKind.u8.wrap (b % 16 * 4) = b % 16 * 4 := by rw [IntKind.wrap_u8]; omega
        have o1 : bits .or .u8 (a % 4 * 16) (b / 16) = a % 4 * 16 + b / 16 := u8_or4 _ _ (by omega) (by omega) (by omega) (by omega) (by omega)
        have p0 : (0 ≤ a / 4) = True := eq_true (by omega)
        have q0 : (a / 4 < 64) = True := eq_true (by omega)
        have p1 : (0 ≤ a % 4 * 16 + b / 16) = True := eq_true (by omega)
        have q1 : (a % 4 * 16 + b / 16 < 64) = True := eq_true (by omega)
        have p2 : (0 ≤ b % 16 * 4) = True := eq_true (by omega)
        have q2 : (b % 16 * 4 < 64) = True := eq_true (by omega)
        have z0 := bt_at L64 (a / 4)
        have z1 := bt_at L64 (a % 4 * 16 + b / 16)
        have z2 := bt_at L64 (b % 16 * 4)
        unfold L64 at z0 z1 z2
        clear ha0 ha1 hb0 hb1
        go_wp2
        refine start_ (n := 26) (S := fun w' => w'.cell? ⟨B, off, none⟩ = some (.int .u8 a) ∧ w'.cell? ⟨B, off + 1, none⟩ = some (.int .u8 b)) (ds := [23, 24]) #[false, false, false, false, false, false, false, false, false, false, false, false, false, false, false, false, false, false, false, false, false, false, false, false, false, false] (by kernel_rfl) rfl rfl ⟨x0, x1⟩ (fun hHeld => ?_)
        generalize hdr : wr.drew = w2 at hHeld ⊢
        have HO2 := Lib.hid (show w2.ownsRow w.heap.size 5 1 V d.length (nums .u8 d) from hdr ▸ HO.out)
        have HB2 := Lib.hid (show Below w.heap.size w w2 from hdr ▸ below_drew1 HB.out)
        have hsz2 := HB2.out.size
        refine pure_ (i := 0) (N := some 70) (v := ?_) (a' := ?_) #[true, false, false, false, false, false, false, false, false, false, false, false, false, false, false, false, false, false, false, false, false, false, false, false, false, false] rfl rfl (by kernel_rfl) (fun _ _ _ h => h) (Or.inl ⟨by rfl, ?_⟩) ?_ ?_
        rotate_left
        · intro w'
          go_simp
          with_reducible rfl
        rotate_left
        · simp only [Act.put, List.setIfInBounds_toArray, List.set_cons_zero, List.set_cons_succ, i64_w, i32_w]
          rfl
        refine pure_ (i := 1) (N := some 71) (v := ?_) (a' := ?_) #[true, true, false, false, false, false, false, false, false, false, false, false, false, false, false, false, false, false, false, false, false, false, false, false, false, false] rfl rfl (by kernel_rfl) (fun _ _ _ h => h) (Or.inl ⟨by rfl, ?_⟩) ?_ ?_
        rotate_left
        · intro w'
          go_simp
          with_reducible rfl
        rotate_left
        · simp only [Act.put, List.setIfInBounds_toArray, List.set_cons_zero, List.set_cons_succ, i64_w, i32_w]
          rfl
        refine pure_ (i := 2) (N := some 72) (v := ?_) (a' := ?_) #[true, true, true, false, false, false, false, false, false, false, false, false, false, false, false, false, false, false, false, false, false, false, false, false, false, false] rfl rfl (by kernel_rfl) (fun _ _ _ h => h) (Or.inl ⟨by rfl, ?_⟩) ?_ ?_
        rotate_left
        · intro w'
          go_simp
          with_reducible rfl
        rotate_left
        · simp only [Act.put, List.setIfInBounds_toArray, List.set_cons_zero, List.set_cons_succ, i64_w, i32_w]
          rfl
        refine pure_ (i := 6) (N := some 76) (v := ?_) (a' := ?_) #[true, true, true, false, false, false, true, false, false, false, false, false, false, false, false, false, false, false, false, false, false, false, false, false, false, false] rfl rfl (by kernel_rfl) (fun _ _ _ h => h) (Or.inl ⟨by rfl, ?_⟩) ?_ ?_
        rotate_left
        · intro w'
          go_simp
          with_reducible rfl
        rotate_left
        · simp only [Act.put, List.setIfInBounds_toArray, List.set_cons_zero, List.set_cons_succ, i64_w, i32_w]
          rfl
        refine pure_ (i := 7) (N := some 77) (v := ?_) (a' := ?_) #[true, true, true, false, false, false, true, true, false, false, false, false, false, false, false, false, false, false, false, false, false, false, false, false, false, false] rfl rfl (by kernel_rfl) (fun _ _ _ h => h) (Or.inl ⟨by rfl, ?_⟩) ?_ ?_
        rotate_left
        · intro w'
          go_simp
          with_reducible rfl
        rotate_left
        · simp only [Act.put, List.setIfInBounds_toArray, List.set_cons_zero, List.set_cons_succ, i64_w, i32_w]
          rfl
        refine pure_ (i := 11) (N := some 81) (v := ?_) (a' := ?_) #[true, true, true, false, false, false, true, true, false, false, false, true, false, false, false, false, false, false, false, false, false, false, false, false, false, false] rfl rfl (by kernel_rfl) (fun _ _ _ h => h) (Or.inl ⟨by rfl, ?_⟩) ?_ ?_
        rotate_left
        · intro w'
          go_simp
          with_reducible rfl
        rotate_left
        · simp only [Act.put, List.setIfInBounds_toArray, List.set_cons_zero, List.set_cons_succ, i64_w, i32_w]
          rfl
        refine pure_ (i := 12) (N := some 82) (v := ?_) (a' := ?_) #[true, true, true, false, false, false, true, true, false, false, false, true, true, false, false, false, false, false, false, false, false, false, false, false, false, false] rfl rfl (by kernel_rfl) (fun _ _ _ h => h) (Or.inl ⟨by rfl, ?_⟩) ?_ ?_
        rotate_left
        · intro w'
          go_simp
          with_reducible rfl
        rotate_left
        · simp only [Act.put, List.setIfInBounds_toArray, List.set_cons_zero, List.set_cons_succ, i64_w, i32_w]
          rfl
        refine pure_ (i := 17) (N := some 87) (v := ?_) (a' := ?_) #[true, true, true, false, false, false, true, true, false, false, false, true, true, false, false, false, false, true, false, false, false, false, false, false, false, false] rfl rfl (by kernel_rfl) (fun _ _ _ h => h) (Or.inl ⟨by rfl, ?_⟩) ?_ ?_
        rotate_left
        · intro w'
          go_simp
          with_reducible rfl
        rotate_left
        · simp only [Act.put, List.setIfInBounds_toArray, List.set_cons_zero, List.set_cons_succ, i64_w, i32_w]
          rfl
        refine pure_ (i := 18) (N := some 88) (v := ?_) (a' := ?_) #[true, true, true, false, false, false, true, true, false, false, false, true, true, false, false, false, false, true, true, false, false, false, false, false, false, false] rfl rfl (by kernel_rfl) (fun _ _ _ h => h) (Or.inl ⟨by rfl, ?_⟩) ?_ ?_
        rotate_left
        · intro w'
          go_simp
          with_reducible rfl
        rotate_left
        · simp only [Act.put, List.setIfInBounds_toArray, List.set_cons_zero, List.set_cons_succ, i64_w, i32_w]
          rfl
        refine take_ (i := 3) (N := some 73) (v := ?_) (a' := ?_) #[true, true, true, true, false, false, true, true, false, false, false, true, true, false, false, false, false, true, true, false, false, false, false, false, false, false] rfl rfl (by kernel_rfl) (fun _ _ _ h => h) (Or.inl ⟨by rfl, ?_⟩) hHeld ?_ ?_
        rotate_left
        · rintro w' ⟨s0, s1⟩
          go_simp
          with_reducible rfl
        rotate_left
        · simp only [Act.put, List.setIfInBounds_toArray, List.set_cons_zero, List.set_cons_succ, i64_w, i32_w]
          rfl
        refine pure_ (i := 4) (N := some 74) (v := ?_) (a' := ?_) #[true, true, true, true, true, false, true, true, false, false, false, true, true, false, false, false, false, true, true, false, false, false, false, false, false, false] rfl rfl (by kernel_rfl) (fun _ _ _ h => h) (Or.inl ⟨by rfl, ?_⟩) ?_ ?_
        rotate_left
        · intro w'
          go_simp
          with_reducible rfl
        rotate_left
        · simp only [Act.put, List.setIfInBounds_toArray, List.set_cons_zero, List.set_cons_succ, i64_w, i32_w]
          rfl
        refine take_ (i := 5) (N := some 75) (v := ?_) (a' := ?_) #[true, true, true, true, true, true, true, true, false, false, false, true, true, false, false, false, false, true, true, false, false, false, false, false, false, false] rfl rfl (by kernel_rfl) (fun _ _ _ h => h) (Or.inl ⟨by rfl, ?_⟩) hHeld ?_ ?_
        rotate_left
        · rintro w' ⟨s0, s1⟩
          go_simp
          with_reducible rfl
        rotate_left
        · simp only [Act.put, List.setIfInBounds_toArray, List.set_cons_zero, List.set_cons_succ, i64_w, i32_w]
          rfl
        refine take_ (i := 8) (N := some 78) (v := ?_) (a' := ?_) #[true, true, true, true, true, true, true, true, true, false, false, true, true, false, false, false, false, true, true, false, false, false, false, false, false, false] rfl rfl (by kernel_rfl) (fun _ _ _ h => h) (Or.inl ⟨by rfl, ?_⟩) hHeld ?_ ?_
        rotate_left
        · rintro w' ⟨s0, s1⟩
          go_simp
          with_reducible rfl
        rotate_left
        · simp only [Act.put, List.setIfInBounds_toArray, List.set_cons_zero, List.set_cons_succ, i64_w, i32_w]
          rfl
        refine pure_ (i := 9) (N := some 79) (v := ?_) (a' := ?_) #[true, true, true, true, true, true, true, true, true, true, false, true, true, false, false, false, false, true, true, false, false, false, false, false, false, false] rfl rfl (by kernel_rfl) (fun _ _ _ h => h) (Or.inl ⟨by rfl, ?_⟩) ?_ ?_
        rotate_left
        · intro w'
          go_simp
          with_reducible rfl
        rotate_left
        · simp only [Act.put, List.setIfInBounds_toArray, List.set_cons_zero, List.set_cons_succ, i64_w, i32_w]
          rfl
        refine pure_ (i := 10) (N := some 80) (v := ?_) (a' := ?_) #[true, true, true, true, true, true, true, true, true, true, true, true, true, false, false, false, false, true, true, false, false, false, false, false, false, false] rfl rfl (by kernel_rfl) (fun _ _ _ h => h) (Or.inl ⟨by rfl, ?_⟩) ?_ ?_
        rotate_left
        · intro w'
          go_simp
          with_reducible rfl
        rotate_left
        · simp only [Act.put, List.setIfInBounds_toArray, List.set_cons_zero, List.set_cons_succ, i64_w, i32_w]
          rfl
        refine take_ (i := 13) (N := some 83) (v := ?_) (a' := ?_) #[true, true, true, true, true, true, true, true, true, true, true, true, true, true, false, false, false, true, true, false, false, false, false, false, false, false] rfl rfl (by kernel_rfl) (fun _ _ _ h => h) (Or.inl ⟨by rfl, ?_⟩) hHeld ?_ ?_
        rotate_left
        · rintro w' ⟨s0, s1⟩
          go_simp
          with_reducible rfl
        rotate_left
        · simp only [Act.put, List.setIfInBounds_toArray, List.set_cons_zero, List.set_cons_succ, i64_w, i32_w]
          rfl
        refine pure_ (i := 14) (N := some 84) (v := ?_) (a' := ?_) #[true, true, true, true, true, true, true, true, true, true, true, true, true, true, true, false, false, true, true, false, false, false, false, false, false, false] rfl rfl (by kernel_rfl) (fun _ _ _ h => h) (Or.inl ⟨by rfl, ?_⟩) ?_ ?_
        rotate_left
        · intro w'
          go_simp
          with_reducible rfl
        rotate_left
        · simp only [Act.put, List.setIfInBounds_toArray, List.set_cons_zero, List.set_cons_succ, i64_w, i32_w]
          rfl
        refine pure_ (i := 15) (N := some 85) (v := ?_) (a' := ?_) #[true, true, true, true, true, true, true, true, true, true, true, true, true, true, true, true, false, true, true, false, false, false, false, false, false, false] rfl rfl (by kernel_rfl) (fun _ _ _ h => h) (Or.inl ⟨by rfl, ?_⟩) ?_ ?_
        rotate_left
        · intro w'
          go_simp
          with_reducible rfl
        rotate_left
        · simp only [Act.put, List.setIfInBounds_toArray, List.set_cons_zero, List.set_cons_succ, i64_w, i32_w]
          rfl
        refine take_ (i := 16) (N := some 86) (v := ?_) (a' := ?_) #[true, true, true, true, true, true, true, true, true, true, true, true, true, true, true, true, true, true, true, false, false, false, false, false, false, false] rfl rfl (by kernel_rfl) (fun _ _ _ h => h) (Or.inl ⟨by rfl, ?_⟩) hHeld ?_ ?_
        rotate_left
        · rintro w' ⟨s0, s1⟩
          go_simp
          with_reducible rfl
        rotate_left
        · simp only [Act.put, List.setIfInBounds_toArray, List.set_cons_zero, List.set_cons_succ, i64_w, i32_w]
          rfl
        refine take_ (i := 19) (N := some 89) (v := ?_) (a' := ?_) #[true, true, true, true, true, true, true, true, true, true, true, true, true, true, true, true, true, true, true, true, false, false, false, false, false, false] rfl rfl (by kernel_rfl) (fun _ _ _ h => h) (Or.inl ⟨by rfl, ?_⟩) hHeld ?_ ?_
        rotate_left
        · rintro w' ⟨s0, s1⟩
          go_simp
          with_reducible rfl
        rotate_left
        · simp only [Act.put, List.setIfInBounds_toArray, List.set_cons_zero, List.set_cons_succ, i64_w, i32_w]
          rfl
        refine pure_ (i := 20) (N := some 90) (v := ?_) (a' := ?_) #[true, true, true, true, true, true, true, true, true, true, true, true, true, true, true, true, true, true, true, true, true, false, false, false, false, false] rfl rfl (by kernel_rfl) (fun _ _ _ h => h) (Or.inl ⟨by rfl, ?_⟩) ?_ ?_
        rotate_left
        · intro w'
          go_simp
          with_reducible rfl
        rotate_left
        · simp only [Act.put, List.setIfInBounds_toArray, List.set_cons_zero, List.set_cons_succ, i64_w, i32_w]
          rfl
        refine pure_ (i := 21) (N := some 91) (v := ?_) (a' := ?_) #[true, true, true, true, true, true, true, true, true, true, true, true, true, true, true, true, true, true, true, true, true, true, false, false, false, false] rfl rfl (by kernel_rfl) (fun _ _ _ h => h) (Or.inl ⟨by rfl, ?_⟩) ?_ ?_
        rotate_left
        · intro w'
          go_simp
          with_reducible rfl
        rotate_left
        · simp only [Act.put, List.setIfInBounds_toArray, List.set_cons_zero, List.set_cons_succ, i64_w, i32_w]
          rfl
        refine take_ (i := 22) (N := some 92) (v := ?_) (a' := ?_) #[true, true, true, true, true, true, true, true, true, true, true, true, true, true, true, true, true, true, true, true, true, true, true, false, false, false] rfl rfl (by kernel_rfl) (fun _ _ _ h => h) (Or.inl ⟨by rfl, ?_⟩) hHeld ?_ ?_
        rotate_left
        · rintro w' ⟨s0, s1⟩
          go_simp
          with_reducible rfl
        rotate_left
        · simp only [Act.put, List.setIfInBounds_toArray, List.set_cons_zero, List.set_cons_succ, i64_w, i32_w]
          rfl
        refine last_ (i := 23) (N := some 93) #[true, true, true, true, true, true, true, true, true, true, true, true, true, true, true, true, true, true, true, true, true, true, true, true, false, false] rfl rfl (by kernel_rfl) (by decide) (fun K hK => ?_)
        refine value_ (w1 := ?_) (v := ?_) (by rfl) rfl ?_ ?_
        rotate_left 2
        · go_simp
          constructor
          · rfl
          · rfl
        refine hK.out _ _ ?_
        clear hK K
        refine norm_ (a' := ?_) ?_ ?_
        rotate_left
        · show Act.put _ (some 93) _ = _
          simp only [Act.put, List.setIfInBounds_toArray, List.set_cons_zero, List.set_cons_succ, i64_w, i32_w]
          rfl
        refine last_ (i := 24) (N := some 94) #[true, true, true, true, true, true, true, true, true, true, true, true, true, true, true, true, true, true, true, true, true, true, true, true, true, false] rfl rfl (by kernel_rfl) (by decide) (fun K hK => ?_)
        refine step_append_lies _ (by rfl) (.tmp 70) (.tmp 93) 39 (by rfl) w.heap.size 5 i0 _ 1 1 Tryd.underlying39 hi hz0 hz1 hz2 rfl (by decide) _ d.length (nums .u8 d) (by rfl) (HO2.out.alloc _) ⟨w2.heap.size, 0, none⟩ 4 4 (nums .u8 (two2 a b)) (by rfl) rfl (news_lit _ _ _) (nums_one _) (by decide) (by unfold maxLen; omega) (by omega) (by simp; omega) _ rfl ?_
        intro g cap w4 hown4 hgrow4 hat4 hlt4
        refine hK.out _ _ ?_
        clear hK K
        refine norm_ (a' := ?_) ?_ ?_
        rotate_left
        · show Act.put _ (some 94) _ = _
          simp only [Act.put, List.setIfInBounds_toArray, List.set_cons_zero, List.set_cons_succ, i64_w, i32_w]
          rfl
        refine pure_ (i := 25) (N := some 3) (v := ?_) (a' := ?_) #[true, true, true, true, true, true, true, true, true, true, true, true, true, true, true, true, true, true, true, true, true, true, true, true, true, true] rfl rfl (by kernel_rfl) (fun _ _ _ h => h) (Or.inl ⟨by rfl, ?_⟩) ?_ ?_
        rotate_left
        · intro w'
          go_simp
          with_reducible rfl
        rotate_left
        · simp only [Act.put, List.setIfInBounds_toArray, List.set_cons_zero, List.set_cons_succ, i64_w, i32_w]
          rfl
        refine done_ (by kernel_rfl) ?_
        have hB4 : Below w.heap.size w w4 := (HB2.out.alloc hsz2 _).grown hgrow4 (by have := hgrow4.size; simp at this; have := hsz2; simp; omega) (fun k hk => own_base HO2.out k hk)
        rw [← nums_append] at hown4
        obtain ⟨A9, c9, hv9, _, hC9⟩ := own_C (l := d ++ two2 a b) (by rw [List.length_append]; rfl) hown4
        cases hv9
        have q9 := str_of w4 (c := cap) hC9
        clear hown4 hgrow4 hat4 hlt4 x0 x1 z0 z1 z2 p0 q0 p1 q1 p2 q2 e1 e2 v1 v2 o1 hHeld HO2 HB2 hC9
        go_wp2
        go_ret
        exact ⟨by rw [HEQ.out]; rfl, hB4⟩
      | _ :: _ :: _ :: _, h => simp only [List.length_cons] at h; omega
end Go.Proofs.YtcnhnpkbklakoaaDoor.Code
/- code.value by contract. (Began as printed by print.sh.) -/
namespace Go.Proofs.YtcnhnpkbklakoaaDoor.CodeValue
open Go.RowKit Go.Proofs.YtcnhnpkbklakoaaDoorW.PrintWords Go.Proofs.YtcnhnpkbklakoaaDoorW.PrintLast Go.Proofs.YtcnhnpkbklakoaaDoorW.PrintMore Go.Proofs.YtcnhnpkbklakoaaDoor.PWordEncodes
attribute [local go_sem] max2_int min2_int max_two min_two max_three min_three max_four min_four
set_option linter.unusedVariables false
set_option linter.unusedSimpArgs false
/-! ### code_value: function 98 -/
mutual
def code_value.j0 : Nat → Int → Bool → Option (Int)
  | 0, _, _ => none
  | k + 1, x0, x3 => if x3 = true then (some ((x0 - 65) % 256)) else (if x0 ≥ 97 then (code_value.j1 k x0 (decide (x0 ≤ 122))) else (code_value.j1 k x0 false))
def code_value.j1 : Nat → Int → Bool → Option (Int)
  | 0, _, _ => none
  | k + 1, x0, x12 => if x12 = true then (some ((((x0 - 97) % 256) + 26) % 256)) else (if x0 ≥ 48 then (code_value.j2 k x0 (decide (x0 ≤ 57))) else (code_value.j2 k x0 false))
def code_value.j2 : Nat → Int → Bool → Option (Int)
  | 0, _, _ => none
  | k + 1, x0, x22 => if x22 = true then (some ((((x0 - 48) % 256) + 52) % 256)) else (if x0 = 43 then (some 62) else (if x0 = 47 then (some 63) else (if x0 = 61 then (some 64) else (some 65))))
end
def code_value.f (k : Nat) (a0 : Int) : Option (Int) := if a0 ≥ 65 then (code_value.j0 k a0 (decide (a0 ≤ 90))) else (code_value.j0 k a0 false)
theorem code_value.mono_l : ∀ k, (∀ y0 y1, LeO (code_value.j0 k y0 y1) (code_value.j0 (k + 1) y0 y1)) ∧ (∀ y0 y1, LeO (code_value.j1 k y0 y1) (code_value.j1 (k + 1) y0 y1)) ∧ (∀ y0 y1, LeO (code_value.j2 k y0 y1) (code_value.j2 (k + 1) y0 y1))
  | 0 => ⟨fun _ _ r h => by simp [code_value.j0] at h, fun _ _ r h => by simp [code_value.j1] at h, fun _ _ r h => by simp [code_value.j2] at h⟩
  | k + 1 => by
    obtain ⟨ih0, ih1, ih2⟩ := code_value.mono_l k
    refine ⟨?_, ?_, ?_⟩
    · intro y0 y1
      unfold code_value.j0
      repeat' first
      | (with_reducible exact ih0 _ _)
      | (with_reducible exact ih1 _ _)
      | (with_reducible exact ih2 _ _)
      | (with_reducible exact LeO.refl _)
      | (with_reducible exact LeO.none _)
      | (with_reducible refine LeO.ite ?_ ?_)
      | (with_reducible refine LeO.bind ?_ (fun _ => ?_))
      | exact ih0 _ _
      | exact ih1 _ _
      | exact ih2 _ _
      | exact LeO.none _
      | refine LeO.ite ?_ ?_
      | refine LeO.bind ?_ (fun _ => ?_)
    · intro y0 y1
      unfold code_value.j1
      repeat' first
      | (with_reducible exact ih0 _ _)
      | (with_reducible exact ih1 _ _)
      | (with_reducible exact ih2 _ _)
      | (with_reducible exact LeO.refl _)
      | (with_reducible exact LeO.none _)
      | (with_reducible refine LeO.ite ?_ ?_)
      | (with_reducible refine LeO.bind ?_ (fun _ => ?_))
      | exact ih0 _ _
      | exact ih1 _ _
      | exact ih2 _ _
      | exact LeO.none _
      | refine LeO.ite ?_ ?_
      | refine LeO.bind ?_ (fun _ => ?_)
    · intro y0 y1
      unfold code_value.j2
      repeat' first
      | (with_reducible exact ih0 _ _)
      | (with_reducible exact ih1 _ _)
      | (with_reducible exact ih2 _ _)
      | (with_reducible exact LeO.refl _)
      | (with_reducible exact LeO.none _)
      | (with_reducible refine LeO.ite ?_ ?_)
      | (with_reducible refine LeO.bind ?_ (fun _ => ?_))
      | exact ih0 _ _
      | exact ih1 _ _
      | exact ih2 _ _
      | exact LeO.none _
      | refine LeO.ite ?_ ?_
      | refine LeO.bind ?_ (fun _ => ?_)
theorem code_value.mono : ∀ a0 k, LeO (code_value.f k a0) (code_value.f (k + 1) a0) := by
  intro a0 k
  obtain ⟨ih0, ih1, ih2⟩ := code_value.mono_l k
  unfold code_value.f
  repeat' first
      | (with_reducible exact ih0 _ _)
      | (with_reducible exact ih1 _ _)
      | (with_reducible exact ih2 _ _)
      | (with_reducible exact LeO.refl _)
      | (with_reducible exact LeO.none _)
      | (with_reducible refine LeO.ite ?_ ?_)
      | (with_reducible refine LeO.bind ?_ (fun _ => ?_))
      | exact ih0 _ _
      | exact ih1 _ _
      | exact ih2 _ _
      | exact LeO.none _
      | refine LeO.ite ?_ ?_
      | refine LeO.bind ?_ (fun _ => ?_)
set_option maxHeartbeats 8000000 in
set_option maxRecDepth 100000 in
theorem code_value.calls (k : Nat) (a0 : Int) (r : Int) (w : World) (h : code_value.f k a0 = some r) :
    Calls Tryd.prog 98 #[.int .u8 a0] w fun e w' => e = .returned (.int .u8 r) ∧ Drawn0 w w' := by
  have H : (if a0 ≥ 65 then (code_value.j0 k a0 (decide (a0 ≤ 90))) else (code_value.j0 k a0 false)) = some r := h
  clear h
  have HC2 := Aside0.mk H
  clear H
  go_enter Tryd.func98, Tryd.ntmps98
  go_upto_region 1 with (fail)
  go_cut [3] (fun v3 wc => ∃ (kq : Nat) (x3_1 : Bool), v3 = .bool x3_1 ∧ Aside0 (code_value.j0 kq a0 x3_1 = some r) ∧ Aside0 (kq ≤ k) ∧ Drawn0 w wc)
  case first =>
    have H := HC2.out
    clear HC2
    by_cases c3 : a0 ≥ 65
    · rw [if_pos c3] at H
      have c3b0 : decide (65 ≤ a0) = true := decide_eq_true c3
      clear c3
      (first | rw [c3b0] | (simp only [i64_w, i32_w]; rw [c3b0]) | skip)
      have H' := Aside0.mk H
      clear H
      go_wp2
      go_meet
      case rel => exact ⟨_, (decide (a0 ≤ 90)), (by first | rfl | (simp; done) | (simp [*]; done)), H', ⟨by first | omega | exact Nat.le_refl _⟩, by repeat (first | exact Drawn0.refl _ | apply Drawn0.step)⟩
    · rw [if_neg c3] at H
      have c3b0 : decide (65 ≤ a0) = false := decide_eq_false c3
      clear c3
      (first | rw [c3b0] | (simp only [i64_w, i32_w]; rw [c3b0]) | skip)
      have H' := Aside0.mk H
      clear H
      go_wp2
      go_meet
      case rel => exact ⟨_, (false), (by first | rfl | (simp; done) | (simp [*]; done)), H', ⟨by first | omega | exact Nat.le_refl _⟩, by repeat (first | exact Drawn0.refl _ | apply Drawn0.step)⟩
  case rest =>
    clear HC2
    try clear p2
    try clear c3
    try clear c3b0
    obtain ⟨kq, x3_1, rfl, HA, HJ1, ⟨mc1, rfl⟩⟩ := hcut
    cases kq with
    | zero => exact absurd HA.out (by simp [code_value.j0])
    | succ kj1 =>
      have H := HA.out
      clear HA
      simp only [code_value.j0] at H
      by_cases c4 : x3_1 = true
      · subst c4
        have H1 : (some ((a0 - 65) % 256)) = some r := by rw [if_pos rfl] at H; exact H
        clear H
        have H := H1
        clear H1
        obtain rfl := Option.some.inj H
        go_wp2
        go_ret
        exact ⟨by first | rfl | (simp; done) | (simp [*]; done), by repeat (first | exact Drawn0.refl _ | apply Drawn0.step)⟩
      · replace c4 := Bool.eq_false_iff.mpr c4
        subst c4
        have H1 : (if a0 ≥ 97 then (code_value.j1 kj1 a0 (decide (a0 ≤ 122))) else (code_value.j1 kj1 a0 false)) = some r := by rw [if_neg (show ¬ (false = true) by decide)] at H; exact H
        clear H
        have H := H1
        clear H1
        have HC5 := Aside0.mk H
        clear H
        go_upto_region 3 with (fail)
        go_cut [12] (fun v12 wc => ∃ (kq : Nat) (x12_4 : Bool), v12 = .bool x12_4 ∧ Aside0 (code_value.j1 kq a0 x12_4 = some r) ∧ Aside0 (kq ≤ kj1) ∧ Drawn0 w wc)
        case first =>
          have H := HC5.out
          clear HC5
          by_cases c6 : a0 ≥ 97
          · rw [if_pos c6] at H
            have c6b0 : decide (97 ≤ a0) = true := decide_eq_true c6
            clear c6
            (first | rw [c6b0] | (simp only [i64_w, i32_w]; rw [c6b0]) | skip)
            have H' := Aside0.mk H
            clear H
            go_wp2
            go_meet
            case rel => exact ⟨_, (decide (a0 ≤ 122)), (by first | rfl | (simp; done) | (simp [*]; done)), H', ⟨by have := HJ1.out; first | omega | exact Nat.le_refl _⟩, by repeat (first | exact Drawn0.refl _ | apply Drawn0.step)⟩
          · rw [if_neg c6] at H
            have c6b0 : decide (97 ≤ a0) = false := decide_eq_false c6
            clear c6
            (first | rw [c6b0] | (simp only [i64_w, i32_w]; rw [c6b0]) | skip)
            have H' := Aside0.mk H
            clear H
            go_wp2
            go_meet
            case rel => exact ⟨_, (false), (by first | rfl | (simp; done) | (simp [*]; done)), H', ⟨by have := HJ1.out; first | omega | exact Nat.le_refl _⟩, by repeat (first | exact Drawn0.refl _ | apply Drawn0.step)⟩
        case rest =>
          clear HC5
          try clear c1
          try clear p2
          try clear c3
          try clear c3b0
          try clear c4
          try clear c6
          try clear c6b0
          try clear p2
          obtain ⟨kq, x12_4, rfl, HA, HJ4, ⟨mc4, rfl⟩⟩ := hcut
          cases kq with
          | zero => exact absurd HA.out (by simp [code_value.j1])
          | succ kj4 =>
            have H := HA.out
            clear HA
            simp only [code_value.j1] at H
            by_cases c7 : x12_4 = true
            · subst c7
              have H1 : (some ((((a0 - 97) % 256) + 26) % 256)) = some r := by rw [if_pos rfl] at H; exact H
              clear H
              have H := H1
              clear H1
              obtain rfl := Option.some.inj H
              go_wp2
              go_ret
              exact ⟨by first | rfl | (simp; done) | (simp [*]; done), by repeat (first | exact Drawn0.refl _ | apply Drawn0.step)⟩
            · replace c7 := Bool.eq_false_iff.mpr c7
              subst c7
              have H1 : (if a0 ≥ 48 then (code_value.j2 kj4 a0 (decide (a0 ≤ 57))) else (code_value.j2 kj4 a0 false)) = some r := by rw [if_neg (show ¬ (false = true) by decide)] at H; exact H
              clear H
              have H := H1
              clear H1
              have HC8 := Aside0.mk H
              clear H
              go_upto_region 5 with (fail)
              go_cut [22] (fun v22 wc => ∃ (kq : Nat) (x22_7 : Bool), v22 = .bool x22_7 ∧ Aside0 (code_value.j2 kq a0 x22_7 = some r) ∧ Aside0 (kq ≤ kj4) ∧ Drawn0 w wc)
              case first =>
                have H := HC8.out
                clear HC8
                by_cases c9 : a0 ≥ 48
                · rw [if_pos c9] at H
                  have c9b0 : decide (48 ≤ a0) = true := decide_eq_true c9
                  clear c9
                  (first | rw [c9b0] | (simp only [i64_w, i32_w]; rw [c9b0]) | skip)
                  have H' := Aside0.mk H
                  clear H
                  go_wp2
                  go_meet
                  case rel => exact ⟨_, (decide (a0 ≤ 57)), (by first | rfl | (simp; done) | (simp [*]; done)), H', ⟨by have := HJ1.out; have := HJ4.out; first | omega | exact Nat.le_refl _⟩, by repeat (first | exact Drawn0.refl _ | apply Drawn0.step)⟩
                · rw [if_neg c9] at H
                  have c9b0 : decide (48 ≤ a0) = false := decide_eq_false c9
                  clear c9
                  (first | rw [c9b0] | (simp only [i64_w, i32_w]; rw [c9b0]) | skip)
                  have H' := Aside0.mk H
                  clear H
                  go_wp2
                  go_meet
                  case rel => exact ⟨_, (false), (by first | rfl | (simp; done) | (simp [*]; done)), H', ⟨by have := HJ1.out; have := HJ4.out; first | omega | exact Nat.le_refl _⟩, by repeat (first | exact Drawn0.refl _ | apply Drawn0.step)⟩
              case rest =>
                clear HC8
                try clear c1
                try clear p2
                try clear c3
                try clear c3b0
                try clear c4
                try clear c6
                try clear c6b0
                try clear c7
                try clear c9
                try clear c9b0
                try clear p2
                obtain ⟨kq, x22_7, rfl, HA, HJ7, ⟨mc7, rfl⟩⟩ := hcut
                cases kq with
                | zero => exact absurd HA.out (by simp [code_value.j2])
                | succ kj7 =>
                  have H := HA.out
                  clear HA
                  simp only [code_value.j2] at H
                  by_cases c10 : x22_7 = true
                  · subst c10
                    have H1 : (some ((((a0 - 48) % 256) + 52) % 256)) = some r := by rw [if_pos rfl] at H; exact H
                    clear H
                    have H := H1
                    clear H1
                    obtain rfl := Option.some.inj H
                    go_wp2
                    go_ret
                    exact ⟨by first | rfl | (simp; done) | (simp [*]; done), by repeat (first | exact Drawn0.refl _ | apply Drawn0.step)⟩
                  · replace c10 := Bool.eq_false_iff.mpr c10
                    subst c10
                    have H1 : (if a0 = 43 then (some 62) else (if a0 = 47 then (some 63) else (if a0 = 61 then (some 64) else (some 65)))) = some r := by rw [if_neg (show ¬ (false = true) by decide)] at H; exact H
                    clear H
                    have H := H1
                    clear H1
                    by_cases c11 : a0 = 43
                    · rw [if_pos c11] at H
                      have c11b0 : (a0 == 43) = true := beq_iff_eq.mpr c11
                      have c11b1 : (a0 != 43) = false := bne_eq_false_iff_eq.mpr c11
                      clear c11
                      obtain rfl := Option.some.inj H
                      go_wp2
                      go_ret
                      exact ⟨by first | rfl | (simp; done) | (simp [*]; done), by repeat (first | exact Drawn0.refl _ | apply Drawn0.step)⟩
                    · rw [if_neg c11] at H
                      have c11b0 : (a0 == 43) = false := beq_eq_false_iff_ne.mpr c11
                      have c11b1 : (a0 != 43) = true := bne_iff_ne.mpr c11
                      by_cases c12 : a0 = 47
                      · rw [if_pos c12] at H
                        have c12b0 : (a0 == 47) = true := beq_iff_eq.mpr c12
                        have c12b1 : (a0 != 47) = false := bne_eq_false_iff_eq.mpr c12
                        clear c12
                        obtain rfl := Option.some.inj H
                        go_wp2
                        go_ret
                        exact ⟨by first | rfl | (simp; done) | (simp [*]; done), by repeat (first | exact Drawn0.refl _ | apply Drawn0.step)⟩
                      · rw [if_neg c12] at H
                        have c12b0 : (a0 == 47) = false := beq_eq_false_iff_ne.mpr c12
                        have c12b1 : (a0 != 47) = true := bne_iff_ne.mpr c12
                        by_cases c13 : a0 = 61
                        · rw [if_pos c13] at H
                          have c13b0 : (a0 == 61) = true := beq_iff_eq.mpr c13
                          have c13b1 : (a0 != 61) = false := bne_eq_false_iff_eq.mpr c13
                          clear c13
                          obtain rfl := Option.some.inj H
                          go_wp2
                          go_ret
                          exact ⟨by first | rfl | (simp; done) | (simp [*]; done), by repeat (first | exact Drawn0.refl _ | apply Drawn0.step)⟩
                        · rw [if_neg c13] at H
                          have c13b0 : (a0 == 61) = false := beq_eq_false_iff_ne.mpr c13
                          have c13b1 : (a0 != 61) = true := bne_iff_ne.mpr c13
                          obtain rfl := Option.some.inj H
                          go_wp2
                          go_ret
                          exact ⟨by first | rfl | (simp; done) | (simp [*]; done), by repeat (first | exact Drawn0.refl _ | apply Drawn0.step)⟩

-- NOT PRINTED: function 99 (code_Reader_next)

-- NOT PRINTED: function 77 (code_Reader_take)

-- NOT PRINTED: function 50 (code_Unbase64)

-- NOT PRINTED: function 51 (octet_Span_string)

-- NOT PRINTED: function 30 (octet_Bad_string)

end Go.Proofs.YtcnhnpkbklakoaaDoor.CodeValue
/- code.Reader.next by contract. -/
namespace Go.Proofs.YtcnhnpkbklakoaaDoor.Code
open Go.RowKit Go.Proofs.YtcnhnpkbklakoaaDoorW.PrintWords Go.Proofs.YtcnhnpkbklakoaaDoorW.PrintLast Go.Proofs.YtcnhnpkbklakoaaDoorW.PrintMore Go.Proofs.YtcnhnpkbklakoaaDoor.PWordEncodes
attribute [local go_sem] max2_int min2_int max_two min_two max_three min_three max_four min_four
set_option linter.unusedVariables false
set_option linter.unusedSimpArgs false
/-- does the text go on with this letter: 0, or the error -/
def nextV (q1 q2 : Int) (n : Nat) (over : Bool) (v : Int) : Int :=
  if v = 65 then 40 else if over = true then 41 else if n = 3 ∧ q2 = 64 then (if v ≠ 64 then 41 else 0) else if v ≠ 64 then 0 else if n < 2 then 41 else if n = 2 ∧ q1 % 16 ≠ 0 then 41 else if n = 3 ∧ q2 % 4 ≠ 0 then 41 else 0
def rd8 (w : World) (R : Nat) (q0 q1 q2 q3 : Int) (n : Nat) (over : Bool) : Prop := w.heap[R]? = some (.cells #[.bool true, .int .u8 q0, .int .u8 q1, .int .u8 q2, .int .u8 q3, .int .i64 n, .bool over, .int .i64 0] 105 (0, 0))
set_option maxHeartbeats 2000000 in
set_option maxRecDepth 100000 in
theorem next_calls (R : Nat) (q0 q1 q2 q3 : Int) (n : Nat) (over : Bool) (v : Int) (w : World) (hR : rd8 w R q0 q1 q2 q3 n over) (hn : n ≤ 3) (h1 : 0 ≤ q1 ∧ q1 < 256) (h2 : 0 ≤ q2 ∧ q2 < 256) :
    Calls Tryd.prog 99 #[.pointer (some ⟨R, 0, none⟩), .int .u8 v] w fun e w' => e = .returned (.int .i64 (nextV q1 q2 n over v)) ∧ Drawn0 w w' := by
  have x1 := blk_cell hR 1
  have x2 := blk_cell hR 2
  have x3 := blk_cell hR 3
  have x4 := blk_cell hR 4
  have x5 := blk_cell hR 5
  have x6 := blk_cell hR 6
  simp only [List.getElem?_toArray, List.getElem?_cons_succ, List.getElem?_cons_zero] at x1 x2 x3 x4 x5 x6
  clear hR
  have a0 : (0 ≤ (n : Int)) = True := eq_true (by omega)
  have a1 : ((n : Int) ≤ 4) = True := eq_true (by omega)
  have b1 := u8_and15 q1 h1.1 h1.2
  have b2 := u8_and3 h2.1 h2.2
  by_cases hv : v = 65
  · subst hv
    go_enter Tryd.func99, Tryd.ntmps99
    go_wp2
    go_quiet (fail)
    go_wp2
    go_ret
    exact ⟨by simp [nextV, *], by repeat (first | exact Drawn0.refl _ | apply Drawn0.step)⟩
  · have hv0 : (v == 65) = false := beq_eq_false_iff_ne.2 hv
    cases over
    · by_cases hc : v = 64
      · subst hc
        obtain rfl | rfl | rfl | rfl : n = 0 ∨ n = 1 ∨ n = 2 ∨ n = 3 := by omega
        · go_enter Tryd.func99, Tryd.ntmps99
          go_wp2
          go_quiet (fail)
          go_wp2
          go_ret
          exact ⟨by simp [nextV, *], by repeat (first | exact Drawn0.refl _ | apply Drawn0.step)⟩
        · go_enter Tryd.func99, Tryd.ntmps99
          go_wp2
          go_quiet (fail)
          go_wp2
          go_ret
          exact ⟨by simp [nextV, *], by repeat (first | exact Drawn0.refl _ | apply Drawn0.step)⟩
        · by_cases hq : q1 % 16 = 0
          · have hq0 : (q1 % 16 == 0) = true := beq_iff_eq.2 hq
            have hq1 : (q1 % 16 != 0) = false := bne_eq_false_iff_eq.2 hq
            go_enter Tryd.func99, Tryd.ntmps99
            go_wp2
            go_quiet (fail)
            go_wp2
            go_ret
            exact ⟨by simp [nextV, *], by repeat (first | exact Drawn0.refl _ | apply Drawn0.step)⟩
          · have hq0 : (q1 % 16 == 0) = false := beq_eq_false_iff_ne.2 hq
            have hq1 : (q1 % 16 != 0) = true := bne_iff_ne.2 hq
            go_enter Tryd.func99, Tryd.ntmps99
            go_wp2
            go_quiet (fail)
            go_wp2
            go_ret
            exact ⟨by simp [nextV, *], by repeat (first | exact Drawn0.refl _ | apply Drawn0.step)⟩
        · by_cases hp : q2 = 64
          · subst hp
            go_enter Tryd.func99, Tryd.ntmps99
            go_wp2
            go_quiet (fail)
            go_wp2
            go_ret
            exact ⟨by simp [nextV, *], by repeat (first | exact Drawn0.refl _ | apply Drawn0.step)⟩
          · have hp0 : (q2 == 64) = false := beq_eq_false_iff_ne.2 hp
            by_cases hq : q2 % 4 = 0
            · have hq0 : (q2 % 4 == 0) = true := beq_iff_eq.2 hq
              have hq1 : (q2 % 4 != 0) = false := bne_eq_false_iff_eq.2 hq
              go_enter Tryd.func99, Tryd.ntmps99
              go_wp2
              go_quiet (fail)
              go_wp2
              go_ret
              exact ⟨by simp [nextV, *], by repeat (first | exact Drawn0.refl _ | apply Drawn0.step)⟩
            · have hq0 : (q2 % 4 == 0) = false := beq_eq_false_iff_ne.2 hq
              have hq1 : (q2 % 4 != 0) = true := bne_iff_ne.2 hq
              go_enter Tryd.func99, Tryd.ntmps99
              go_wp2
              go_quiet (fail)
              go_wp2
              go_ret
              exact ⟨by simp [nextV, *], by repeat (first | exact Drawn0.refl _ | apply Drawn0.step)⟩
      · have hc0 : (v == 64) = false := beq_eq_false_iff_ne.2 hc
        have hc1 : (v != 64) = true := bne_iff_ne.2 hc
        obtain rfl | rfl | rfl | rfl : n = 0 ∨ n = 1 ∨ n = 2 ∨ n = 3 := by omega
        · go_enter Tryd.func99, Tryd.ntmps99
          go_wp2
          go_quiet (fail)
          go_wp2
          go_ret
          exact ⟨by simp [nextV, *], by repeat (first | exact Drawn0.refl _ | apply Drawn0.step)⟩
        · go_enter Tryd.func99, Tryd.ntmps99
          go_wp2
          go_quiet (fail)
          go_wp2
          go_ret
          exact ⟨by simp [nextV, *], by repeat (first | exact Drawn0.refl _ | apply Drawn0.step)⟩
        · go_enter Tryd.func99, Tryd.ntmps99
          go_wp2
          go_quiet (fail)
          go_wp2
          go_ret
          exact ⟨by simp [nextV, *], by repeat (first | exact Drawn0.refl _ | apply Drawn0.step)⟩
        · by_cases hp : q2 = 64
          · subst hp
            go_enter Tryd.func99, Tryd.ntmps99
            go_wp2
            go_quiet (fail)
            go_wp2
            go_ret
            exact ⟨by simp [nextV, *], by repeat (first | exact Drawn0.refl _ | apply Drawn0.step)⟩
          · have hp0 : (q2 == 64) = false := beq_eq_false_iff_ne.2 hp
            go_enter Tryd.func99, Tryd.ntmps99
            go_wp2
            go_quiet (fail)
            go_wp2
            go_ret
            exact ⟨by simp [nextV, *], by repeat (first | exact Drawn0.refl _ | apply Drawn0.step)⟩
    · go_enter Tryd.func99, Tryd.ntmps99
      go_wp2
      go_quiet (fail)
      go_wp2
      go_ret
      exact ⟨by simp [nextV, *], by repeat (first | exact Drawn0.refl _ | apply Drawn0.step)⟩
end Go.Proofs.YtcnhnpkbklakoaaDoor.Code
/- code.Reader.take by contract. -/
namespace Go.Proofs.YtcnhnpkbklakoaaDoor.Code
open Go.RowKit Go.Proofs.YtcnhnpkbklakoaaDoorW.PrintWords Go.Proofs.YtcnhnpkbklakoaaDoorW.PrintLast Go.Proofs.YtcnhnpkbklakoaaDoorW.PrintMore Go.Proofs.YtcnhnpkbklakoaaDoor.PWordEncodes
attribute [local go_sem] max2_int min2_int max_two min_two max_three min_three max_four min_four
set_option linter.unusedVariables false
set_option linter.unusedSimpArgs false
open Go.Proofs.YtcnhnpkbklakoaaDoor.CodeValue (code_value.f code_value.calls)
/-- what a letter says -/
def valV (n : Nat) : Int := if 65 ≤ n ∧ n ≤ 90 then n - 65 else if 97 ≤ n ∧ n ≤ 122 then n - 71 else if 48 ≤ n ∧ n ≤ 57 then n + 4 else if n = 43 then 62 else if n = 47 then 63 else if n = 61 then 64 else 65
theorem val_all : ∀ n : Fin 256, code_value.f 10 ((n.val : Nat) : Int) = some (valV n.val) := by decide +kernel
theorem value_calls (c : UInt8) (w : World) : Calls Tryd.prog 98 #[.int .u8 (c.toNat : Int)] w fun e w' => e = .returned (.int .u8 (valV c.toNat)) ∧ Drawn0 w w' :=
  code_value.calls 10 _ _ w (val_all ⟨c.toNat, c.toNat_lt⟩)
structure St where
  (q0 q1 q2 q3 : Int) (n : Nat) (over : Bool)
def b0 (q0 q1 : Int) : Int := bits .or .u8 (q0 * 4 % 256) (q1 / 16)
def b1 (q1 q2 : Int) : Int := bits .or .u8 (q1 * 16 % 256) (q2 / 4)
def b2 (q2 q3 : Int) : Int := bits .or .u8 (q2 * 64 % 256) q3
def grp (q0 q1 q2 q3 : Int) : List Int := if q2 = 64 then [b0 q0 q1] else if q3 = 64 then [b0 q0 q1, b1 q1 q2] else [b0 q0 q1, b1 q1 q2, b2 q2 q3]
def put1 (s : St) (v : Int) : St := if s.n = 0 then { s with q0 := v, n := 1 } else if s.n = 1 then { s with q1 := v, n := 2 } else { s with q2 := v, n := 3 }
def takeV (s : St) (d : List Int) (c : Nat) : St × List Int × Int :=
  if nextV s.q1 s.q2 s.n s.over (valV c) ≠ 0 then (s, d, nextV s.q1 s.q2 s.n s.over (valV c))
  else if s.n < 3 then (put1 s (valV c), d, 0)
  else ({ s with q3 := valV c, n := 0, over := valV c == 64 }, d ++ grp s.q0 s.q1 s.q2 (valV c), 0)
def rdS (w : World) (R : Nat) (s : St) : Prop := rd8 w R s.q0 s.q1 s.q2 s.q3 s.n s.over
theorem val_range (c : UInt8) : 0 ≤ valV c.toNat ∧ valV c.toNat ≤ 65 := by
  unfold valV
  repeat' split
  all_goals omega
theorem reads_blk {W : World} {B : Nat} {cs : Array Value} {t : TypeId} (h : W.heap[B]? = some (.cells cs t (0, 0))) (l : List Int) (hc : ∀ (j : Nat) x, l[j]? = some x → cs[j]? = some (.int .u8 x)) (hl : l.length ≤ 100) : ReadsInt W .u8 (some ⟨B, 0, none⟩) l.length l :=
  Kd.reads_of_C (enc := Value.int .u8) (d := (0 : Int)) (h1 := fun _ => rfl) (C_of_atI rfl (fun j x hx => by rw [Nat.zero_add, blk_cell h]; exact hc j x hx) (by omega))
theorem new_at {W : World} {o : Obj} {k : Nat} (h : W.heap.size = k) : (W.alloc o).heap[k]? = some o := h ▸ heap_alloc_new W o
theorem rd_old {W : World} {R : Nat} {q0 q1 q2 q3 : Int} {n : Nat} {ov : Bool} (h : rd8 W R q0 q1 q2 q3 n ov) (o : Obj) : rd8 (W.alloc o) R q0 q1 q2 q3 n ov := (heap_alloc_old W o (Array.getElem?_eq_some_iff.1 h).1).trans h
theorem below_al {w W : World} {o : Obj} (h : Below w.heap.size w W) : Below w.heap.size w (W.alloc o) := h.alloc h.size o
theorem below_st {w W : World} {p : Addr} {u : Value} (hp : w.heap.size ≤ p.block) (h : Below w.heap.size w W) : Below w.heap.size w (W.setCell p u) := h.setCell hp u
theorem rd_set {w : World} {R : Nat} {q0 q1 q2 q3 : Int} {over : Bool} (v : Int) (ov : Bool) (h : w.heap[R]? = some (.cells #[.bool true, .int .u8 q0, .int .u8 q1, .int .u8 q2, .int .u8 q3, .int .i64 3, .bool over, .int .i64 0] 105 (0, 0))) :
    rd8 ((((w.setCell ⟨R, 4, none⟩ (.int .u8 v)).setCell ⟨R, 5, none⟩ (.int .i64 4)).setCell ⟨R, 5, none⟩ (.int .i64 0)).setCell ⟨R, 6, none⟩ (.bool ov)) R q0 q1 q2 v 0 ov :=
  blk_put (blk_put (blk_put (blk_put h 4 (.int .u8 v) rfl) 5 (.int .i64 4) rfl) 5 (.int .i64 0) rfl) 6 (.bool ov) rfl
set_option maxHeartbeats 4000000 in
set_option maxRecDepth 100000 in
theorem take_calls (w0 : World) (R : Nat) (s : St) (d : List Int) (V : Value) (c : UInt8) (w : World) (hR : rdS w R s) (hn : s.n ≤ 3) (h1 : 0 ≤ s.q1 ∧ s.q1 < 256) (h2 : 0 ≤ s.q2 ∧ s.q2 < 256)
    (hO : w.ownsRow w0.heap.size 5 1 V d.length (nums .u8 d)) (hne : ∀ k, V.ownBlock = some k → k ≠ R) (hB : Below w0.heap.size w0 w) (hR0 : w0.heap.size ≤ R) (hd : d.length ≤ 100000000000) :
    Calls Tryd.prog 77 #[.pointer (some ⟨R, 0, none⟩), V, .int .u8 (c.toNat : Int)] w fun e w' => ∃ V' s' d' er, takeV s d c.toNat = (s', d', er) ∧ e = .returned (.tuple #[V', .int .i64 er]) ∧ w'.ownsRow w0.heap.size 5 1 V' d'.length (nums .u8 d') ∧ (∀ k, V'.ownBlock = some k → k ≠ R) ∧ rdS w' R s' ∧ Below w0.heap.size w0 w' := by
  obtain ⟨q0, q1, q2, q3, n, over⟩ := s
  simp only [rdS] at *
  have hV0 := value_calls c w
  have hvr := val_range c
  obtain ⟨v, hv⟩ : ∃ v, valV c.toNat = v := ⟨_, rfl⟩
  rw [hv] at hV0 hvr
  have HV := Lib.hid hV0
  have HVV := Lib.hid hv
  clear hV0 hv
  have HO := Lib.hid hO
  have HB := Lib.hid hB
  have HR := Lib.hid hR
  have HN := Lib.hid (fun nd => next_calls R q0 q1 q2 q3 n over v (w.drewN nd) (blk_drewN hR nd) hn h1 h2)
  clear hO hB hR
  go_enter Tryd.func77, Tryd.ntmps77
  go_wp2_with fail
  refine HV.out.mono ?_
  rintro e w1 ⟨rfl, ⟨⟨n1, rfl⟩⟩⟩
  go_wp2_with fail
  refine (HN.out n1).mono ?_
  rintro e w2 ⟨rfl, ⟨⟨n2, rfl⟩⟩⟩
  have hRn : w.heap[R]? = some (.cells #[.bool true, .int .u8 q0, .int .u8 q1, .int .u8 q2, .int .u8 q3, .int .i64 n, .bool over, .int .i64 0] 105 (0, 0)) := HR.out
  have HRN := Lib.hid hRn
  clear hRn
  by_cases he : nextV q1 q2 n over v = 0
  · have he1 : (nextV q1 q2 n over v != 0) = false := bne_eq_false_iff_eq.2 he
    have hRn := HRN.out
    have x0 := blk_cell hRn 0
    have x1 := blk_cell hRn 1
    have x2 := blk_cell hRn 2
    have x3 := blk_cell hRn 3
    have x4 := blk_cell hRn 4
    have x5 := blk_cell hRn 5
    have x6 := blk_cell hRn 6
    have f1 := blk_frozen hRn 1
    have f2 := blk_frozen hRn 2
    have f3 := blk_frozen hRn 3
    have f4 := blk_frozen hRn 4
    have f5 := blk_frozen hRn 5
    have f6 := blk_frozen hRn 6
    simp only [List.getElem?_toArray, List.getElem?_cons_succ, List.getElem?_cons_zero] at x0 x1 x2 x3 x4 x5 x6
    clear hRn
    obtain rfl | rfl | rfl | rfl : n = 0 ∨ n = 1 ∨ n = 2 ∨ n = 3 := by omega
    · go_wp2
      go_region
      go_wp2
      go_ret2
      exact ⟨V, _, d, _, by unfold takeV put1; rw [HVV.out, if_neg (fun e => e he)]; rfl, rfl, own_setCell (own_setCell (show (w.drewN _).ownsRow w0.heap.size 5 1 V d.length (nums .u8 d) from HO.out) (p := ⟨R, 1, none⟩) (fun e => hne R e.symm rfl) _) (p := ⟨R, 5, none⟩) (fun e => hne R e.symm rfl) _, hne, blk_put (blk_put (blk_drewN HRN.out _) 1 (.int .u8 v) rfl) 5 (.int .i64 1) rfl, ((pw_below_drewN HB.out _).setCell (p := ⟨R, 1, none⟩) hR0 _).setCell (p := ⟨R, 5, none⟩) hR0 _⟩
    · go_wp2
      go_region
      go_wp2
      go_ret2
      exact ⟨V, _, d, _, by unfold takeV put1; rw [HVV.out, if_neg (fun e => e he)]; rfl, rfl, own_setCell (own_setCell (show (w.drewN _).ownsRow w0.heap.size 5 1 V d.length (nums .u8 d) from HO.out) (p := ⟨R, 2, none⟩) (fun e => hne R e.symm rfl) _) (p := ⟨R, 5, none⟩) (fun e => hne R e.symm rfl) _, hne, blk_put (blk_put (blk_drewN HRN.out _) 2 (.int .u8 v) rfl) 5 (.int .i64 2) rfl, ((pw_below_drewN HB.out _).setCell (p := ⟨R, 2, none⟩) hR0 _).setCell (p := ⟨R, 5, none⟩) hR0 _⟩
    · go_wp2
      go_region
      go_wp2
      go_ret2
      exact ⟨V, _, d, _, by unfold takeV put1; rw [HVV.out, if_neg (fun e => e he)]; rfl, rfl, own_setCell (own_setCell (show (w.drewN _).ownsRow w0.heap.size 5 1 V d.length (nums .u8 d) from HO.out) (p := ⟨R, 3, none⟩) (fun e => hne R e.symm rfl) _) (p := ⟨R, 5, none⟩) (fun e => hne R e.symm rfl) _, hne, blk_put (blk_put (blk_drewN HRN.out _) 3 (.int .u8 v) rfl) 5 (.int .i64 3) rfl, ((pw_below_drewN HB.out _).setCell (p := ⟨R, 3, none⟩) hR0 _).setCell (p := ⟨R, 5, none⟩) hR0 _⟩
    · by_cases h64 : q2 = 64
      · subst h64
        have hRl : R < w.heap.size := (Array.getElem?_eq_some_iff.1 HRN.out).1
        go_wp2
        go_region
        go_upto_region 24 with fail
        go_wp2_with (at_builtin; refine print_append_row (w0 := w0) w0.heap.size rfl (.tmp 90) (.tmp 92) 39 5 .u8 1 rfl Tryd.underlying39 info5 (by decide) V d [b0 q0 q1] (some ⟨w.heap.size + 1, 0, none⟩) 1 3 rfl rfl ?ho ?hr ?hb ?hbase ?hl ?_)
        case ho => exact (((own_setCell (own_setCell (own_setCell (own_setCell (show (w.drewN _).ownsRow w0.heap.size 5 1 V d.length (nums .u8 d) from HO.out) (p := ⟨R, 4, none⟩) (fun e => hne R e.symm rfl) _) (p := ⟨R, 5, none⟩) (fun e => hne R e.symm rfl) _) (p := ⟨R, 5, none⟩) (fun e => hne R e.symm rfl) _) (p := ⟨R, 6, none⟩) (fun e => hne R e.symm rfl) _).alloc _).alloc _)
        case hr => exact reads_blk (new_at (by simp)) [b0 q0 q1] (fun j x hx => by match j with | 0 => cases hx; rfl | j + 1 => simp at hx) (by simp)
        case hb => exact (below_al (below_al (below_st hR0 (below_st hR0 (below_st hR0 (below_st hR0 (pw_below_drewN HB.out _)))))))
        case hbase => exact (below_al (below_al (below_st hR0 (below_st hR0 (below_st hR0 (below_st hR0 (pw_below_drewN HB.out _))))))).size
        case hl => omega
        intro v7 w7 ho7 hb7 hg7 hat7
        go_wp2
        go_ret2
        refine ⟨v7, ⟨q0, q1, 64, v, 0, (v == 64)⟩, d ++ [b0 q0 q1], 0, ?_, rfl, (by rw [List.length_append]; exact ho7), ?_, (show rd8 w7 R q0 q1 64 v 0 (v == 64) from (hg7.block R ?_ ?_).trans (rd_old (rd_old (rd_set v (v == 64) (blk_drewN HRN.out _)) _) _)), hb7⟩
        · unfold takeV; rw [HVV.out, if_neg (fun e => e he), if_neg (Nat.lt_irrefl 3)]; simp only [grp, if_true]; done
        · intro k hk
          rcases hat7 with h | ⟨b, h, hb⟩
          · rw [h] at hk; exact hne k hk
          · rw [h] at hk; cases hk; omega
        · first | exact fun e => hne R e.symm rfl | (simp; omega) | omega
        · first | exact fun e => hne R e.symm rfl | (simp; omega) | omega
      · have g64 : (q2 == 64) = false := beq_eq_false_iff_ne.2 h64
        by_cases g3 : v = 64
        · subst g3
          have hRl : R < w.heap.size := (Array.getElem?_eq_some_iff.1 HRN.out).1
          go_wp2
          go_region
          go_upto_region 24 with fail
          go_wp2_with (at_builtin; refine print_append_row (w0 := w0) w0.heap.size rfl (.tmp 90) (.tmp 92) 39 5 .u8 1 rfl Tryd.underlying39 info5 (by decide) V d [b0 q0 q1, b1 q1 q2] (some ⟨w.heap.size + 1, 0, none⟩) 2 3 rfl rfl ?ho ?hr ?hb ?hbase ?hl ?_)
          case ho => exact (((own_setCell (own_setCell (own_setCell (own_setCell (show (w.drewN _).ownsRow w0.heap.size 5 1 V d.length (nums .u8 d) from HO.out) (p := ⟨R, 4, none⟩) (fun e => hne R e.symm rfl) _) (p := ⟨R, 5, none⟩) (fun e => hne R e.symm rfl) _) (p := ⟨R, 5, none⟩) (fun e => hne R e.symm rfl) _) (p := ⟨R, 6, none⟩) (fun e => hne R e.symm rfl) _).alloc _).alloc _)
          case hr => exact reads_blk (new_at (by simp)) [b0 q0 q1, b1 q1 q2] (fun j x hx => by match j with | 0 => cases hx; rfl | 1 => cases hx; rfl | j + 2 => simp at hx) (by simp)
          case hb => exact (below_al (below_al (below_st hR0 (below_st hR0 (below_st hR0 (below_st hR0 (pw_below_drewN HB.out _)))))))
          case hbase => exact (below_al (below_al (below_st hR0 (below_st hR0 (below_st hR0 (below_st hR0 (pw_below_drewN HB.out _))))))).size
          case hl => omega
          intro v7 w7 ho7 hb7 hg7 hat7
          go_wp2
          go_ret2
          refine ⟨v7, ⟨q0, q1, q2, 64, 0, true⟩, d ++ [b0 q0 q1, b1 q1 q2], 0, ?_, rfl, (by rw [List.length_append]; exact ho7), ?_, (show rd8 w7 R q0 q1 q2 64 0 true from (hg7.block R ?_ ?_).trans (rd_old (rd_old (rd_set 64 true (blk_drewN HRN.out _)) _) _)), hb7⟩
          · unfold takeV; rw [HVV.out, if_neg (fun e => e he), if_neg (Nat.lt_irrefl 3)]; simp only [grp, if_neg h64, if_true]; rfl
          · intro k hk
            rcases hat7 with h | ⟨b, h, hb⟩
            · rw [h] at hk; exact hne k hk
            · rw [h] at hk; cases hk; omega
          · first | exact fun e => hne R e.symm rfl | (simp; omega) | omega
          · first | exact fun e => hne R e.symm rfl | (simp; omega) | omega
        · have g65 : (v == 64) = false := beq_eq_false_iff_ne.2 g3
          have hRl : R < w.heap.size := (Array.getElem?_eq_some_iff.1 HRN.out).1
          go_wp2
          go_region
          go_upto_region 24 with fail
          go_wp2_with (at_builtin; refine print_append_row (w0 := w0) w0.heap.size rfl (.tmp 90) (.tmp 92) 39 5 .u8 1 rfl Tryd.underlying39 info5 (by decide) V d [b0 q0 q1, b1 q1 q2, b2 q2 v] (some ⟨w.heap.size + 1, 0, none⟩) 3 3 rfl rfl ?ho ?hr ?hb ?hbase ?hl ?_)
          case ho => exact (((own_setCell (own_setCell (own_setCell (own_setCell (show (w.drewN _).ownsRow w0.heap.size 5 1 V d.length (nums .u8 d) from HO.out) (p := ⟨R, 4, none⟩) (fun e => hne R e.symm rfl) _) (p := ⟨R, 5, none⟩) (fun e => hne R e.symm rfl) _) (p := ⟨R, 5, none⟩) (fun e => hne R e.symm rfl) _) (p := ⟨R, 6, none⟩) (fun e => hne R e.symm rfl) _).alloc _).alloc _)
          case hr => exact reads_blk (new_at (by simp)) [b0 q0 q1, b1 q1 q2, b2 q2 v] (fun j x hx => by match j with | 0 => cases hx; rfl | 1 => cases hx; rfl | 2 => cases hx; rfl | j + 3 => simp at hx) (by simp)
          case hb => exact (below_al (below_al (below_st hR0 (below_st hR0 (below_st hR0 (below_st hR0 (pw_below_drewN HB.out _)))))))
          case hbase => exact (below_al (below_al (below_st hR0 (below_st hR0 (below_st hR0 (below_st hR0 (pw_below_drewN HB.out _))))))).size
          case hl => omega
          intro v7 w7 ho7 hb7 hg7 hat7
          go_wp2
          go_ret2
          refine ⟨v7, ⟨q0, q1, q2, v, 0, false⟩, d ++ [b0 q0 q1, b1 q1 q2, b2 q2 v], 0, ?_, rfl, (by rw [List.length_append]; exact ho7), ?_, (show rd8 w7 R q0 q1 q2 v 0 false from (hg7.block R ?_ ?_).trans (rd_old (rd_old (rd_set v false (blk_drewN HRN.out _)) _) _)), hb7⟩
          · unfold takeV; rw [HVV.out, if_neg (fun e => e he), if_neg (Nat.lt_irrefl 3)]; simp only [grp, if_neg h64, if_neg g3]; rw [g65]
          · intro k hk
            rcases hat7 with h | ⟨b, h, hb⟩
            · rw [h] at hk; exact hne k hk
            · rw [h] at hk; cases hk; omega
          · first | exact fun e => hne R e.symm rfl | (simp; omega) | omega
          · first | exact fun e => hne R e.symm rfl | (simp; omega) | omega
  · have he1 : (nextV q1 q2 n over v != 0) = true := bne_iff_ne.2 he
    go_wp2
    go_ret2
    exact ⟨V, _, d, _, by unfold takeV; rw [HVV.out, if_pos he], rfl, HO.out, hne, (show rd8 (w.drewN _) R q0 q1 q2 q3 n over from blk_drewN HRN.out _), pw_below_drewN HB.out _⟩
end Go.Proofs.YtcnhnpkbklakoaaDoor.Code
/- code.Unbase64 by contract. -/
namespace Go.Proofs.YtcnhnpkbklakoaaDoor.Code
open Go.RowKit Go.Proofs.YtcnhnpkbklakoaaDoorW.PrintWords Go.Proofs.YtcnhnpkbklakoaaDoorW.PrintLast Go.Proofs.YtcnhnpkbklakoaaDoorW.PrintMore Go.Proofs.YtcnhnpkbklakoaaDoor.PWordEncodes
attribute [local go_sem] max2_int min2_int max_two min_two max_three min_three max_four min_four
set_option linter.unusedVariables false
set_option linter.unusedSimpArgs false
def unGo : List UInt8 → Nat → St → List Int → List Int × Int × Nat
  | [], i, s, d => if s.n > 0 then ([], 41, i) else (d, 0, 0)
  | c :: r, i, s, d => if (takeV s d c.toNat).2.2 ≠ 0 then ([], (takeV s d c.toNat).2.2, i) else unGo r (i + 1) (takeV s d c.toNat).1 (takeV s d c.toNat).2.1
theorem unGo_cons (c : UInt8) (r : List UInt8) (i : Nat) (s : St) (d : List Int) : unGo (c :: r) i s d = if (takeV s d c.toNat).2.2 ≠ 0 then ([], (takeV s d c.toNat).2.2, i) else unGo r (i + 1) (takeV s d c.toNat).1 (takeV s d c.toNat).2.1 := rfl
theorem unGo_nil (i : Nat) (s : St) (d : List Int) : unGo [] i s d = if s.n > 0 then ([], 41, i) else (d, 0, 0) := rfl
theorem own_low {w : World} {b b' e s n : Nat} {v : Value} {xs : List Value} (h : w.ownsRow b e s v n xs) (hb : b' ≤ b) : w.ownsRow b' e s v n xs := by
  obtain ⟨h1, h2⟩ := h
  refine ⟨h1, ?_⟩
  rcases h2 with h2 | ⟨g, cap, cur, rfl, hg, r⟩
  · exact .inl h2
  · exact .inr ⟨g, cap, cur, rfl, Nat.le_trans hb hg, r⟩
def st0 : St := ⟨0, 0, 0, 0, 0, false⟩
/-- what Unbase64 tells: the bytes, the error, its place -/
def unV (t : List UInt8) : List Int × Int × Nat := unGo t 0 st0 []
def Okay (s : St) : Prop := s.n ≤ 3 ∧ (0 ≤ s.q1 ∧ s.q1 < 256) ∧ (0 ≤ s.q2 ∧ s.q2 < 256)
theorem okay_take {s : St} (h : Okay s) (d : List Int) (c : UInt8) : Okay (takeV s d c.toNat).1 ∧ (takeV s d c.toNat).2.1.length ≤ d.length + 3 := by
  have hr := val_range c
  obtain ⟨h0, h1, h2⟩ := h
  unfold takeV
  split
  · exact ⟨⟨h0, h1, h2⟩, by simp⟩
  · split
    · refine ⟨?_, by simp⟩
      unfold put1
      split
      · exact ⟨by simp, h1, h2⟩
      · split
        · exact ⟨by simp, ⟨hr.1, by simp only; omega⟩, h2⟩
        · exact ⟨by simp, h1, ⟨hr.1, by simp only; omega⟩⟩
    · refine ⟨⟨by simp, h1, h2⟩, ?_⟩
      simp only [List.length_append]
      unfold grp
      split
      · simp
      · split <;> simp
theorem new_calls (w : World) : Calls Tryd.prog 76 #[] w fun e w' => e = .returned (.pointer (some ⟨w.heap.size, 0, none⟩)) ∧ w' = w.alloc (.cells #[.bool true, .int .u8 0, .int .u8 0, .int .u8 0, .int .u8 0, .int .i64 0, .bool false, .int .i64 0] 105) := by
  go_enter Tryd.func76, Tryd.ntmps76
  go_wp2
  go_ret
  exact ⟨rfl, rfl⟩
theorem getD_at (s : ByteArray) (i : Nat) (h : i < s.size) : s.data.toList.getD i 0 = s[i]'h := by
  rw [List.getD_eq_getElem?_getD, List.getElem?_eq_getElem (by rw [data_length]; exact h)]
  rfl
theorem drop_at (s : ByteArray) (i : Nat) (h : i < s.size) : s.data.toList.drop i = s[i]'h :: s.data.toList.drop (i + 1) := by
  rw [List.drop_eq_getElem_cons (by rw [data_length]; exact h), ← getD_at s i h, List.getD_eq_getElem?_getD, List.getElem?_eq_getElem (by rw [data_length]; exact h)]
  rfl
set_option maxHeartbeats 4000000 in
set_option maxRecDepth 100000 in
theorem unbase64_calls (t : ByteArray) (w : World) (ht : t.size ≤ 3000000000) :
    Calls Tryd.prog 50 #[.string t] w fun e w' => ∃ V d er at_, unV t.data.toList = (d, er, at_) ∧ e = .returned (.tuple #[V, .agg #[.int .i64 er, .int .i64 (at_ : Nat)]]) ∧ w'.ownsRow w.heap.size 5 1 V d.length (nums .u8 d) ∧ Below w.heap.size w w' := by
  obtain ⟨i0, hi, hz0, hz1, hz2⟩ := info_parts info5
  have hu88 := Tryd.underlying25
  have HN := Lib.hid (fun W => new_calls W)
  go_enter Tryd.func50, Tryd.ntmps50
  obtain ⟨W0, hW0⟩ : ∃ W0, W0 = w.alloc (.cells #[.int .i64 0, .int .i64 0] 25) := ⟨_, rfl⟩
  have hsz : W0.heap.size = w.heap.size + 1 := by rw [hW0]; simp
  have hbox : W0.heap[w.heap.size]? = some (.cells #[.int .i64 0, .int .i64 0] 25 (0, 0)) := by rw [hW0]; exact heap_alloc_new w _
  have hBw : Below w.heap.size w W0 := by rw [hW0]; exact (Below.refl _ _).alloc (Nat.le_refl _) _
  have HX := Lib.hid hbox
  have HBW := Lib.hid hBw
  have HW0 := Lib.hid hW0
  clear hbox hBw
  go_wp2_with (first | (go_at_call 76; refine (HN.out _).mono ?_; rintro e w1 ⟨rfl, rfl⟩) | (at_make; refine wpList_make_own _ rfl _ _ 39 rfl (w.heap.size + 1) 5 i0 _ 1 Tryd.underlying39 hi hz0 hz1 _ _ _ (t.size / 4 * 3) rfl rfl (by omega) ?b2 ?b3 (by simp) ?_))
  case b2 => rw [hz2]; omega
  case b3 => unfold maxLen; omega
  intro w1 hown1 hgrow1
  rw [← hW0] at hgrow1
  obtain ⟨R, hR⟩ : ∃ R, R = w.heap.size + 1 := ⟨_, rfl⟩
  have hrd1 : rdS w1 R st0 := by
    have h := (hgrow1.block R (by simp; omega) (by simp)).trans (new_at (by omega))
    exact h
  have hB1 : Below W0.heap.size W0 w1 := ((Below.refl W0.heap.size W0).alloc (Nat.le_refl _) _).grown hgrow1 (by simp) (fun k h => by cases h)
  have hne1 : ∀ j, (Value.slice (some { block := w.heap.size + 1 + 1, off := 0 }) 0 (t.size / 4 * 3)).ownBlock = some j → j ≠ R := fun j hj => by
    have e : w.heap.size + 1 + 1 = j := Option.some.inj hj
    omega
  clear hgrow1 hW0
  go_wp2
  rw [← hR] at hown1 hne1 ⊢
  have hsz2 : W0.heap.size = R := by omega
  replace hown1 : w1.ownsRow W0.heap.size 5 1 (Value.slice (some { block := R + 1, off := 0 }) 0 (t.size / 4 * 3)) 0 [] := by rw [hsz2]; exact hown1
  have hle : W0.heap.size ≤ R := by omega
  have hwR : w.heap.size < W0.heap.size := by omega
  have HRE := Lib.hid hR
  have HSZ := Lib.hid hsz2
  clear hR hsz2 hsz
  go_loopw [16, 5] (fun i o wr => ∃ (k : Nat) (s : St) (d : List Int) (V : Value), k ≤ t.size ∧ i = .int .i64 k ∧ V = o ∧ unV t.data.toList = unGo (t.data.toList.drop k) k s d ∧ rdS wr R s ∧ Okay s ∧ wr.ownsRow W0.heap.size 5 1 V d.length (nums .u8 d) ∧ (∀ j, V.ownBlock = some j → j ≠ R) ∧ Below W0.heap.size W0 wr ∧ d.length ≤ 3 * k) (fun i _ _ => t.size - (intOf i).toNat)
  case atStart => exact ⟨0, st0, [], _, by omega, rfl, rfl, rfl, hrd1, ⟨by decide, by decide, by decide⟩, hown1, hne1, hB1, Nat.le_refl _⟩
  case round =>
    obtain ⟨k, s, d, V, hk, rfl, rfl, hun, hrd, hok, hown, hne, hB, hd⟩ := hrel
    have HUN := Lib.hid hun
    have HRD := Lib.hid hrd
    have HOK := Lib.hid hok
    have HO := Lib.hid hown
    have HNE := Lib.hid hne
    have HB := Lib.hid hB
    clear hun hrd hok hown hne hB hown1 hrd1 hB1 hne1
    by_cases hlt : k < t.size
    · obtain ⟨c, hc⟩ : ∃ c : UInt8, t[k]'hlt = c := ⟨_, rfl⟩
      have hdrop := drop_at t k hlt
      rw [hc] at hdrop
      have HD := Lib.hid hdrop
      clear hdrop
      have hkR : (k : Int) < (t.size : Int) := by omega
      have HTK := Lib.hid (take_calls W0 R s d V c wr HRD.out HOK.out.1 HOK.out.2.1 HOK.out.2.2 HO.out HNE.out HB.out hle (by omega))
      go_wp2_with fail
      refine HTK.out.mono ?_
      rintro e w2 ⟨V', s', d', er, htv, rfl, hown2, hne2, hrd2, hB2⟩
      have HTV := Lib.hid htv
      have HO2 := Lib.hid hown2
      have HNE2 := Lib.hid hne2
      have HRD2 := Lib.hid hrd2
      have HB2 := Lib.hid hB2
      clear htv hown2 hne2 hrd2 hB2 HTK
      by_cases her : er = 0
      · subst her
        go_wp2
        go_roundw
        case rel =>
          refine ⟨k + 1, s', d', V', by omega, by go_num, rfl, ?_, HRD2.out, ?_, HO2.out, HNE2.out, HB2.out, ?_⟩
          · rw [HUN.out, HD.out]
            rw [unGo_cons, HTV.out, if_neg (by simp)]
          · have := (okay_take HOK.out d c).1
            rwa [HTV.out] at this
          · have := (okay_take HOK.out d c).2
            rw [HTV.out] at this
            simp only at this
            omega
        case measure => simp [intOf]; omega
      · have her1 : (er != 0) = true := bne_iff_ne.2 her
        have hb2 := (HB2.out.block _ hwR).trans HX.out
        have b0 := blk_cell hb2 0
        have b1 := blk_cell hb2 1
        have g0 := blk_frozen hb2 0
        have g1 := blk_frozen hb2 1
        have HX2 := Lib.hid hb2
        clear hb2
        go_wp2
        refine bodyPost_ret (results_list (rs := [.tmp 2, .cell 3 25]) rfl (by simp) (.tmp (.cell w.heap.size 25 #[.int .i64 er, .int .i64 k] (0, 0) _ rfl (blk_put (blk_put HX2.out 0 (.int .i64 er) rfl) 1 (.int .i64 k) rfl) Tryd.underlying25 rfl (by kernel_rfl) .nil))) rfl ?_
        have hbw := HBW.out.trans (HB2.out.mono (Nat.le_of_lt hwR))
        exact ⟨_, [], er, k, by rw [HUN.out, HD.out, unGo_cons, HTV.out]; exact if_pos her, rfl, ⟨rfl, .inl ⟨rfl, rfl⟩⟩, ((hbw.setCell (p := ⟨w.heap.size, 0, none⟩) (Nat.le_refl _) _).setCell (p := ⟨w.heap.size, 1, none⟩) (Nat.le_refl _) _)⟩
    · obtain rfl : k = t.size := by omega
      obtain ⟨q0, q1, q2, q3, n, ov⟩ := s
      have hx5 := blk_cell (show wr.heap[R]? = some (.cells #[.bool true, .int .u8 q0, .int .u8 q1, .int .u8 q2, .int .u8 q3, .int .i64 n, .bool ov, .int .i64 0] 105 (0, 0)) from HRD.out) 5
      simp only [List.getElem?_toArray, List.getElem?_cons_succ, List.getElem?_cons_zero] at hx5
      have hb2 := (HB.out.block _ hwR).trans HX.out
      have b0 := blk_cell hb2 0
      have b1 := blk_cell hb2 1
      have g0 := blk_frozen hb2 0
      have g1 := blk_frozen hb2 1
      have HX2 := Lib.hid hb2
      clear hb2
      by_cases hn0 : 0 < n
      · have hn1 : decide ((0 : Int) < (n : Int)) = true := decide_eq_true (by omega)
        go_wp2
        refine bodyPost_ret (results_list (rs := [.tmp 2, .cell 3 25]) rfl (by simp) (.tmp (.cell w.heap.size 25 #[.int .i64 41, .int .i64 t.size] (0, 0) _ rfl (blk_put (blk_put HX2.out 0 (.int .i64 41) rfl) 1 (.int .i64 t.size) rfl) Tryd.underlying25 rfl (by kernel_rfl) .nil))) rfl ?_
        have hbw := HBW.out.trans (HB.out.mono (Nat.le_of_lt hwR))
        exact ⟨_, [], 41, t.size, by rw [HUN.out, List.drop_eq_nil_of_le (by rw [data_length]; exact Nat.le_refl _), unGo_nil]; exact if_pos hn0, rfl, ⟨rfl, .inl ⟨rfl, rfl⟩⟩, ((hbw.setCell (p := ⟨w.heap.size, 0, none⟩) (Nat.le_refl _) _).setCell (p := ⟨w.heap.size, 1, none⟩) (Nat.le_refl _) _)⟩
      · have hn1 : decide ((0 : Int) < (n : Int)) = false := decide_eq_false (by omega)
        go_wp2
        refine bodyPost_ret (results_list (rs := [.tmp 2, .cell 3 25]) rfl (by simp) (.tmp (.cell w.heap.size 25 #[.int .i64 0, .int .i64 0] (0, 0) _ rfl (blk_put (blk_put HX2.out 0 (.int .i64 0) rfl) 1 (.int .i64 0) rfl) Tryd.underlying25 rfl (by kernel_rfl) .nil))) rfl ?_
        have hbw := HBW.out.trans (HB.out.mono (Nat.le_of_lt hwR))
        have hnb : some w.heap.size ≠ V.ownBlock := fun e => by have := own_base HO.out _ e.symm; omega
        exact ⟨_, d, 0, 0, by rw [HUN.out, List.drop_eq_nil_of_le (by rw [data_length]; exact Nat.le_refl _), unGo_nil]; exact if_neg hn0, rfl, own_setCell (own_setCell (own_low HO.out (Nat.le_of_lt hwR)) (p := ⟨w.heap.size, 0, none⟩) hnb _) (p := ⟨w.heap.size, 1, none⟩) hnb _, ((hbw.setCell (p := ⟨w.heap.size, 0, none⟩) (Nat.le_refl _) _).setCell (p := ⟨w.heap.size, 1, none⟩) (Nat.le_refl _) _)⟩
end Go.Proofs.YtcnhnpkbklakoaaDoor.Code
/- octet.Span from any place, and over bytes. -/
namespace Go.Proofs.YtcnhnpkbklakoaaDoor.Octet
open Go.RowKit Go.Proofs.YtcnhnpkbklakoaaDoorW.PrintWords Go.Proofs.YtcnhnpkbklakoaaDoorW.PrintLast Go.Proofs.YtcnhnpkbklakoaaDoorW.PrintMore
set_option linter.unusedVariables false
set_option linter.unusedSimpArgs false
set_option maxHeartbeats 2000000 in
set_option maxRecDepth 100000 in
theorem SpanFrom_calls (c : Int) (h5 : c ≠ 5) (h10 : c ≠ 10) (s : ByteArray) (i : Nat) (hi : i ≤ s.size) (hs : s.size ≤ 9223372036854775806) (w : World) (hT : Laid w) :
    Calls Tryd.prog 51 #[.int .i64 c, .string s, .int .i64 (i : Int)] w fun e w' => e = .returned (.int .i64 ((i + badAt c (s.data.toList.drop i) : Nat) : Int)) ∧ Below w.heap.size w w' := by
  have HT := Lib.hid hT
  have hlen : s.data.toList.length = s.size := data_length s
  have hi0 : decide ((i : Int) < 0) = false := decide_eq_false (by omega)
  clear hT
  go_enter Tryd.func51, Tryd.ntmps51
  go_wp2
  go_loopw [2] (fun v wr => ∃ k : Nat, i + k ≤ s.size ∧ v = .int .i64 ((i + k : Nat) : Int) ∧ Below w.heap.size w wr ∧ ∀ j b, j < k → (s.data.toList.drop i)[j]? = some b → isIn c b.toNat = true) (fun v _ => s.size - (intOf v).toNat)
  case atStart => exact ⟨0, by omega, rfl, Below.refl _ _, fun j b h => by omega⟩
  case round =>
    obtain ⟨k, hk, rfl, hB, hno⟩ := hrel
    have HN := Lib.hid hno
    have HB := Lib.hid hB
    clear hno hB
    by_cases hlt : i + k < s.size
    · obtain ⟨q, hq⟩ : ∃ q, q = i + k := ⟨_, rfl⟩
      rw [← hq]
      have hqs : q < s.size := by omega
      obtain ⟨x, hx⟩ : ∃ x : UInt8, s[q]'hqs = x := ⟨_, rfl⟩
      have hxl : (s.data.toList.drop i)[k]? = some x := by rw [List.getElem?_drop, ← hq, ← hx]; exact Lib.data_getElem? s q hqs
      have HX := Lib.hid hxl
      have HQ := Lib.hid hq
      have hx256 := x.toNat_lt
      have HC := Lib.hid (Is_calls c h5 h10 x.toNat (by omega) wr (HT.out.below HT.out.size HB.out))
      clear hxl hq
      cases hin : isIn c x.toNat
      · go_wp2_with (go_at_call 78; refine HC.out.mono ?_; rintro e w' ⟨rfl, hw⟩; rw [hin])
        go_ret
        refine ⟨?_, HB.out.trans (hw.mono HB.out.size)⟩
        rw [badAt_at HN.out HX.out hin, HQ.out]
        rfl
      · go_wp2_with (go_at_call 78; refine HC.out.mono ?_; rintro e w' ⟨rfl, hw⟩; rw [hin])
        go_roundw
        case rel =>
          refine ⟨k + 1, by omega, by rw [HQ.out]; go_num, HB.out.trans (hw.mono HB.out.size), fun j b hj hb => ?_⟩
          rcases Nat.lt_or_ge j k with h' | h'
          · exact HN.out j b h' hb
          · obtain rfl : j = k := by omega
            rw [HX.out] at hb
            cases hb
            exact hin
        case measure => simp [intOf]; omega
    · obtain ⟨q, hq⟩ : ∃ q, q = i + k := ⟨_, rfl⟩
      have hqs : q = s.size := by omega
      rw [← hq]
      have HQ := Lib.hid hq
      clear hq
      subst hqs
      go_wp2
      go_ret
      refine ⟨?_, HB.out⟩
      rw [badAt_all (fun j b hb => HN.out j b (by have := (List.getElem?_eq_some_iff.1 hb).1; rw [List.length_drop, hlen] at this; have := HQ.out; omega) hb), List.length_drop, hlen, show i + (s.size - i) = s.size by omega]
      rfl
theorem bytes_isIn {c : Int} {l : List UInt8} {j : Nat} {x : UInt8} (h : l[j]? = some x) : (l.map fun (b : UInt8) => (b.toNat : Int))[j]? = some (x.toNat : Int) := by
  rw [List.getElem?_map, h]
  rfl
set_option maxHeartbeats 2000000 in
set_option maxRecDepth 100000 in
/-- octet.Span over bytes, from their begin -/
theorem SpanB_calls (c : Int) (h5 : c ≠ 5) (h10 : c ≠ 10) (A : Option Addr) (cp n : Nat) (l : List UInt8) (hn : l.length = n) (w : World) (hr : Kd.C (Kd.int .u8) w A n (l.map fun (b : UInt8) => (b.toNat : Int))) (hc : n ≤ cp) (hs : n ≤ 9223372036854775806) (hT : Laid w) :
    Calls Tryd.prog 75 #[.int .i64 c, .slice A n cp, .int .i64 0] w fun e w' => e = .returned (.int .i64 (badAt c l)) ∧ Below w.heap.size w w' := by
  have HT := Lib.hid hT
  have HR := Lib.hid hr
  clear hT hr
  go_enter Tryd.func75, Tryd.ntmps75
  go_wp2
  go_loopw [2] (fun v wr => ∃ k : Nat, k ≤ n ∧ v = .int .i64 k ∧ Below w.heap.size w wr ∧ ∀ j b, j < k → l[j]? = some b → isIn c b.toNat = true) (fun v _ => n - (intOf v).toNat)
  case atStart => exact ⟨0, by omega, rfl, Below.refl _ _, fun j b h => by omega⟩
  case round =>
    obtain ⟨k, hk, rfl, hB, hno⟩ := hrel
    have HN := Lib.hid hno
    have HB := Lib.hid hB
    clear hno hB
    by_cases hlt : k < n
    · obtain ⟨x, hx⟩ : ∃ x, l[k]? = some x := ⟨_, List.getElem?_eq_getElem (by omega)⟩
      obtain ⟨B, off, rfl, hat⟩ := Code.atI_of_C HR.out (by omega)
      have y0 := hat k _ (bytes_isIn (c := c) hx)
      have x0 := (HB.out.cell (World.block_lt_of_cell? w _ y0)).trans y0
      have HX := Lib.hid hx
      have hx256 := x.toNat_lt
      have HC := Lib.hid (Is_calls c h5 h10 x.toNat (by omega) wr (HT.out.below HT.out.size HB.out))
      clear hx hat y0
      cases hin : isIn c x.toNat
      · go_wp2_with (go_at_call 78; refine HC.out.mono ?_; rintro e w' ⟨rfl, hw⟩; rw [hin])
        go_ret
        refine ⟨?_, HB.out.trans (hw.mono HB.out.size)⟩
        rw [badAt_at HN.out HX.out hin]
        rfl
      · go_wp2_with (go_at_call 78; refine HC.out.mono ?_; rintro e w' ⟨rfl, hw⟩; rw [hin])
        refine ⟨⟨k + 1, by omega, rfl, HB.out.trans (hw.mono HB.out.size), fun j b hj hb => ?_⟩, by simp [intOf]; omega⟩
        rcases Nat.lt_or_ge j k with h' | h'
        · exact HN.out j b h' hb
        · obtain rfl : j = k := by omega
          rw [HX.out] at hb
          cases hb
          exact hin
    · obtain rfl : k = n := by omega
      go_wp2
      go_ret
      refine ⟨?_, HB.out⟩
      rw [badAt_all (fun j b hb => HN.out j b (by have := (List.getElem?_eq_some_iff.1 hb).1; omega) hb), hn]
      rfl
set_option maxRecDepth 100000 in
theorem BadB_calls (c : Int) (h5 : c ≠ 5) (h10 : c ≠ 10) (A : Option Addr) (cp n : Nat) (l : List UInt8) (hn : l.length = n) (w : World) (hr : Kd.C (Kd.int .u8) w A n (l.map fun (b : UInt8) => (b.toNat : Int))) (hc : n ≤ cp) (hs : n ≤ 9223372036854775806) (hT : Laid w) :
    Calls Tryd.prog 49 #[.int .i64 c, .slice A n cp] w fun e w' => e = .returned (.int .i64 (badAt c l)) ∧ Below w.heap.size w w' := by
  have HC := Lib.hid (SpanB_calls c h5 h10 A cp n l hn w hr hc hs hT)
  clear hT hr
  go_enter Tryd.func49, Tryd.ntmps49
  go_wp2_with (go_at_call 75; refine HC.out.mono ?_; rintro e w1 ⟨rfl, hb⟩)
  go_ret
  exact ⟨rfl, hb⟩
end Go.Proofs.YtcnhnpkbklakoaaDoor.Octet
/- octet.HexOf by contract. (The steps of its region: printed by tools/hex.py.) -/
namespace Go.Proofs.YtcnhnpkbklakoaaDoor.Code
open Go.RowKit Go.Proofs.YtcnhnpkbklakoaaDoorW.PrintWords Go.Proofs.YtcnhnpkbklakoaaDoorW.PrintLast Go.Proofs.YtcnhnpkbklakoaaDoorW.PrintMore Go.Proofs.YtcnhnpkbklakoaaDoor.PWordEncodes
attribute [local go_sem] max2_int min2_int max_two min_two max_three min_three max_four min_four
set_option linter.unusedVariables false
set_option linter.unusedSimpArgs false
def H16 : ByteArray := ⟨#[48, 49, 50, 51, 52, 53, 54, 55, 56, 57, 65, 66, 67, 68, 69, 70]⟩
/-- a byte's two digits -/
def hex2 (a : Int) : List Int := [bt H16 (a / 16), bt H16 (a % 16)]
def hexV (l : List Int) : List Int := l.flatMap hex2
theorem hexV_more (l : List Int) (k : Nat) (a : Int) (h : l[k]? = some a) : hexV (l.take (k + 1)) = hexV (l.take k) ++ hex2 a := by
  unfold hexV
  rw [List.take_add_one, h, List.flatMap_append]
  simp
theorem hexV_len (l : List Int) : (hexV l).length = 2 * l.length := by
  unfold hexV
  induction l with
  | nil => rfl
  | cons a l ih =>
    rw [List.flatMap_cons, List.length_append, ih]
    simp only [hex2, List.length_cons, List.length_nil]
    omega
set_option maxHeartbeats 4000000 in
set_option maxRecDepth 100000 in
theorem hexof_calls (A : Option Addr) (c n : Nat) (l : List Int) (w : World) (hn : l.length = n) (hr : Kd.C (Kd.int .u8) w A n l) (hc : n ≤ c) (hl : n ≤ 100000000) (hb : ∀ x ∈ l, 0 ≤ x ∧ x < 256) :
    Calls Tryd.prog 84 #[.slice A n c] w fun e w' => e = .returned (.string (strOfNums (hexV l))) ∧ Below w.heap.size w w' := by
  obtain ⟨i0, hi, hz0, hz1, hz2⟩ := info_parts info5
  have HR := Lib.hid hr
  have HBY := Lib.hid hb
  clear hr hb
  go_enter Tryd.func84, Tryd.ntmps84
  go_wp2_with (at_make; refine wpList_make_own _ rfl _ _ 39 rfl w.heap.size 5 i0 _ 1 Tryd.underlying39 hi hz0 hz1 _ _ _ (2 * n) rfl rfl (by omega) ?b2 ?b3 (Nat.le_refl _) ?_)
  case b2 => rw [hz2]; omega
  case b3 => unfold maxLen; omega
  intro w0 hown0 hgrow0
  have hB0 : Below w.heap.size w w0 := (Below.refl w.heap.size w).grown hgrow0 (Nat.le_refl _) (fun k h => by cases h)
  go_wp2
  go_loopw [12, 3] (fun v o wr => ∃ (k : Nat) (d : List Int) (V : Value), k ≤ n ∧ v = .int .i64 k ∧ V = o ∧ hexV (l.take k) = d ∧ wr.ownsRow w.heap.size 5 1 V d.length (nums .u8 d) ∧ Below w.heap.size w wr) (fun v _ _ => n - (intOf v).toNat)
  case atStart => exact ⟨0, [], _, by omega, rfl, rfl, rfl, hown0, hB0⟩
  case round =>
    obtain ⟨k, d, V, hk, rfl, rfl, hd, hO, hB⟩ := hrel
    have HD := Lib.hid hd
    have HO := Lib.hid hO
    have HB := Lib.hid hB
    have hdl : d.length ≤ 2 * n := by rw [← hd, hexV_len, List.length_take]; omega
    clear hd hO hB hown0 hgrow0 hB0
    by_cases hlt : k < n
    · obtain ⟨a, ha⟩ : ∃ a, l[k]? = some a := ⟨_, List.getElem?_eq_getElem (by omega)⟩
      obtain ⟨B, off, rfl, hat⟩ := atI_of_C HR.out (by omega)
      have y0 := hat k a ha
      have x0 := (HB.out.cell (World.block_lt_of_cell? w _ y0)).trans y0
      obtain ⟨ha0, ha1⟩ := HBY.out a (List.mem_of_getElem? ha)
      have HA := Lib.hid ha
      clear ha y0 hat
      have e2 := u8_and15 a ha0 ha1
      have p0 : (0 ≤ a / 16) = True := eq_true (by omega)
      have q0 : (a / 16 < 16) = True := eq_true (by omega)
      have p1 : (0 ≤ a % 16) = True := eq_true (by omega)
      have q1 : (a % 16 < 16) = True := eq_true (by omega)
      have z0 := bt_at H16 (a / 16)
      have z1 := bt_at H16 (a % 16)
      unfold H16 at z0 z1
      clear ha0 ha1
      go_wp2
      refine start_ (n := 10) (S := fun w' => True) (ds := [7, 8]) #[false, false, false, false, false, false, false, false, false, false] (by kernel_rfl) rfl rfl trivial (fun hHeld => ?_)
      generalize hdr : wr.drew = w2 at hHeld ⊢
      have HO2 := Lib.hid (show w2.ownsRow w.heap.size 5 1 V d.length (nums .u8 d) from hdr ▸ HO.out)
      have HB2 := Lib.hid (show Below w.heap.size w w2 from hdr ▸ below_drew1 HB.out)
      have hsz2 := HB2.out.size
      refine pure_ (i := 0) (N := some 16) (v := ?_) (a' := ?_) #[true, false, false, false, false, false, false, false, false, false] rfl rfl (by kernel_rfl) (fun _ _ _ h => h) (Or.inl ⟨by rfl, ?_⟩) ?_ ?_
      rotate_left
      · intro w'
        go_simp
        with_reducible rfl
      rotate_left
      · simp only [Act.put, List.setIfInBounds_toArray, List.set_cons_zero, List.set_cons_succ, i64_w, i32_w]
        rfl
      refine pure_ (i := 1) (N := some 17) (v := ?_) (a' := ?_) #[true, true, false, false, false, false, false, false, false, false] rfl rfl (by kernel_rfl) (fun _ _ _ h => h) (Or.inl ⟨by rfl, ?_⟩) ?_ ?_
      rotate_left
      · intro w'
        go_simp
        with_reducible rfl
      rotate_left
      · simp only [Act.put, List.setIfInBounds_toArray, List.set_cons_zero, List.set_cons_succ, i64_w, i32_w]
        rfl
      refine pure_ (i := 2) (N := some 18) (v := ?_) (a' := ?_) #[true, true, true, false, false, false, false, false, false, false] rfl rfl (by kernel_rfl) (fun _ _ _ h => h) (Or.inl ⟨by rfl, ?_⟩) ?_ ?_
      rotate_left
      · intro w'
        go_simp
        with_reducible rfl
      rotate_left
      · simp only [Act.put, List.setIfInBounds_toArray, List.set_cons_zero, List.set_cons_succ, i64_w, i32_w]
        rfl
      refine pure_ (i := 4) (N := some 20) (v := ?_) (a' := ?_) #[true, true, true, false, true, false, false, false, false, false] rfl rfl (by kernel_rfl) (fun _ _ _ h => h) (Or.inl ⟨by rfl, ?_⟩) ?_ ?_
      rotate_left
      · intro w'
        go_simp
        with_reducible rfl
      rotate_left
      · simp only [Act.put, List.setIfInBounds_toArray, List.set_cons_zero, List.set_cons_succ, i64_w, i32_w]
        rfl
      refine pure_ (i := 5) (N := some 21) (v := ?_) (a' := ?_) #[true, true, true, false, true, true, false, false, false, false] rfl rfl (by kernel_rfl) (fun _ _ _ h => h) (Or.inl ⟨by rfl, ?_⟩) ?_ ?_
      rotate_left
      · intro w'
        go_simp
        with_reducible rfl
      rotate_left
      · simp only [Act.put, List.setIfInBounds_toArray, List.set_cons_zero, List.set_cons_succ, i64_w, i32_w]
        rfl
      refine take_ (i := 3) (N := some 19) (v := ?_) (a' := ?_) #[true, true, true, true, true, true, false, false, false, false] rfl rfl (by kernel_rfl) (fun _ _ _ h => h) (Or.inl ⟨by rfl, ?_⟩) hHeld ?_ ?_
      rotate_left
      · intro w' _
        go_simp
        with_reducible rfl
      rotate_left
      · simp only [Act.put, List.setIfInBounds_toArray, List.set_cons_zero, List.set_cons_succ, i64_w, i32_w]
        rfl
      refine take_ (i := 6) (N := some 22) (v := ?_) (a' := ?_) #[true, true, true, true, true, true, true, false, false, false] rfl rfl (by kernel_rfl) (fun _ _ _ h => h) (Or.inl ⟨by rfl, ?_⟩) hHeld ?_ ?_
      rotate_left
      · intro w' _
        go_simp
        with_reducible rfl
      rotate_left
      · simp only [Act.put, List.setIfInBounds_toArray, List.set_cons_zero, List.set_cons_succ, i64_w, i32_w]
        rfl
      refine last_ (i := 7) (N := some 23) #[true, true, true, true, true, true, true, true, false, false] rfl rfl (by kernel_rfl) (by decide) (fun K hK => ?_)
      refine value_ (w1 := ?_) (v := ?_) (by rfl) rfl ?_ ?_
      rotate_left 2
      · go_simp
        constructor
        · rfl
        · rfl
      refine hK.out _ _ ?_
      clear hK K
      refine norm_ (a' := ?_) ?_ ?_
      rotate_left
      · show Act.put _ (some 23) _ = _
        simp only [Act.put, List.setIfInBounds_toArray, List.set_cons_zero, List.set_cons_succ, i64_w, i32_w]
        rfl
      refine last_ (i := 8) (N := some 24) #[true, true, true, true, true, true, true, true, true, false] rfl rfl (by kernel_rfl) (by decide) (fun K hK => ?_)
      refine step_append_lies _ (by rfl) (.tmp 16) (.tmp 23) 39 (by rfl) w.heap.size 5 i0 _ 1 1 Tryd.underlying39 hi hz0 hz1 hz2 rfl (by decide) _ d.length (nums .u8 d) (by rfl) (HO2.out.alloc _) ⟨w2.heap.size, 0, none⟩ 2 2 (nums .u8 (hex2 a)) (by rfl) rfl (news_lit _ _ _) (nums_one _) (by decide) (by unfold maxLen; omega) (by omega) (by simp; omega) _ rfl ?_
      intro g cap w4 hown4 hgrow4 hat4 hlt4
      refine hK.out _ _ ?_
      clear hK K
      refine norm_ (a' := ?_) ?_ ?_
      rotate_left
      · show Act.put _ (some 24) _ = _
        simp only [Act.put, List.setIfInBounds_toArray, List.set_cons_zero, List.set_cons_succ, i64_w, i32_w]
        rfl
      refine pure_ (i := 9) (N := some 3) (v := ?_) (a' := ?_) #[true, true, true, true, true, true, true, true, true, true] rfl rfl (by kernel_rfl) (fun _ _ _ h => h) (Or.inl ⟨by rfl, ?_⟩) ?_ ?_
      rotate_left
      · intro w'
        go_simp
        with_reducible rfl
      rotate_left
      · simp only [Act.put, List.setIfInBounds_toArray, List.set_cons_zero, List.set_cons_succ, i64_w, i32_w]
        rfl
      refine done_ (by kernel_rfl) ?_
      have hB4 : Below w.heap.size w w4 := (HB2.out.alloc hsz2 _).grown hgrow4 (by have := hgrow4.size; simp at this; have := hsz2; simp; omega) (fun k hk => own_base HO2.out k hk)
      rw [← nums_append] at hown4
      have HO4 := Lib.hid hown4
      have HB4 := Lib.hid hB4
      clear hown4 hgrow4 hat4 hlt4 hB4 x0 z0 z1 p0 q0 p1 q1 e2 hHeld HO2 HB2
      go_wp2
      go_roundw
      case rel => exact ⟨k + 1, d ++ hex2 a, _, by omega, by go_num, rfl, by rw [hexV_more l k a HA.out, HD.out], by rw [List.length_append]; exact HO4.out, HB4.out⟩
      case measure => simp [intOf]; omega
    · obtain rfl : k = n := by omega
      obtain ⟨A9, c9, rfl, _, hC9⟩ := own_C rfl HO.out
      have q9 := str_of wr (c := c9) hC9
      have hfin : hexV l = d := by rw [← HD.out, List.take_of_length_le (by omega)]
      have HF := Lib.hid hfin
      clear hC9 hfin
      go_wp2
      go_ret
      exact ⟨by rw [HF.out]; rfl, HB.out⟩
end Go.Proofs.YtcnhnpkbklakoaaDoor.Code
/- word.row, word.blank, octet.Upper, octet.upper, octet.value by contract. (The first part began as printed by print.sh.) -/
namespace Go.Proofs.YtcnhnpkbklakoaaDoor.Pieces
open Go.RowKit Go.Proofs.YtcnhnpkbklakoaaDoorW.PrintWords Go.Proofs.YtcnhnpkbklakoaaDoorW.PrintLast Go.Proofs.YtcnhnpkbklakoaaDoorW.PrintMore Go.Proofs.YtcnhnpkbklakoaaDoor.PWordEncodes
attribute [local go_sem] max2_int min2_int max_two min_two max_three min_three max_four min_four
set_option linter.unusedVariables false
set_option linter.unusedSimpArgs false
/-! ### word_blank: function 44 -/
def word_blank.f (a0 : Int) : Option (Bool) := if a0 = 32 then (some true) else (some (a0 == 9))
set_option maxHeartbeats 8000000 in
set_option maxRecDepth 100000 in
theorem word_blank.calls (a0 : Int) (r : Bool) (w : World) (h : word_blank.f a0 = some r) :
    Calls Tryd.prog 44 #[.int .u8 a0] w fun e w' => e = .returned (.bool r) ∧ Drawn0 w w' := by
  have H : (if a0 = 32 then (some true) else (some (a0 == 9))) = some r := h
  clear h
  by_cases c2 : a0 = 32
  · rw [if_pos c2] at H
    have c2b0 : (a0 == 32) = true := beq_iff_eq.mpr c2
    have c2b1 : (a0 != 32) = false := bne_eq_false_iff_eq.mpr c2
    clear c2
    obtain rfl := Option.some.inj H
    go_enter Tryd.func44, Tryd.ntmps44
    go_wp2
    go_ret
    exact ⟨by first | rfl | (simp; done) | (simp [*]; done), by repeat (first | exact Drawn0.refl _ | apply Drawn0.step)⟩
  · rw [if_neg c2] at H
    have c2b0 : (a0 == 32) = false := beq_eq_false_iff_ne.mpr c2
    have c2b1 : (a0 != 32) = true := bne_iff_ne.mpr c2
    obtain rfl := Option.some.inj H
    go_enter Tryd.func44, Tryd.ntmps44
    go_wp2
    go_ret
    exact ⟨by first | rfl | (simp; done) | (simp [*]; done), by repeat (first | exact Drawn0.refl _ | apply Drawn0.step)⟩
/-! ### word_row: function 22 -/
def word_row.l0 : Nat → ByteArray → Int → Bool → Option (Int)
  | 0, _, _, _ => none
  | k + 1, x0, x1, x2 => if x1 < (x0.size : Int) then (if 0 ≤ x1 then ((word_blank.f (bt x0 x1)).bind fun t101 => (if (t101 == x2) = true then (word_row.l0 k x0 (wrap64 (x1 + 1)) x2) else (some x1))) else (none)) else (some x1)
def word_row.f (k : Nat) (a0 : ByteArray) (a1 : Int) (a2 : Bool) : Option (Int) := word_row.l0 k a0 a1 a2
theorem word_row.mono_l : ∀ k, (∀ y0 y1 y2, LeO (word_row.l0 k y0 y1 y2) (word_row.l0 (k + 1) y0 y1 y2))
  | 0 => fun _ _ _ r h => by simp [word_row.l0] at h
  | k + 1 => by
    have ih0 := word_row.mono_l k
    · intro y0 y1 y2
      unfold word_row.l0
      repeat' first
      | (with_reducible exact ih0 _ _ _)
      | (with_reducible exact LeO.refl _)
      | (with_reducible exact LeO.none _)
      | (with_reducible refine LeO.ite ?_ ?_)
      | (with_reducible refine LeO.bind ?_ (fun _ => ?_))
      | exact ih0 _ _ _
      | exact LeO.none _
      | refine LeO.ite ?_ ?_
      | refine LeO.bind ?_ (fun _ => ?_)
theorem word_row.mono : ∀ a0 a1 a2 k, LeO (word_row.f k a0 a1 a2) (word_row.f (k + 1) a0 a1 a2) := by
  intro a0 a1 a2 k
  have ih0 := word_row.mono_l k
  unfold word_row.f
  repeat' first
      | (with_reducible exact ih0 _ _ _)
      | (with_reducible exact LeO.refl _)
      | (with_reducible exact LeO.none _)
      | (with_reducible refine LeO.ite ?_ ?_)
      | (with_reducible refine LeO.bind ?_ (fun _ => ?_))
      | exact ih0 _ _ _
      | exact LeO.none _
      | refine LeO.ite ?_ ?_
      | refine LeO.bind ?_ (fun _ => ?_)
set_option maxHeartbeats 8000000 in
set_option maxRecDepth 100000 in
theorem word_row.calls (k : Nat) (a0 : ByteArray) (a1 : Int) (a2 : Bool) (r : Int) (w : World) (h : word_row.f k a0 a1 a2 = some r) :
    Calls Tryd.prog 22 #[.string a0, .int .i64 a1, .bool a2] w fun e w' => e = .returned (.int .i64 r) ∧ Drawn0 w w' := by
  have H : (word_row.l0 k a0 a1 a2) = some r := h
  clear h
  have H' := Aside0.mk H
  clear H
  go_enter Tryd.func22, Tryd.ntmps22
  go_wp2
  go_loopg [1] k (fun kq v1 w' => ∃ (x1_1 : Int), v1 = .int .i64 x1_1 ∧ Aside0 (word_row.l0 kq a0 x1_1 a2 = some r) ∧ Aside0 (kq ≤ k) ∧ Drawn0 w w')
  case atStart => exact ⟨(a1), (by first | rfl | (simp; done) | (simp [*]; done)), H', ⟨Nat.le_refl _⟩, by repeat (first | exact Drawn0.refl _ | apply Drawn0.step)⟩
  case round =>
    clear H'
    try clear c2
    try clear p2
    obtain ⟨x1_1, rfl, HA, HK1, ⟨m1, rfl⟩⟩ := hrel
    cases gk with
    | zero => exact absurd HA.out (by simp [word_row.l0])
    | succ k1 =>
      have H := HA.out
      clear HA
      simp only [word_row.l0] at H
      by_cases c4 : x1_1 < (a0.size : Int)
      · rw [if_pos c4] at H
        have c4b0 : decide (x1_1 < (a0.size : Int)) = true := decide_eq_true c4
        clear c4
        by_cases c5 : 0 ≤ x1_1
        · rw [if_pos c5] at H
          have c5b0 : decide (0 ≤ x1_1) = true := decide_eq_true c5
          clear c5
          replace H := Option.bind_eq_some_iff.mp H
          obtain ⟨t101, A70, H⟩ := H
          replace H : (if (t101 == a2) = true then (word_row.l0 k1 a0 (wrap64 (x1_1 + 1)) a2) else (some x1_1)) = some r := H
          have A7 := Aside0.mk A70
          clear A70
          by_cases c8 : (t101 == a2) = true
          · rw [if_pos c8] at H
            have c8b0 : (t101 == a2) = true := c8
            (try (have c8b1 : decide (t101 = a2) = true := by simpa using c8))
            (try (have c8b2 : (t101 == a2) = true := by simpa using c8))
            clear c8
            have H' := Aside0.mk H
            clear H
            have p6 : 0 ≤ (x1_1 : Int) := of_decide_eq_true (by first | (with_reducible assumption) | assumption)
            have q6 : x1_1 < (a0.size : Int) := of_decide_eq_true (by first | (with_reducible assumption) | assumption)
            have hx6 := bt_at a0 x1_1
            replace p6 := eq_true p6
            replace q6 := eq_true q6
            go_wp2_with (first | (go_at_call 44; (with_reducible refine (word_blank.calls (bt a0 x1_1) t101 _ A7.out).mono ?_); rintro e w' ⟨rfl, ⟨nd, rfl⟩⟩))
            go_roundg k1
            case measure => have := HK1.out; omega
            case rel => exact ⟨(wrap64 (x1_1 + 1)), (by first | rfl | (simp; done) | (simp [*]; done)), H', ⟨by have := HK1.out; omega⟩, by repeat (first | exact Drawn0.refl _ | apply Drawn0.step)⟩
          · rw [if_neg c8] at H
            have c8b0 : (t101 == a2) = false := by simpa using c8
            (try (have c8b1 : decide (t101 = a2) = false := by simpa using c8))
            (try (have c8b2 : (t101 == a2) = false := by simpa using c8))
            (try (have c8b3 : ¬ (t101 = a2) := by simpa using c8))
            clear c8
            obtain rfl := Option.some.inj H
            have p6 : 0 ≤ (x1_1 : Int) := of_decide_eq_true (by first | (with_reducible assumption) | assumption)
            have q6 : x1_1 < (a0.size : Int) := of_decide_eq_true (by first | (with_reducible assumption) | assumption)
            have hx6 := bt_at a0 x1_1
            replace p6 := eq_true p6
            replace q6 := eq_true q6
            go_wp2_with (first | (go_at_call 44; (with_reducible refine (word_blank.calls (bt a0 x1_1) t101 _ A7.out).mono ?_); rintro e w' ⟨rfl, ⟨nd, rfl⟩⟩))
            go_ret
            exact ⟨by first | rfl | (simp; done) | (simp [*]; done), by repeat (first | exact Drawn0.refl _ | apply Drawn0.step)⟩
        · rw [if_neg c5] at H
          exact absurd H (by simp)
      · rw [if_neg c4] at H
        have c4b0 : decide (x1_1 < (a0.size : Int)) = false := decide_eq_false c4
        clear c4
        obtain rfl := Option.some.inj H
        go_wp2
        go_ret
        exact ⟨by first | rfl | (simp; done) | (simp [*]; done), by repeat (first | exact Drawn0.refl _ | apply Drawn0.step)⟩
/-! ### octet_upper: function 74 -/
def octet_upper.f (a0 : Int) : Option (Int) := if 97 ≤ a0 then (if a0 ≤ 122 then (some ((((a0 - 97) % 256) + 65) % 256)) else (some a0)) else (some a0)
set_option maxHeartbeats 8000000 in
set_option maxRecDepth 100000 in
theorem octet_upper.calls (a0 : Int) (r : Int) (w : World) (h : octet_upper.f a0 = some r) :
    Calls Tryd.prog 74 #[.int .u8 a0] w fun e w' => e = .returned (.int .u8 r) ∧ Drawn0 w w' := by
  have H : (if 97 ≤ a0 then (if a0 ≤ 122 then (some ((((a0 - 97) % 256) + 65) % 256)) else (some a0)) else (some a0)) = some r := h
  clear h
  by_cases c2 : 97 ≤ a0
  · rw [if_pos c2] at H
    have c2b0 : decide (97 ≤ a0) = true := decide_eq_true c2
    clear c2
    by_cases c3 : a0 ≤ 122
    · rw [if_pos c3] at H
      have c3b0 : decide (a0 ≤ 122) = true := decide_eq_true c3
      clear c3
      obtain rfl := Option.some.inj H
      go_enter Tryd.func74, Tryd.ntmps74
      go_wp2
      go_ret
      exact ⟨by first | rfl | (simp; done) | (simp [*]; done), by repeat (first | exact Drawn0.refl _ | apply Drawn0.step)⟩
    · rw [if_neg c3] at H
      have c3b0 : decide (a0 ≤ 122) = false := decide_eq_false c3
      clear c3
      obtain rfl := Option.some.inj H
      go_enter Tryd.func74, Tryd.ntmps74
      go_wp2
      go_ret
      exact ⟨by first | rfl | (simp; done) | (simp [*]; done), by repeat (first | exact Drawn0.refl _ | apply Drawn0.step)⟩
  · rw [if_neg c2] at H
    have c2b0 : decide (97 ≤ a0) = false := decide_eq_false c2
    clear c2
    obtain rfl := Option.some.inj H
    go_enter Tryd.func74, Tryd.ntmps74
    go_wp2
    go_ret
    exact ⟨by first | rfl | (simp; done) | (simp [*]; done), by repeat (first | exact Drawn0.refl _ | apply Drawn0.step)⟩
/-! ### octet_Upper: function 47 -/
def octet_Upper.l0 : Nat → ByteArray → List Int → Int → Int → Option (ByteArray)
  | 0, _, _, _, _ => none
  | k + 1, x0, x3, x9, x10 => if x10 < x9 then (if 0 ≤ x10 then (if x10 < (x0.size : Int) then ((octet_upper.f (bt x0 x10)).bind fun t108 => (if x10 < (x3.length : Int) then (octet_Upper.l0 k x0 (x3.set (x10 : Int).toNat t108) x9 (wrap64 (x10 + 1))) else (none))) else (none)) else (none)) else (some (strOfNums x3))
def octet_Upper.f (k : Nat) (a0 : ByteArray) : Option (ByteArray) := if 0 ≤ (a0.size : Int) then (if ((a0.size : Int) : Int).toNat ≤ 281474976710656 then (octet_Upper.l0 k a0 (List.replicate ((a0.size : Int) : Int).toNat 0) (a0.size : Int) 0) else (none)) else (none)
theorem octet_Upper.mono_l : ∀ k, (∀ y0 y1 y2 y3, LeO (octet_Upper.l0 k y0 y1 y2 y3) (octet_Upper.l0 (k + 1) y0 y1 y2 y3))
  | 0 => fun _ _ _ _ r h => by simp [octet_Upper.l0] at h
  | k + 1 => by
    have ih0 := octet_Upper.mono_l k
    · intro y0 y1 y2 y3
      unfold octet_Upper.l0
      repeat' first
      | (with_reducible exact ih0 _ _ _ _)
      | (with_reducible exact LeO.refl _)
      | (with_reducible exact LeO.none _)
      | (with_reducible refine LeO.ite ?_ ?_)
      | (with_reducible refine LeO.bind ?_ (fun _ => ?_))
      | exact ih0 _ _ _ _
      | exact LeO.none _
      | refine LeO.ite ?_ ?_
      | refine LeO.bind ?_ (fun _ => ?_)
theorem octet_Upper.mono : ∀ a0 k, LeO (octet_Upper.f k a0) (octet_Upper.f (k + 1) a0) := by
  intro a0 k
  have ih0 := octet_Upper.mono_l k
  unfold octet_Upper.f
  repeat' first
      | (with_reducible exact ih0 _ _ _ _)
      | (with_reducible exact LeO.refl _)
      | (with_reducible exact LeO.none _)
      | (with_reducible refine LeO.ite ?_ ?_)
      | (with_reducible refine LeO.bind ?_ (fun _ => ?_))
      | exact ih0 _ _ _ _
      | exact LeO.none _
      | refine LeO.ite ?_ ?_
      | refine LeO.bind ?_ (fun _ => ?_)
set_option maxHeartbeats 8000000 in
set_option maxRecDepth 100000 in
theorem octet_Upper.calls (k : Nat) (a0 : ByteArray) (r : ByteArray) (w : World) (h : octet_Upper.f k a0 = some r) :
    Calls Tryd.prog 47 #[.string a0] w fun e w' => e = .returned (.string r) ∧ Below w.heap.size w w' := by
  have HB := Aside0.mk (Below.refl w.heap.size w)
  have H : (if 0 ≤ (a0.size : Int) then (if ((a0.size : Int) : Int).toNat ≤ 281474976710656 then (octet_Upper.l0 k a0 (List.replicate ((a0.size : Int) : Int).toNat 0) (a0.size : Int) 0) else (none)) else (none)) = some r := h
  clear h
  by_cases c2 : 0 ≤ (a0.size : Int)
  · rw [if_pos c2] at H
    have c2b0 := eq_true c2
    have c2b1 : decide (0 ≤ (a0.size : Int)) = true := decide_eq_true c2
    clear c2
    by_cases c3 : ((a0.size : Int) : Int).toNat ≤ 281474976710656
    · rw [if_pos c3] at H
      have c3b0 := eq_true c3
      have c3b1 : decide (((a0.size : Int) : Int).toNat ≤ 281474976710656) = true := decide_eq_true c3
      clear c3
      obtain ⟨y105, hy105⟩ : ∃ y_ : List Int, y_ = (List.replicate ((a0.size : Int) : Int).toNat 0) := ⟨_, rfl⟩
      replace H : (octet_Upper.l0 k a0 y105 (a0.size : Int) 0) = some r := by first | (rw [hy105]; with_reducible exact H) | (have H2_ := (Option.bind_some _ _).symm.trans H; rw [hy105]; with_reducible exact H2_) | (have H2_ := (Option.bind_some _ _).symm.trans H; with_reducible exact H2_) | with_reducible exact H | (rw [hy105]; exact H) | exact H
      have Ny105 := Aside0.mk hy105
      clear hy105
      have H' := Aside0.mk H
      clear H
      go_enter Tryd.func47, Tryd.ntmps47
      go_wp2_with (first | ((with_reducible refine gate_dst (N := 7) rfl ?_); refine Kd.R_make (Kd.int .u8) _ 5 rfl (N := 7) rfl 39 _ _ rfl (a0.size : Int) rfl rfl Tryd.underlying39 (.int .u8 0) 1 info5 rfl (by decide) (by omega) 0 (ok := fun _ => True) (okp := fun _ => True) rfl (fun _ hk => hk) trivial (of_decide_eq_true (by first | (with_reducible assumption) | assumption)) (Nat.le_trans (Nat.mul_le_mul_right _ (of_decide_eq_true (by first | (with_reducible assumption) | assumption) : (a0.size : Int).toNat ≤ 281474976710656)) (by omega)) (Below.refl _ _) (Nat.le_refl _) ?_; intro v106 w4 ho5 hb hg_ hnew_; clear hg_ hnew_; (first | rw [← Ny105.out] at ho5 | (simp only [Int.reduceToNat] at ho5; rw [← Ny105.out] at ho5)); have n0_ := Aside0.mk (Kd.R_lower ho5 (below_size (by repeat (first | (with_reducible first | exact HB.out | apply below_alloc | apply pw_below_drewN | apply below_drew1) | exact HB.out)))); have n1_ := Aside0.mk (below_step (by repeat (first | (with_reducible first | exact HB.out | apply below_alloc | apply pw_below_drewN | apply below_drew1) | exact HB.out)) hb); clear HB; have HO107 := n0_; have HB := n1_; clear n0_ n1_; clear hb ho5))
      go_loopg [10] k (fun kq v10 w' => ∃ (x3_1 : List Int) (x10_1 : Int), v10 = .int .i64 x10_1 ∧ Aside0 (octet_Upper.l0 kq a0 x3_1 (a0.size : Int) x10_1 = some r) ∧ Aside0 (kq ≤ k) ∧ Aside0 (Kd.R (Kd.int .u8) 5 w' w.heap.size (fun _ => True) v106 x3_1) ∧ Aside0 (Below w.heap.size w w'))
      case atStart => exact ⟨(y105), (0), (by first | rfl | (simp; done) | (simp [*]; done)), H', ⟨Nat.le_refl _⟩, ⟨by (with_reducible repeat (first | apply Kd.R_alloc | apply Kd.R_drewN | apply Kd.R_drew)); exact HO107.out⟩, ⟨by repeat (first | (with_reducible first | exact HB.out | apply below_alloc | apply pw_below_drewN | apply below_drew1) | exact HB.out)⟩⟩
      case round =>
        clear H'
        try clear c2
        try clear c2b0
        try clear c2b1
        try clear p2
        try clear c3
        try clear c3b0
        try clear c3b1
        try clear c4
        obtain ⟨x3_1, x10_1, rfl, HA, HK1, HO_3, HB⟩ := hrel
        cases gk with
        | zero => exact absurd HA.out (by simp [octet_Upper.l0])
        | succ k1 =>
          have H := HA.out
          clear HA
          simp only [octet_Upper.l0] at H
          by_cases c6 : x10_1 < (a0.size : Int)
          · rw [if_pos c6] at H
            have c6b0 : decide (x10_1 < (a0.size : Int)) = true := decide_eq_true c6
            clear c6
            by_cases c7 : 0 ≤ x10_1
            · rw [if_pos c7] at H
              have c7b0 : decide (0 ≤ x10_1) = true := decide_eq_true c7
              clear c7
              by_cases c8 : x10_1 < (a0.size : Int)
              · rw [if_pos c8] at H
                have c8b0 : decide (x10_1 < (a0.size : Int)) = true := decide_eq_true c8
                clear c8
                replace H := Option.bind_eq_some_iff.mp H
                obtain ⟨t108, A100, H⟩ := H
                replace H : (if x10_1 < (x3_1.length : Int) then (octet_Upper.l0 k1 a0 (x3_1.set (x10_1 : Int).toNat t108) (a0.size : Int) (wrap64 (x10_1 + 1))) else (none)) = some r := H
                have A10 := Aside0.mk A100
                clear A100
                by_cases c11 : x10_1 < (x3_1.length : Int)
                · rw [if_pos c11] at H
                  have c11b0 : decide (x10_1 < (x3_1.length : Int)) = true := decide_eq_true c11
                  clear c11
                  obtain ⟨y109, hy109⟩ : ∃ y_ : List Int, y_ = (x3_1.set (x10_1 : Int).toNat t108) := ⟨_, rfl⟩
                  replace H : (octet_Upper.l0 k1 a0 y109 (a0.size : Int) (wrap64 (x10_1 + 1))) = some r := by first | (rw [hy109]; with_reducible exact H) | (have H2_ := (Option.bind_some _ _).symm.trans H; rw [hy109]; with_reducible exact H2_) | (have H2_ := (Option.bind_some _ _).symm.trans H; with_reducible exact H2_) | with_reducible exact H | (rw [hy109]; exact H) | exact H
                  have Ny109 := Aside0.mk hy109
                  clear hy109
                  have H' := Aside0.mk H
                  clear H
                  have p9 : 0 ≤ (x10_1 : Int) := of_decide_eq_true (by first | (with_reducible assumption) | assumption)
                  have q9 : x10_1 < (a0.size : Int) := of_decide_eq_true (by first | (with_reducible assumption) | assumption)
                  have hx9 := bt_at a0 x10_1
                  replace p9 := eq_true p9
                  replace q9 := eq_true q9
                  go_wp2_with (first | ((with_reducible refine gate_callee (f := 74) rfl ?_); refine goesL_ (some 18) rfl rfl Tryd.func74 (by kernel_rfl) rfl #[.int .u8 (bt a0 x10_1)] rfl (by (try simp only [List.map_toArray, List.map_cons, List.map_nil]); first | done | rfl | (simp only [List.length_drop, List.length_take]; rfl)) ?_; (with_reducible refine (octet_upper.calls (bt a0 x10_1) t108 _ A10.out).mono ?_); rintro e w' ⟨rfl, ⟨nd, rfl⟩⟩; refine ⟨_, rfl, ?_⟩; (try (rw [drewN_self wr]; generalize hq_ : World.drewN wr _ = wr; have n0_ : Aside0 (Kd.R (Kd.int .u8) 5 wr w.heap.size (fun _ => True) v106 x3_1) := ⟨by rw [← hq_]; exact (by (with_reducible repeat (first | apply Kd.R_alloc | apply Kd.R_drewN | apply Kd.R_drew)); exact HO_3.out)⟩; have n1_ : Aside0 (Below w.heap.size w wr) := ⟨by rw [← hq_]; exact (by repeat (first | (with_reducible first | exact HB.out | apply below_alloc | apply pw_below_drewN | apply below_drew1) | exact HB.out))⟩; clear HO_3 HB hq_; have HO_3 := n0_; have HB := n1_; clear n0_ n1_)); have p12 : 0 ≤ (x10_1 : Int) := of_decide_eq_true (by first | (with_reducible assumption) | assumption); have q12 : (x10_1 : Int) < ((x3_1.length : Int) : Int) := of_decide_eq_true (by first | (with_reducible assumption) | assumption); obtain ⟨go12, co12, eo12, gb12, gl12, cl12, HG12⟩ := Kd.R_form HO_3.out (by omega); (first | cases eo12 | (injection eo12 with ea_ en_ ec_; (first | subst ea_ | (injection ea_ with ea_; subst ea_)); subst ec_; clear en_)); have GB12 := Aside0.mk gb12; have GG12 := Aside0.mk HG12; clear gb12 gl12 HG12; obtain ⟨hx12_0, hf12_0⟩ := Kd.R_celln 0 HO_3.out (x10_1 : Int) p12 q12; replace p12 := eq_true p12; replace q12 := eq_true q12; obtain ⟨hy13_, hz13_⟩ := Kd.R_celln 0 HO_3.out (x10_1 : Int) (of_decide_eq_true (by first | (with_reducible assumption) | assumption)) (of_decide_eq_true (by first | (with_reducible assumption) | assumption)); have HP13 := Kd.R_putg HO_3.out (x10_1 : Int) t108) | ((with_reducible refine gate_store (t := 5) (p := 19) rfl ?_); refine store_event (t := 5) (p := 19) (v := ?vo_w14) (w1 := (wr.setCell ⟨go12, (x10_1 : Int).toNat, none⟩ (.int .u8 t108))) ?hg ?ho ?hn ?hr ?_; (case ho => rfl); (case hg => rfl); (case hn => rfl); (case hr => first | (go_simp; done) | (go_simp; rfl)); intro w14 hw; have hg : wr.grownBy w14 (some go12) := (by rw [hw]; exact HP13.2); have hp_ : Kd.R (Kd.int .u8) 5 w14 w.heap.size (fun _ => True) (.slice (some ⟨go12, 0, none⟩) x3_1.length co12) y109 := (by rw [hw, Ny109.out]; exact HP13.1); clear HP13; have n0_ := Aside0.mk (hp_); have n1_ := Aside0.mk ((by rw [hw]; exact below_set (HB.out) GB12.out : Below w.heap.size w w14)); clear HO_3; clear HB; have HO_3 := n0_; have HB := n1_; clear n0_ n1_; clear hg hw hp_))
                  go_roundg k1
                  case measure => have := HK1.out; omega
                  case rel => exact ⟨(y109), (wrap64 (x10_1 + 1)), (by first | rfl | (simp; done) | (simp [*]; done)), H', ⟨by have := HK1.out; omega⟩, ⟨by (with_reducible repeat (first | apply Kd.R_alloc | apply Kd.R_drewN | apply Kd.R_drew)); exact HO_3.out⟩, ⟨by repeat (first | (with_reducible first | exact HB.out | apply below_alloc | apply pw_below_drewN | apply below_drew1) | exact HB.out)⟩⟩
                · rw [if_neg c11] at H
                  exact absurd H (by simp)
              · rw [if_neg c8] at H
                exact absurd H (by simp)
            · rw [if_neg c7] at H
              exact absurd H (by simp)
          · rw [if_neg c6] at H
            have c6b0 : decide (x10_1 < (a0.size : Int)) = false := decide_eq_false c6
            clear c6
            obtain rfl := Option.some.inj H
            have hcv15 := own_string (P := Tryd.prog) Tryd.underlying39 Tryd.underlying5 Tryd.underlying9 (Kd.own_of_R HO_3.out)
            go_wp2
            go_ret
            exact ⟨by first | rfl | (simp [errW_none, errW_some] <;> rfl) | (simp [*, errW_none, errW_some] <;> rfl), by repeat (first | (with_reducible first | exact HB.out | apply below_alloc | apply pw_below_drewN | apply below_drew1) | exact HB.out)⟩
    · rw [if_neg c3] at H
      exact absurd H (by simp)
  · rw [if_neg c2] at H
    exact absurd H (by simp)
/-! ### octet_value: function 79 -/
def octet_value.f (a0 : Int) : Option (Int) := (octet_upper.f a0).bind fun t123 => (if t123 ≥ 65 then (some ((((t123 - 65) % 256) + 10) % 256)) else (some ((t123 - 48) % 256)))
set_option maxHeartbeats 8000000 in
set_option maxRecDepth 100000 in
theorem octet_value.calls (a0 : Int) (r : Int) (w : World) (h : octet_value.f a0 = some r) :
    Calls Tryd.prog 79 #[.int .u8 a0] w fun e w' => e = .returned (.int .u8 r) ∧ Drawn0 w w' := by
  have H : ((octet_upper.f a0).bind fun t123 => (if t123 ≥ 65 then (some ((((t123 - 65) % 256) + 10) % 256)) else (some ((t123 - 48) % 256)))) = some r := h
  clear h
  replace H := Option.bind_eq_some_iff.mp H
  obtain ⟨t123, A20, H⟩ := H
  replace H : (if t123 ≥ 65 then (some ((((t123 - 65) % 256) + 10) % 256)) else (some ((t123 - 48) % 256))) = some r := H
  have A2 := Aside0.mk A20
  clear A20
  by_cases c3 : t123 ≥ 65
  · rw [if_pos c3] at H
    have c3b0 : decide (65 ≤ t123) = true := decide_eq_true c3
    clear c3
    obtain rfl := Option.some.inj H
    go_enter Tryd.func79, Tryd.ntmps79
    go_wp2_with (first | ((with_reducible refine gate_callee (f := 74) rfl ?_); refine goesL_ (some 4) rfl rfl Tryd.func74 (by kernel_rfl) rfl #[.int .u8 a0] rfl (by (try simp only [List.map_toArray, List.map_cons, List.map_nil]); first | done | rfl | (simp only [List.length_drop, List.length_take]; rfl)) ?_; (with_reducible refine (octet_upper.calls a0 t123 _ A2.out).mono ?_); rintro e w' ⟨rfl, ⟨nd, rfl⟩⟩; refine ⟨_, rfl, ?_⟩))
    go_ret
    exact ⟨by first | rfl | (simp; done) | (simp [*]; done), by repeat (first | exact Drawn0.refl _ | apply Drawn0.step)⟩
  · rw [if_neg c3] at H
    have c3b0 : decide (65 ≤ t123) = false := decide_eq_false c3
    clear c3
    obtain rfl := Option.some.inj H
    go_enter Tryd.func79, Tryd.ntmps79
    go_wp2_with (first | ((with_reducible refine gate_callee (f := 74) rfl ?_); refine goesL_ (some 4) rfl rfl Tryd.func74 (by kernel_rfl) rfl #[.int .u8 a0] rfl (by (try simp only [List.map_toArray, List.map_cons, List.map_nil]); first | done | rfl | (simp only [List.length_drop, List.length_take]; rfl)) ?_; (with_reducible refine (octet_upper.calls a0 t123 _ A2.out).mono ?_); rintro e w' ⟨rfl, ⟨nd, rfl⟩⟩; refine ⟨_, rfl, ?_⟩))
    go_ret
    exact ⟨by first | rfl | (simp; done) | (simp [*]; done), by repeat (first | exact Drawn0.refl _ | apply Drawn0.step)⟩
/-! ### in plain words -/
def blankB (x : UInt8) : Bool := x == 32 || x == 9
def rowV (s : ByteArray) (i : Nat) (b : Bool) : Nat := i + ((s.data.toList.drop i).takeWhile fun x => blankB x == b).length
theorem bt_byte (s : ByteArray) (i : Nat) (h : i < s.size) : bt s (i : Int) = ((s[i]'h).toNat : Int) := by
  unfold bt
  rw [dif_pos (by simpa using h)]
  rfl
theorem blank_f (x : UInt8) : word_blank.f (x.toNat : Int) = some (blankB x) := by
  unfold word_blank.f blankB
  have e32 : ((x.toNat : Int) = 32) ↔ x = 32 := by
    constructor
    · intro h; apply UInt8.toNat_inj.1; rw [show (32 : UInt8).toNat = 32 from rfl]; omega
    · rintro rfl; rfl
  have e9 : ((x.toNat : Int) = 9) ↔ x = 9 := by
    constructor
    · intro h; apply UInt8.toNat_inj.1; rw [show (9 : UInt8).toNat = 9 from rfl]; omega
    · rintro rfl; rfl
  by_cases h : x = 32
  · rw [if_pos (e32.2 h)]; simp [h]
  · rw [if_neg (fun e => h (e32.1 e))]
    have hb : (x == 32) = false := by simpa using h
    rw [hb, Bool.false_or]
    congr 1
    rw [Bool.eq_iff_iff]
    simp only [beq_iff_eq]
    exact e9
theorem row_l0 (s : ByteArray) (b : Bool) (hs : s.size ≤ 9223372036854775806) : ∀ (d i : Nat), i ≤ s.size → s.size - i ≤ d → word_row.l0 (d + 1) s (i : Int) b = some (rowV s i b : Int)
  | d, i, hi, hd => by
    unfold word_row.l0
    by_cases h : i < s.size
    · rw [if_pos (by omega), if_pos (by omega), bt_byte s i h, blank_f]
      simp only [Option.bind_some]
      unfold rowV
      rw [Code.drop_at s i h, List.takeWhile_cons]
      by_cases hb : (blankB s[i] == b) = true
      · rw [if_pos hb]
        cases d with
        | zero => omega
        | succ d =>
          rw [show wrap64 ((i : Int) + 1) = ((i + 1 : Nat) : Int) by unfold wrap64; omega, row_l0 s b hs d (i + 1) (by omega) (by omega)]
          unfold rowV
          simp only [if_pos hb, List.length_cons]
          congr 2
          omega
      · rw [if_neg hb]
        simp only [if_neg hb, List.length_nil, Nat.add_zero]
    · rw [if_neg (by omega)]
      unfold rowV
      rw [List.drop_eq_nil_of_le (by rw [data_length]; omega)]
      simp
theorem row_calls (s : ByteArray) (i : Nat) (b : Bool) (w : World) (hi : i ≤ s.size) (hs : s.size ≤ 9223372036854775806) :
    Calls Tryd.prog 22 #[.string s, .int .i64 (i : Int), .bool b] w fun e w' => e = .returned (.int .i64 (rowV s i b : Nat)) ∧ Drawn0 w w' :=
  word_row.calls (s.size + 1) s i b _ w (row_l0 s b hs s.size i hi (by omega))
theorem rowV_le (s : ByteArray) (i : Nat) (b : Bool) (h : i ≤ s.size) : i ≤ rowV s i b ∧ rowV s i b ≤ s.size := by
  unfold rowV
  have h1 := (List.takeWhile_sublist (fun x => blankB x == b) (l := s.data.toList.drop i)).length_le
  rw [List.length_drop, data_length] at h1
  omega
/-- a byte as a capital -/
def upB (x : UInt8) : UInt8 := if 97 ≤ x.toNat ∧ x.toNat ≤ 122 then UInt8.ofNat (x.toNat - 32) else x
theorem upper_f (x : UInt8) : octet_upper.f (x.toNat : Int) = some ((upB x).toNat : Int) := by
  unfold octet_upper.f upB
  have := x.toNat_lt
  by_cases h1 : 97 ≤ x.toNat
  · by_cases h2 : x.toNat ≤ 122
    · rw [if_pos (by omega), if_pos (by omega), if_pos ⟨h1, h2⟩, UInt8.toNat_ofNat']
      congr 1
      omega
    · rw [if_pos (by omega), if_neg (by omega), if_neg (by omega)]
  · rw [if_neg (by omega), if_neg (by omega)]
def upV (s : ByteArray) : ByteArray := ⟨(s.data.toList.map upB).toArray⟩
theorem upper_l0 (s : ByteArray) (hs : s.size ≤ 9223372036854775806) : ∀ (d i : Nat), i ≤ s.size → s.size - i ≤ d →
    octet_Upper.l0 (d + 1) s (((s.data.toList.take i).map fun x => ((upB x).toNat : Int)) ++ List.replicate (s.size - i) 0) (s.size : Int) (i : Int) = some (upV s)
  | d, i, hi, hd => by
    unfold octet_Upper.l0
    by_cases h : i < s.size
    · rw [if_pos (by omega), if_pos (by omega), if_pos (by omega), bt_byte s i h, upper_f]
      simp only [Option.bind_some]
      have hl : (((s.data.toList.take i).map fun x => ((upB x).toNat : Int))).length = i := by
        rw [List.length_map, List.length_take, data_length]
        omega
      rw [if_pos (by rw [List.length_append, hl, List.length_replicate]; omega)]
      cases d with
      | zero => omega
      | succ d =>
        rw [show wrap64 ((i : Int) + 1) = ((i + 1 : Nat) : Int) by unfold wrap64; omega]
        rw [← upper_l0 s hs d (i + 1) (by omega) (by omega)]
        congr 1
        rw [Int.toNat_natCast, List.set_append_right _ _ (by omega), hl, Nat.sub_self]
        rw [show s.size - i = (s.size - (i + 1)) + 1 by omega, List.replicate_succ, List.set_cons_zero]
        rw [List.take_add_one, show s.data.toList[i]? = some (s[i]'h) from Lib.data_getElem? s i h]
        simp
    · obtain rfl : i = s.size := by omega
      rw [if_neg (by omega), List.take_of_length_le (by rw [data_length]; exact Nat.le_refl _)]
      congr 1
      apply ByteArray.ext
      apply Array.ext'
      simp [strOfNums, upV]
theorem Upper_calls (s : ByteArray) (w : World) (hs : s.size ≤ 3000000000) :
    Calls Tryd.prog 47 #[.string s] w fun e w' => e = .returned (.string (upV s)) ∧ Below w.heap.size w w' := by
  refine octet_Upper.calls (s.size + 1) s (upV s) w ?_
  unfold octet_Upper.f
  rw [if_pos (by omega), if_pos (by omega)]
  have := upper_l0 s (by omega) s.size 0 (by omega) (by omega)
  simpa using this
end Go.Proofs.YtcnhnpkbklakoaaDoor.Pieces
/- octet.Unhex of two digits by contract. -/
namespace Go.Proofs.YtcnhnpkbklakoaaDoor.Unhex
open Go.RowKit Go.Proofs.YtcnhnpkbklakoaaDoorW.PrintWords Go.Proofs.YtcnhnpkbklakoaaDoorW.PrintLast Go.Proofs.YtcnhnpkbklakoaaDoorW.PrintMore Go.Proofs.YtcnhnpkbklakoaaDoor.PWordEncodes
open Go.Proofs.YtcnhnpkbklakoaaDoor.Code Go.Proofs.YtcnhnpkbklakoaaDoor.Pieces
attribute [local go_sem] max2_int min2_int max_two min_two max_three min_three max_four min_four
set_option linter.unusedVariables false
set_option linter.unusedSimpArgs false
theorem isIn4_all : ∀ n : Fin 256, Octet.isIn 4 n.val = decide ((48 ≤ n.val ∧ n.val ≤ 57) ∨ (65 ≤ n.val ∧ n.val ≤ 70) ∨ (97 ≤ n.val ∧ n.val ≤ 102)) := by decide +kernel
theorem isIn4 (x : UInt8) : Octet.isIn 4 x.toNat = decide ((48 ≤ x.toNat ∧ x.toNat ≤ 57) ∨ (65 ≤ x.toNat ∧ x.toNat ≤ 70) ∨ (97 ≤ x.toNat ∧ x.toNat ≤ 102)) := isIn4_all ⟨x.toNat, x.toNat_lt⟩
/-- what a digit says -/
def hexD (x : UInt8) : Int := if x.toNat ≤ 57 then x.toNat - 48 else if x.toNat ≤ 70 then x.toNat - 55 else x.toNat - 87
theorem hexD_range (x : UInt8) (h : Octet.isIn 4 x.toNat = true) : 0 ≤ hexD x ∧ hexD x ≤ 15 := by
  rw [isIn4, decide_eq_true_eq] at h
  unfold hexD
  split
  · omega
  · split <;> omega
theorem ret_u8 {a b : Int} (h : a = b) : Ending.returned (.int .u8 a) = .returned (.int .u8 b) := by rw [h]
set_option maxHeartbeats 2000000 in
theorem upper_same (n : Nat) (hn : n < 256) (w : World) : Calls Tryd.prog 74 #[.int .u8 (n : Int)] w fun e w' => e = .returned (.int .u8 (if 97 ≤ n ∧ n ≤ 122 then (n : Int) - 32 else n)) ∧ w' = w := by
  by_cases h1 : 97 ≤ n
  · by_cases h2 : n ≤ 122
    · rw [if_pos ⟨h1, h2⟩]
      have q1 : decide ((97 : Int) ≤ (n : Int)) = true := decide_eq_true (by omega)
      have q2 : decide ((n : Int) ≤ 122) = true := decide_eq_true (by omega)
      go_enter Tryd.func74, Tryd.ntmps74
      go_wp2
      go_ret
      exact ⟨ret_u8 (by omega), rfl⟩
    · rw [if_neg (fun h => h2 h.2)]
      have q1 : decide ((97 : Int) ≤ (n : Int)) = true := decide_eq_true (by omega)
      have q2 : decide ((n : Int) ≤ 122) = false := decide_eq_false (by omega)
      go_enter Tryd.func74, Tryd.ntmps74
      go_wp2
      go_ret
      exact ⟨rfl, rfl⟩
  · rw [if_neg (fun h => h1 h.1)]
    have q1 : decide ((97 : Int) ≤ (n : Int)) = false := decide_eq_false (by omega)
    go_enter Tryd.func74, Tryd.ntmps74
    go_wp2
    go_ret
    exact ⟨rfl, rfl⟩
set_option maxHeartbeats 2000000 in
theorem value_same (x : UInt8) (h : Octet.isIn 4 x.toNat = true) (w : World) : Calls Tryd.prog 79 #[.int .u8 (x.toNat : Int)] w fun e w' => e = .returned (.int .u8 (hexD x)) ∧ w' = w := by
  rw [isIn4, decide_eq_true_eq] at h
  have hx := x.toNat_lt
  have HU := Lib.hid (fun w => upper_same x.toNat hx w)
  obtain ⟨v, hv⟩ : ∃ v, v = hexD x := ⟨_, rfl⟩
  rw [← hv]
  unfold hexD at hv
  generalize x.toNat = n at h hx HU hv ⊢
  obtain ⟨u, hu⟩ : ∃ u : Nat, (if 97 ≤ n ∧ n ≤ 122 then (n : Int) - 32 else n) = (u : Int) := by
    split
    · exact ⟨n - 32, by omega⟩
    · exact ⟨n, rfl⟩
  rw [hu] at HU
  have hc : (65 ≤ u ∧ u ≤ 70 ∧ v = (u : Int) - 55) ∨ (48 ≤ u ∧ u ≤ 57 ∧ v = (u : Int) - 48) := by
    rcases h with h | h | h
    · right
      rw [if_neg (by omega)] at hu
      rw [if_pos (by omega)] at hv
      omega
    · left
      rw [if_neg (by omega)] at hu
      rw [if_neg (by omega), if_pos (by omega)] at hv
      omega
    · left
      rw [if_pos (by omega)] at hu
      rw [if_neg (by omega), if_neg (by omega)] at hv
      omega
  clear hu hv h
  rcases hc with ⟨h1, h2, rfl⟩ | ⟨h1, h2, rfl⟩
  · have q1 : decide ((65 : Int) ≤ (u : Int)) = true := decide_eq_true (by omega)
    go_enter Tryd.func79, Tryd.ntmps79
    go_wp2_with fail
    refine (HU.out _).mono ?_
    rintro e w' ⟨rfl, rfl⟩
    go_wp2
    go_ret
    exact ⟨ret_u8 (by omega), rfl⟩
  · have q1 : decide ((65 : Int) ≤ (u : Int)) = false := decide_eq_false (by omega)
    go_enter Tryd.func79, Tryd.ntmps79
    go_wp2_with fail
    refine (HU.out _).mono ?_
    rintro e w' ⟨rfl, rfl⟩
    go_wp2
    go_ret
    exact ⟨rfl, rfl⟩
theorem wrap_u8 (x : Int) (h0 : 0 ≤ x) (h1 : x < 256) : IntKind.u8.wrap x = x := by
  have : IntKind.u8.wrap x = x % 256 := rfl
  rw [this]
  omega
def two2 (a b : UInt8) : ByteArray := ⟨#[a, b]⟩
theorem badAt_two (a b : UInt8) (ha : Octet.isIn 4 a.toNat = true) (hb : Octet.isIn 4 b.toNat = true) : Octet.badAt 4 (two2 a b).data.toList = 2 := by
  show Octet.badAt 4 [a, b] = 2
  exact Octet.badAt_all (s := [a, b]) (fun j x h => by
    match j, h with
    | 0, h => cases h; exact ha
    | 1, h => cases h; exact hb)
set_option maxHeartbeats 4000000 in
set_option maxRecDepth 100000 in
theorem unhex_calls (a b : UInt8) (ha : Octet.isIn 4 a.toNat = true) (hb : Octet.isIn 4 b.toNat = true) (w : World) (hT : Octet.Laid w) :
    Calls Tryd.prog 52 #[.string (two2 a b)] w fun e w' => ∃ V, e = .returned (.tuple #[V, .agg #[.int .i64 0, .int .i64 0]]) ∧ w'.ownsRow w.heap.size 5 1 V 1 (nums .u8 [16 * hexD a + hexD b]) ∧ Below w.heap.size w w' := by
  have hu25 := Tryd.underlying25
  have HBAD := Lib.hid (fun W (h : Octet.Laid W) => Octet.Bad_calls 4 (by decide) (by decide) (two2 a b) (show 2 ≤ _ by decide) W h)
  rw [badAt_two a b ha hb] at HBAD
  have HT := Lib.hid hT
  have HVA := Lib.hid (value_same a ha)
  have HVB := Lib.hid (value_same b hb)
  have HRA := Lib.hid (hexD_range a ha)
  have HRB := Lib.hid (hexD_range b hb)
  clear hT ha hb
  unfold two2 at HBAD ⊢
  obtain ⟨i0, hi, hz0, hz1, hz2⟩ := info_parts info5
  go_enter Tryd.func52, Tryd.ntmps52
  obtain ⟨W0, hW0⟩ : ∃ W0, W0 = w.alloc (.cells #[.int .i64 0, .int .i64 0] 25) := ⟨_, rfl⟩
  have hsz : W0.heap.size = w.heap.size + 1 := by rw [hW0]; simp
  have hbox : W0.heap[w.heap.size]? = some (.cells #[.int .i64 0, .int .i64 0] 25 (0, 0)) := by rw [hW0]; exact heap_alloc_new w _
  have hBw : Below w.heap.size w W0 := by rw [hW0]; exact (Below.refl _ _).alloc (Nat.le_refl _) _
  have HX := Lib.hid hbox
  have HBW := Lib.hid hBw
  have HW0 := Lib.hid hW0
  have HSZ := Lib.hid hsz
  clear hbox hBw hsz
  go_wp2_with fail
  rw [← HW0.out]
  refine (HBAD.out _ (HT.out.below HT.out.size HBW.out)).mono ?_
  rintro e w1 ⟨rfl, hb1⟩
  clear hW0
  have hb2 := (hb1.block _ (by have := HSZ.out; omega)).trans HX.out
  have HX2 := Lib.hid hb2
  have HBA := Lib.hid (HBW.out.trans (hb1.mono (by have := HSZ.out; omega)))
  have hIR : w.heap.size < w1.heap.size := by have := HSZ.out; have := hb1.size; omega
  clear hb2 hb1
  go_wp2_with (at_make; refine wpList_make_own _ rfl _ _ 39 rfl w1.heap.size 5 i0 _ 1 Tryd.underlying39 hi hz0 hz1 _ _ _ 1 rfl rfl (by omega) ?b2 ?b3 (Nat.le_refl _) ?_)
  case b2 => rw [hz2]; omega
  case b3 => unfold maxLen; omega
  intro w2 hown2 hgrow2
  have hB2 : Below w1.heap.size w1 w2 := (Below.refl w1.heap.size w1).grown hgrow2 (Nat.le_refl _) (fun k h => by cases h)
  have HOW := Lib.hid hown2
  have HBWR := Lib.hid hB2
  clear hown2 hgrow2 hB2
  go_wp2
  go_loopw [5, 6] (fun o v wr => (v = .int .i64 0 ∧ o = .slice (some ⟨w1.heap.size, 0, none⟩) 0 1 ∧ wr = w2) ∨ (v = .int .i64 2 ∧ wr.ownsRow w1.heap.size 5 1 o 1 (nums .u8 [16 * hexD a + hexD b]) ∧ Below w1.heap.size w1 wr)) (fun _ v _ => 2 - (intOf v).toNat)
  case atStart => exact Or.inl ⟨rfl, rfl, rfl⟩
  case round =>
    rcases hrel with ⟨rfl, rfl, rfl⟩ | ⟨rfl, hO, hB⟩
    · have q1 : IntKind.i64.wrap 1 = 1 := by decide
      have q2 : IntKind.u8.wrap (hexD a * 16) = hexD a * 16 := wrap_u8 _ (by have := HRA.out; omega) (by have := HRA.out; omega)
      have q3 : bits .or .u8 (hexD a * 16) (hexD b) = 16 * hexD a + hexD b := by
        rw [u8_or4 _ _ (by have := HRA.out; omega) (by omega) (by have := HRA.out; omega) (by have := HRB.out; omega) (by have := HRB.out; omega)]
        omega
      go_wp2
      refine start_ (n := 15) (S := fun w' => True) (ds := [12, 13]) #[false, false, false, false, false, false, false, false, false, false, false, false, false, false, false] (by kernel_rfl) rfl rfl trivial (fun hHeld => ?_)
      generalize hdr : wr.drew = w2 at hHeld ⊢
      have HO2 := Lib.hid (show w2.ownsRow w1.heap.size 5 1 (.slice (some ⟨w1.heap.size, 0, none⟩) 0 1) 0 (nums .u8 []) from hdr ▸ HOW.out)
      have HB2 := Lib.hid (show Below w1.heap.size w1 w2 from hdr ▸ below_drew1 HBWR.out)
      have hsz2 := HB2.out.size
      refine pure_ (i := 0) (N := some 30) (v := ?_) (a' := ?_) #[true, false, false, false, false, false, false, false, false, false, false, false, false, false, false] rfl rfl (by kernel_rfl) (fun _ _ _ h => h) (Or.inl ⟨by rfl, ?_⟩) ?_ ?_
      rotate_left
      · intro w'
        go_simp
        with_reducible rfl
      rotate_left
      · simp only [Act.put, List.setIfInBounds_toArray, List.set_cons_zero, List.set_cons_succ, i64_w, i32_w]
        rfl
      refine pure_ (i := 1) (N := some 31) (v := ?_) (a' := ?_) #[true, true, false, false, false, false, false, false, false, false, false, false, false, false, false] rfl rfl (by kernel_rfl) (fun _ _ _ h => h) (Or.inl ⟨by rfl, ?_⟩) ?_ ?_
      rotate_left
      · intro w'
        go_simp
        with_reducible rfl
      rotate_left
      · simp only [Act.put, List.setIfInBounds_toArray, List.set_cons_zero, List.set_cons_succ, i64_w, i32_w]
        rfl
      refine pure_ (i := 2) (N := some 32) (v := ?_) (a' := ?_) #[true, true, true, false, false, false, false, false, false, false, false, false, false, false, false] rfl rfl (by kernel_rfl) (fun _ _ _ h => h) (Or.inl ⟨by rfl, ?_⟩) ?_ ?_
      rotate_left
      · intro w'
        go_simp
        with_reducible rfl
      rotate_left
      · simp only [Act.put, List.setIfInBounds_toArray, List.set_cons_zero, List.set_cons_succ, i64_w, i32_w]
        rfl
      refine pure_ (i := 6) (N := some 36) (v := ?_) (a' := ?_) #[true, true, true, false, false, false, true, false, false, false, false, false, false, false, false] rfl rfl (by kernel_rfl) (fun _ _ _ h => h) (Or.inl ⟨by rfl, ?_⟩) ?_ ?_
      rotate_left
      · intro w'
        go_simp
        with_reducible rfl
      rotate_left
      · simp only [Act.put, List.setIfInBounds_toArray, List.set_cons_zero, List.set_cons_succ, i64_w, i32_w]
        rfl
      refine pure_ (i := 7) (N := some 37) (v := ?_) (a' := ?_) #[true, true, true, false, false, false, true, true, false, false, false, false, false, false, false] rfl rfl (by kernel_rfl) (fun _ _ _ h => h) (Or.inl ⟨by rfl, ?_⟩) ?_ ?_
      rotate_left
      · intro w'
        go_simp
        with_reducible rfl
      rotate_left
      · simp only [Act.put, List.setIfInBounds_toArray, List.set_cons_zero, List.set_cons_succ, i64_w, i32_w]
        rfl
      refine pure_ (i := 8) (N := some 38) (v := ?_) (a' := ?_) #[true, true, true, false, false, false, true, true, true, false, false, false, false, false, false] rfl rfl (by kernel_rfl) (fun _ _ _ h => h) (Or.inl ⟨by rfl, ?_⟩) ?_ ?_
      rotate_left
      · intro w'
        go_simp
        with_reducible rfl
      rotate_left
      · simp only [Act.put, List.setIfInBounds_toArray, List.set_cons_zero, List.set_cons_succ, i64_w, i32_w]
        rfl
      refine take_ (i := 3) (N := some 33) (v := ?_) (a' := ?_) #[true, true, true, true, false, false, true, true, true, false, false, false, false, false, false] rfl rfl (by kernel_rfl) (fun _ _ _ h => h) (Or.inl ⟨by rfl, ?_⟩) hHeld ?_ ?_
      rotate_left
      · intro w' _
        go_simp
        with_reducible rfl
      rotate_left
      · simp only [Act.put, List.setIfInBounds_toArray, List.set_cons_zero, List.set_cons_succ, i64_w, i32_w]
        rfl
      refine take_ (i := 9) (N := some 39) (v := ?_) (a' := ?_) #[true, true, true, true, false, false, true, true, true, true, false, false, false, false, false] rfl rfl (by kernel_rfl) (fun _ _ _ h => h) (Or.inl ⟨by rfl, ?_⟩) hHeld ?_ ?_
      rotate_left
      · intro w' _
        go_simp
        with_reducible rfl
      rotate_left
      · simp only [Act.put, List.setIfInBounds_toArray, List.set_cons_zero, List.set_cons_succ, i64_w, i32_w]
        rfl
      refine one_ (i := 4) (N := some 34) #[true, true, true, true, true, false, true, true, true, true, false, false, false, false, false] rfl rfl (by kernel_rfl) (by decide) (fun K hK => ?_)
      refine goes_ Tryd.func79 (by kernel_rfl) rfl #[.int .u8 (a.toNat : Int)] (by rfl) rfl rfl (by simp only [List.map_toArray, List.map_cons, List.map_nil]; rfl) ?_
      with_reducible refine (HVA.out w2).mono ?_
      rintro e w2 ⟨rfl, rfl⟩
      refine ⟨_, rfl, ?_⟩
      refine hK.out _ _ trivial (fun hHeld => ?_)
      clear hK K
      refine norm_ (a' := ?_) ?_ ?_
      rotate_left
      · show Act.put _ (some 34) _ = _
        simp only [Act.put, List.setIfInBounds_toArray, List.set_cons_zero, List.set_cons_succ, i64_w, i32_w]
        rfl
      refine pure_ (i := 5) (N := some 35) (v := ?_) (a' := ?_) #[true, true, true, true, true, true, true, true, true, true, false, false, false, false, false] rfl rfl (by kernel_rfl) (fun _ _ _ h => h) (Or.inl ⟨by rfl, ?_⟩) ?_ ?_
      rotate_left
      · intro w'
        go_simp
        with_reducible rfl
      rotate_left
      · simp only [Act.put, List.setIfInBounds_toArray, List.set_cons_zero, List.set_cons_succ, i64_w, i32_w]
        rfl
      refine one_ (i := 10) (N := some 40) #[true, true, true, true, true, true, true, true, true, true, true, false, false, false, false] rfl rfl (by kernel_rfl) (by decide) (fun K hK => ?_)
      refine goes_ Tryd.func79 (by kernel_rfl) rfl #[.int .u8 (b.toNat : Int)] (by rfl) rfl rfl (by simp only [List.map_toArray, List.map_cons, List.map_nil]; rfl) ?_
      with_reducible refine (HVB.out w2).mono ?_
      rintro e w2 ⟨rfl, rfl⟩
      refine ⟨_, rfl, ?_⟩
      refine hK.out _ _ trivial (fun hHeld => ?_)
      clear hK K
      refine norm_ (a' := ?_) ?_ ?_
      rotate_left
      · show Act.put _ (some 40) _ = _
        simp only [Act.put, List.setIfInBounds_toArray, List.set_cons_zero, List.set_cons_succ, i64_w, i32_w]
        rfl
      refine pure_ (i := 11) (N := some 41) (v := ?_) (a' := ?_) #[true, true, true, true, true, true, true, true, true, true, true, true, false, false, false] rfl rfl (by kernel_rfl) (fun _ _ _ h => h) (Or.inl ⟨by rfl, ?_⟩) ?_ ?_
      rotate_left
      · intro w'
        go_simp
        with_reducible rfl
      rotate_left
      · simp only [Act.put, List.setIfInBounds_toArray, List.set_cons_zero, List.set_cons_succ, i64_w, i32_w]
        rfl
      refine last_ (i := 12) (N := some 42) #[true, true, true, true, true, true, true, true, true, true, true, true, true, false, false] rfl rfl (by kernel_rfl) (by decide) (fun K hK => ?_)
      refine value_ (w1 := ?_) (v := ?_) (by rfl) rfl ?_ ?_
      rotate_left 2
      · go_simp
        constructor
        · rfl
        · rfl
      refine hK.out _ _ ?_
      clear hK K
      refine norm_ (a' := ?_) ?_ ?_
      rotate_left
      · show Act.put _ (some 42) _ = _
        simp only [Act.put, List.setIfInBounds_toArray, List.set_cons_zero, List.set_cons_succ, i64_w, i32_w]
        rfl
      refine last_ (i := 13) (N := some 43) #[true, true, true, true, true, true, true, true, true, true, true, true, true, true, false] rfl rfl (by kernel_rfl) (by decide) (fun K hK => ?_)
      refine step_append_lies _ (by rfl) (.tmp 30) (.tmp 42) 39 (by rfl) w1.heap.size 5 i0 _ 1 1 Tryd.underlying39 hi hz0 hz1 hz2 rfl (by decide) _ 0 (nums .u8 []) (by rfl) (HO2.out.alloc _) ⟨w2.heap.size, 0, none⟩ 1 1 (nums .u8 [16 * hexD a + hexD b]) (by rfl) rfl (news_lit _ _ _) (nums_one _) (by decide) (by unfold maxLen; omega) (by omega) (by simp; omega) _ rfl ?_
      intro g cap w4 hown4 hgrow4 hat4 hlt4
      refine hK.out _ _ ?_
      clear hK K
      refine norm_ (a' := ?_) ?_ ?_
      rotate_left
      · show Act.put _ (some 43) _ = _
        simp only [Act.put, List.setIfInBounds_toArray, List.set_cons_zero, List.set_cons_succ, i64_w, i32_w]
        rfl
      refine pure_ (i := 14) (N := some 5) (v := ?_) (a' := ?_) #[true, true, true, true, true, true, true, true, true, true, true, true, true, true, true] rfl rfl (by kernel_rfl) (fun _ _ _ h => h) (Or.inl ⟨by rfl, ?_⟩) ?_ ?_
      rotate_left
      · intro w'
        go_simp
        with_reducible rfl
      rotate_left
      · simp only [Act.put, List.setIfInBounds_toArray, List.set_cons_zero, List.set_cons_succ, i64_w, i32_w]
        rfl
      refine done_ (by kernel_rfl) ?_
      have hB4 : Below w1.heap.size w1 w4 := (HB2.out.alloc hsz2 _).grown hgrow4 (by have := hgrow4.size; simp at this; have := hsz2; simp; omega) (fun k hk => own_base HO2.out k hk)
      rw [← Code.nums_append, List.nil_append] at hown4
      have HO4 := Lib.hid hown4
      have HB4 := Lib.hid hB4
      clear hown4 hgrow4 hat4 hlt4 hB4 q1 q2 q3 hHeld HO2 HB2
      go_wp2
      go_roundw
      case rel => exact Or.inr ⟨rfl, HO4.out, HB4.out⟩
      case measure => simp [intOf]
    · have hX5 := (hB.block _ hIR).trans HX2.out
      have b0 := blk_cell hX5 0
      have b1 := blk_cell hX5 1
      have g0 := blk_frozen hX5 0
      have g1 := blk_frozen hX5 1
      have HX5 := Lib.hid hX5
      have HO := Lib.hid hO
      have HB := Lib.hid hB
      clear hX5 hO hB
      go_wp2
      refine bodyPost_ret (results_list (rs := [.tmp 2, .cell 3 25]) rfl (by simp) (.tmp (.cell w.heap.size 25 #[.int .i64 0, .int .i64 0] (0, 0) _ rfl (blk_put (blk_put HX5.out 0 (.int .i64 0) rfl) 1 (.int .i64 0) rfl) Tryd.underlying25 rfl (by kernel_rfl) .nil))) rfl ?_
      have hbw := HBA.out.trans (HB.out.mono (Nat.le_of_lt hIR))
      have hnb : some w.heap.size ≠ u5.ownBlock := fun e => by have := own_base HO.out _ e.symm; omega
      exact ⟨_, rfl, own_setCell (own_setCell (own_low HO.out (by omega)) (p := ⟨w.heap.size, 0, none⟩) hnb _) (p := ⟨w.heap.size, 1, none⟩) hnb _, ((hbw.setCell (p := ⟨w.heap.size, 0, none⟩) (Nat.le_refl _) _).setCell (p := ⟨w.heap.size, 1, none⟩) (Nat.le_refl _) _)⟩
end Go.Proofs.YtcnhnpkbklakoaaDoor.Unhex
