/- sasl: strings.IndexAny and strings.ContainsAny of NUL, CR and LF in any text; sasl.may. -/
import Derived.Test.YticjpjgfccbhlaaRune
import Derived.Test.YticjpjgfccbhlaaShelf3
namespace Go.Proofs.Yticjpjgfccbhlaa.Sasl
open Go.RowKit Go.Proofs.YticjpjgfccbhlaaW.PrintWords Go.Proofs.YticjpjgfccbhlaaW.PrintLast Go.Proofs.YticjpjgfccbhlaaW.PrintMore Go.Proofs.Yticjpjgfccbhlaa.PSaslBoth Go.Proofs.Yticjpjgfccbhlaa.Hash
set_option linter.unusedVariables false
set_option linter.unusedSimpArgs false
set_option maxHeartbeats 8000000 in
set_option maxRecDepth 1000000 in
theorem indexRune_four (r : Int) (h0 : 128 ≤ r) (hn : r ≠ 65533) (hv : Lib.validRune r = true) (b0 b1 b2 b3 : UInt8) (he : Utf8.encode r = ⟨#[b0, b1, b2, b3]⟩) (w : World) :
    Calls Try.prog 61 #[.string ncl, .int .i32 r] w fun e w' => e = .returned (.int .i64 (-1)) ∧ Below w.heap.size w w' := by
  have q1 : decide (r < 128) = false := decide_eq_false (by omega)
  have q0 : decide (0 ≤ r) = true := decide_eq_true (by omega)
  have q2 : (r == 65533) = false := beq_eq_false_iff_ne.2 hn
  have hcv : ∀ W, (convert 21 9 (.int .i32 r)).run Try.prog W = .ok (.string ⟨#[b0, b1, b2, b3]⟩) W := fun W => he ▸ run_convert_int_string W 21 9 .i32 r (by kernel_rfl) Try.underlying9
  clear h0 hn he
  go_enter Try.func61, Try.ntmps61
  go_wp2_with (go_at_call 74; refine (Try.utf8_ValidRune _ _).mono ?_; rintro e w' ⟨rfl, hw⟩; rw [hw, hv])
  go_step3
  go_wp2
  go_loopw [9] (fun v wr => v = .int .i64 3 ∧ wr = w) (fun _ _ => 0)
  case atStart => exact ⟨rfl, rfl⟩
  case round =>
    obtain ⟨rfl, rfl⟩ := hrel
    clear hw
    go_wp2
    change bodyPost Try.prog Try.f61 (fun e w' => e = Ending.returned (Value.int IntKind.i64 (-1)) ∧ Below wr.heap.size wr w') Exit.ret _ _
    go_ret
    exact ⟨rfl, Below.refl _ _⟩
theorem indexRune_high (r : Int) (h0 : 128 ≤ r) (w : World) :
    Calls Try.prog 61 #[.string ncl, .int .i32 r] w fun e w' => e = .returned (.int .i64 (-1)) ∧ Below w.heap.size w w' := by
  by_cases c : r = 65533
  · subst c; exact indexRune_bad w
  · cases hv : Lib.validRune r with
    | false => exact indexRune_not r h0 c hv w
    | true =>
      rcases enc_high r h0 (by rw [← validRune_eq]; exact hv) with ⟨b0, b1, he, hb⟩ | ⟨b0, b1, b2, he, hb⟩ | ⟨b0, b1, b2, b3, he, hb⟩
      · exact indexRune_two r h0 c hv b0 b1 he hb w
      · exact indexRune_three r h0 c hv b0 b1 b2 he hb w
      · exact indexRune_four r h0 c hv b0 b1 b2 b3 he w
theorem ncl_list : (ncl.data.toList : List UInt8) = [0, 13, 10] := rfl
theorem ncl_high (b : UInt8) (h : 128 ≤ b.toNat) : ([0, 13, 10] : List UInt8).contains b = false := by
  cases hc : ([0, 13, 10] : List UInt8).contains b with
  | false => rfl
  | true =>
    have hm : b ∈ ([0, 13, 10] : List UInt8) := List.contains_iff_mem.1 hc
    simp at hm
    rcases hm with rfl | rfl | rfl <;> exact absurd h (by decide)
theorem iter_new (w : World) (s : ByteArray) : (w.iter s 0).heap[w.heap.size]? = some (.stringIter s 0) := World.iter_heap w s 0
set_option maxHeartbeats 8000000 in
set_option maxRecDepth 1000000 in
theorem indexAny_short (s : ByteArray) (w : World) (h8 : s.size ≤ 8) :
    Calls Try.prog 54 #[.string s, .string ncl] w fun e w' => e = .returned (.int .i64 (Lib.indexAny s.data.toList [0, 13, 10])) ∧ Below w.heap.size w w' := by
  have h8z : decide ((8 : Int) < (s.size : Int)) = false := decide_eq_false (by omega)
  go_enter Try.func54, Try.ntmps54
  go_wp2_with (go_at_call 62; refine (Try.strings_shouldUseASCIISet _ _).mono ?_; rintro e w' ⟨rfl, hw⟩; rw [hw, h8z])
  go_loopg [9, 10] s.size (fun g _ _ wx => ∃ i : Nat, i + g = s.size ∧ Below w.heap.size w wx ∧ wx.heap[w.heap.size]? = some (.stringIter s i) ∧ Lib.NoAny s.data.toList [0, 13, 10] i)
  case atStart => exact ⟨0, by omega, (Below.refl _ _).alloc (Nat.le_refl _) _, iter_new w s, Lib.NoAny.zero _ _⟩
  case round =>
    obtain ⟨i, hig, hB, hk, hno⟩ := hrel
    have HN := Lib.hid hno
    have HB := Lib.hid hB
    have HK := Lib.hid hk
    clear hno hB hk
    by_cases hi : i < s.size
    · obtain ⟨W1, hW1⟩ : ∃ W1, W1 = putBlk wr w.heap.size (.stringIter s (i + (Utf8.decode s i).2)) := ⟨_, rfl⟩
      have hnx : ∀ ty, (Instr.next (.pointer (some ⟨w.heap.size, 0, none⟩)) true ty).run Try.prog wr = .ok (.tuple #[.bool true, .int .i64 i, .int .i32 (Utf8.decode s i).1]) W1 := fun ty => by rw [hW1]; exact run_next_at wr w.heap.size s i ty HK.out hi
      have hlt : w.heap.size < wr.heap.size := by
        by_cases c : w.heap.size < wr.heap.size
        · exact c
        · have := HK.out
          rw [Array.getElem?_eq_none (by omega)] at this; cases this
      have HB1 := Lib.hid (show Below w.heap.size w W1 from hW1 ▸ below_putBlk HB.out w.heap.size _ (Nat.le_refl _))
      have HK1 := Lib.hid (show W1.heap[w.heap.size]? = some (.stringIter s (i + (Utf8.decode s i).2)) from hW1 ▸ putBlk_at wr w.heap.size _ hlt)
      have HS1 := Lib.hid (show w.heap.size < W1.heap.size by rw [hW1, putBlk_size]; exact hlt)
      clear hW1 hlt
      obtain ⟨x, hx⟩ : ∃ x : UInt8, s[i]'hi = x := ⟨_, rfl⟩
      have hxl : s.data.toList[i]? = some x := by rw [← hx]; exact Lib.data_getElem? s i hi
      by_cases hx128 : x.toNat < 128
      · have hd : Utf8.decode s i = (x.toNat, 1) := by rw [decode_ascii s i hi (by rw [hx]; exact hx128), hx]
        rw [hd] at hnx HK1
        simp only at hnx HK1
        have Hx := Lib.hid hxl
        clear hxl hx hd
        have hcon := Lib.contains_iff_indexByte [0, 13, 10] x
        have hback : ((x.toNat : Int)).toNat.toUInt8 = x := by simp
        cases hin : ([0, 13, 10] : List UInt8).contains x
        · rw [hin] at hcon
          have hlt : ¬ ((0 : Int) ≤ Lib.indexByte ([0, 13, 10] : List UInt8) x) := of_decide_eq_false hcon.symm
          clear hcon
          go_wp2_with (go_at_call 61; refine (Try.strings_IndexRune_ascii _ _ _ (by omega) (by omega)).mono ?_; rintro e w' ⟨rfl, hw⟩; rw [hw, hback])
          go_roundg (s.size - (i + 1))
          case measure => omega
          case rel => exact ⟨i + 1, by omega, HB1.out, HK1.out, HN.out.succ Hx.out hin⟩
        · rw [hin] at hcon
          have hge : (0 : Int) ≤ Lib.indexByte ([0, 13, 10] : List UInt8) x := of_decide_eq_true hcon.symm
          clear hcon
          go_wp2_with (go_at_call 61; refine (Try.strings_IndexRune_ascii _ _ _ (by omega) (by omega)).mono ?_; rintro e w' ⟨rfl, hw⟩; rw [hw, hback])
          go_ret
          exact ⟨by rw [Lib.indexAny_hit HN.out Hx.out hin]; rfl, HB1.out⟩
      · have hov := noAny_over s [0, 13, 10] ncl_high i hi (by rw [hx]; omega) HN.out
        have hdh := decode_high s i hi (by rw [hx]; omega)
        have HO := Lib.hid hov
        clear hov hxl hx
        obtain ⟨r, hr⟩ : ∃ r, r = Utf8.decode s i := ⟨_, rfl⟩
        rw [← hr] at hnx HK1 HO hdh
        clear hr
        obtain ⟨r1, r2⟩ := r
        simp only at hnx HK1 HO hdh
        go_wp2_with (go_at_call 61; refine (indexRune_high _ (by omega) _).mono ?_; rintro e w2 ⟨rfl, hb2⟩)
        go_roundg (s.size - (i + r2))
        case measure => have := HO.out.1; omega
        case rel => exact ⟨i + r2, by have := HO.out.1; omega, HB1.out.trans (hb2.mono HB1.out.size), (hb2.block _ HS1.out).trans HK1.out, HO.out.2⟩
    · obtain rfl : i = s.size := by omega
      have hnx := fun ty => run_next_at_end (P := Try.prog) wr w.heap.size s s.size ty HK.out hi
      go_wp2
      go_ret
      exact ⟨by rw [Lib.indexAny_none (by rw [← Lib.size_eq]; exact HN.out)]; rfl, HB.out⟩
theorem hv124 : ∀ w, (zeroValue 117).run Try.prog w = .ok (.agg (Array.replicate 256 (.bool false))) w :=
  (zero_of_info (P := Try.prog) (t := 117) (n := 256) (by kernel_rfl)).1
theorem indexAny_calls (s : ByteArray) (w : World) (hs : s.size ≤ 1000000000) :
    Calls Try.prog 54 #[.string s, .string ncl] w fun e w' => e = .returned (.int .i64 (Lib.indexAny s.data.toList [0, 13, 10])) ∧ Below w.heap.size w w' := by
  by_cases h8 : s.size ≤ 8
  · exact indexAny_short s w h8
  · refine (Try.strings_IndexAny_long hv124 s ncl w (by decide) (by omega) (by omega) (by decide) ?_).mono ?_
    · intro j b hj
      have hm : b ∈ ([0, 13, 10] : List UInt8) := List.mem_of_getElem? hj
      simp at hm
      rcases hm with rfl | rfl | rfl <;> decide
    · rintro e w' ⟨rfl, rfl⟩
      refine ⟨rfl, ?_⟩
      have hb1 : Below w.heap.size w (w.alloc (.cells (Lib.setCells ncl.data.toList) 117)) := (Below.refl _ _).alloc (Nat.le_refl _) _
      exact hb1.alloc hb1.size _
/-- a text without NUL, CR and LF -/
def clean (s : ByteArray) : Bool := !Lib.containsAny s.data.toList [0, 13, 10]
/-- a text that may be a name or a secret -/
def okT (s : ByteArray) (most : Nat) : Bool := decide (1 ≤ s.size) && (decide (s.size ≤ most) && clean s)
set_option maxHeartbeats 2000000 in
set_option maxRecDepth 100000 in
theorem contains_calls (s : ByteArray) (w : World) (hs : s.size ≤ 1000000000) :
    Calls Try.prog 45 #[.string s, .string ncl] w fun e w' => e = .returned (.bool (Lib.containsAny s.data.toList [0, 13, 10])) ∧ Below w.heap.size w w' := by
  have HI := Lib.hid (fun W => indexAny_calls s W hs)
  go_enter Try.func45, Try.ntmps45
  go_wp2_with (go_at_call 54; refine (HI.out _).mono ?_; rintro e w1 ⟨rfl, hb1⟩)
  go_ret
  exact ⟨rfl, hb1⟩
set_option maxHeartbeats 2000000 in
set_option maxRecDepth 100000 in
theorem may_calls (s : ByteArray) (most : Nat) (w : World) (hs : s.size ≤ 1000000000) :
    Calls Try.prog 35 #[.string s, .int .i64 most] w fun e w' => e = .returned (.bool (okT s most)) ∧ Below w.heap.size w w' := by
  have HI := Lib.hid (fun W => contains_calls s W hs)
  cases h1 : decide ((1 : Int) ≤ (s.size : Int)) with
  | false =>
    have h1' : ¬ ((1 : Int) ≤ (s.size : Int)) := of_decide_eq_false h1
    have e0 := Lib.hid (show okT s most = false by unfold okT; rw [decide_eq_false (by omega)]; rfl)
    go_enter Try.func35, Try.ntmps35
    go_wp2_with (go_at_call 45; refine (HI.out _).mono ?_; rintro e w1 ⟨rfl, hb1⟩)
    go_ret
    exact ⟨by rw [e0.out]; rfl, Below.refl _ _⟩
  | true =>
    have h1' : ((1 : Int) ≤ (s.size : Int)) := of_decide_eq_true h1
    cases h2 : decide ((s.size : Int) ≤ (most : Int)) with
    | false =>
      have h2' : ¬ ((s.size : Int) ≤ (most : Int)) := of_decide_eq_false h2
      have e0 := Lib.hid (show okT s most = false by unfold okT; rw [decide_eq_true (by omega : 1 ≤ s.size), decide_eq_false (by omega : ¬ s.size ≤ most)]; rfl)
      go_enter Try.func35, Try.ntmps35
      go_wp2_with (go_at_call 45; refine (HI.out _).mono ?_; rintro e w1 ⟨rfl, hb1⟩)
      go_ret
      exact ⟨by rw [e0.out]; rfl, Below.refl _ _⟩
    | true =>
      have h2' : ((s.size : Int) ≤ (most : Int)) := of_decide_eq_true h2
      have e0 := Lib.hid (show okT s most = !Lib.containsAny s.data.toList [0, 13, 10] by unfold okT; rw [decide_eq_true (by omega : 1 ≤ s.size), decide_eq_true (by omega : s.size ≤ most)]; rfl)
      go_enter Try.func35, Try.ntmps35
      go_wp2_with (go_at_call 45; refine (HI.out _).mono ?_; rintro e w1 ⟨rfl, hb1⟩)
      go_ret
      exact ⟨by rw [e0.out]; rfl, hb1⟩
end Go.Proofs.Yticjpjgfccbhlaa.Sasl
