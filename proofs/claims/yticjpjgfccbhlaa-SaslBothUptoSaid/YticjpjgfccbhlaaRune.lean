/- sasl: strings.IndexRune of the text NUL CR LF at a rune of 128 and more finds none; what a rune's bytes are. -/
import Derived.Test.YticjpjgfccbhlaaShelf2
import Derived.Test.YticjpjgfccbhlaaHash3
import Derived.Laws.RangeAny
import Derived.Lib.IndexAny
import Derived.WalkMore
import Derived.RegionTactic
import Derived.Lib.Hide
import Derived.Deep.LoopGhost
namespace Go.Proofs.Yticjpjgfccbhlaa.Sasl
open Go.RowKit Go.Proofs.YticjpjgfccbhlaaW.PrintWords Go.Proofs.YticjpjgfccbhlaaW.PrintLast Go.Proofs.YticjpjgfccbhlaaW.PrintMore Go.Proofs.Yticjpjgfccbhlaa.PSaslBoth Go.Proofs.Yticjpjgfccbhlaa.Hash
set_option linter.unusedVariables false
set_option linter.unusedSimpArgs false
theorem enc_high (r : Int) (h0 : 128 ≤ r) (hv : Utf8.valid r = true) :
    (∃ b0 b1 : UInt8, Utf8.encode r = ⟨#[b0, b1]⟩ ∧ 128 ≤ b1.toNat) ∨ (∃ b0 b1 b2 : UInt8, Utf8.encode r = ⟨#[b0, b1, b2]⟩ ∧ 128 ≤ b2.toNat) ∨ (∃ b0 b1 b2 b3 : UInt8, Utf8.encode r = ⟨#[b0, b1, b2, b3]⟩ ∧ 128 ≤ b3.toNat) := by
  have hl : ∀ n : Nat, 128 ≤ (UInt8.ofNat (0x80 + n % 64)).toNat := fun n => by
    rw [UInt8.toNat_ofNat']; omega
  simp only [Utf8.encode, hv, if_true]
  rw [if_neg (by omega)]
  split
  · exact .inl ⟨_, _, rfl, hl _⟩
  · split
    · exact .inr (.inl ⟨_, _, _, rfl, hl _⟩)
    · exact .inr (.inr ⟨_, _, _, _, rfl, hl _⟩)
/-- a world with one block written anew -/
def putBlk (w : World) (k : Nat) (o : Obj) : World := { w with heap := w.heap.setIfInBounds k o }
theorem putBlk_at (w : World) (k : Nat) (o : Obj) (h : k < w.heap.size) : (putBlk w k o).heap[k]? = some o := by
  simp [putBlk, h]
theorem putBlk_size (w : World) (k : Nat) (o : Obj) : (putBlk w k o).heap.size = w.heap.size := by simp [putBlk]
theorem below_putBlk {B : Nat} {w w' : World} (h : Below B w w') (k : Nat) (o : Obj) (hk : B ≤ k) : Below B w (putBlk w' k o) :=
  h.trans ⟨rfl, rfl, rfl, by simp [putBlk], fun j hj => by simp only [putBlk]; rw [Array.getElem?_setIfInBounds_ne (by omega)]⟩
theorem run_next_at {P : Program} (w : World) (k : Nat) (s : ByteArray) (pos : Nat) (ty : TypeId) (hk : w.heap[k]? = some (.stringIter s pos)) (h : pos < s.size) :
    (Instr.next (.pointer (some ⟨k, 0, none⟩)) true ty).run P w =
      .ok (.tuple #[.bool true, .int .i64 pos, .int .i32 (Utf8.decode s pos).1]) (putBlk w k (.stringIter s (pos + (Utf8.decode s pos).2))) := by
  have hlt : k < w.heap.size := by
    by_cases c : k < w.heap.size
    · exact c
    · rw [Array.getElem?_eq_none (by omega)] at hk; cases hk
  simp only [Instr.next, getObj, setObj, Sem.run_bind, Sem.run, hk, Result.andThen, h, if_true]
  simp [goInt, putBlk]
theorem run_next_at_end {P : Program} (w : World) (k : Nat) (s : ByteArray) (pos : Nat) (ty : TypeId) (hk : w.heap[k]? = some (.stringIter s pos)) (h : ¬ pos < s.size) :
    (Instr.next (.pointer (some ⟨k, 0, none⟩)) true ty).run P w = .ok (.tuple #[.bool false]) w := by
  simp [Instr.next, getObj, Sem.run, hk, h]
theorem decode_span (s : ByteArray) (pos : Nat) (h : pos < s.size) (ha : 128 ≤ (s[pos]'h).toNat) : ∀ j, j < (Utf8.decode s pos).2 → pos + j < s.size ∧ 128 ≤ (s.get! (pos + j)).toNat := by
  have g0 : (s.get! (pos + 0)).toNat = (s[pos]'h).toNat := by rw [get_at s pos h]
  have hn : ¬ (s.get! (pos + 0)).toNat < 128 := by rw [g0]; exact Nat.not_lt.2 ha
  have ha' : 128 ≤ (s.get! (pos + 0)).toNat := by rw [g0]; exact ha
  have c0 : pos + 0 < s.size := h
  clear ha g0 h
  simp only [Utf8.decode, hn, if_false]
  intro j hj
  split at hj
  · rename_i h1
    simp only [Bool.and_eq_true, decide_eq_true_eq, beq_iff_eq] at h1
    split at hj
    · rcases (show j = 0 ∨ j = 1 by simp at hj; omega) with rfl | rfl
      · exact ⟨c0, ha'⟩
      · exact ⟨h1.2.1, by omega⟩
    · obtain rfl : j = 0 := by simp at hj; exact hj
      exact ⟨c0, ha'⟩
  · split at hj
    · rename_i h1
      simp only [Bool.and_eq_true, decide_eq_true_eq, beq_iff_eq] at h1
      split at hj
      · rcases (show j = 0 ∨ j = 1 ∨ j = 2 by simp at hj; omega) with rfl | rfl | rfl
        · exact ⟨c0, ha'⟩
        · exact ⟨h1.1.2.1, by omega⟩
        · exact ⟨h1.2.1, by omega⟩
      · obtain rfl : j = 0 := by simp at hj; exact hj
        exact ⟨c0, ha'⟩
    · split at hj
      · rename_i h1
        simp only [Bool.and_eq_true, decide_eq_true_eq, beq_iff_eq] at h1
        split at hj
        · rcases (show j = 0 ∨ j = 1 ∨ j = 2 ∨ j = 3 by simp at hj; omega) with rfl | rfl | rfl | rfl
          · exact ⟨c0, ha'⟩
          · exact ⟨h1.1.1.2.1, by omega⟩
          · exact ⟨h1.1.2.1, by omega⟩
          · exact ⟨h1.2.1, by omega⟩
        · obtain rfl : j = 0 := by simp at hj; exact hj
          exact ⟨c0, ha'⟩
      · obtain rfl : j = 0 := by simp at hj; exact hj
        exact ⟨c0, ha'⟩
theorem data_get! (s : ByteArray) (j : Nat) (h : j < s.size) (b : UInt8) (hb : s.data.toList[j]? = some b) : b = s.get! (j + 0) := by
  rw [get_at s j h]
  have := Lib.data_getElem? s j h
  rw [this] at hb
  exact (Option.some.inj hb).symm
/-- a rune of 128 and more has no ascii byte. -/
theorem noAny_over (s : ByteArray) (chars : List UInt8) (hc : ∀ b : UInt8, 128 ≤ b.toNat → chars.contains b = false) (pos : Nat) (h : pos < s.size) (ha : 128 ≤ (s[pos]'h).toNat)
    (hno : Lib.NoAny s.data.toList chars pos) : pos + (Utf8.decode s pos).2 ≤ s.size ∧ Lib.NoAny s.data.toList chars (pos + (Utf8.decode s pos).2) := by
  have hs := decode_span s pos h ha
  have hd := (decode_high s pos h ha).2
  refine ⟨?_, fun j b hj hb => ?_⟩
  · have := (hs ((Utf8.decode s pos).2 - 1) (by omega)).1
    omega
  · by_cases c : j < pos
    · exact hno j b c hb
    · obtain ⟨k, rfl⟩ : ∃ k, j = pos + k := ⟨j - pos, by omega⟩
      have := hs k (by omega)
      have hb' := data_get! s (pos + k) this.1 b hb
      exact hc b (by rw [hb']; exact this.2)
/-- NUL, CR and LF -/
abbrev ncl : ByteArray := ⟨#[0, 13, 10]⟩
theorem ncl_low : ∀ (i : Nat) (h : i < 3), ((ncl[i]'h).toNat) < 128
  | 0, h => show (ncl[0]'(by decide)).toNat < 128 by decide
  | 1, h => show (ncl[1]'(by decide)).toNat < 128 by decide
  | 2, h => show (ncl[2]'(by decide)).toNat < 128 by decide
theorem ib_none (c : UInt8) (hc : 128 ≤ c.toNat) : ∀ l : List UInt8, (∀ b ∈ l, b.toNat < 128) → Lib.indexByte l c = -1
  | [], _ => rfl
  | b :: l, h => by
    have hb : b ≠ c := fun e => by have := h b (by simp); rw [e] at this; omega
    have ih := ib_none c hc l (fun x hx => h x (by simp [hx]))
    rw [Lib.indexByte, if_neg (by simpa using hb), ih]
    rfl
set_option maxHeartbeats 4000000 in
set_option maxRecDepth 1000000 in
theorem indexRune_bad (w : World) : Calls Try.prog 61 #[.string ncl, .int .i32 65533] w fun e w' => e = .returned (.int .i64 (-1)) ∧ Below w.heap.size w w' := by
  go_enter Try.func61, Try.ntmps61
  go_wp2
  go_loopg [5, 6] 3 (fun g _ _ wx => ∃ i : Nat, i + g = 3 ∧ wx = w.iter ncl i)
  case atStart => exact ⟨0, rfl, rfl⟩
  case round =>
    obtain ⟨i, hig, rfl⟩ := hrel
    cases gk with
    | zero =>
      obtain rfl : i = 3 := by omega
      have hnx := run_next_end (P := Try.prog) w ncl 3
      go_wp2
      go_ret
      exact ⟨rfl, (Below.refl _ _).alloc (Nat.le_refl _) _⟩
    | succ g =>
      have h3 : i < 3 := by omega
      have hlo := ncl_low i h3
      have hnx := fun ty => run_next_ascii (P := Try.prog) w ncl i ty h3 hlo
      have hlt : ((((ncl)[i]'h3).toNat : Int) == 65533) = false := beq_eq_false_iff_ne.2 (by omega)
      clear hlo
      go_wp2
      go_roundg g
      case measure => omega
      case rel => exact ⟨i + 1, by omega, rfl⟩
set_option maxHeartbeats 4000000 in
set_option maxRecDepth 1000000 in
theorem indexRune_not (r : Int) (h0 : 128 ≤ r) (hn : r ≠ 65533) (hv : Lib.validRune r = false) (w : World) :
    Calls Try.prog 61 #[.string ncl, .int .i32 r] w fun e w' => e = .returned (.int .i64 (-1)) ∧ Below w.heap.size w w' := by
  have q1 : decide (r < 128) = false := decide_eq_false (by omega)
  have q0 : decide (0 ≤ r) = true := decide_eq_true (by omega)
  have q2 : (r == 65533) = false := beq_eq_false_iff_ne.2 hn
  go_enter Try.func61, Try.ntmps61
  go_wp2_with (go_at_call 74; refine (Try.utf8_ValidRune _ _).mono ?_; rintro e w' ⟨rfl, hw⟩; rw [hw, hv])
  go_ret
  exact ⟨rfl, Below.refl _ _⟩
theorem validRune_eq (r : Int) : Lib.validRune r = Utf8.valid r := by
  rw [Bool.eq_iff_iff]
  simp only [Lib.validRune, Utf8.valid, decide_eq_true_eq, Bool.or_eq_true, Bool.and_eq_true]
  omega
set_option maxHeartbeats 8000000 in
set_option maxRecDepth 1000000 in
theorem indexRune_two (r : Int) (h0 : 128 ≤ r) (hn : r ≠ 65533) (hv : Lib.validRune r = true) (b0 b1 : UInt8) (he : Utf8.encode r = ⟨#[b0, b1]⟩) (hb : 128 ≤ b1.toNat) (w : World) :
    Calls Try.prog 61 #[.string ncl, .int .i32 r] w fun e w' => e = .returned (.int .i64 (-1)) ∧ Below w.heap.size w w' := by
  have q1 : decide (r < 128) = false := decide_eq_false (by omega)
  have q0 : decide (0 ≤ r) = true := decide_eq_true (by omega)
  have q2 : (r == 65533) = false := beq_eq_false_iff_ne.2 hn
  have hcv : ∀ W, (convert 21 9 (.int .i32 r)).run Try.prog W = .ok (.string ⟨#[b0, b1]⟩) W := fun W => he ▸ run_convert_int_string W 21 9 .i32 r (by kernel_rfl) Try.underlying9
  have q3 : (((((⟨#[0, 13, 10]⟩ : ByteArray)[1]'(by decide)).toNat : Int)) != ((((⟨#[b0, b1]⟩ : ByteArray)[1]'(by simp [ByteArray.size])).toNat : Int))) = true := by
    show ((((13 : UInt8).toNat : Int)) != (b1.toNat : Int)) = true
    rw [bne_iff_ne]
    have : (13 : UInt8).toNat = 13 := rfl
    omega
  have hbk : ((b1.toNat : Int)).toNat.toUInt8 = b1 := by simp
  have HIB := Lib.hid (show ∀ c, c = b1 → Lib.indexByte ([10] : List UInt8) c = -1 from fun c hc => hc ▸ ib_none b1 hb _ (by simp))
  have hw64 : wrap64 2 = 2 := by kernel_rfl
  have hxt : ncl.extract 2 3 = ⟨#[10]⟩ := by rfl
  clear h0 hn he hb
  go_enter Try.func61, Try.ntmps61
  go_wp2_with (go_at_call 74; refine (Try.utf8_ValidRune _ _).mono ?_; rintro e w' ⟨rfl, hw⟩; rw [hw, hv])
  go_step3
  go_wp2
  go_loopw [9] (fun v wr => v = .int .i64 1 ∧ wr = w) (fun _ _ => 0)
  case atStart => exact ⟨rfl, rfl⟩
  case round =>
    obtain ⟨rfl, rfl⟩ := hrel
    clear hw
    go_wp2
    go_step3
    go_wp2
    go_region
    go_wp2
    refine start_ (n := 9) (S := fun w' => True) (ds := []) #[false, false, false, false, false, false, false, false, false] (by kernel_rfl) rfl rfl (trivial) (fun hHeld => ?_)
    generalize hdr : wr.drew = w2 at hHeld ⊢
    have HB2 := Lib.hid (show Below wr.heap.size wr w2 from hdr ▸ below_drew1 (Below.refl _ _))
    clear hdr
    refine pure_ (i := 0) (N := some 34) (v := ?_) (a' := ?_) #[true, false, false, false, false, false, false, false, false] rfl rfl (by kernel_rfl) (fun _ _ _ h => h) (Or.inl ⟨by rfl, ?_⟩) ?_ ?_
    rotate_left
    · intro w'
      go_simp
      with_reducible rfl
    rotate_left
    · simp only [Act.put, List.setIfInBounds_toArray, List.set_cons_zero, List.set_cons_succ, i64_w, i32_w]
      rfl
    refine pure_ (i := 1) (N := some 35) (v := ?_) (a' := ?_) #[true, true, false, false, false, false, false, false, false] rfl rfl (by kernel_rfl) (fun _ _ _ h => h) (Or.inl ⟨by rfl, ?_⟩) ?_ ?_
    rotate_left
    · intro w'
      go_simp
      with_reducible rfl
    rotate_left
    · simp only [Act.put, List.setIfInBounds_toArray, List.set_cons_zero, List.set_cons_succ, i64_w, i32_w]
      rfl
    refine pure_ (i := 2) (N := some 36) (v := ?_) (a' := ?_) #[true, true, true, false, false, false, false, false, false] rfl rfl (by kernel_rfl) (fun _ _ _ h => h) (Or.inl ⟨by rfl, ?_⟩) ?_ ?_
    rotate_left
    · intro w'
      go_simp
      with_reducible rfl
    rotate_left
    · simp only [Act.put, List.setIfInBounds_toArray, List.set_cons_zero, List.set_cons_succ, i64_w, i32_w]
      rfl
    refine pure_ (i := 3) (N := some 37) (v := ?_) (a' := ?_) #[true, true, true, true, false, false, false, false, false] rfl rfl (by kernel_rfl) (fun _ _ _ h => h) (Or.inl ⟨by rfl, ?_⟩) ?_ ?_
    rotate_left
    · intro w'
      go_simp
      with_reducible rfl
    rotate_left
    · simp only [Act.put, List.setIfInBounds_toArray, List.set_cons_zero, List.set_cons_succ, i64_w, i32_w]
      rfl
    refine pure_ (i := 4) (N := some 38) (v := ?_) (a' := ?_) #[true, true, true, true, true, false, false, false, false] rfl rfl (by kernel_rfl) (fun _ _ _ h => h) (Or.inl ⟨by rfl, ?_⟩) ?_ ?_
    rotate_left
    · intro w'
      go_simp
      with_reducible rfl
    rotate_left
    · simp only [Act.put, List.setIfInBounds_toArray, List.set_cons_zero, List.set_cons_succ, i64_w, i32_w]
      rfl
    refine pure_ (i := 5) (N := some 39) (v := ?_) (a' := ?_) #[true, true, true, true, true, true, false, false, false] rfl rfl (by kernel_rfl) (fun _ _ _ h => h) (Or.inl ⟨by rfl, ?_⟩) ?_ ?_
    rotate_left
    · intro w'
      go_simp
      with_reducible rfl
    rotate_left
    · simp only [Act.put, List.setIfInBounds_toArray, List.set_cons_zero, List.set_cons_succ, i64_w, i32_w]
      rfl
    refine take_ (i := 6) (N := some 40) (v := ?_) (a' := ?_) #[true, true, true, true, true, true, true, false, false] rfl rfl (by kernel_rfl) (fun _ _ _ h => h) (Or.inl ⟨by rfl, ?_⟩) hHeld ?_ ?_
    rotate_left
    · intro w' s0
      go_simp
      with_reducible rfl
    rotate_left
    · simp only [Act.put, List.setIfInBounds_toArray, List.set_cons_zero, List.set_cons_succ, i64_w, i32_w]
      rfl
    refine one_ (i := 7) (N := some 41) #[true, true, true, true, true, true, true, true, false] rfl rfl (by kernel_rfl) (by decide) (fun K hK => ?_)
    refine goes_ Try.func73 (by kernel_rfl) rfl #[.string ⟨#[10]⟩, .int .u8 b1.toNat] (by rfl) rfl rfl (by simp only [List.map_toArray, List.map_cons, List.map_nil]; rfl) ?_
    with_reducible refine (Try.strings_IndexByte _ _ _).mono ?_
    rintro e w3 ⟨rfl, hw3⟩
    refine ⟨_, rfl, ?_⟩
    refine hK.out _ _ trivial (fun hHeld => ?_)
    clear hK K
    refine norm_ (a' := ?_) ?_ ?_
    rotate_left
    · show Act.put _ (some 41) _ = _
      simp only [Act.put, List.setIfInBounds_toArray, List.set_cons_zero, List.set_cons_succ, i64_w, i32_w]
      rfl
    refine pure_ (i := 8) (N := some 11) (v := ?_) (a' := ?_) #[true, true, true, true, true, true, true, true, true] rfl rfl (by kernel_rfl) (fun _ _ _ h => h) (Or.inl ⟨by rfl, ?_⟩) ?_ ?_
    rotate_left
    · intro w'
      go_simp
      with_reducible rfl
    rotate_left
    · simp only [Act.put, List.setIfInBounds_toArray, List.set_cons_zero, List.set_cons_succ, i64_w, i32_w]
      rfl
    refine done_ (by kernel_rfl) ?_

    rw [hw3, hbk, HIB.out _ rfl]
    go_wp2
    change bodyPost Try.prog Try.f61 (fun e w' => e = Ending.returned (Value.int IntKind.i64 (-1)) ∧ Below wr.heap.size wr w') Exit.ret _ _
    go_ret
    exact ⟨rfl, HB2.out.drew⟩
set_option maxHeartbeats 8000000 in
set_option maxRecDepth 1000000 in
theorem indexRune_three (r : Int) (h0 : 128 ≤ r) (hn : r ≠ 65533) (hv : Lib.validRune r = true) (b0 b1 b2 : UInt8) (he : Utf8.encode r = ⟨#[b0, b1, b2]⟩) (hb : 128 ≤ b2.toNat) (w : World) :
    Calls Try.prog 61 #[.string ncl, .int .i32 r] w fun e w' => e = .returned (.int .i64 (-1)) ∧ Below w.heap.size w w' := by
  have q1 : decide (r < 128) = false := decide_eq_false (by omega)
  have q0 : decide (0 ≤ r) = true := decide_eq_true (by omega)
  have q2 : (r == 65533) = false := beq_eq_false_iff_ne.2 hn
  have hcv : ∀ W, (convert 21 9 (.int .i32 r)).run Try.prog W = .ok (.string ⟨#[b0, b1, b2]⟩) W := fun W => he ▸ run_convert_int_string W 21 9 .i32 r (by kernel_rfl) Try.underlying9
  have q3 : (((((⟨#[0, 13, 10]⟩ : ByteArray)[2]'(by decide)).toNat : Int)) != ((((⟨#[b0, b1, b2]⟩ : ByteArray)[2]'(by simp [ByteArray.size])).toNat : Int))) = true := by
    show ((((10 : UInt8).toNat : Int)) != (b2.toNat : Int)) = true
    rw [bne_iff_ne]
    have : (10 : UInt8).toNat = 10 := rfl
    omega
  have hbk : ((b2.toNat : Int)).toNat.toUInt8 = b2 := by simp
  have HIB := Lib.hid (show ∀ c, c = b2 → Lib.indexByte ([] : List UInt8) c = -1 from fun c hc => hc ▸ ib_none b2 hb _ (by simp))
  have hw64 : wrap64 3 = 3 := by kernel_rfl
  have hxt : ncl.extract 3 3 = ⟨#[]⟩ := by rfl
  clear h0 hn he hb
  go_enter Try.func61, Try.ntmps61
  go_wp2_with (go_at_call 74; refine (Try.utf8_ValidRune _ _).mono ?_; rintro e w' ⟨rfl, hw⟩; rw [hw, hv])
  go_step3
  go_wp2
  go_loopw [9] (fun v wr => v = .int .i64 2 ∧ wr = w) (fun _ _ => 0)
  case atStart => exact ⟨rfl, rfl⟩
  case round =>
    obtain ⟨rfl, rfl⟩ := hrel
    clear hw
    go_wp2
    go_step3
    go_wp2
    go_region
    go_wp2
    refine start_ (n := 9) (S := fun w' => True) (ds := []) #[false, false, false, false, false, false, false, false, false] (by kernel_rfl) rfl rfl (trivial) (fun hHeld => ?_)
    generalize hdr : wr.drew = w2 at hHeld ⊢
    have HB2 := Lib.hid (show Below wr.heap.size wr w2 from hdr ▸ below_drew1 (Below.refl _ _))
    clear hdr
    refine pure_ (i := 0) (N := some 34) (v := ?_) (a' := ?_) #[true, false, false, false, false, false, false, false, false] rfl rfl (by kernel_rfl) (fun _ _ _ h => h) (Or.inl ⟨by rfl, ?_⟩) ?_ ?_
    rotate_left
    · intro w'
      go_simp
      with_reducible rfl
    rotate_left
    · simp only [Act.put, List.setIfInBounds_toArray, List.set_cons_zero, List.set_cons_succ, i64_w, i32_w]
      rfl
    refine pure_ (i := 1) (N := some 35) (v := ?_) (a' := ?_) #[true, true, false, false, false, false, false, false, false] rfl rfl (by kernel_rfl) (fun _ _ _ h => h) (Or.inl ⟨by rfl, ?_⟩) ?_ ?_
    rotate_left
    · intro w'
      go_simp
      with_reducible rfl
    rotate_left
    · simp only [Act.put, List.setIfInBounds_toArray, List.set_cons_zero, List.set_cons_succ, i64_w, i32_w]
      rfl
    refine pure_ (i := 2) (N := some 36) (v := ?_) (a' := ?_) #[true, true, true, false, false, false, false, false, false] rfl rfl (by kernel_rfl) (fun _ _ _ h => h) (Or.inl ⟨by rfl, ?_⟩) ?_ ?_
    rotate_left
    · intro w'
      go_simp
      with_reducible rfl
    rotate_left
    · simp only [Act.put, List.setIfInBounds_toArray, List.set_cons_zero, List.set_cons_succ, i64_w, i32_w]
      rfl
    refine pure_ (i := 3) (N := some 37) (v := ?_) (a' := ?_) #[true, true, true, true, false, false, false, false, false] rfl rfl (by kernel_rfl) (fun _ _ _ h => h) (Or.inl ⟨by rfl, ?_⟩) ?_ ?_
    rotate_left
    · intro w'
      go_simp
      with_reducible rfl
    rotate_left
    · simp only [Act.put, List.setIfInBounds_toArray, List.set_cons_zero, List.set_cons_succ, i64_w, i32_w]
      rfl
    refine pure_ (i := 4) (N := some 38) (v := ?_) (a' := ?_) #[true, true, true, true, true, false, false, false, false] rfl rfl (by kernel_rfl) (fun _ _ _ h => h) (Or.inl ⟨by rfl, ?_⟩) ?_ ?_
    rotate_left
    · intro w'
      go_simp
      with_reducible rfl
    rotate_left
    · simp only [Act.put, List.setIfInBounds_toArray, List.set_cons_zero, List.set_cons_succ, i64_w, i32_w]
      rfl
    refine pure_ (i := 5) (N := some 39) (v := ?_) (a' := ?_) #[true, true, true, true, true, true, false, false, false] rfl rfl (by kernel_rfl) (fun _ _ _ h => h) (Or.inl ⟨by rfl, ?_⟩) ?_ ?_
    rotate_left
    · intro w'
      go_simp
      with_reducible rfl
    rotate_left
    · simp only [Act.put, List.setIfInBounds_toArray, List.set_cons_zero, List.set_cons_succ, i64_w, i32_w]
      rfl
    refine take_ (i := 6) (N := some 40) (v := ?_) (a' := ?_) #[true, true, true, true, true, true, true, false, false] rfl rfl (by kernel_rfl) (fun _ _ _ h => h) (Or.inl ⟨by rfl, ?_⟩) hHeld ?_ ?_
    rotate_left
    · intro w' s0
      go_simp
      with_reducible rfl
    rotate_left
    · simp only [Act.put, List.setIfInBounds_toArray, List.set_cons_zero, List.set_cons_succ, i64_w, i32_w]
      rfl
    refine one_ (i := 7) (N := some 41) #[true, true, true, true, true, true, true, true, false] rfl rfl (by kernel_rfl) (by decide) (fun K hK => ?_)
    refine goes_ Try.func73 (by kernel_rfl) rfl #[.string ⟨#[]⟩, .int .u8 b2.toNat] (by rfl) rfl rfl (by simp only [List.map_toArray, List.map_cons, List.map_nil]; rfl) ?_
    with_reducible refine (Try.strings_IndexByte _ _ _).mono ?_
    rintro e w3 ⟨rfl, hw3⟩
    refine ⟨_, rfl, ?_⟩
    refine hK.out _ _ trivial (fun hHeld => ?_)
    clear hK K
    refine norm_ (a' := ?_) ?_ ?_
    rotate_left
    · show Act.put _ (some 41) _ = _
      simp only [Act.put, List.setIfInBounds_toArray, List.set_cons_zero, List.set_cons_succ, i64_w, i32_w]
      rfl
    refine pure_ (i := 8) (N := some 11) (v := ?_) (a' := ?_) #[true, true, true, true, true, true, true, true, true] rfl rfl (by kernel_rfl) (fun _ _ _ h => h) (Or.inl ⟨by rfl, ?_⟩) ?_ ?_
    rotate_left
    · intro w'
      go_simp
      with_reducible rfl
    rotate_left
    · simp only [Act.put, List.setIfInBounds_toArray, List.set_cons_zero, List.set_cons_succ, i64_w, i32_w]
      rfl
    refine done_ (by kernel_rfl) ?_

    rw [hw3, hbk, HIB.out _ rfl]
    go_wp2
    change bodyPost Try.prog Try.f61 (fun e w' => e = Ending.returned (Value.int IntKind.i64 (-1)) ∧ Below wr.heap.size wr w') Exit.ret _ _
    go_ret
    exact ⟨rfl, HB2.out.drew⟩
end Go.Proofs.Yticjpjgfccbhlaa.Sasl
