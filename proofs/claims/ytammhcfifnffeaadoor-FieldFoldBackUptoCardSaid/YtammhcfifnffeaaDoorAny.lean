/- strings.ContainsAny(s, a carriage return and a line feed) at ANY bytes. -/
import Derived.Test.YtammhcfifnffeaaDoorShelf
import Derived.Laws.RangeAny
import Derived.Laws.Runes
import Derived.Laws.Strings3
import Derived.Deep.LoopGhost
import Derived.Lib.Hide
import Derived.Lib.OthersKept
import Derived.Test.YtammhcfifnffeaaDoorWWords
import Derived.Test.YtammhcfifnffeaaDoorWLast
import Derived.Test.YtammhcfifnffeaaDoorWMore
import Derived.WalkMore
namespace Go.Proofs.YtammhcfifnffeaaDoor.AnyEnd
open Go.RowKit Go.Shelf Go.Proofs.YtammhcfifnffeaaDoorW.PrintWords Go.Proofs.YtammhcfifnffeaaDoorW.PrintLast Go.Proofs.YtammhcfifnffeaaDoorW.PrintMore
set_option linter.unusedVariables false
set_option linter.unusedSimpArgs false

/-- what a byte past ASCII begins has no ASCII byte in it -/
theorem decode_bytes (s : ByteArray) (pos : Nat) (h : pos < s.size) (ha : 128 ≤ (s[pos]'h).toNat) (k : Nat) (hk : k < (Utf8.decode s pos).2) : pos + k < s.size ∧ 128 ≤ (s.get! (pos + k)).toNat := by
  have h0 : 128 ≤ (s.get! (pos + 0)).toNat := by rw [get_at s pos h]; exact ha
  have hn : ¬ (s.get! (pos + 0)).toNat < 128 := by omega
  have key : ∀ j, (decide (pos + j < s.size) && ((s.get! (pos + j)).toNat / 64 == 2)) = true → pos + j < s.size ∧ 128 ≤ (s.get! (pos + j)).toNat := by
    intro j hj
    simp only [Bool.and_eq_true, decide_eq_true_eq, beq_iff_eq] at hj
    omega
  have z : pos + 0 < s.size ∧ 128 ≤ (s.get! (pos + 0)).toNat := ⟨by omega, h0⟩
  simp only [Utf8.decode, hn, if_false] at hk
  split at hk
  · rename_i c
    simp only [Bool.and_eq_true] at c
    split at hk
    · rcases (show k = 0 ∨ k = 1 by simp only at hk; omega) with rfl | rfl
      · exact z
      · exact key 1 (by simp only [Bool.and_eq_true]; exact c.2)
    · obtain rfl : k = 0 := by simp only at hk; omega
      exact z
  · split at hk
    · rename_i c
      simp only [Bool.and_eq_true] at c
      split at hk
      · rcases (show k = 0 ∨ k = 1 ∨ k = 2 by simp only at hk; omega) with rfl | rfl | rfl
        · exact z
        · exact key 1 (by simp only [Bool.and_eq_true]; exact c.1.2)
        · exact key 2 (by simp only [Bool.and_eq_true]; exact c.2)
      · obtain rfl : k = 0 := by simp only at hk; omega
        exact z
    · split at hk
      · rename_i c
        simp only [Bool.and_eq_true] at c
        split at hk
        · rcases (show k = 0 ∨ k = 1 ∨ k = 2 ∨ k = 3 by simp only at hk; omega) with rfl | rfl | rfl | rfl
          · exact z
          · exact key 1 (by simp only [Bool.and_eq_true]; exact c.1.1.2)
          · exact key 2 (by simp only [Bool.and_eq_true]; exact c.1.2)
          · exact key 3 (by simp only [Bool.and_eq_true]; exact c.2)
        · obtain rfl : k = 0 := by simp only at hk; omega
          exact z
      · obtain rfl : k = 0 := by simp only at hk; omega
        exact z

theorem encode_high (r : Int) (hr : 128 ≤ r) : (∃ a b : UInt8, Utf8.encode r = ⟨#[a, b]⟩ ∧ 128 ≤ b.toNat) ∨ (3 ≤ (Utf8.encode r).size ∧ (Utf8.encode r).size ≤ 4) := by
  unfold Utf8.encode
  have hc : 128 ≤ (if Utf8.valid r = true then r.toNat else Utf8.runeError) := by
    split
    · omega
    · decide
  generalize (if Utf8.valid r = true then r.toNat else Utf8.runeError) = c at hc
  simp only
  rw [if_neg (by omega)]
  split
  · refine .inl ⟨_, _, rfl, ?_⟩
    rw [UInt8.toNat_ofNat']
    omega
  · right
    split <;> simp [ByteArray.size]

set_option maxHeartbeats 2000000 in
set_option maxRecDepth 100000 in
theorem IndexRune_calls (r : Int) (h0 : 128 ≤ r) (h1 : r ≤ 2147483647) (w : World) :
    Calls Tryd.prog 75 #[.string ⟨#[13, 10]⟩, .int .i32 r] w fun e w' => e = .returned (.int .i64 (-1)) ∧ Below w.heap.size w w' := by
  have a1 : decide (r < 128) = false := decide_eq_false (by omega)
  have a2 : (0 : Int) ≤ r := by omega
  by_cases he : r = 65533
  · subst he
    go_enter Tryd.func75, Tryd.ntmps75
    go_wp2
    have hx0 : ∀ W : World, ∀ ty, (Instr.next (.pointer (some ⟨W.heap.size, 0, none⟩)) true ty).run Tryd.prog (W.iter ⟨#[13, 10]⟩ 0) = .ok (.tuple #[.bool true, .int .i64 0, .int .i32 13]) (W.iter ⟨#[13, 10]⟩ 1) := fun W ty => run_next_ascii W ⟨#[13, 10]⟩ 0 ty (by decide) (by decide)
    have hx1 : ∀ W : World, ∀ ty, (Instr.next (.pointer (some ⟨W.heap.size, 0, none⟩)) true ty).run Tryd.prog (W.iter ⟨#[13, 10]⟩ 1) = .ok (.tuple #[.bool true, .int .i64 1, .int .i32 10]) (W.iter ⟨#[13, 10]⟩ 2) := fun W ty => run_next_ascii W ⟨#[13, 10]⟩ 1 ty (by decide) (by decide)
    have hx2 : ∀ W : World, ∀ ty, (Instr.next (.pointer (some ⟨W.heap.size, 0, none⟩)) true ty).run Tryd.prog (W.iter ⟨#[13, 10]⟩ 2) = .ok (.tuple #[.bool false]) (W.iter ⟨#[13, 10]⟩ 2) := fun W ty => run_next_end W ⟨#[13, 10]⟩ 2 ty (by decide)
    go_loopg [5, 6] 2 (fun g _ _ wx => ∃ i : Nat, i + g = 2 ∧ wx = w.iter ⟨#[13, 10]⟩ i)
    case atStart => exact ⟨0, rfl, rfl⟩
    case round =>
      obtain ⟨i, hi, rfl⟩ := hrel
      cases gk with
      | zero =>
        obtain rfl : i = 2 := by omega
        have hx := hx2 w
        go_wp2
        go_ret
        exact ⟨rfl, (Below.refl _ _).alloc (Nat.le_refl _) _⟩
      | succ g =>
        rcases (show i = 0 ∨ i = 1 by omega) with rfl | rfl
        · have hx := hx0 w
          go_wp2
          go_roundg g
          case measure => omega
          case rel => exact ⟨1, by omega, rfl⟩
        · have hx := hx1 w
          go_wp2
          go_roundg g
          case measure => omega
          case rel => exact ⟨2, by omega, rfl⟩
  · have e1 : (r == 65533) = false := beq_eq_false_iff_ne.2 he
    go_enter Tryd.func75, Tryd.ntmps75
    go_wp2_with (go_at_call 81; refine (Tryd.utf8_ValidRune r _).mono ?_; rintro e w' ⟨rfl, hw⟩; rw [hw]; clear hw)
    · go_ret
      exact ⟨rfl, Below.refl _ _⟩
    have hs21 : (Tryd.prog.underlying 21).isSome = true := by rw [Tryd.underlying21]; rfl
    rcases encode_high r h0 with ⟨a, b, hE, hb⟩ | hE
    · have hb1 : ((10 : Int) != (b.toNat : Int)) = true := bne_iff_ne.2 (by omega)
      have hidx : Lib.indexByte (⟨#[]⟩ : ByteArray).data.toList ((b.toNat : Int).toNat.toUInt8) = -1 := rfl
      go_step3
      go_wp2
      go_loop [9] (fun v => v = .int .i64 1) (fun _ => 0)
      case atStart => rfl
      case round =>
        subst hrel
        go_wp2_with (go_at_call 91; refine (Tryd.strings_IndexByte ⟨#[]⟩ (b.toNat : Int) _).mono ?_; rintro e w' ⟨rfl, hw⟩; rw [hw]; clear hw)
        have hB : ∀ (s : ByteArray) (c : Int) (W : World), Calls Tryd.prog 91 #[.string s, .int .u8 c] W fun e w' => e = .returned (.int .i64 (Lib.indexByte s.data.toList c.toNat.toUInt8)) ∧ Drawn0 W w' := fun s c W => (Tryd.strings_IndexByte s c W).mono fun e w' h => ⟨h.1, h.2 ▸ Drawn0.refl _⟩
        have hb2 : ((((⟨#[13, 10]⟩ : ByteArray)[1]'(by show 1 < 2; omega)).toNat : Int) != (((⟨#[a, b]⟩ : ByteArray)[1]'(by show 1 < 2; omega)).toNat : Int)) = true := hb1
        have HB := Lib.hid hB
        clear hB hidx
        go_step3
        go_wp2
        repeat (go_quiet (first | (go_at_call 91; (with_reducible refine (HB.out _ _ _).mono ?_); rintro e w' ⟨rfl, ⟨nd, rfl⟩⟩; (try first | exact ⟨rfl, _, World.drewN_drewN _ _ _⟩ | exact ⟨rfl, _, Eq.trans (World.drewN_drewN _ _ _) (congrArg (World.drewN _) (Nat.add_assoc _ _ _))⟩))); try go_wp2_with (first | (go_at_call 91; (with_reducible refine (HB.out _ _ _).mono ?_); rintro e w' ⟨rfl, ⟨nd, rfl⟩⟩; (try first | exact ⟨rfl, _, World.drewN_drewN _ _ _⟩ | exact ⟨rfl, _, Eq.trans (World.drewN_drewN _ _ _) (congrArg (World.drewN _) (Nat.add_assoc _ _ _))⟩))))
        exact ⟨rfl, _, results_tmp rfl _ _ _, rfl, pw_below_drewN (Below.refl _ _) _⟩
    · obtain ⟨E, hE0⟩ : ∃ E : Nat, (Utf8.encode r).size = E := ⟨_, rfl⟩
      rw [hE0] at hE
      have hlt : ¬ ((E : Int) - 1 < 2) := by omega
      go_step3
      go_wp2
      go_loop [9] (fun v => v = .int .i64 ((E : Int) - 1)) (fun _ => 0)
      case atStart => rfl
      case round =>
        subst hrel
        go_wp2
        go_ret
        exact ⟨rfl, Below.refl _ _⟩

theorem at_of_get (s : ByteArray) (k : Nat) (h : k < s.size) : s.data.toList[k]? = some (s.get! k) := by
  show _ = some (s.get! (k + 0))
  rw [get_at s k h]
  exact Lib.data_getElem? s k h
theorem high_not (x : UInt8) (h : 128 ≤ x.toNat) : ([13, 10] : List UInt8).contains x = false := by
  simp only [List.contains_cons, List.contains_nil, Bool.or_false, Bool.or_eq_false_iff, beq_eq_false_iff_ne, ne_eq]
  constructor <;> rintro rfl <;> exact absurd h (by decide)
theorem noAny_more {s : ByteArray} {i : Nat} (h : Lib.NoAny s.data.toList [13, 10] i) (hi : i < s.size) (ha : 128 ≤ (s[i]'hi).toNat) : Lib.NoAny s.data.toList [13, 10] (i + (Utf8.decode s i).2) := by
  intro j b hj hb
  by_cases hji : j < i
  · exact h j b hji hb
  · have := decode_bytes s i hi ha (j - i) (by omega)
    rw [show i + (j - i) = j by omega] at this
    rw [at_of_get s j this.1] at hb
    cases hb
    exact high_not _ this.2
theorem step_le {s : ByteArray} {i : Nat} (hi : i < s.size) (ha : 128 ≤ (s[i]'hi).toNat) : i + (Utf8.decode s i).2 ≤ s.size := by
  rcases Nat.eq_zero_or_pos (Utf8.decode s i).2 with h | h
  · omega
  · have := decode_bytes s i hi ha ((Utf8.decode s i).2 - 1) (by omega)
    omega

set_option maxHeartbeats 4000000 in
set_option maxRecDepth 100000 in
theorem IndexAny_short (s : ByteArray) (w : World) (h8 : s.size ≤ 8) :
    Calls Tryd.prog 54 #[.string s, .string ⟨#[13, 10]⟩] w fun e w' => e = .returned (.int .i64 (Lib.indexAny s.data.toList [13, 10])) ∧ Below w.heap.size w w' := by
  have h8z : decide ((8 : Int) < (s.size : Int)) = false := decide_eq_false (by omega)
  go_enter Tryd.func54, Tryd.ntmps54
  go_wp2_with (go_at_call 76; refine (Tryd.strings_shouldUseASCIISet _ _).mono ?_; rintro e w' ⟨rfl, hw⟩; rw [hw, h8z])
  go_loopg [9, 10] s.size (fun g _ _ wx => ∃ i : Nat, i ≤ s.size ∧ s.size - i ≤ g ∧ wx.heap[w.heap.size]? = some (.stringIter s i) ∧ Below w.heap.size w wx ∧ Lib.NoAny s.data.toList [13, 10] i)
  case atStart => exact ⟨0, by omega, by omega, World.iter_heap w s 0, (Below.refl _ _).alloc (Nat.le_refl _) _, Lib.NoAny.zero _ _⟩
  case round =>
    obtain ⟨i, hile, hig, hit, hbel, hno⟩ := hrel
    have HN := Lib.hid hno
    have HI := Lib.hid hit
    have HB := Lib.hid hbel
    clear hno hbel
    by_cases hi : i < s.size
    · cases gk with
      | zero => omega
      | succ g =>
        by_cases ha : (s[i]'hi).toNat < 128
        · obtain ⟨x, hx⟩ : ∃ x : UInt8, s[i]'hi = x := ⟨_, rfl⟩
          have hxl : s.data.toList[i]? = some x := by rw [← hx]; exact Lib.data_getElem? s i hi
          have hnx := fun ty => Lib.run_next_ascii_at (P := Tryd.prog) wr w.heap.size s i ty hit hi ha
          rw [hx] at hnx ha
          have Hx := Lib.hid hxl
          have hback : ((x.toNat : Int)).toNat.toUInt8 = x := by simp
          have hcon := Lib.contains_iff_indexByte [13, 10] x
          clear hxl hx hit
          cases hin : ([13, 10] : List UInt8).contains x
          · rw [hin] at hcon
            have hlt : ¬ ((0 : Int) ≤ Lib.indexByte [13, 10] x) := of_decide_eq_false hcon.symm
            clear hcon
            go_wp2_with (go_at_call 75; refine (Tryd.strings_IndexRune_ascii _ _ _ (by omega) (by omega)).mono ?_; rintro e w' ⟨rfl, hw⟩; rw [hw, hback])
            go_roundg g
            case measure => omega
            case rel => exact ⟨i + 1, by omega, by omega, Lib.iterAt_heap _ _ _ _ _ HI.out, Lib.below_iterAt HB.out (Nat.le_refl _) _ _, HN.out.succ Hx.out hin⟩
          · rw [hin] at hcon
            have hge : (0 : Int) ≤ Lib.indexByte [13, 10] x := of_decide_eq_true hcon.symm
            clear hcon
            go_wp2_with (go_at_call 75; refine (Tryd.strings_IndexRune_ascii _ _ _ (by omega) (by omega)).mono ?_; rintro e w' ⟨rfl, hw⟩; rw [hw, hback])
            go_ret
            exact ⟨by rw [Lib.indexAny_hit HN.out Hx.out hin]; rfl, Lib.below_iterAt HB.out (Nat.le_refl _) _ _⟩
        · have hnx := fun ty => Lib.run_next_any_at (P := Tryd.prog) wr w.heap.size s i ty hit hi
          have hd := decode_high s i hi (by omega)
          have hle := decode_le s i
          have hno2 := noAny_more HN.out hi (by omega)
          have hst := step_le hi (by omega)
          generalize Utf8.decode s i = D at hnx hd hle hno2 hst
          obtain ⟨r, n⟩ := D
          simp only at hnx hd hle hno2 hst
          have HN2 := Lib.hid hno2
          clear hno2 hit
          go_wp2_with (go_at_call 75; refine (IndexRune_calls (r : Int) (by omega) (by omega) _).mono ?_; rintro e w' ⟨rfl, hw⟩)
          go_roundg g
          case measure => omega
          case rel =>
            have hi1 := Lib.iterAt_heap wr w.heap.size s i (i + n) HI.out
            refine ⟨i + n, hst, by omega, (hw.block _ (Array.getElem?_eq_some_iff.1 hi1).1).trans hi1, ?_, HN2.out⟩
            have hb := Lib.below_iterAt HB.out (Nat.le_refl w.heap.size) s (i + n)
            exact hb.trans (hw.mono hb.size)
    · have hnx := fun ty => Lib.run_next_end_at (P := Tryd.prog) wr w.heap.size s i ty hit hi
      obtain rfl : i = s.size := by omega
      clear hit
      go_wp2
      go_ret
      exact ⟨by rw [Lib.indexAny_none (by rw [← Lib.size_eq]; exact HN.out)]; rfl, HB.out⟩

theorem crlf_low : ∀ (j : Nat) b, (⟨#[13, 10]⟩ : ByteArray).data.toList[j]? = some b → b.toNat < 128 := by
  intro j b h
  match j with
  | 0 => cases h; decide
  | 1 => cases h; decide
  | j + 2 => simp at h
theorem IndexAny_calls (s : ByteArray) (w : World) (hs : s.size < 4294967281) :
    Calls Tryd.prog 54 #[.string s, .string ⟨#[13, 10]⟩] w fun e w' => e = .returned (.int .i64 (Lib.indexAny s.data.toList [13, 10])) ∧ Below w.heap.size w w' := by
  by_cases h8 : s.size ≤ 8
  · exact IndexAny_short s w h8
  · refine (Tryd.strings_IndexAny_long (zero_of_info (P := Tryd.prog) (t := 84) (n := 256) (by kernel_rfl)).1 s ⟨#[13, 10]⟩ w (by decide) (by omega) hs (by decide) crlf_low).mono ?_
    rintro e w' ⟨h1, h2⟩
    refine ⟨h1, ?_⟩
    rw [h2]
    exact ((Below.refl _ _).alloc (Nat.le_refl _) _).alloc (by simp) _
/-- a carriage return or a line feed stands in it -/
def hasEnd (l : List UInt8) : Bool := l.any fun b => b == 13 || b == 10
theorem indexAny_end : ∀ l : List UInt8, decide (0 ≤ Lib.indexAny l [13, 10]) = hasEnd l
  | [] => by decide
  | b :: l => by
    have ih := indexAny_end l
    have hge := Lib.indexAny_ge [13, 10] l
    have hc : ([13, 10] : List UInt8).contains b = (b == 13 || b == 10) := by simp only [List.contains_cons, List.contains_nil, Bool.or_false]
    simp only [hasEnd, List.any_cons] at ih ⊢
    unfold Lib.indexAny
    rw [hc]
    cases h : (b == 13 || b == 10)
    · rw [Bool.false_or, ← ih]
      simp only [Bool.false_eq_true, if_false]
      by_cases h2 : Lib.indexAny l [13, 10] = -1
      · simp [h2]
      · have e : (Lib.indexAny l [13, 10] == -1) = false := beq_eq_false_iff_ne.2 h2
        simp only [e, Bool.false_eq_true, if_false, decide_eq_decide]
        omega
    · simp
set_option maxRecDepth 100000 in
theorem ContainsAny_calls (s : ByteArray) (w : World) (hs : s.size < 4294967281) :
    Calls Tryd.prog 35 #[.string s, .string ⟨#[13, 10]⟩] w fun e w' => e = .returned (.bool (hasEnd s.data.toList)) ∧ Below w.heap.size w w' := by
  have hE := indexAny_end s.data.toList
  go_enter Tryd.func35, Tryd.ntmps35
  go_wp2_with (go_at_call 54; refine (IndexAny_calls s _ hs).mono ?_; rintro e w' ⟨rfl, hw⟩)
  go_ret
  exact ⟨rfl, hw⟩

/-- blanks and tabs alone -/
def blanksB (l : List UInt8) : Bool := l.all fun b => b == 32 || b == 9
theorem dropWhile_nil {α : Type} (p : α → Bool) : ∀ l : List α, (l.dropWhile p = [] ↔ l.all p = true)
  | [] => by simp
  | b :: l => by
    rw [List.dropWhile_cons]
    cases h : p b
    · simp [h]
    · simp [h, dropWhile_nil p l]
theorem blank_contains (b : UInt8) : ([32, 9] : List UInt8).contains b = (b == 32 || b == 9) := by
  simp only [List.contains_cons, List.contains_nil, Bool.or_false]
theorem trim_nil (l : List UInt8) : ((Lib.trimS l [32, 9]) = [] ↔ blanksB l = true) := by
  have hp : (fun b : UInt8 => ([32, 9] : List UInt8).contains b) = fun b => b == 32 || b == 9 := funext blank_contains
  unfold Lib.trimS Lib.trimLeftS Lib.trimRightS blanksB
  rw [dropWhile_nil, hp, List.all_reverse]
  constructor
  · intro h
    rw [← List.all_reverse]
    rw [← dropWhile_nil]
    cases hc : l.reverse.dropWhile (fun b => b == 32 || b == 9) with
    | nil => rfl
    | cons x r =>
      rw [hc] at h
      have h1 : (x == 32 || x == 9) = true := by
        have := List.all_eq_true.1 h x List.mem_cons_self
        exact this
      have h2 := List.head?_dropWhile_not (fun b : UInt8 => b == 32 || b == 9) l.reverse
      rw [hc] at h2
      simp only [List.head?_cons] at h2
      rw [h1] at h2
      cases h2
  · intro h
    have : l.reverse.dropWhile (fun b => b == 32 || b == 9) = [] := by rw [dropWhile_nil, List.all_reverse]; exact h
    rw [this]
    rfl
theorem blank_low : ∀ (j : Nat) b, (⟨#[32, 9]⟩ : ByteArray).data.toList[j]? = some b → b.toNat < 128 := by
  intro j b h
  match j with
  | 0 => cases h; decide
  | 1 => cases h; decide
  | j + 2 => simp at h
set_option maxRecDepth 100000 in
theorem empty_calls (s : ByteArray) (w : World) (hs : s.size ≤ 9223372036854775807) :
    Calls Tryd.prog 33 #[.string s] w fun e w' => e = .returned (.bool (blanksB s.data.toList)) ∧ Below w.heap.size w w' := by
  have hT := Any.strings_Trim_laid Tryd.lays160 (by kernel_rfl) s ⟨#[32, 9]⟩ w hs (by decide) blank_low
  have hE : (Lib.trimS s.data.toList [32, 9]).isEmpty = blanksB s.data.toList := by
    have := trim_nil s.data.toList
    cases h : blanksB s.data.toList with
    | true => rw [this.2 h]; rfl
    | false =>
      cases h2 : Lib.trimS s.data.toList [32, 9] with
      | nil => rw [this.1 h2] at h; cases h
      | cons _ _ => rfl
  have HT := Lib.hid hT
  clear hT
  go_enter Tryd.func33, Tryd.ntmps33
  go_wp2_with (go_at_call 53; refine HT.out.mono ?_; rintro e w' ⟨rfl, hw⟩)
  go_ret
  exact ⟨rfl, hw⟩
end Go.Proofs.YtammhcfifnffeaaDoor.AnyEnd
