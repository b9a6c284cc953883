/- bytes.IndexAny(b, a carriage return and a line feed) at ANY bytes. -/
import Derived.Test.YtammhcfifnffeaaDoorAny
import Derived.Test.YtammhcfifnffeaaDoorBytes
import Derived.Lib.MapLaws
import Derived.Lib.LaidU8T
namespace Go.Proofs.YtammhcfifnffeaaDoor.BytesAny
open Go.RowKit Go.Shelf Go.Proofs.YtammhcfifnffeaaDoorW.PrintWords Go.Proofs.YtammhcfifnffeaaDoorW.PrintLast Go.Proofs.YtammhcfifnffeaaDoorW.PrintMore Go.Proofs.YtammhcfifnffeaaDoor.AnyEnd
set_option linter.unusedVariables false
set_option linter.unusedSimpArgs false

theorem enc_size (r : Nat) (hv : Utf8.valid (r : Int) = true) : (Utf8.encode (r : Int)).size = if r < 128 then 1 else if r < 2048 then 2 else if r < 65536 then 3 else 4 := by
  unfold Utf8.encode
  simp only [hv, if_true, Int.toNat_natCast]
  repeat' split
  all_goals first | rfl | omega
theorem encode_len (s : ByteArray) (h : 128 ≤ (s.get! 0).toNat) (hne : (Utf8.decode s 0).1 ≠ 65533) :
    (Utf8.encode ((Utf8.decode s 0).1 : Int)).size = (Utf8.decode s 0).2 ∧ 2 ≤ (Utf8.decode s 0).2 ∧ (Utf8.decode s 0).2 ≤ 4 := by
  rw [Lib.decode_at] at hne ⊢
  have hv : ∀ r : Nat, (r < 55296 ∨ 57343 < r) → r ≤ 1114111 → Utf8.valid (r : Int) = true := by
    intro r h1 h2
    unfold Utf8.valid
    simp
    omega
  simp only [Nat.sub_zero, Nat.zero_add] at hne ⊢
  rcases Lib.decodeN_shape s.size (s.get! 0).toNat (s.get! 1).toNat (s.get! 2).toNat (s.get! 3).toNat with ⟨h1, _⟩ | ⟨h1, _, h2, h3, e⟩ | ⟨h1, _, h2, h3, h4, h5, e⟩ | ⟨h1, _, h2, h3, h4, h5, h6, e⟩ | e
  · omega
  · rw [e]
    refine ⟨?_, by simp, by simp⟩
    have hlt : (s.get! 0).toNat % 32 * 64 + (s.get! 1).toNat % 64 < 2048 := by omega
    rw [enc_size _ (hv _ (by simp only; omega) (by simp only; omega)), if_neg (by simp only; omega), if_pos (by simp only; omega)]
  · rw [e]
    refine ⟨?_, by simp, by simp⟩
    have hlt : (s.get! 0).toNat % 16 * 4096 + (s.get! 1).toNat % 64 * 64 + (s.get! 2).toNat % 64 < 65536 := by omega
    rw [enc_size _ (hv _ (by simp only; omega) (by simp only; omega)), if_neg (by simp only; omega), if_neg (by simp only; omega), if_pos (by simp only; omega)]
  · rw [e]
    refine ⟨?_, by simp, by simp⟩
    rw [enc_size _ (hv _ (by simp only; omega) (by simp only; omega)), if_neg (by simp only; omega), if_neg (by simp only; omega), if_neg (by simp only; omega)]
  · rw [e] at hne
    exact absurd rfl hne

/-- bytes that lie at a place -/
def At (w : World) (b off : Nat) (s : ByteArray) : Prop := ∀ j, j < s.size → w.cell? ⟨b, off + j, none⟩ = some (.int .u8 (s.get! j).toNat)
theorem At.below {w w' : World} {b off : Nat} {s : ByteArray} (h : At w b off s) (hb : Below w.heap.size w w') : At w' b off s := fun j hj => (hb.cell (World.block_lt_of_cell? w _ (h j hj))).trans (h j hj)
theorem At.drop {w : World} {b off : Nat} {s : ByteArray} (h : At w b off s) (i : Nat) (hi : i ≤ s.size) : At w b (off + i) (s.extract i s.size) := by
  intro j hj
  have e : (s.extract i s.size).size = s.size - i := by simp [ByteArray.size_extract]
  rw [e] at hj
  have := h (i + j) (by omega)
  rw [Nat.add_assoc, this]
  congr 3
  have h1 : (s.extract i s.size).get! j = s.get! (i + j) := by
    have := get_at (s.extract i s.size) j (by omega)
    have h2 := get_at s (i + j) (by omega)
    simp only [Nat.add_zero] at this h2
    rw [this, h2]
    simp [ByteArray.getElem_extract]
  rw [h1]

set_option maxHeartbeats 2000000 in
set_option maxRecDepth 100000 in
theorem one (s : ByteArray) (b off cap : Nat) (w : World) (h : At w b off s) (h1 : s.size = 1) :
    Calls Tryd.prog 48 #[.slice (some ⟨b, off, none⟩) 1 cap, .string ⟨#[13, 10]⟩] w fun e w' => e = .returned (.int .i64 (Lib.indexAny s.data.toList [13, 10])) ∧ Below w.heap.size w w' := by
  obtain ⟨x, hx⟩ : ∃ x : UInt8, s.get! 0 = x := ⟨_, rfl⟩
  have hc : w.cell? ⟨b, off, none⟩ = some (.int .u8 x.toNat) := by rw [← hx]; exact h 0 (by omega)
  have hl : s.data.toList = [x] := by
    have hlen : s.data.toList.length = 1 := by rw [data_length]; exact h1
    have h0 : s.data.toList[0]? = some x := by rw [← hx]; exact at_of_get s 0 (by omega)
    match hs : s.data.toList, hlen with
    | [y], _ => rw [hs] at h0; simp at h0; rw [h0]
  rw [hl]
  clear h h1 hx hl
  have hw32 : wrap32 (x.toNat : Int) = (x.toNat : Int) := by have := x.toNat_lt; unfold wrap32; omega
  have hback : ((x.toNat : Int)).toNat.toUInt8 = x := by simp
  have hcon := Lib.contains_iff_indexByte [13, 10] x
  by_cases ha : x.toNat < 128
  · have hge : decide ((128 : Int) ≤ (x.toNat : Int)) = false := decide_eq_false (by omega)
    have hge2 : ¬ ((128 : Int) ≤ (x.toNat : Int)) := by omega
    have hidx : Lib.indexAny [x] [13, 10] = if (0 : Int) ≤ Lib.indexByte [13, 10] x then 0 else -1 := by
      unfold Lib.indexAny
      rw [hcon]
      by_cases h : (0 : Int) ≤ Lib.indexByte [13, 10] x
      · simp [h]
      · simp [h, Lib.indexAny]
    obtain ⟨q, hq⟩ : ∃ q, Lib.indexByte [13, 10] x = q := ⟨_, rfl⟩
    rw [hidx, hq]
    clear hidx hcon
    have HQ := Lib.hid hq
    clear hq
    by_cases h : (0 : Int) ≤ q
    · rw [if_pos h]
      go_enter Tryd.func48, Tryd.ntmps48
      go_wp2
      rw [run_callFunc_extern Tryd.func58 (by kernel_rfl) (by kernel_rfl) (by kernel_rfl) (e := Extern.BytealgIndexByte.indexByte) (by kernel_rfl), Lib.run_indexByteString, hback, show (⟨#[13, 10]⟩ : ByteArray).data.toList = [13, 10] from rfl, HQ.out]
      go_wp2
      go_ret
      exact ⟨rfl, Below.refl _ _⟩
    · rw [if_neg h]
      go_enter Tryd.func48, Tryd.ntmps48
      go_wp2
      rw [run_callFunc_extern Tryd.func58 (by kernel_rfl) (by kernel_rfl) (by kernel_rfl) (e := Extern.BytealgIndexByte.indexByte) (by kernel_rfl), Lib.run_indexByteString, hback, show (⟨#[13, 10]⟩ : ByteArray).data.toList = [13, 10] from rfl, HQ.out]
      go_wp2
      go_ret
      exact ⟨rfl, Below.refl _ _⟩
  · have hge : decide ((128 : Int) ≤ (x.toNat : Int)) = true := decide_eq_true (by omega)
    have hge2 : ((128 : Int) ≤ (x.toNat : Int)) := by omega
    have hidx : Lib.indexAny [x] [13, 10] = -1 := by
      have := high_not x (by omega)
      unfold Lib.indexAny
      rw [this]
      simp [Lib.indexAny]
    rw [hidx]
    clear hidx hcon
    have hx0 : ∀ W : World, ∀ ty, (Instr.next (.pointer (some ⟨W.heap.size, 0, none⟩)) true ty).run Tryd.prog (W.iter ⟨#[13, 10]⟩ 0) = .ok (.tuple #[.bool true, .int .i64 0, .int .i32 13]) (W.iter ⟨#[13, 10]⟩ 1) := fun W ty => run_next_ascii W ⟨#[13, 10]⟩ 0 ty (by decide) (by decide)
    have hx1 : ∀ W : World, ∀ ty, (Instr.next (.pointer (some ⟨W.heap.size, 0, none⟩)) true ty).run Tryd.prog (W.iter ⟨#[13, 10]⟩ 1) = .ok (.tuple #[.bool true, .int .i64 1, .int .i32 10]) (W.iter ⟨#[13, 10]⟩ 2) := fun W ty => run_next_ascii W ⟨#[13, 10]⟩ 1 ty (by decide) (by decide)
    have hx2 : ∀ W : World, ∀ ty, (Instr.next (.pointer (some ⟨W.heap.size, 0, none⟩)) true ty).run Tryd.prog (W.iter ⟨#[13, 10]⟩ 2) = .ok (.tuple #[.bool false]) (W.iter ⟨#[13, 10]⟩ 2) := fun W ty => run_next_end W ⟨#[13, 10]⟩ 2 ty (by decide)
    go_enter Tryd.func48, Tryd.ntmps48
    go_wp2
    go_loopg [5, 29, 30, 31, 32, 33] 2 (fun g _ _ _ _ _ _ wx => ∃ i : Nat, i + g = 2 ∧ wx = w.iter ⟨#[13, 10]⟩ i)
    case atStart => exact ⟨0, rfl, rfl⟩
    case round =>
      obtain ⟨i, hi, rfl⟩ := hrel
      cases gk with
      | zero =>
        obtain rfl : i = 2 := by omega
        have hx := hx2 w
        go_wp2
        go_ret
        exact ⟨rfl, (Below.refl _ _).alloc (Nat.le_refl _) _⟩
      | succ g =>
        rcases (show i = 0 ∨ i = 1 by omega) with rfl | rfl
        · have hx := hx0 w
          go_wp2
          go_roundg g
          case measure => omega
          case rel => exact ⟨1, by omega, rfl⟩
        · have hx := hx1 w
          go_wp2
          go_roundg g
          case measure => omega
          case rel => exact ⟨2, by omega, rfl⟩

set_option maxRecDepth 100000 in
theorem should (n : Int) (w : World) : Calls Tryd.prog 60 #[.int .i64 n] w fun e w' => e = .returned (.bool (decide (8 < n))) ∧ w' = w := by
  go_enter Tryd.func60, Tryd.ntmps60
  go_wp2
  go_ret
  exact ⟨rfl, rfl⟩
set_option maxHeartbeats 4000000 in
set_option maxRecDepth 100000 in
theorem long (s : ByteArray) (b off cap : Nat) (w : World) (h : At w b off s) (h8 : 8 < s.size) (hs : s.size < 4294967281) :
    Calls Tryd.prog 48 #[.slice (some ⟨b, off, none⟩) s.size cap, .string ⟨#[13, 10]⟩] w fun e w' => e = .returned (.int .i64 (Lib.indexAny s.data.toList [13, 10])) ∧ Below w.heap.size w w' := by
  have hz := zero_of_info (P := Tryd.prog) (t := 77) (v := .agg (Array.replicate 256 (.bool false))) (n := 256) (by kernel_rfl)
  have hM := Tryd.bytes_makeASCIISet hz.1 hz.2 ⟨#[13, 10]⟩ w (by decide) crlf_low
  rw [show (⟨#[13, 10]⟩ : ByteArray).data.toList = [13, 10] from rfl] at hM
  have hi77 := hz.2
  clear hz
  have h8z : decide ((8 : Int) < (s.size : Int)) = true := decide_eq_true (by omega)
  have hn1 : ((s.size : Int) == 1) = false := beq_eq_false_iff_ne.2 (by omega)
  have hsc : (storeCells ⟨w.heap.size + 1, 0, none⟩ (Lib.setCells [13, 10]).toList 0).run Tryd.prog ((w.alloc (.cells (Lib.setCells [13, 10]) 77)).alloc (.cells (Array.replicate 256 (.bool false)) 77)) = .ok () ((w.alloc (.cells (Lib.setCells [13, 10]) 77)).alloc (.cells (Lib.setCells [13, 10]) 77)) := by
    have := run_storeCells_new (P := Tryd.prog) (w.alloc (.cells (Lib.setCells [13, 10]) 77)) 77 (Array.replicate 256 (.bool false)) (Lib.setCells [13, 10]) (by rw [Lib.setCells_size]; exact hi77) (by rw [Lib.setCells_size, Array.size_replicate]) (Lib.setCells_one _)
    simpa using this
  have hsz := Lib.setCells_size [13, 10]
  have hcellAt : ∀ x : UInt8, ((w.alloc (.cells (Lib.setCells [13, 10]) 77)).alloc (.cells (Lib.setCells [13, 10]) 77)).cell? ⟨w.heap.size + 1, x.toNat, none⟩ = some (.bool (([13, 10] : List UInt8).contains x)) := fun x => by
    rw [World.cell?_alloc_at _ _ _ _ (by simp), Lib.setCells_at]
  have HC := Lib.hid hcellAt
  have hbel : Below w.heap.size w ((w.alloc (.cells (Lib.setCells [13, 10]) 77)).alloc (.cells (Lib.setCells [13, 10]) 77)) := ((Below.refl _ _).alloc (Nat.le_refl _) _).alloc (by simp) _
  have HB := Lib.hid hbel
  have HA := Lib.hid (h.below hbel)
  clear hcellAt h hbel
  go_enter Tryd.func48, Tryd.ntmps48
  go_wp2_with (first
    | (go_at_call 60; refine (should _ _).mono ?_; rintro e w' ⟨rfl, hw⟩; rw [hw, h8z])
    | (go_at_call 61; refine hM.mono ?_; rintro e w' ⟨rfl, hw⟩; rw [hw]))
  rw [show Tryd.zeroCells77 = Array.replicate 256 (.bool false) by kernel_rfl, hsc]
  simp only [Result.andThen]
  rw [Oper.upon_skip]
  go_wp2
  clear hM hsc
  go_loopg [62] s.size (fun g v wx => ∃ i : Nat, i + g = s.size ∧ v = .int .i64 i ∧ wx = ((w.alloc (.cells (Lib.setCells [13, 10]) 77)).alloc (.cells (Lib.setCells [13, 10]) 77)) ∧ Lib.NoAny s.data.toList [13, 10] i)
  case atStart => exact ⟨0, by omega, rfl, rfl, Lib.NoAny.zero _ _⟩
  case round =>
    obtain ⟨i, hig, rfl, rfl, hno⟩ := hrel
    have HN := Lib.hid hno
    clear hno
    cases gk with
    | zero =>
      obtain rfl : i = s.size := by omega
      have hiz : ¬ ((s.size : Int) < (s.size : Int)) := by omega
      go_wp2
      go_ret
      exact ⟨by rw [Lib.indexAny_none (by rw [← Lib.size_eq]; exact HN.out)]; rfl, HB.out⟩
    | succ g =>
      have hi : i < s.size := by omega
      have hiz : (i : Int) < (s.size : Int) := by omega
      obtain ⟨x, hx⟩ : ∃ x : UInt8, s.get! i = x := ⟨_, rfl⟩
      have Hx := Lib.hid (at_of_get s i hi)
      rw [hx] at Hx
      have hcell := HA.out i hi
      rw [hx] at hcell
      have hcx := HC.out x
      clear hx
      cases hin : ([13, 10] : List UInt8).contains x <;> rw [hin] at hcx
      · go_wp2_with (go_at_call 62; refine (Tryd.bytes_asciiSet_contains _ x _ _ hcx).mono ?_; rintro e w' ⟨rfl, hw⟩; rw [hw])
        go_roundg g
        case measure => omega
        case rel => exact ⟨i + 1, by omega, by first | rfl | simp, rfl, HN.out.succ Hx.out hin⟩
      · go_wp2_with (go_at_call 62; refine (Tryd.bytes_asciiSet_contains _ x _ _ hcx).mono ?_; rintro e w' ⟨rfl, hw⟩; rw [hw])
        go_ret
        exact ⟨by rw [Lib.indexAny_hit HN.out Hx.out hin]; rfl, HB.out⟩

theorem get_extract (s : ByteArray) (i k : Nat) (hk : i + k < s.size) : (s.extract i s.size).get! k = s.get! (i + k) := by
  have e : (s.extract i s.size).size = s.size - i := by simp [ByteArray.size_extract]
  have := get_at (s.extract i s.size) k (by omega)
  have h2 := get_at s (i + k) (by omega)
  simp only [Nat.add_zero] at this h2
  rw [this, h2]
  simp [ByteArray.getElem_extract]
theorem high_of (s t : ByteArray) (i : Nat) (hi : i < s.size) (e : t.size = s.size - i) (hg : ∀ k, i + k < s.size → t.get! k = s.get! (i + k)) (ha : 128 ≤ (s.get! i).toNat) (hno : Lib.NoAny s.data.toList [13, 10] i) :
    ∃ r n : Nat, Lib.decodeGo t = (r, n) ∧ 128 ≤ r ∧ r ≤ 2147483647 ∧ 1 ≤ n ∧ i + n ≤ s.size ∧ Lib.NoAny s.data.toList [13, 10] (i + n) ∧ (r ≠ 65533 → (Utf8.encode (r : Int)).size = n ∧ 2 ≤ n) := by
  have h0 : t.get! 0 = s.get! i := hg 0 (by omega)
  have hlt : 0 < t.size := by omega
  have hat : t[0]'hlt = s.get! i := by
    have := get_at t 0 hlt
    rw [← this]
    exact h0
  have ha2 : 128 ≤ (t[0]'hlt).toNat := by rw [hat]; exact ha
  have hd := decode_high t 0 hlt ha2
  have hle := decode_le t 0
  have hst := step_le hlt ha2
  have hb := decode_bytes t 0 hlt ha2
  have hen := encode_len t (by rw [h0]; exact ha)
  have hgo : Lib.decodeGo t = Utf8.decode t 0 := by unfold Lib.decodeGo; rw [if_neg (by omega)]
  generalize Utf8.decode t 0 = D at *
  obtain ⟨r, n⟩ := D
  refine ⟨r, n, hgo, hd.1, hle, hd.2, by simp only at hst; omega, ?_, fun hne => ⟨(hen hne).1, (hen hne).2.1⟩⟩
  intro j b hj hjb
  by_cases hji : j < i
  · exact hno j b hji hjb
  · have h1 := hb (j - i) (by simp only; omega)
    simp only at hst
    rw [Nat.zero_add, hg (j - i) (by omega), show i + (j - i) = j by omega] at h1
    rw [at_of_get s j (by omega)] at hjb
    cases hjb
    exact high_not _ h1.2
/-- what a byte past ASCII begins, at a place -/
theorem high_at (s : ByteArray) (i : Nat) (hi : i < s.size) (ha : 128 ≤ (s.get! i).toNat) (hno : Lib.NoAny s.data.toList [13, 10] i) :
    ∃ r n : Nat, Lib.decodeGo (s.extract i s.size) = (r, n) ∧ 128 ≤ r ∧ r ≤ 2147483647 ∧ 1 ≤ n ∧ i + n ≤ s.size ∧ Lib.NoAny s.data.toList [13, 10] (i + n) ∧ (r ≠ 65533 → (Utf8.encode (r : Int)).size = n ∧ 2 ≤ n) :=
  high_of s (s.extract i s.size) i hi (by simp [ByteArray.size_extract]) (fun k hk => get_extract s i k hk) ha hno

set_option maxHeartbeats 8000000 in
set_option maxRecDepth 100000 in
theorem mid (s : ByteArray) (b off cap : Nat) (m : Int) (w : World) (h : At w b off s) (h2 : 2 ≤ s.size) (h8 : s.size ≤ 8) (hcap : s.size ≤ cap) (hm : w.cell? ⟨0, 0, none⟩ = some (.int .i64 m)) (hT : Lib.Utf8Tabs 1 2 w) :
    Calls Tryd.prog 48 #[.slice (some ⟨b, off, none⟩) s.size cap, .string ⟨#[13, 10]⟩] w fun e w' => e = .returned (.int .i64 (Lib.indexAny s.data.toList [13, 10])) ∧ Below w.heap.size w w' := by
  have h8z : decide ((8 : Int) < (s.size : Int)) = false := decide_eq_false (by omega)
  have hn1 : ((s.size : Int) == 1) = false := beq_eq_false_iff_ne.2 (by omega)
  have HA := Lib.hid h
  have HM := Lib.hid hm
  have HT := Lib.hid hT
  clear h hm hT
  go_enter Tryd.func48, Tryd.ntmps48
  go_wp2_with (go_at_call 60; refine (should _ _).mono ?_; rintro e w' ⟨rfl, hw⟩; rw [hw, h8z])
  go_loopg [11, 12, 13] s.size (fun g _ v _ wx => ∃ i : Nat, i ≤ s.size ∧ s.size - i ≤ g ∧ v = .int .i64 i ∧ Below w.heap.size w wx ∧ Lib.NoAny s.data.toList [13, 10] i)
  case atStart => exact ⟨0, by omega, by omega, rfl, Below.refl _ _, Lib.NoAny.zero _ _⟩
  case round =>
    obtain ⟨i, hile, hig, rfl, hbel, hno⟩ := hrel
    have HN := Lib.hid hno
    have HB := Lib.hid hbel
    have HA1 := Lib.hid (HA.out.below hbel)
    clear hno hbel
    by_cases hi : i < s.size
    · cases gk with
      | zero => omega
      | succ g =>
        have hiz : (i : Int) < (s.size : Int) := by omega
        obtain ⟨x, hx⟩ : ∃ x : UInt8, s.get! i = x := ⟨_, rfl⟩
        have Hx := Lib.hid (at_of_get s i hi)
        rw [hx] at Hx
        have hcell := HA1.out i hi
        rw [hx] at hcell
        have hw32 : wrap32 (x.toNat : Int) = (x.toNat : Int) := by have := x.toNat_lt; unfold wrap32; omega
        have hback : ((x.toNat : Int)).toNat.toUInt8 = x := by simp
        by_cases ha : x.toNat < 128
        · have hlt : ((x.toNat : Int)) < 128 := by omega
          have hcon := Lib.contains_iff_indexByte [13, 10] x
          obtain ⟨q, hq⟩ : ∃ q, Lib.indexByte [13, 10] x = q := ⟨_, rfl⟩
          rw [hq] at hcon
          have HQ := Lib.hid hq
          clear hq hx
          cases hin : ([13, 10] : List UInt8).contains x <;> rw [hin] at hcon
          · have hq0 : ¬ ((0 : Int) ≤ q) := of_decide_eq_false hcon.symm
            clear hcon
            go_wp2
            rw [run_callFunc_extern Tryd.func58 (by kernel_rfl) (by kernel_rfl) (by kernel_rfl) (e := Extern.BytealgIndexByte.indexByte) (by kernel_rfl), Lib.run_indexByteString, hback, show (⟨#[13, 10]⟩ : ByteArray).data.toList = [13, 10] from rfl, HQ.out]
            go_wp2
            go_roundg g
            case measure => omega
            case rel => exact ⟨i + 1, by omega, by omega, by go_num, HB.out, HN.out.succ Hx.out hin⟩
          · have hq0 : ((0 : Int) ≤ q) := of_decide_eq_true hcon.symm
            clear hcon
            go_wp2
            rw [run_callFunc_extern Tryd.func58 (by kernel_rfl) (by kernel_rfl) (by kernel_rfl) (e := Extern.BytealgIndexByte.indexByte) (by kernel_rfl), Lib.run_indexByteString, hback, show (⟨#[13, 10]⟩ : ByteArray).data.toList = [13, 10] from rfl, HQ.out]
            go_wp2
            go_ret
            exact ⟨by rw [Lib.indexAny_hit HN.out Hx.out hin]; rfl, HB.out⟩
        · have hlt : ¬ ((x.toNat : Int)) < 128 := by omega
          obtain ⟨r, n, hgo, hr0, hr1, hn0, hn2, hnm, hen⟩ := high_at s i hi (by rw [hx]; omega) HN.out
          have hsz : (s.extract i s.size).size = s.size - i := by simp [ByteArray.size_extract]
          have hDR : Calls Tryd.prog 63 #[.slice (some ⟨b, off + i, none⟩) (s.size - i) (cap - i)] wr fun e w' => e = .returned (.tuple #[.int .i32 r, .int .i64 n]) ∧ Below wr.heap.size wr w' := by
            have := Tryd.utf8_DecodeRune (s.extract i s.size) b (off + i) (cap - i) wr (Utf8Tabs_below HT.out HB.out) (fun j hj => HA1.out.drop i hile j hj)
            rw [hgo, hsz] at this
            exact this
          have HDR := Lib.hid hDR
          have HNM := Lib.hid hnm
          have HEN := Lib.hid hen
          clear hgo hsz hDR hnm hen hx
          have hmr := (HB.out.cell (World.block_lt_of_cell? w _ HM.out)).trans HM.out
          have n13 : ((r : Int) == 13) = false := beq_eq_false_iff_ne.2 (by omega)
          have n10 : ((r : Int) == 10) = false := beq_eq_false_iff_ne.2 (by omega)
          have hx0 : ∀ W : World, ∀ ty, (Instr.next (.pointer (some ⟨W.heap.size, 0, none⟩)) true ty).run Tryd.prog (W.iter ⟨#[13, 10]⟩ 0) = .ok (.tuple #[.bool true, .int .i64 0, .int .i32 13]) (W.iter ⟨#[13, 10]⟩ 1) := fun W ty => run_next_ascii W ⟨#[13, 10]⟩ 0 ty (by decide) (by decide)
          have hx1 : ∀ W : World, ∀ ty, (Instr.next (.pointer (some ⟨W.heap.size, 0, none⟩)) true ty).run Tryd.prog (W.iter ⟨#[13, 10]⟩ 1) = .ok (.tuple #[.bool true, .int .i64 1, .int .i32 10]) (W.iter ⟨#[13, 10]⟩ 2) := fun W ty => run_next_ascii W ⟨#[13, 10]⟩ 1 ty (by decide) (by decide)
          have hx2 : ∀ W : World, ∀ ty, (Instr.next (.pointer (some ⟨W.heap.size, 0, none⟩)) true ty).run Tryd.prog (W.iter ⟨#[13, 10]⟩ 2) = .ok (.tuple #[.bool false]) (W.iter ⟨#[13, 10]⟩ 2) := fun W ty => run_next_end W ⟨#[13, 10]⟩ 2 ty (by decide)
          by_cases hr : r = 65533
          · subst hr
            go_wp2_with (go_at_call 63; refine HDR.out.mono ?_; rintro e w3 ⟨rfl, hw3⟩; have hm3 := (hw3.cell (World.block_lt_of_cell? wr _ hmr)).trans hmr; have HB3 := Lib.hid (HB.out.trans (hw3.mono HB.out.size)); clear hw3)
            go_loopg [15] 2 (fun g _ wx => ∃ i : Nat, i + g = 2 ∧ wx = w3.iter ⟨#[13, 10]⟩ i)
            case atStart => exact ⟨0, rfl, rfl⟩
            case round =>
              obtain ⟨i2, hi2, rfl⟩ := hrel
              cases gk with
              | zero =>
                obtain rfl : i2 = 2 := by omega
                have hx := hx2 w3
                go_wp2
                go_roundg g
                case measure => omega
                case rel => exact ⟨i + n, by omega, by omega, by go_num, HB3.out.alloc HB3.out.size _, HNM.out⟩
              | succ g2 =>
                rcases (show i2 = 0 ∨ i2 = 1 by omega) with rfl | rfl
                · have hx := hx0 w3
                  go_wp2
                  go_roundg g2
                  case measure => omega
                  case rel => exact ⟨1, by omega, rfl⟩
                · have hx := hx1 w3
                  go_wp2
                  go_roundg g2
                  case measure => omega
                  case rel => exact ⟨2, by omega, rfl⟩
          · have hrn : ((r : Int) != 65533) = true := bne_iff_ne.2 (by omega)
            obtain ⟨he1, he2⟩ := HEN.out hr
            have hlong : (([13, 10] : List UInt8) == (Utf8.encode (r : Int)).toList) = false := by
              rw [Lib.toList_data]
              rcases encode_high (r : Int) (by omega) with ⟨a, b, hE, hb⟩ | hE
              · rw [hE]
                refine beq_eq_false_iff_ne.2 fun e => ?_
                have e2 : ([13, 10] : List UInt8) = [a, b] := e
                simp only [List.cons.injEq, and_true] at e2
                rw [← e2.2] at hb
                exact absurd hb (by decide)
              · refine beq_eq_false_iff_ne.2 fun e => ?_
                have e2 := congrArg List.length e
                rw [← Lib.size_eq] at e2
                simp only [List.length_cons, List.length_nil] at e2
                omega
            have HL := Lib.hid (show ((Utf8.encode (r : Int)).toList == (⟨#[13, 10]⟩ : ByteArray).toList) = false by rw [Bool.eq_false_iff, ne_eq, beq_iff_eq]; intro e; rw [e, show (⟨#[13, 10]⟩ : ByteArray).toList = [13, 10] by decide +kernel] at hlong; simp at hlong)
            by_cases h22 : n = 2
            · subst h22
              go_wp2_with (go_at_call 63; refine HDR.out.mono ?_; rintro e w3 ⟨rfl, hw3⟩; have hm3 := (hw3.cell (World.block_lt_of_cell? wr _ hmr)).trans hmr; have HB3 := Lib.hid (HB.out.trans (hw3.mono HB.out.size)); clear hw3)
              go_roundg g
              case measure => omega
              case rel => exact ⟨i + 2, by omega, by omega, by go_num, HB3.out, HNM.out⟩
            · have hn22 : ((2 : Int) == (n : Int)) = false := beq_eq_false_iff_ne.2 (by omega)
              by_cases hmn : (n : Int) ≤ m
              · go_wp2_with (go_at_call 63; refine HDR.out.mono ?_; rintro e w3 ⟨rfl, hw3⟩; have hm3 := (hw3.cell (World.block_lt_of_cell? wr _ hmr)).trans hmr; have HB3 := Lib.hid (HB.out.trans (hw3.mono HB.out.size)); clear hw3)
                rw [run_callFunc_extern Tryd.func64 (by kernel_rfl) (by kernel_rfl) (by kernel_rfl) (e := Extern.BytealgIndex.index) (by kernel_rfl), Lib.run_indexString ⟨#[13, 10]⟩ (Utf8.encode (r : Int)) _ 0 m (by kernel_rfl) hm3 (by omega) (by omega) (by decide), show Lib.index (⟨#[13, 10]⟩ : ByteArray).data.toList (Utf8.encode (r : Int)).data.toList = -1 from Lib.long ⟨#[13, 10]⟩ (Utf8.encode (r : Int)) (by have e : (⟨#[13, 10]⟩ : ByteArray).size = 2 := rfl; omega) HL.out]
                go_wp2
                go_roundg g
                case measure => omega
                case rel => exact ⟨i + n, by omega, by omega, by go_num, HB3.out, HNM.out⟩
              · clear HL hlong he1 he2
                go_wp2_with (go_at_call 63; refine HDR.out.mono ?_; rintro e w3 ⟨rfl, hw3⟩; have hm3 := (hw3.cell (World.block_lt_of_cell? wr _ hmr)).trans hmr; have HB3 := Lib.hid (HB.out.trans (hw3.mono HB.out.size)); clear hw3)
                go_loopg [15] 2 (fun g _ wx => ∃ i : Nat, i + g = 2 ∧ wx = w3.iter ⟨#[13, 10]⟩ i)
                case atStart => exact ⟨0, rfl, rfl⟩
                case round =>
                  obtain ⟨i2, hi2, rfl⟩ := hrel
                  cases gk with
                  | zero =>
                    obtain rfl : i2 = 2 := by omega
                    have hx := hx2 w3
                    go_wp2
                    go_roundg g
                    case measure => omega
                    case rel => exact ⟨i + n, by omega, by omega, by go_num, HB3.out.alloc HB3.out.size _, HNM.out⟩
                  | succ g2 =>
                    rcases (show i2 = 0 ∨ i2 = 1 by omega) with rfl | rfl
                    · have hx := hx0 w3
                      go_wp2
                      go_roundg g2
                      case measure => omega
                      case rel => exact ⟨1, by omega, rfl⟩
                    · have hx := hx1 w3
                      go_wp2
                      go_roundg g2
                      case measure => omega
                      case rel => exact ⟨2, by omega, rfl⟩
    · obtain rfl : i = s.size := by omega
      have hiz : ¬ ((s.size : Int) < (s.size : Int)) := by omega
      go_wp2
      go_ret
      exact ⟨by rw [Lib.indexAny_none (by rw [← Lib.size_eq]; exact HN.out)]; rfl, HB.out⟩

/-- bytes.IndexAny at a carriage return and a line feed -/
theorem IndexAny_calls (s : ByteArray) (b off cap : Nat) (m : Int) (w : World) (h : At w b off s) (h1 : 1 ≤ s.size) (hs : s.size < 4294967281) (hcap : s.size ≤ cap) (hm : w.cell? ⟨0, 0, none⟩ = some (.int .i64 m)) (hT : Lib.Utf8Tabs 1 2 w) :
    Calls Tryd.prog 48 #[.slice (some ⟨b, off, none⟩) s.size cap, .string ⟨#[13, 10]⟩] w fun e w' => e = .returned (.int .i64 (Lib.indexAny s.data.toList [13, 10])) ∧ Below w.heap.size w w' := by
  by_cases h8 : 8 < s.size
  · exact long s b off cap w h h8 hs
  · by_cases h2 : 2 ≤ s.size
    · exact mid s b off cap m w h h2 (by omega) hcap hm hT
    · have := one s b off cap w h (by omega)
      rwa [show (1 : Nat) = s.size by omega] at this
end Go.Proofs.YtammhcfifnffeaaDoor.BytesAny
