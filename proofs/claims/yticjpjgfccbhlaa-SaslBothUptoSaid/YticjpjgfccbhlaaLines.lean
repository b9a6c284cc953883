/- sasl: lines there and back, the place of the last space, a digest's digits: plain. -/
import Derived.Test.YticjpjgfccbhlaaBack64
import Derived.Test.YticjpjgfccbhlaaClient
namespace Go.Proofs.Yticjpjgfccbhlaa.Sasl
open Go.RowKit Go.Proofs.YticjpjgfccbhlaaW.PrintWords Go.Proofs.Yticjpjgfccbhlaa.PSaslBoth Go.Proofs.Yticjpjgfccbhlaa.Hash
open Go.Proofs.Yticjpjgfccbhlaa.Code (unV b64 four st0 un_b64 u8s ByteL)
set_option linter.unusedVariables false
set_option linter.unusedSimpArgs false
theorem ba_ext {a b : ByteArray} (h : a.data.toList = b.data.toList) : a = b := ByteArray.ext (Array.ext' h)
theorem data_app (a b : ByteArray) : (a ++ b).data.toList = a.data.toList ++ b.data.toList := by
  rw [← ByteArray.append_eq]
  simp
theorem strOf_bytes (t : ByteArray) : strOfNums (bytesOf t) = t := by
  apply ba_ext
  simp only [strOfNums, bytesOf, List.map_map]
  refine (List.map_congr_left (g := id) fun b hb => ?_).trans (List.map_id _)
  simp
theorem un_line (t : ByteArray) : unV (b64S t).data.toList = (bytesOf t, 0, 0) := by
  have h := un_b64 (bytesOf t) (bytes_range t) 0 st0 [] rfl rfl
  exact h
theorem b64_four : ∀ l : List Int, (b64 l).length = 4 * ((l.length + 2) / 3)
  | a :: b :: c :: l => by
    have := b64_four l
    simp only [b64, four, List.length_append, List.length_cons, List.length_nil]
    omega
  | [a, b] => by simp [b64]
  | [a] => by simp [b64]
  | [] => by simp [b64]
theorem line_size (t : ByteArray) : (b64S t).size = 4 * ((t.size + 2) / 3) := by
  unfold b64S
  rw [strOf_size, b64_four, bytes_len]
theorem line_ne (t : ByteArray) : b64S t ≠ starL := fun e => by
  have h := line_size t
  rw [e] at h
  have : starL.size = 1 := rfl
  omega
theorem hex_ne : ∀ v : Fin 16, UInt8.ofNat (bt H16 (v.val : Int)).toNat ≠ 32 := by decide +kernel
theorem hex_ne_at (v : Int) (h0 : 0 ≤ v) (h1 : v < 16) : UInt8.ofNat (bt H16 v).toNat ≠ 32 := by
  obtain ⟨n, rfl⟩ := Int.eq_ofNat_of_zero_le h0
  exact hex_ne ⟨n, by omega⟩
theorem digest_nosp (T S : Nat → Int) (s m : ByteArray) : ∀ b ∈ (digestV T S s m).data.toList, b ≠ 32 := by
  intro b hb
  have e : (digestV T S s m).data.toList = (hexV (rowL (macV T S (bytesOf s) (bytesOf m)))).map fun n => UInt8.ofNat n.toNat := rfl
  rw [e, List.mem_map] at hb
  obtain ⟨n, hn, rfl⟩ := hb
  unfold hexV at hn
  obtain ⟨a, ha, hna⟩ := List.mem_flatMap.1 hn
  unfold rowL at ha
  obtain ⟨j, hj, rfl⟩ := List.mem_map.1 ha
  have hr := macV_range T S (bytesOf s) (bytesOf m) j (List.mem_range.1 hj)
  unfold hex2 at hna
  simp only [List.mem_cons, List.not_mem_nil, or_false] at hna
  rcases hna with rfl | rfl
  · exact hex_ne_at _ (by omega) (by omega)
  · exact hex_ne_at _ (by omega) (by omega)
theorem byte_at! (s : ByteArray) (j : Nat) (h : j < s.size) (b : UInt8) (hb : s.data.toList[j]? = some b) : s.data[j]! = b := by
  have h' : j < s.data.size := h
  rw [Array.getElem?_toList] at hb
  rw [getElem!_pos s.data j h']
  rw [Array.getElem?_eq_getElem h'] at hb
  exact Option.some.inj hb
theorem lastSp_app (nm dg : ByteArray) (hd : ∀ b ∈ dg.data.toList, b ≠ 32) : lastSp (nm ++ ⟨#[32]⟩ ++ dg) = nm.size := by
  obtain ⟨s, hs⟩ : ∃ s, s = nm ++ ⟨#[32]⟩ ++ dg := ⟨_, rfl⟩
  have hl : s.data.toList = nm.data.toList ++ 32 :: dg.data.toList := by
    rw [hs, data_app, data_app, List.append_assoc]
    rfl
  have hz : s.size = nm.size + 1 + dg.size := by
    rw [hs, ByteArray.size_append, ByteArray.size_append]
    rfl
  have hn : nm.data.toList.length = nm.size := data_length nm
  rw [← hs]
  have hat : s.data.toList[nm.size]? = some 32 := by
    rw [hl, List.getElem?_append_right (by omega), hn, Nat.sub_self]
    rfl
  have hafter : ∀ j, nm.size < j → ∀ b, s.data.toList[j]? = some b → b ≠ 32 := by
    intro j hj b hb
    rw [hl, List.getElem?_append_right (by omega), hn, show j - nm.size = (j - nm.size - 1) + 1 by omega, List.getElem?_cons_succ] at hb
    exact hd b (List.mem_of_getElem? hb)
  unfold lastSp
  rcases Lib.lastIndexByte_spec s 32 with ⟨_, h⟩ | ⟨i, h1, h2, h3, h4⟩
  · exact absurd (by rw [byte_at! s nm.size (by omega) 32 hat]; rfl) (h nm.size (by omega))
  · rw [h2]
    by_cases c : i < nm.size
    · exact absurd (by rw [byte_at! s nm.size (by omega) 32 hat]; rfl) (h4 nm.size c (by omega))
    · by_cases d : nm.size < i
      · have hb : s.data.toList[i]? = some (s[i]'h1) := Lib.data_getElem? s i h1
        have hne := hafter i d _ hb
        rw [byte_at! s i h1 _ hb] at h3
        exact absurd (UInt8.toNat_inj.1 (show (s[i]'h1).toNat = (32 : UInt8).toNat by have : (32 : UInt8).toNat = 32 := rfl; omega)) hne
      · congr 1
        omega
theorem cut_name (nm dg : ByteArray) : (nm ++ ⟨#[32]⟩ ++ dg).extract 0 nm.size = nm := by
  apply ba_ext
  simp only [ByteArray.data_extract, Array.toList_extract]
  rw [data_app, data_app, List.append_assoc]
  simp only [List.extract_eq_take_drop, List.drop_zero, Nat.sub_zero]
  rw [List.take_append_of_le_length (by rw [data_length]; exact Nat.le_refl _), List.take_of_length_le (by rw [data_length]; exact Nat.le_refl _)]
theorem cut_told (nm dg : ByteArray) : (nm ++ ⟨#[32]⟩ ++ dg).extract (nm.size + 1) (nm ++ ⟨#[32]⟩ ++ dg).size = dg := by
  apply ba_ext
  have hz : (nm ++ ⟨#[32]⟩ ++ dg).size = nm.size + 1 + dg.size := by
    rw [ByteArray.size_append, ByteArray.size_append]
    rfl
  simp only [ByteArray.data_extract, Array.toList_extract]
  rw [hz, data_app, data_app]
  have hn : (nm.data.toList ++ (⟨#[32]⟩ : ByteArray).data.toList).length = nm.size + 1 := by
    rw [List.length_append, data_length]
    rfl
  simp only [List.extract_eq_take_drop]
  rw [← hn, List.drop_left, List.take_of_length_le (by rw [data_length, hn]; omega)]
theorem take_cram_line (T S : Nat → Int) (us : List S40) (st nm dg : ByteArray) (hd : ∀ b ∈ dg.data.toList, b ≠ 32) :
    takeV T S us (.cram st) (nm ++ ⟨#[32]⟩ ++ dg) = ⟨none, nm, shownV T S us st nm dg, 0⟩ := by
  unfold takeV
  have h := lastSp_app nm dg hd
  simp only [h]
  rw [if_neg (by omega), Int.toNat_natCast, cut_name, cut_told]
theorem first_cram (st : ByteArray) : firstV ⟨#[67, 82, 65, 77, 45, 77, 68, 53]⟩ st = some (.cram st) := by rfl
theorem first_cram_low (st : ByteArray) : firstV ⟨#[99, 114, 97, 109, 45, 109, 100, 53]⟩ st = some (.cram st) := by rfl
theorem answer_stale (T S : Nat → Int) (n s stamp other : ByteArray) : ∃ x, answerV T S ⟨[⟨n, s⟩], 1, .cram other, ⟨#[]⟩⟩ (b64S (n ++ ⟨#[32]⟩ ++ digestV T S s stamp)) = (x, 0) ∧ x.st = if digestV T S s stamp = digestV T S s other then 2 else 3 := by
  have hr : readV T S ⟨[⟨n, s⟩], 1, .cram other, ⟨#[]⟩⟩ (b64S (n ++ ⟨#[32]⟩ ++ digestV T S s stamp)) = if digestV T S s stamp = digestV T S s other then (⟨[⟨n, s⟩], 2, .cram other, n⟩, 0) else (⟨[⟨n, s⟩], 3, .cram other, ⟨#[]⟩⟩, 0) := by
    unfold readV
    rw [un_line]
    simp only [strOf_bytes]
    rw [if_neg (by decide)]
    unfold readT
    simp only [take_cram_line T S [⟨n, s⟩] other n _ (digest_nosp T S s stamp)]
    rw [if_neg (by decide)]
    unfold shownV
    by_cases h : digestV T S s stamp = digestV T S s other
    · simp [h]
    · simp [h, Ne.symm h]
  unfold answerV
  rw [if_neg (by show ¬ (1 : Int) = 0; decide), if_neg (by show ¬ (1 : Int) ≠ 1; decide), if_neg (line_ne _), hr]
  by_cases h : digestV T S s stamp = digestV T S s other
  · simp only [h, if_true]
    exact ⟨_, rfl, rfl⟩
  · simp only [h, if_false]
    exact ⟨_, rfl, rfl⟩
end Go.Proofs.Yticjpjgfccbhlaa.Sasl
