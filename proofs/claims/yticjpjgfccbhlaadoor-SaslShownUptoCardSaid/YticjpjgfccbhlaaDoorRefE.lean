/- posthornref22: Place, places, readable in plain words; what Begin's error is. -/
import Derived.Test.YticjpjgfccbhlaaDoorRefD
namespace Go.Proofs.YticjpjgfccbhlaaDoor.Sasl
open Go.RowKit Go.Proofs.YticjpjgfccbhlaaDoorW.PrintWords Go.Proofs.YticjpjgfccbhlaaDoor.PSaslStale Go.Proofs.YticjpjgfccbhlaaDoor.Hash
open Go.Proofs.YticjpjgfccbhlaaDoor.Code (unV leO_add)
set_option linter.unusedVariables false
set_option linter.unusedSimpArgs false
abbrev smallsL : ByteArray := ⟨#[97, 98, 99, 100, 101, 102, 103, 104, 105, 106, 107, 108, 109, 110, 111, 112, 113, 114, 115, 116, 117, 118, 119, 120, 121, 122]⟩
abbrev capsL : ByteArray := ⟨#[65, 66, 67, 68, 69, 70, 71, 72, 73, 74, 75, 76, 77, 78, 79, 80, 81, 82, 83, 84, 85, 86, 87, 88, 89, 90]⟩
def capStep (c v : Int) (q : Nat) : Int := if bt smallsL (q : Int) = c then bt capsL (q : Int) else v
theorem up_in (s : ByteArray) (acc : List Int) (i : Int) (h0 : 0 ≤ i) (hi : i < (s.size : Int)) (hacc : acc.length < 140737488355328) : ∀ (n j : Nat) (v : Int) (k : Nat), j + n = 26 →
    posthornref01_Upper.l1 (n + 1 + k) s acc i v (j : Int) = posthornref01_Upper.l0 k s (acc ++ [(List.range' j n).foldl (capStep (bt s i)) v]) (wrap64 (i + 1))
  | 0, j, v, k, h => by
    rw [show 0 + 1 + k = k + 1 by omega, posthornref01_Upper.l1, if_neg (by omega), if_pos hacc]
    rfl
  | n + 1, j, v, k, h => by
    rw [show n + 1 + 1 + k = (n + 1 + k) + 1 by omega, posthornref01_Upper.l1, if_pos (by omega), if_pos (by omega), if_pos h0, if_pos hi]
    have hw : wrap64 ((j : Int) + 1) = ((j + 1 : Nat) : Int) := by unfold wrap64; omega
    rw [hw, up_in s acc i h0 hi hacc n (j + 1) _ k (by omega), up_in s acc i h0 hi hacc n (j + 1) _ k (by omega), List.range'_succ, List.foldl_cons]
    unfold capStep
    by_cases c : bt smallsL (j : Int) = bt s i
    · rw [if_pos c, if_pos c]
    · rw [if_neg c, if_neg c]
theorem cap_all : ∀ c : Fin 256, (List.range' 0 26).foldl (capStep (c.val : Int)) (c.val : Int) = ((upB (UInt8.ofNat c.val)).toNat : Int) := by decide +kernel
theorem cap_f (c : UInt8) : (List.range' 0 26).foldl (capStep (c.toNat : Int)) (c.toNat : Int) = ((upB c).toNat : Int) := by
  have h := cap_all ⟨c.toNat, c.toNat_lt⟩
  simpa using h
theorem up_l0 (s : ByteArray) (hs : s.size ≤ 3000000000) : ∀ (n i k : Nat), i + n = s.size →
    posthornref01_Upper.l0 (28 * n + 1 + k) s ((s.data.toList.take i).map fun x => ((upB x).toNat : Int)) (i : Int) = some (upV s)
  | 0, i, k, h => by
    rw [show 28 * 0 + 1 + k = k + 1 by omega, posthornref01_Upper.l0, if_neg (by omega), List.take_of_length_le (by rw [data_length]; omega)]
    congr 1
    apply ba_ext
    simp [strOfNums, upV]
  | n + 1, i, k, h => by
    have hi : i < s.size := by omega
    rw [show 28 * (n + 1) + 1 + k = (26 + 1 + (28 * n + 1 + k)) + 1 by omega, posthornref01_Upper.l0, if_pos (by omega), if_pos (by omega)]
    have e0 := up_in s ((s.data.toList.take i).map fun x => ((upB x).toNat : Int)) (i : Int) (by omega) (by omega) (by rw [List.length_map, List.length_take, data_length]; omega) 26 0 (bt s (i : Int)) (28 * n + 1 + k) (by omega)
    rw [show (((0 : Nat) : Nat) : Int) = 0 from rfl] at e0
    rw [e0, bt_byte s i hi, cap_f, show wrap64 ((i : Int) + 1) = ((i + 1 : Nat) : Int) by unfold wrap64; omega]
    rw [← up_l0 s hs n (i + 1) k (by omega)]
    congr 1
    rw [List.take_add_one, show s.data.toList[i]? = some (s[i]'hi) from Lib.data_getElem? s i hi]
    simp
theorem up_f (s : ByteArray) (hs : s.size ≤ 3000000000) (k : Nat) : posthornref01_Upper.f (28 * s.size + 1 + k) s = some (upV s) := up_l0 s hs s.size 0 k (by omega)
theorem up_big (s : ByteArray) (hs : s.size ≤ 3000000000) (k : Nat) (hk : 28 * s.size + 1 ≤ k) : posthornref01_Upper.f k s = some (upV s) := by
  have h := up_f s hs (k - (28 * s.size + 1))
  rwa [show 28 * s.size + 1 + (k - (28 * s.size + 1)) = k by omega] at h
/-- a mechanism's place -/
def placeV (m : ByteArray) : Int := if upV m = sPLAIN then 0 else if upV m = sLOGIN then 1 else if upV m = sCRAM then 2 else -1
theorem same_f (a m : ByteArray) (ha : a.size ≤ 20) (hm : m.size ≤ 3000000000) (k : Nat) (hk : 28 * m.size + 600 ≤ k) : posthornref01_Same.f k a m = some (decide (upV a = upV m)) := by
  unfold posthornref01_Same.f
  rw [up_big a (by omega) k (by omega), up_big m hm k (by omega)]
  simp only [Option.bind_some]
  rw [eq_toList]
theorem place_f (m : ByteArray) (hm : m.size ≤ 3000000000) : ∃ k, posthornref22_Place.f k m = some (placeV m) := by
  refine ⟨28 * m.size + 610, ?_⟩
  have e1 : upV ⟨#[80, 76, 65, 73, 78]⟩ = sPLAIN := rfl
  have e2 : upV ⟨#[76, 79, 71, 73, 78]⟩ = sLOGIN := rfl
  have e3 : upV ⟨#[67, 82, 65, 77, 45, 77, 68, 53]⟩ = sCRAM := rfl
  have w0 : wrap64 (0 + 1) = 1 := by decide +kernel
  have w1 : wrap64 (1 + 1) = 2 := by decide +kernel
  have w2 : wrap64 (2 + 1) = 3 := by decide +kernel
  unfold posthornref22_Place.f posthornref22_Mechanisms.f placeV
  simp only [Option.bind_some]
  rw [show 28 * m.size + 610 = (28 * m.size + 609) + 1 by omega, posthornref22_Place.l0, if_pos (by decide), if_pos (by decide)]
  rw [show rdOf ByteArray.empty [(⟨#[80, 76, 65, 73, 78]⟩ : ByteArray), ⟨#[76, 79, 71, 73, 78]⟩, ⟨#[67, 82, 65, 77, 45, 77, 68, 53]⟩] 0 = ⟨#[80, 76, 65, 73, 78]⟩ from rfl, same_f _ m (by decide) hm _ (by omega), e1]
  simp only [Option.bind_some, decide_eq_true_eq]
  by_cases c1 : sPLAIN = upV m
  · rw [if_pos c1, if_pos c1.symm]
  · rw [if_neg c1, if_neg (fun e => c1 e.symm), w0]
    rw [show 28 * m.size + 609 = (28 * m.size + 608) + 1 by omega, posthornref22_Place.l0, if_pos (by decide), if_pos (by decide)]
    rw [show rdOf ByteArray.empty [(⟨#[80, 76, 65, 73, 78]⟩ : ByteArray), ⟨#[76, 79, 71, 73, 78]⟩, ⟨#[67, 82, 65, 77, 45, 77, 68, 53]⟩] 1 = ⟨#[76, 79, 71, 73, 78]⟩ from rfl, same_f _ m (by decide) hm _ (by omega), e2]
    simp only [Option.bind_some, decide_eq_true_eq]
    by_cases c2 : sLOGIN = upV m
    · rw [if_pos c2, if_pos c2.symm]
    · rw [if_neg c2, if_neg (fun e => c2 e.symm), w1]
      rw [show 28 * m.size + 608 = (28 * m.size + 607) + 1 by omega, posthornref22_Place.l0, if_pos (by decide), if_pos (by decide)]
      rw [show rdOf ByteArray.empty [(⟨#[80, 76, 65, 73, 78]⟩ : ByteArray), ⟨#[76, 79, 71, 73, 78]⟩, ⟨#[67, 82, 65, 77, 45, 77, 68, 53]⟩] 2 = ⟨#[67, 82, 65, 77, 45, 77, 68, 53]⟩ from rfl, same_f _ m (by decide) hm _ (by omega), e3]
      simp only [Option.bind_some, decide_eq_true_eq]
      by_cases c3 : sCRAM = upV m
      · rw [if_pos c3, if_pos c3.symm]
      · rw [if_neg c3, if_neg (fun e => c3 e.symm), w2]
        rw [show 28 * m.size + 607 = (28 * m.size + 606) + 1 by omega, posthornref22_Place.l0, if_neg (by decide)]
/-- places of a byte: how many -/
theorem places_l0 (s : ByteArray) (c : UInt8) (hs : s.size ≤ 3000000000) : ∀ (n i : Nat) (acc : List Int), i + n = s.size → acc.length ≤ i →
    ∃ l, posthornref22_places.l0 (n + 1) s (c.toNat : Int) acc (i : Int) = some l ∧ l.length = acc.length + (s.data.toList.drop i).count c
  | 0, i, acc, h, ha => by
    refine ⟨acc, ?_, ?_⟩
    · rw [posthornref22_places.l0, if_neg (by omega)]
    · rw [List.drop_of_length_le (by rw [data_length]; omega)]
      simp
  | n + 1, i, acc, h, ha => by
    have hi : i < s.size := by omega
    have hd : s.data.toList.drop i = (s[i]'hi) :: s.data.toList.drop (i + 1) := by
      rw [List.drop_eq_getElem_cons (by rw [data_length]; exact hi)]
      rfl
    rw [posthornref22_places.l0, if_pos (by omega), if_pos (by omega), bt_byte s i hi, show wrap64 ((i : Int) + 1) = ((i + 1 : Nat) : Int) by unfold wrap64; omega]
    by_cases e : s[i]'hi = c
    · obtain ⟨l, hl, hl2⟩ := places_l0 s c hs n (i + 1) (acc ++ [(i : Int)]) (by omega) (by simp; omega)
      refine ⟨l, ?_, ?_⟩
      · rw [if_pos (by rw [e]), if_pos (by omega)]
        exact hl
      · rw [hl2, hd, e, List.count_cons_self, List.length_append, List.length_singleton]
        omega
    · obtain ⟨l, hl, hl2⟩ := places_l0 s c hs n (i + 1) acc (by omega) (by omega)
      refine ⟨l, ?_, ?_⟩
      · rw [if_neg (fun h2 => e (UInt8.toNat_inj.1 (by omega)))]
        exact hl
      · rw [hl2, hd, List.count_cons_of_ne e]
theorem places_f (s : ByteArray) (c : UInt8) (hs : s.size ≤ 3000000000) : ∃ l, posthornref22_places.f (s.size + 1) s (c.toNat : Int) = some l ∧ l.length = s.data.toList.count c := by
  obtain ⟨l, h1, h2⟩ := places_l0 s c hs s.size 0 [] (by omega) (by simp)
  exact ⟨l, h1, by rw [h2]; simp⟩
/-- may an answer be read? -/
def readableV (kind : Int) (a : ByteArray) : Bool := if kind = 0 then decide ((splitL a).length = 3) else if kind = 2 then !decide (lastSp a = -1) else true
theorem splitL_count (a : ByteArray) : (splitL a).length = a.data.toList.count 0 + 1 := by
  rw [splitL_len]
  show Lib.count a.data.toList [0] + 1 = _
  rw [Lib.count_one]
theorem lastSp_none (a : ByteArray) : lastSp a = -1 ↔ a.data.toList.count 32 = 0 := by
  constructor
  · intro h
    unfold lastSp at h
    rcases Lib.lastIndexByte_spec a 32 with ⟨_, h2⟩ | ⟨i, _, h2, _⟩
    · refine List.count_eq_zero.2 fun hm => ?_
      obtain ⟨j, hj, e⟩ := List.mem_iff_getElem.1 hm
      have hj' : j < a.size := by rw [data_length] at hj; exact hj
      refine h2 j hj' ?_
      rw [byte_at! a j hj' 32 (by rw [List.getElem?_eq_getElem hj, e])]
      rfl
    · omega
  · intro h
    unfold lastSp
    rcases Lib.lastIndexByte_spec a 32 with ⟨h1, _⟩ | ⟨i, hi, h2, h3, _⟩
    · exact h1
    · exfalso
      have hb : a.data.toList[i]? = some (a[i]'hi) := Lib.data_getElem? a i hi
      rw [byte_at! a i hi _ hb] at h3
      have e : a[i]'hi = 32 := UInt8.toNat_inj.1 (show (a[i]'hi).toNat = (32 : UInt8).toNat by have : (32 : UInt8).toNat = 32 := rfl; omega)
      exact List.count_eq_zero.1 h (e ▸ List.mem_of_getElem? hb)
theorem readable_f (kind : Int) (a : ByteArray) (ha : a.size ≤ 3000000000) : ∃ k, posthornref22_readable.f k kind a = some (readableV kind a) := by
  refine ⟨a.size + 1, ?_⟩
  unfold posthornref22_readable.f readableV
  by_cases h0 : kind = 0
  · obtain ⟨l, h1, h2⟩ := places_f a 0 ha
    rw [if_pos h0, if_pos h0]
    rw [show (((0 : UInt8).toNat : Nat) : Int) = 0 from rfl] at h1
    rw [h1]
    simp only [Option.bind_some]
    congr 1
    rw [splitL_count, h2]
    by_cases e : a.data.toList.count 0 = 2
    · simp [e]
    · rw [decide_eq_false (show ¬ a.data.toList.count 0 + 1 = 3 by omega)]
      exact beq_eq_false_iff_ne.2 (by omega)
  · rw [if_neg h0, if_neg h0]
    by_cases h2 : kind = 2
    · obtain ⟨l, h3, h4⟩ := places_f a 32 ha
      rw [if_pos h2, if_pos h2]
      rw [show (((32 : UInt8).toNat : Nat) : Int) = 32 from rfl] at h3
      rw [h3]
      simp only [Option.bind_some]
      congr 1
      by_cases e : lastSp a = -1
      · have := (lastSp_none a).1 e
        rw [decide_eq_true e, decide_eq_false (by omega)]
        rfl
      · have : ¬ a.data.toList.count 32 = 0 := fun h => e ((lastSp_none a).2 h)
        rw [decide_eq_false e, decide_eq_true (by omega)]
        rfl
    · rw [if_neg h2, if_neg h2]
/-- the error that the document asks of Begin -/
def wantV (m a : ByteArray) (has : Bool) : Int :=
  if placeV m < 0 then 220 else if has = false then 0 else
    if (unV (if a = eqL then ⟨#[]⟩ else a).data.toList).2.1 = 0 ∧ placeV m ≠ 2 ∧ readableV (placeV m) (strOfNums (unV (if a = eqL then ⟨#[]⟩ else a).data.toList).1) = true then 0 else 221
end Go.Proofs.YticjpjgfccbhlaaDoor.Sasl
