/- FieldFolds: the reference's name, row, blanks and joint (the copies that print.sh wrote for this law). -/
import Derived.Test.YtammhcfifnffeaaDoorFoldRef
import Derived.Test.YtammhcfifnffeaaDoorFoldWalk
import Derived.Test.YtammhcfifnffeaaDoorCheckPure
namespace Go.Proofs.YtammhcfifnffeaaDoor.FoldBase
open Go.RowKit Go.Proofs.YtammhcfifnffeaaDoor.RowsIter Go.Proofs.YtammhcfifnffeaaDoorW.PrintWords Go.Proofs.YtammhcfifnffeaaDoor.PFieldFolds Go.Proofs.YtammhcfifnffeaaDoor.AnyEnd Go.Proofs.YtammhcfifnffeaaDoor.Octet Go.Proofs.YtammhcfifnffeaaDoor.CheckWalk Go.Proofs.YtammhcfifnffeaaDoor.JointsIter Go.Proofs.YtammhcfifnffeaaDoor.FoldWalk
open Go.Proofs.YtammhcfifnffeaaDoor.CheckPure (sl sl_cons sl_end sl_len u8_eq u13 u10 u32 u9 w1 w2 mk mk_size mk_list mk_data extract_mk)
set_option linter.unusedVariables false
set_option linter.unusedSimpArgs false

theorem blank_f (c : Int) : posthornref16_blank.f c = some (decide (c = 32 ∨ c = 9)) := by
  unfold posthornref16_blank.f
  by_cases h : c = 32
  · rw [if_pos h]; simp [h]
  · rw [if_neg h]
    congr 1
    rw [Bool.eq_iff_iff]
    simp [h]

theorem is11_10 : ∀ b : Fin 256, posthornref01_Is.f 10 11 (b.val : Int) = some (isIn 11 b.val) := by decide +kernel

theorem is11 (k : Nat) (hk : 10 ≤ k) (b : UInt8) : posthornref01_Is.f k 11 (b.toNat : Int) = some (isIn 11 b.toNat) := by
  induction k with
  | zero => omega
  | succ k ih =>
    by_cases h : 10 ≤ k
    · exact posthornref01_Is.mono 11 _ k _ (ih h)
    · obtain rfl : k = 9 := by omega
      exact is11_10 ⟨b.toNat, b.toNat_lt⟩

theorem bad_l0 (s : ByteArray) (hs : s.size < 9223372036854775000) : ∀ (d i : Nat), i + d = s.size → ∀ k, d + 10 < k → posthornref01_Bad.l0 k 11 s i = some ((i + badAt 11 (sl s i) : Nat) : Int) := by
  intro d
  induction d with
  | zero =>
    intro i hi k hk
    obtain ⟨k, rfl⟩ : ∃ m, k = m + 1 := ⟨k - 1, by omega⟩
    simp only [posthornref01_Bad.l0]
    obtain rfl : i = s.size := by omega
    rw [if_neg (by omega), sl_end]
    simp [badAt]
  | succ d ih =>
    intro i hi k hk
    obtain ⟨k, rfl⟩ : ∃ m, k = m + 1 := ⟨k - 1, by omega⟩
    obtain ⟨c, hc, hb⟩ := sl_cons s i (by omega)
    simp only [posthornref01_Bad.l0]
    rw [if_pos (by omega), if_pos (by omega), hb, is11 k (by omega)]
    simp only [Option.bind_some]
    rw [hc]
    cases hin : isIn 11 c.toNat
    · rw [if_neg (by simp)]
      have : badAt 11 (c :: sl s (i + 1)) = 0 := by simp [badAt, List.findIdx_cons, hin]
      rw [this]
      simp
    · rw [if_pos rfl, w1 i (by omega), ih (i + 1) (by omega) k (by omega)]
      have : badAt 11 (c :: sl s (i + 1)) = badAt 11 (sl s (i + 1)) + 1 := by simp [badAt, List.findIdx_cons, hin]
      rw [this]
      congr 2
      omega

theorem name_f (s : ByteArray) (hs : s.size < 9223372036854775000) (k : Nat) (hk : s.size + 10 < k) : posthornref16_name.f k s = some (nameB s.data.toList) := by
  have hlen : s.data.toList.length = s.size := data_length s
  unfold posthornref16_name.f
  by_cases h : (s.size : Int) > 0
  · have e : posthornref01_Bad.f k 11 s = some ((badAt 11 s.data.toList : Nat) : Int) := by
      have := bad_l0 s hs s.size 0 (by omega) k (by omega)
      simpa [posthornref01_Bad.f, sl] using this
    rw [if_pos h, e]
    simp only [Option.bind_some]
    congr 1
    have hne : s.data.toList.isEmpty = false := by
      cases hl : s.data.toList with
      | nil => rw [hl] at hlen; simp at hlen; omega
      | cons _ _ => rfl
    unfold nameB
    rw [hne, Bool.not_false, Bool.true_and, Bool.eq_iff_iff, ← badAt_full, beq_iff_eq, hlen]
    omega
  · rw [if_neg h]
    have hz : s.data.toList = [] := List.eq_nil_of_length_eq_zero (by omega)
    rw [hz]
    rfl


theorem row_loop (s : ByteArray) (hs : s.size < 9223372036854775000) : ∀ (d i : Nat), s.size = i + d → ∀ k, d < k → ∃ r, posthornref16_row.l0 k s 0 (i : Int) = some r ∧ decide (r.size < s.size) = hasEnd (sl s i) := by
  intro d
  induction d with
  | zero =>
    intro i hi k hk
    obtain ⟨k, rfl⟩ : ∃ m, k = m + 1 := ⟨k - 1, by omega⟩
    simp only [posthornref16_row.l0]
    obtain rfl : i = s.size := by omega
    rw [if_neg (by omega), sl_end]
    refine ⟨_, by rw [if_pos (by omega), if_pos (by omega), if_pos (by omega)], ?_⟩
    rw [Int.toNat_natCast, extract_mk, mk_size]
    simp [hasEnd, sl_len]
  | succ d ih =>
    intro i hi k hk
    obtain ⟨k, rfl⟩ : ∃ m, k = m + 1 := ⟨k - 1, by omega⟩
    obtain ⟨c, hc, hb⟩ := sl_cons s i (by omega)
    have hsz : ∀ r, r = s.extract (0 : Int).toNat (i : Int).toNat → decide (r.size < s.size) = true := by
      rintro r rfl
      rw [Int.toNat_natCast, extract_mk, mk_size, List.length_take, sl_len]
      exact decide_eq_true (by simp; omega)
    simp only [posthornref16_row.l0]
    rw [if_pos (by omega), if_pos (by omega), hb]
    by_cases h13 : (c.toNat : Int) = 13
    · rw [if_pos h13]
      refine ⟨_, by rw [if_pos (by omega), if_pos (by omega), if_pos (by omega)], ?_⟩
      rw [hsz _ rfl, hc, u13.1 h13]
      rfl
    · rw [if_neg h13]
      by_cases h10 : (c.toNat : Int) = 10
      · rw [if_pos h10]
        refine ⟨_, by rw [if_pos (by omega), if_pos (by omega), if_pos (by omega)], ?_⟩
        rw [hsz _ rfl, hc, u10.1 h10]
        rfl
      · rw [if_neg h10, w1 i (by omega)]
        obtain ⟨r, h1, h2⟩ := ih (i + 1) (by omega) k (by omega)
        refine ⟨r, h1, ?_⟩
        rw [h2, hc]
        have n13 : (c == 13) = false := beq_eq_false_iff_ne.2 (fun e => h13 (u13.2 e))
        have n10 : (c == 10) = false := beq_eq_false_iff_ne.2 (fun e => h10 (u10.2 e))
        simp [hasEnd, n13, n10]


theorem row_f (s : ByteArray) (hs : s.size < 9223372036854775000) (k : Nat) (hk : s.size < k) : ∃ r, posthornref16_row.f k s 0 = some r ∧ decide (r.size < s.size) = hasEnd s.data.toList := by
  obtain ⟨r, h1, h2⟩ := row_loop s hs s.size 0 (by omega) k hk
  exact ⟨r, h1, h2⟩

theorem blanks_loop (s : ByteArray) (hs : s.size < 9223372036854775000) : ∀ (d i : Nat), s.size = i + d → ∀ k, d < k → posthornref16_blanks.l0 k s (i : Int) = some (blanksB (sl s i)) := by
  intro d
  induction d with
  | zero =>
    intro i hi k hk
    obtain ⟨k, rfl⟩ : ∃ m, k = m + 1 := ⟨k - 1, by omega⟩
    simp only [posthornref16_blanks.l0]
    obtain rfl : i = s.size := by omega
    rw [if_neg (by omega), sl_end]
    rfl
  | succ d ih =>
    intro i hi k hk
    obtain ⟨k, rfl⟩ : ∃ m, k = m + 1 := ⟨k - 1, by omega⟩
    obtain ⟨c, hc, hb⟩ := sl_cons s i (by omega)
    simp only [posthornref16_blanks.l0]
    rw [if_pos (by omega), if_pos (by omega), hb, blank_f, hc]
    simp only [Option.bind_some]
    have e : (decide ((c.toNat : Int) = 32 ∨ (c.toNat : Int) = 9)) = (c == 32 || c == 9) := by
      rw [Bool.eq_iff_iff]
      simp only [decide_eq_true_eq, Bool.or_eq_true, beq_iff_eq, u32, u9]
    rw [e]
    cases h : (c == 32 || c == 9)
    · rw [if_neg (by simp)]
      simp [blanksB, h]
    · rw [if_pos rfl, w1 i (by omega), ih (i + 1) (by omega) k (by omega)]
      simp [blanksB, h]

theorem blanks_f (s : ByteArray) (hs : s.size < 9223372036854775000) (k : Nat) (hk : s.size < k) : posthornref16_blanks.f k s = some (blanksB s.data.toList) := blanks_loop s hs s.size 0 (by omega) k hk



theorem sl_zero (s : ByteArray) : sl s 0 = s.data.toList := rfl
theorem bt_at_nat (s : ByteArray) (i : Nat) (h : i < s.size) : bt s (i : Int) = ((s.data.toList.getD i 0).toNat : Int) := by
  obtain ⟨c, hc, hb⟩ := sl_cons s i h
  have : s.data.toList[i]? = some c := by
    have h0 : (sl s i)[0]? = some c := by rw [hc]; rfl
    unfold sl at h0
    rw [List.getElem?_drop] at h0
    simpa using h0
  rw [hb, List.getD_eq_getElem?_getD, this]
  rfl
theorem isBlank_dec (c : UInt8) : decide ((c.toNat : Int) = 32 ∨ (c.toNat : Int) = 9) = isBlank c := by
  unfold isBlank
  rw [Bool.eq_iff_iff]
  simp only [decide_eq_true_eq, Bool.or_eq_true, beq_iff_eq, u32, u9]
/-- is a place a joint, by the reference -/
def jointB (s : List UInt8) (i : Nat) : Bool := decide (1 ≤ i) && (jointAt s i && !blanksB (s.drop i))
theorem joint_f (s : ByteArray) (hs : s.size < 9223372036854775000) (i : Nat) (h1 : 1 ≤ i) (hi : i < s.size) (k : Nat) (hk : s.size < k) : posthornref16_joint.f k s (i : Int) = some (jointB s.data.toList i) := by
  unfold posthornref16_joint.f
  have hw : wrap64 ((i : Int) - 1) = ((i - 1 : Nat) : Int) := by unfold wrap64; omega
  rw [if_pos (by omega), if_pos (by omega), if_pos (by omega), hw, blank_f, bt_at_nat s i hi]
  simp only [Option.bind_some]
  rw [isBlank_dec]
  unfold jointB jointAt
  rw [decide_eq_true h1, Bool.true_and]
  cases hb : isBlank (s.data.toList.getD i 0)
  · rw [if_neg (by simp)]
    rfl
  · rw [if_pos rfl, if_pos (by omega), if_pos (by omega), blank_f, bt_at_nat s (i - 1) (by omega)]
    simp only [Option.bind_some]
    rw [isBlank_dec]
    cases hb2 : isBlank (s.data.toList.getD (i - 1) 0)
    · rw [if_neg (by simp), if_pos (by omega)]
      have hsz : (s.extract (i : Int).toNat s.size).size ≤ s.size := by rw [Int.toNat_natCast, extract_mk, mk_size, List.length_take, sl_len]; omega
      rw [blanks_f _ (by omega) k (by omega)]
      simp only [Option.bind_some]
      rw [Int.toNat_natCast, extract_mk, mk_list, List.take_of_length_le (by rw [sl_len]; omega)]
      rfl
    · rw [if_pos rfl]
      rfl
end Go.Proofs.YtammhcfifnffeaaDoor.FoldBase
