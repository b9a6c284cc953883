/- The reference's Check and Print tell what field.Check and field.Print tell. -/
import Derived.Test.YtammhcfifnffeaaDoorPrintWalk
namespace Go.Proofs.YtammhcfifnffeaaDoor.CheckPure
open Go.RowKit Go.Proofs.YtammhcfifnffeaaDoor.RowsIter Go.Proofs.YtammhcfifnffeaaDoorW.PrintWords Go.Proofs.YtammhcfifnffeaaDoor.PFieldPrints Go.Proofs.YtammhcfifnffeaaDoor.AnyEnd Go.Proofs.YtammhcfifnffeaaDoor.Octet Go.Proofs.YtammhcfifnffeaaDoor.CheckWalk Go.Proofs.YtammhcfifnffeaaDoor.PrintWalk
set_option linter.unusedVariables false
set_option linter.unusedSimpArgs false

def sl (s : ByteArray) (i : Nat) : List UInt8 := s.data.toList.drop i
theorem sl_cons (s : ByteArray) (i : Nat) (h : i < s.size) : ∃ c, sl s i = c :: sl s (i + 1) ∧ bt s i = c.toNat := by
  have hl : i < s.data.toList.length := by rw [data_length]; exact h
  refine ⟨s.data.toList[i], List.drop_eq_getElem_cons hl, ?_⟩
  unfold bt
  rw [dif_pos (by simpa using h)]
  simp only [Int.toNat_natCast]
  rfl
theorem sl_end (s : ByteArray) : sl s s.size = [] := by unfold sl; rw [← data_length]; exact List.drop_length
theorem sl_len (s : ByteArray) (i : Nat) : (sl s i).length = s.size - i := by unfold sl; rw [List.length_drop, data_length]
theorem blank_f (c : Int) : posthornref16_blank.f c = some (decide (c = 32 ∨ c = 9)) := by
  unfold posthornref16_blank.f
  by_cases h : c = 32
  · rw [if_pos h]; simp [h]
  · rw [if_neg h]
    congr 1
    rw [Bool.eq_iff_iff]
    simp [h]
theorem ends_f (s : ByteArray) (i : Nat) (hs : s.size < 9223372036854775000) (h : i < s.size) : posthornref16_ends.f s i = some (decide (i + 1 < s.size ∧ bt s i = 13 ∧ bt s ((i + 1 : Nat) : Int) = 10)) := by
  unfold posthornref16_ends.f
  have hw : wrap64 ((i : Int) + 1) = ((i + 1 : Nat) : Int) := by unfold wrap64; omega
  rw [hw]
  by_cases h1 : i + 1 < s.size
  · rw [if_pos (by omega), if_pos (by omega), if_pos (by omega)]
    by_cases h2 : bt s i = 13
    · rw [if_pos h2, if_pos (by omega)]
      congr 1
      rw [Bool.eq_iff_iff]
      simp [h1, h2]
    · rw [if_neg h2]
      simp [h2]
  · rw [if_neg (by omega)]
    congr 1
    symm
    rw [decide_eq_false_iff_not]
    omega
theorem u8_eq (c : UInt8) (n : Nat) (hn : n < 256) : ((c.toNat : Int) = (n : Int)) ↔ c = UInt8.ofNat n := by
  constructor
  · intro h
    apply UInt8.toNat_inj.1
    rw [UInt8.toNat_ofNat']
    omega
  · rintro rfl
    rw [UInt8.toNat_ofNat']
    omega
theorem u13 {c : UInt8} : ((c.toNat : Int) = 13) ↔ c = 13 := u8_eq c 13 (by omega)
theorem u10 {c : UInt8} : ((c.toNat : Int) = 10) ↔ c = 10 := u8_eq c 10 (by omega)
theorem u32 {c : UInt8} : ((c.toNat : Int) = 32) ↔ c = 32 := u8_eq c 32 (by omega)
theorem u9 {c : UInt8} : ((c.toNat : Int) = 9) ↔ c = 9 := u8_eq c 9 (by omega)
theorem w1 (i : Nat) (h : i < 9223372036854775000) : wrap64 ((i : Int) + 1) = ((i + 1 : Nat) : Int) := by unfold wrap64; omega
theorem w2 (i : Nat) (h : i < 9223372036854775000) : wrap64 ((i : Int) + 2) = ((i + 2 : Nat) : Int) := by unfold wrap64; omega

/-! ### the name -/
theorem is11_10 : ∀ b : Fin 256, posthornref01_Is.f 10 11 (b.val : Int) = some (isIn 11 b.val) := by decide +kernel
theorem is11 (k : Nat) (hk : 10 ≤ k) (b : UInt8) : posthornref01_Is.f k 11 (b.toNat : Int) = some (isIn 11 b.toNat) := by
  induction k with
  | zero => omega
  | succ k ih =>
    by_cases h : 10 ≤ k
    · exact posthornref01_Is.mono 11 _ k _ (ih h)
    · obtain rfl : k = 9 := by omega
      exact is11_10 ⟨b.toNat, b.toNat_lt⟩
theorem bad_l0 (s : ByteArray) (hs : s.size < 9223372036854775000) : ∀ (d i : Nat), i + d = s.size → ∀ k, d + 10 < k → posthornref01_Bad.l0 k 11 s i = some ((i + badAt 11 (sl s i) : Nat) : Int) := by
  intro d
  induction d with
  | zero =>
    intro i hi k hk
    obtain ⟨k, rfl⟩ : ∃ m, k = m + 1 := ⟨k - 1, by omega⟩
    simp only [posthornref01_Bad.l0]
    obtain rfl : i = s.size := by omega
    rw [if_neg (by omega), sl_end]
    simp [badAt]
  | succ d ih =>
    intro i hi k hk
    obtain ⟨k, rfl⟩ : ∃ m, k = m + 1 := ⟨k - 1, by omega⟩
    obtain ⟨c, hc, hb⟩ := sl_cons s i (by omega)
    simp only [posthornref01_Bad.l0]
    rw [if_pos (by omega), if_pos (by omega), hb, is11 k (by omega)]
    simp only [Option.bind_some]
    rw [hc]
    cases hin : isIn 11 c.toNat
    · rw [if_neg (by simp)]
      have : badAt 11 (c :: sl s (i + 1)) = 0 := by simp [badAt, List.findIdx_cons, hin]
      rw [this]
      simp
    · rw [if_pos rfl, w1 i (by omega), ih (i + 1) (by omega) k (by omega)]
      have : badAt 11 (c :: sl s (i + 1)) = badAt 11 (sl s (i + 1)) + 1 := by simp [badAt, List.findIdx_cons, hin]
      rw [this]
      congr 2
      omega
theorem name_f (s : ByteArray) (hs : s.size < 9223372036854775000) (k : Nat) (hk : s.size + 10 < k) : posthornref16_name.f k s = some (nameB s.data.toList) := by
  have hlen : s.data.toList.length = s.size := data_length s
  unfold posthornref16_name.f
  by_cases h : (s.size : Int) > 0
  · have e : posthornref01_Bad.f k 11 s = some ((badAt 11 s.data.toList : Nat) : Int) := by
      have := bad_l0 s hs s.size 0 (by omega) k (by omega)
      simpa [posthornref01_Bad.f, sl] using this
    rw [if_pos h, e]
    simp only [Option.bind_some]
    congr 1
    have hne : s.data.toList.isEmpty = false := by
      cases hl : s.data.toList with
      | nil => rw [hl] at hlen; simp at hlen; omega
      | cons _ _ => rfl
    unfold nameB
    rw [hne, Bool.not_false, Bool.true_and, Bool.eq_iff_iff, ← badAt_full, beq_iff_eq, hlen]
    omega
  · rw [if_neg h]
    have hz : s.data.toList = [] := List.eq_nil_of_length_eq_zero (by omega)
    rw [hz]
    rfl

/-! ### the rows -/
def mk (l : List UInt8) : ByteArray := ⟨l.toArray⟩
theorem mk_size (l : List UInt8) : (mk l).size = l.length := by simp [mk, ByteArray.size]
theorem mk_list (l : List UInt8) : (mk l).data.toList = l := rfl
theorem mk_data (s : ByteArray) : mk s.data.toList = s := by simp [mk]
theorem extract_mk (s : ByteArray) (a b : Nat) : s.extract a b = mk ((sl s a).take (b - a)) := by
  rw [← mk_data (s.extract a b)]
  congr 1
  rw [ByteArray.data_extract, Array.toList_extract]
  unfold sl
  rw [List.extract_eq_take_drop]
def joinH (p : List UInt8) : List (List UInt8) → List (List UInt8)
  | [] => [p]
  | h :: t => (p ++ h) :: t
theorem rowsL_step {c : UInt8} {l : List UInt8} (h : ¬ (c = 13 ∧ l.head? = some 10)) : rowsL (c :: l) = joinH [c] (rowsL l) := by
  cases l with
  | nil => rfl
  | cons d l =>
    conv => lhs; unfold rowsL
    rw [if_neg (by simpa using h)]
    cases hr : rowsL (d :: l) with
    | nil => exact absurd hr (rowsL_ne _)
    | cons g r => rfl
theorem joinH_joinH (p q : List UInt8) (l : List (List UInt8)) : joinH p (joinH q l) = joinH (p ++ q) l := by cases l <;> simp [joinH]
theorem joinH_nil (l : List (List UInt8)) (h : l ≠ []) : joinH [] l = l := by cases l <;> simp_all [joinH]
theorem rows_loop (s : ByteArray) (hs : s.size < 8796093022200) : ∀ (d i frm : Nat) (acc : List (List UInt8)), s.size = i + d → frm ≤ i → acc.length ≤ frm →
    ∀ k, d < k → posthornref16_rows.l0 k s (acc.map mk) (frm : Int) (i : Int) = some ((acc ++ joinH ((sl s frm).take (i - frm)) (rowsL (sl s i))).map mk) := by
  intro d
  induction d using Nat.strongRecOn with
  | _ d ih =>
    intro i frm acc hd hf ha k hk
    obtain ⟨k, rfl⟩ : ∃ m, k = m + 1 := ⟨k - 1, by omega⟩
    simp only [posthornref16_rows.l0]
    by_cases hlt : i < s.size
    · rw [if_pos (by omega), ends_f s i (by omega) hlt]
      simp only [Option.bind_some]
      rw [w1 i (by omega), w2 i (by omega)]
      obtain ⟨c, hc, hbc⟩ := sl_cons s i hlt
      by_cases he : i + 1 < s.size ∧ bt s i = 13 ∧ bt s ((i + 1 : Nat) : Int) = 10
      · rw [if_pos (by simpa using he)]
        obtain ⟨c2, hc2, hbc2⟩ := sl_cons s (i + 1) he.1
        have h13 : c = 13 := by have := he.2.1; rw [hbc] at this; exact u13.1 this
        have h10 : c2 = 10 := by have := he.2.2; rw [hbc2] at this; exact u10.1 this
        subst h13 h10
        rw [if_pos (by omega), if_pos (by omega), if_pos (by omega), if_pos (by rw [List.length_map]; omega)]
        obtain ⟨k, rfl⟩ : ∃ m, k = m + 1 := ⟨k - 1, by omega⟩
        simp only [posthornref16_rows.l0]
        rw [if_pos (by omega), ends_f s (i + 1) (by omega) he.1]
        simp only [Option.bind_some]
        rw [if_neg (by rw [hbc2]; simp), w1 (i + 1) (by omega)]
        have e : acc.map mk ++ [s.extract (frm : Int).toNat (i : Int).toNat] = (acc ++ [(sl s frm).take (i - frm)]).map mk := by
          rw [Int.toNat_natCast, Int.toNat_natCast, extract_mk]
          simp
        rw [e, ih (d - 2) (by omega) (i + 2) (i + 2) _ (by omega) (by omega) (by simp; omega) k (by omega)]
        have hr : rowsL (sl s i) = [] :: rowsL (sl s (i + 2)) := by
          rw [hc, hc2]
          simp [rowsL]
        rw [hr]
        simp only [Nat.sub_self, List.take_zero]
        rw [joinH_nil _ (rowsL_ne _)]
        simp [joinH]
      · rw [if_neg (by simpa using he), ih (d - 1) (by omega) (i + 1) frm acc (by omega) (by omega) ha k (by omega)]
        have hr : rowsL (sl s i) = joinH [c] (rowsL (sl s (i + 1))) := by
          rw [hc]
          apply rowsL_step
          rintro ⟨rfl, h⟩
          by_cases h1 : i + 1 < s.size
          · obtain ⟨c2, hc2, hbc2⟩ := sl_cons s (i + 1) h1
            rw [hc2] at h
            simp only [List.head?_cons, Option.some.injEq] at h
            subst h
            exact he ⟨h1, hbc, hbc2⟩
          · have : i + 1 = s.size := by omega
            rw [this, sl_end] at h
            cases h
        have ht : (sl s frm).take (i + 1 - frm) = (sl s frm).take (i - frm) ++ [c] := by
          rw [show i + 1 - frm = (i - frm) + 1 by omega, List.take_add_one]
          have : (sl s frm)[i - frm]? = some c := by
            unfold sl
            rw [List.getElem?_drop, show frm + (i - frm) = i by omega]
            have h0 : (sl s i)[0]? = some c := by rw [hc]; rfl
            unfold sl at h0
            rw [List.getElem?_drop] at h0
            simpa using h0
          rw [this]
          rfl
        rw [hr, joinH_joinH, ht]
    · rw [if_neg (by omega)]
      obtain rfl : i = s.size := by omega
      rw [if_pos (by omega), if_pos (by omega), if_pos (by rw [List.length_map]; omega), sl_end]
      rw [Int.toNat_natCast, extract_mk]
      simp [joinH, rowsL]
theorem rows_f (s : ByteArray) (hs : s.size < 8796093022200) (k : Nat) (hk : s.size < k) : posthornref16_rows.f k s = some ((rowsL s.data.toList).map mk) := by
  have := rows_loop s hs s.size 0 0 [] (by omega) (by omega) (by simp) k hk
  simp only [List.map_nil, Nat.sub_self, List.take_zero, List.nil_append] at this
  rw [joinH_nil _ (rowsL_ne _)] at this
  simpa [posthornref16_rows.f, sl] using this

theorem row_loop (s : ByteArray) (hs : s.size < 9223372036854775000) : ∀ (d i : Nat), s.size = i + d → ∀ k, d < k → ∃ r, posthornref16_row.l0 k s 0 (i : Int) = some r ∧ decide (r.size < s.size) = hasEnd (sl s i) := by
  intro d
  induction d with
  | zero =>
    intro i hi k hk
    obtain ⟨k, rfl⟩ : ∃ m, k = m + 1 := ⟨k - 1, by omega⟩
    simp only [posthornref16_row.l0]
    obtain rfl : i = s.size := by omega
    rw [if_neg (by omega), sl_end]
    refine ⟨_, by rw [if_pos (by omega), if_pos (by omega), if_pos (by omega)], ?_⟩
    rw [Int.toNat_natCast, extract_mk, mk_size]
    simp [hasEnd, sl_len]
  | succ d ih =>
    intro i hi k hk
    obtain ⟨k, rfl⟩ : ∃ m, k = m + 1 := ⟨k - 1, by omega⟩
    obtain ⟨c, hc, hb⟩ := sl_cons s i (by omega)
    have hsz : ∀ r, r = s.extract (0 : Int).toNat (i : Int).toNat → decide (r.size < s.size) = true := by
      rintro r rfl
      rw [Int.toNat_natCast, extract_mk, mk_size, List.length_take, sl_len]
      exact decide_eq_true (by simp; omega)
    simp only [posthornref16_row.l0]
    rw [if_pos (by omega), if_pos (by omega), hb]
    by_cases h13 : (c.toNat : Int) = 13
    · rw [if_pos h13]
      refine ⟨_, by rw [if_pos (by omega), if_pos (by omega), if_pos (by omega)], ?_⟩
      rw [hsz _ rfl, hc, u13.1 h13]
      rfl
    · rw [if_neg h13]
      by_cases h10 : (c.toNat : Int) = 10
      · rw [if_pos h10]
        refine ⟨_, by rw [if_pos (by omega), if_pos (by omega), if_pos (by omega)], ?_⟩
        rw [hsz _ rfl, hc, u10.1 h10]
        rfl
      · rw [if_neg h10, w1 i (by omega)]
        obtain ⟨r, h1, h2⟩ := ih (i + 1) (by omega) k (by omega)
        refine ⟨r, h1, ?_⟩
        rw [h2, hc]
        have n13 : (c == 13) = false := beq_eq_false_iff_ne.2 (fun e => h13 (u13.2 e))
        have n10 : (c == 10) = false := beq_eq_false_iff_ne.2 (fun e => h10 (u10.2 e))
        simp [hasEnd, n13, n10]

theorem row_f (s : ByteArray) (hs : s.size < 9223372036854775000) (k : Nat) (hk : s.size < k) : ∃ r, posthornref16_row.f k s 0 = some r ∧ decide (r.size < s.size) = hasEnd s.data.toList := by
  obtain ⟨r, h1, h2⟩ := row_loop s hs s.size 0 (by omega) k hk
  exact ⟨r, h1, h2⟩
theorem blanks_loop (s : ByteArray) (hs : s.size < 9223372036854775000) : ∀ (d i : Nat), s.size = i + d → ∀ k, d < k → posthornref16_blanks.l0 k s (i : Int) = some (blanksB (sl s i)) := by
  intro d
  induction d with
  | zero =>
    intro i hi k hk
    obtain ⟨k, rfl⟩ : ∃ m, k = m + 1 := ⟨k - 1, by omega⟩
    simp only [posthornref16_blanks.l0]
    obtain rfl : i = s.size := by omega
    rw [if_neg (by omega), sl_end]
    rfl
  | succ d ih =>
    intro i hi k hk
    obtain ⟨k, rfl⟩ : ∃ m, k = m + 1 := ⟨k - 1, by omega⟩
    obtain ⟨c, hc, hb⟩ := sl_cons s i (by omega)
    simp only [posthornref16_blanks.l0]
    rw [if_pos (by omega), if_pos (by omega), hb, blank_f, hc]
    simp only [Option.bind_some]
    have e : (decide ((c.toNat : Int) = 32 ∨ (c.toNat : Int) = 9)) = (c == 32 || c == 9) := by
      rw [Bool.eq_iff_iff]
      simp only [decide_eq_true_eq, Bool.or_eq_true, beq_iff_eq, u32, u9]
    rw [e]
    cases h : (c == 32 || c == 9)
    · rw [if_neg (by simp)]
      simp [blanksB, h]
    · rw [if_pos rfl, w1 i (by omega), ih (i + 1) (by omega) k (by omega)]
      simp [blanksB, h]
theorem blanks_f (s : ByteArray) (hs : s.size < 9223372036854775000) (k : Nat) (hk : s.size < k) : posthornref16_blanks.f k s = some (blanksB s.data.toList) := blanks_loop s hs s.size 0 (by omega) k hk

/-! ### Check -/
def bad0 (x : List UInt8) : Bool := rowBad 0 x
theorem rd_mk (L : List (List UInt8)) (i : Nat) (x : List UInt8) (h : L[i]? = some x) : rdOf ByteArray.empty (L.map mk) (i : Int) = mk x := by
  unfold rdOf
  simp [List.getD_eq_getElem?_getD, h]
theorem l1_loop (L : List (List UInt8)) (M : Nat) (hM : M < 4294967296) (hL : L.length < 9223372036854775000) (hx : ∀ x ∈ L, x.length ≤ M) : ∀ (d i : Nat), L.length ≤ i + d → ∀ k, d + M + 1 < k → posthornref16_Check.l1 k (L.map mk) (i : Int) = some (if (L.drop i).any foldOff = true then 161 else 0) := by
  intro d
  induction d with
  | zero =>
    intro i hi k hk
    obtain ⟨k, rfl⟩ : ∃ m, k = m + 1 := ⟨k - 1, by omega⟩
    simp only [posthornref16_Check.l1]
    rw [if_neg (by rw [List.length_map]; omega), List.drop_eq_nil_of_le (by omega)]
    rfl
  | succ d ih =>
    intro i hi k hk
    obtain ⟨k, rfl⟩ : ∃ m, k = m + 1 := ⟨k - 1, by omega⟩
    simp only [posthornref16_Check.l1]
    by_cases hlt : i < L.length
    · have hg : L[i]? = some (L[i]) := List.getElem?_eq_getElem hlt
      have hm := hx _ (List.getElem_mem hlt)
      rw [if_pos (by rw [List.length_map]; omega), if_pos (by omega), rd_mk L i _ hg, blanks_f _ (by rw [mk_size]; omega) k (by rw [mk_size]; omega)]
      simp only [Option.bind_some, mk_list]
      rw [List.drop_eq_getElem_cons hlt, List.any_cons]
      cases hb : blanksB L[i]
      · rw [if_neg (by simp)]
        cases hx' : L[i] with
        | nil => rw [hx'] at hb; cases hb
        | cons c r =>
          rw [hx'] at hb
          have hbt : bt (mk (c :: r)) 0 = c.toNat := by
            obtain ⟨c', h1, h2⟩ := sl_cons (mk (c :: r)) 0 (by rw [mk_size]; simp)
            have : sl (mk (c :: r)) 0 = c :: r := rfl
            rw [this] at h1
            cases h1
            exact h2
          rw [if_pos (by rw [mk_size]; simp), hbt, blank_f]
          simp only [Option.bind_some]
          have e : (decide ((c.toNat : Int) = 32 ∨ (c.toNat : Int) = 9)) = blankB (c :: r) := by
            rw [Bool.eq_iff_iff]
            simp only [decide_eq_true_eq, blankB, Bool.or_eq_true, beq_iff_eq, u32, u9]
          rw [e]
          cases hk2 : blankB (c :: r)
          · rw [if_neg (by simp)]
            simp [foldOff, hk2]
          · rw [if_pos rfl, w1 i (by omega), ih (i + 1) (by omega) k (by omega)]
            simp [foldOff, hk2, hb]
      · rw [if_pos rfl]
        simp [foldOff, hb]
    · rw [if_neg (by rw [List.length_map]; omega), List.drop_eq_nil_of_le (by omega)]
      rfl
theorem l0_loop (L : List (List UInt8)) (M : Nat) (hM : M < 4294967296) (hL : L.length < 9223372036854775000) (hx : ∀ x ∈ L, x.length ≤ M) : ∀ (d i : Nat), L.length ≤ i + d → ∀ k, d + L.length + M + 2 < k → posthornref16_Check.l0 k (L.map mk) (i : Int) = some (if (L.drop i).any bad0 = true then 160 else if (L.drop 1).any foldOff = true then 161 else 0) := by
  intro d
  induction d with
  | zero =>
    intro i hi k hk
    obtain ⟨k, rfl⟩ : ∃ m, k = m + 1 := ⟨k - 1, by omega⟩
    simp only [posthornref16_Check.l0]
    rw [if_neg (by rw [List.length_map]; omega), List.drop_eq_nil_of_le (by omega)]
    exact l1_loop L M hM hL hx L.length 1 (by omega) k (by omega)
  | succ d ih =>
    intro i hi k hk
    obtain ⟨k, rfl⟩ : ∃ m, k = m + 1 := ⟨k - 1, by omega⟩
    simp only [posthornref16_Check.l0]
    by_cases hlt : i < L.length
    · have hg : L[i]? = some (L[i]) := List.getElem?_eq_getElem hlt
      have hm := hx _ (List.getElem_mem hlt)
      obtain ⟨r, h1, h2⟩ := row_f (mk L[i]) (by rw [mk_size]; omega) k (by rw [mk_size]; omega)
      rw [if_pos (by rw [List.length_map]; omega), if_pos (by omega), rd_mk L i _ hg, h1]
      simp only [Option.bind_some]
      rw [List.drop_eq_getElem_cons hlt, List.any_cons]
      rw [mk_list] at h2
      cases he : hasEnd L[i]
      · rw [he] at h2
        rw [if_neg (by have := of_decide_eq_false h2; omega), mk_size]
        by_cases h9 : 998 < L[i].length
        · rw [if_pos (by omega)]
          have : bad0 L[i] = true := by unfold bad0 rowBad; rw [Nat.add_zero, decide_eq_true h9]; rfl
          rw [this]
          rfl
        · rw [if_neg (by omega), w1 i (by omega), ih (i + 1) (by omega) k (by omega)]
          have : bad0 L[i] = false := by unfold bad0 rowBad; rw [Nat.add_zero, decide_eq_false h9, he]; rfl
          rw [this, Bool.false_or]
      · rw [he] at h2
        rw [if_pos (by have := of_decide_eq_true h2; omega)]
        have : bad0 L[i] = true := by unfold bad0 rowBad; rw [he, Bool.or_true]
        rw [this]
        rfl
    · rw [if_neg (by rw [List.length_map]; omega), List.drop_eq_nil_of_le (by omega)]
      exact l1_loop L M hM hL hx L.length 1 (by omega) k (by omega)
theorem isIn11 : ∀ b : Fin 256, isIn 11 b.val = true → b.val ≠ 13 ∧ b.val ≠ 10 := by decide +kernel
theorem name_clean (s : List UInt8) (h : nameB s = true) : ∀ b ∈ s, b ≠ 13 ∧ b ≠ 10 := by
  intro b hb
  unfold nameB at h
  rw [Bool.and_eq_true] at h
  have := List.all_eq_true.1 h.2 b hb
  have := isIn11 ⟨b.toNat, b.toNat_lt⟩ this
  exact ⟨fun e => this.1 (by subst e; rfl), fun e => this.2 (by subst e; rfl)⟩
theorem rowsL_clean : ∀ (p l : List UInt8), (∀ b ∈ p, b ≠ 13 ∧ b ≠ 10) → rowsL (p ++ l) = joinH p (rowsL l)
  | [], l, _ => (joinH_nil _ (rowsL_ne _)).symm
  | c :: p, l, h => by
    rw [List.cons_append, rowsL_step (fun e => (h c List.mem_cons_self).1 e.1), rowsL_clean p l (fun b hb => h b (List.mem_cons_of_mem _ hb)), joinH_joinH]
    rfl
theorem hasEnd_clean : ∀ (p l : List UInt8), (∀ b ∈ p, b ≠ 13 ∧ b ≠ 10) → hasEnd (p ++ l) = hasEnd l
  | [], l, _ => rfl
  | c :: p, l, h => by
    have h1 := h c List.mem_cons_self
    have ih := hasEnd_clean p l (fun b hb => h b (List.mem_cons_of_mem _ hb))
    unfold hasEnd at ih ⊢
    rw [List.cons_append, List.any_cons, ih]
    simp [h1.1, h1.2]
theorem rows_each (l : List UInt8) : ∀ x ∈ rowsL l, x.length ≤ l.length := by
  intro x hx
  have h := rows_weight l
  have h2 : x.length + 2 ≤ weight (rowsL l) := by
    generalize rowsL l = L at hx
    clear h
    induction L with
    | nil => cases hx
    | cons y L ih =>
      rw [weight_cons]
      rcases List.mem_cons.1 hx with rfl | hx
      · omega
      · have := ih hx; omega
  omega
theorem rows_count (l : List UInt8) : 2 * (rowsL l).length ≤ l.length + 2 := by
  have h := rows_weight l
  unfold weight at h
  omega
theorem check_f (nm bd : ByteArray) (hs : nm.size + bd.size < 4294967290) : ∃ K, ∀ k, K ≤ k → posthornref16_Check.f k nm bd = some (checkV nm.data.toList bd.data.toList) := by
  refine ⟨nm.size + bd.size + (nm.size + bd.size) + (nm.size + bd.size) + (nm.size + bd.size) + 100, fun k hk => ?_⟩
  have hnl : nm.data.toList.length = nm.size := data_length nm
  have hbl : bd.data.toList.length = bd.size := data_length bd
  unfold posthornref16_Check.f checkV
  rw [name_f nm (by omega) k (by omega)]
  simp only [Option.bind_some]
  cases hn : nameB nm.data.toList
  · rw [if_neg (by simp), if_pos rfl]
  · rw [if_pos rfl]
    simp only [Bool.true_eq_false, if_false]
    have hsz : ((nm ++ (⟨#[58]⟩ : ByteArray)) ++ bd).size = nm.size + 1 + bd.size := by simp [ByteArray.size_append]; rfl
    have hsz1 : (nm ++ (⟨#[58]⟩ : ByteArray)).size = nm.size + 1 := by simp [ByteArray.size_append]; rfl
    have hlist : ((nm ++ (⟨#[58]⟩ : ByteArray)) ++ bd).data.toList = (nm.data.toList ++ [58]) ++ bd.data.toList := by simp
    rw [if_pos (by omega), if_pos (by omega), rows_f _ (by omega) k (by omega), hlist]
    simp only [Option.bind_some]
    have hclean : ∀ b ∈ nm.data.toList ++ [58], b ≠ 13 ∧ b ≠ 10 := by
      intro b hb
      rcases List.mem_append.1 hb with hb | hb
      · exact name_clean _ hn b hb
      · rw [List.mem_singleton.1 hb]; decide
    have hcnt := rows_count ((nm.data.toList ++ [58]) ++ bd.data.toList)
    have heach := rows_each ((nm.data.toList ++ [58]) ++ bd.data.toList)
    have hll : ((nm.data.toList ++ [58]) ++ bd.data.toList).length = nm.size + 1 + bd.size := by simp; omega
    rw [hll] at hcnt heach
    have := l0_loop (rowsL ((nm.data.toList ++ [58]) ++ bd.data.toList)) (nm.size + 1 + bd.size) (by omega) (by omega) heach (rowsL ((nm.data.toList ++ [58]) ++ bd.data.toList)).length 0 (by omega) k (by omega)
    rw [show ((0 : Nat) : Int) = 0 from rfl] at this
    rw [this, rowsL_clean _ _ hclean]
    cases hr : rowsL bd.data.toList with
    | nil => exact absurd hr (rowsL_ne _)
    | cons r0 rest =>
      simp only [joinH, List.drop_zero, List.drop_succ_cons, List.any_cons, anyBad, foldBad, List.tail_cons]
      have hb : bad0 (nm.data.toList ++ [58] ++ r0) = rowBad (nm.data.toList.length + 1) r0 := by
        unfold bad0 rowBad
        rw [hasEnd_clean _ _ hclean]
        congr 1
        rw [decide_eq_decide]
        simp only [List.length_append, List.length_singleton]
        omega
      rw [hb]
      rfl

/-! ### Print -/
theorem line_len (f : S30) : (line f).length = f.f0.size + 1 + f.f1.size + 2 := by
  simp [line, bytesOf_length]; omega
theorem checks_f : ∀ (l : List S30), (∀ f ∈ l, f.f0.size + f.f1.size < 4294967290) → ∃ K, ∀ f ∈ l, ∀ k, K ≤ k → posthornref16_Check.f k f.f0 f.f1 = some (checkF f)
  | [], _ => ⟨0, fun f hf => by cases hf⟩
  | g :: l, h => by
    obtain ⟨K1, h1⟩ := check_f g.f0 g.f1 (h g List.mem_cons_self)
    obtain ⟨K2, h2⟩ := checks_f l (fun f hf => h f (List.mem_cons_of_mem _ hf))
    refine ⟨K1 + K2, fun f hf k hk => ?_⟩
    rcases List.mem_cons.1 hf with rfl | hf
    · exact h1 k (by omega)
    · exact h2 f hf k (by omega)
theorem print_loop (l : List S30) (hl : l.length ≤ 4096) (hS : (l.flatMap line).length < 140737488355328) (K : Nat) (hK : ∀ f ∈ l, ∀ k, K ≤ k → posthornref16_Check.f k f.f0 f.f1 = some (checkF f)) :
    ∀ (d i : Nat), l.length = i + d → ∀ k, d + K + 1 < k → posthornref16_Print.l0 k l ((l.take i).flatMap line) (i : Int) = some (if firstBad (l.drop i) = 0 then (l.flatMap line, 0) else ([], firstBad (l.drop i))) := by
  intro d
  induction d with
  | zero =>
    intro i hi k hk
    obtain ⟨k, rfl⟩ : ∃ m, k = m + 1 := ⟨k - 1, by omega⟩
    simp only [posthornref16_Print.l0]
    rw [if_neg (by omega), List.drop_eq_nil_of_le (by omega), List.take_of_length_le (by omega)]
    rfl
  | succ d ih =>
    intro i hi k hk
    obtain ⟨k, rfl⟩ : ∃ m, k = m + 1 := ⟨k - 1, by omega⟩
    have hlt : i < l.length := by omega
    have hg : l[i]? = some (l[i]) := List.getElem?_eq_getElem hlt
    have hrd : rd_T30 l (i : Int) = l[i] := by
      unfold rd_T30
      simp [List.getD_eq_getElem?_getD, hg]
    simp only [posthornref16_Print.l0]
    rw [if_pos (by omega), if_pos (by omega), hrd, hK _ (List.getElem_mem hlt) k (by omega), List.drop_eq_getElem_cons hlt]
    simp only [Option.bind_some]
    have ht : (l.take (i + 1)).flatMap line = (l.take i).flatMap line ++ line l[i] := by
      rw [List.take_add_one, List.flatMap_append, hg]
      simp [List.flatMap_cons]
    have hle : ((l.take (i + 1)).flatMap line).length ≤ (l.flatMap line).length := by
      conv => rhs; rw [← List.take_append_drop (i + 1) l]
      rw [List.flatMap_append, List.length_append]
      omega
    rw [ht, List.length_append, line_len] at hle
    by_cases h0 : checkF l[i] = 0
    · have hfb : firstBad (l[i] :: l.drop (i + 1)) = firstBad (l.drop (i + 1)) := by rw [firstBad, if_pos h0]
      rw [hfb, if_pos h0]
      have e1 : ((l.take i).flatMap line ++ bytesOf l[i].f0).length = ((l.take i).flatMap line).length + l[i].f0.size := by rw [List.length_append, bytesOf_length]
      rw [if_pos (by omega), if_pos (by omega)]
      have e2 : ((l.take i).flatMap line ++ bytesOf l[i].f0 ++ [58]).length = ((l.take i).flatMap line).length + l[i].f0.size + 1 := by rw [List.length_append, e1]; rfl
      rw [if_pos (by omega)]
      have e3 : ((l.take i).flatMap line ++ bytesOf l[i].f0 ++ [58] ++ bytesOf l[i].f1).length = ((l.take i).flatMap line).length + l[i].f0.size + 1 + l[i].f1.size := by rw [List.length_append, e2, bytesOf_length]
      rw [if_pos (by simp only [List.length_cons, List.length_nil]; omega), w1 i (by omega)]
      have e4 : (l.take i).flatMap line ++ bytesOf l[i].f0 ++ [58] ++ bytesOf l[i].f1 ++ [13, 10] = (l.take (i + 1)).flatMap line := by
        rw [ht]
        simp [line]
      rw [e4]
      exact ih (i + 1) (by omega) k (by omega)
    · have hfb : firstBad (l[i] :: l.drop (i + 1)) = checkF l[i] := by rw [firstBad, if_neg h0]
      rw [hfb, if_neg h0, if_neg h0]
theorem print_f (l : List S30) (hE : ∀ f ∈ l, f.f0.size + f.f1.size < 4294967290) (hS : (l.flatMap line).length < 140737488355328) : ∃ k, posthornref16_Print.f k l = some (printV l) := by
  obtain ⟨K, hK⟩ := checks_f l hE
  refine ⟨l.length + K + 2, ?_⟩
  unfold posthornref16_Print.f printV
  by_cases h : 4096 < l.length
  · rw [if_pos (by omega), if_pos h]
  · rw [if_neg (by omega), if_neg h]
    have := print_loop l (by omega) hS K hK l.length 0 (by omega) (l.length + K + 2) (by omega)
    simpa using this
def ex : List S30 := [⟨⟨#[65]⟩, ⟨#[49]⟩⟩]
theorem example_print : printV ex = ([65, 58, 49, 13, 10], 0) := by decide +kernel
end Go.Proofs.YtammhcfifnffeaaDoor.CheckPure
