/- Texts of FieldFolds and FieldFoldBack, joined into one file. -/
import Derived.Test.YtammhcfifnffeaaDoorFoldRef
import Derived.Test.YtammhcfifnffeaaDoorFoldWalk
import Derived.Test.YtammhcfifnffeaaDoorCheckPure
import Derived.Test.YtammhcfifnffeaaDoorUnfoldWalk
import Derived.Test.YtammhcfifnffeaaDoorWakes
import Derived.RegionTactic
import Derived.ChangeAlike
/- FieldFolds: the reference's name, row, blanks and joint (the copies that print.sh wrote for this law). -/
namespace Go.Proofs.YtammhcfifnffeaaDoor.FoldBase
open Go.RowKit Go.Proofs.YtammhcfifnffeaaDoor.RowsIter Go.Proofs.YtammhcfifnffeaaDoorW.PrintWords Go.Proofs.YtammhcfifnffeaaDoor.PFieldFolds Go.Proofs.YtammhcfifnffeaaDoor.AnyEnd Go.Proofs.YtammhcfifnffeaaDoor.Octet Go.Proofs.YtammhcfifnffeaaDoor.CheckWalk Go.Proofs.YtammhcfifnffeaaDoor.JointsIter Go.Proofs.YtammhcfifnffeaaDoor.FoldWalk
open Go.Proofs.YtammhcfifnffeaaDoor.CheckPure (sl sl_cons sl_end sl_len u8_eq u13 u10 u32 u9 w1 w2 mk mk_size mk_list mk_data extract_mk)
set_option linter.unusedVariables false
set_option linter.unusedSimpArgs false

theorem blank_f (c : Int) : posthornref16_blank.f c = some (decide (c = 32 ∨ c = 9)) := by
  unfold posthornref16_blank.f
  by_cases h : c = 32
  · rw [if_pos h]; simp [h]
  · rw [if_neg h]
    congr 1
    rw [Bool.eq_iff_iff]
    simp [h]

theorem is11_10 : ∀ b : Fin 256, posthornref01_Is.f 10 11 (b.val : Int) = some (isIn 11 b.val) := by decide +kernel

theorem is11 (k : Nat) (hk : 10 ≤ k) (b : UInt8) : posthornref01_Is.f k 11 (b.toNat : Int) = some (isIn 11 b.toNat) := by
  induction k with
  | zero => omega
  | succ k ih =>
    by_cases h : 10 ≤ k
    · exact posthornref01_Is.mono 11 _ k _ (ih h)
    · obtain rfl : k = 9 := by omega
      exact is11_10 ⟨b.toNat, b.toNat_lt⟩

theorem bad_l0 (s : ByteArray) (hs : s.size < 9223372036854775000) : ∀ (d i : Nat), i + d = s.size → ∀ k, d + 10 < k → posthornref01_Bad.l0 k 11 s i = some ((i + badAt 11 (sl s i) : Nat) : Int) := by
  intro d
  induction d with
  | zero =>
    intro i hi k hk
    obtain ⟨k, rfl⟩ : ∃ m, k = m + 1 := ⟨k - 1, by omega⟩
    simp only [posthornref01_Bad.l0]
    obtain rfl : i = s.size := by omega
    rw [if_neg (by omega), sl_end]
    simp [badAt]
  | succ d ih =>
    intro i hi k hk
    obtain ⟨k, rfl⟩ : ∃ m, k = m + 1 := ⟨k - 1, by omega⟩
    obtain ⟨c, hc, hb⟩ := sl_cons s i (by omega)
    simp only [posthornref01_Bad.l0]
    rw [if_pos (by omega), if_pos (by omega), hb, is11 k (by omega)]
    simp only [Option.bind_some]
    rw [hc]
    cases hin : isIn 11 c.toNat
    · rw [if_neg (by simp)]
      have : badAt 11 (c :: sl s (i + 1)) = 0 := by simp [badAt, List.findIdx_cons, hin]
      rw [this]
      simp
    · rw [if_pos rfl, w1 i (by omega), ih (i + 1) (by omega) k (by omega)]
      have : badAt 11 (c :: sl s (i + 1)) = badAt 11 (sl s (i + 1)) + 1 := by simp [badAt, List.findIdx_cons, hin]
      rw [this]
      congr 2
      omega

theorem name_f (s : ByteArray) (hs : s.size < 9223372036854775000) (k : Nat) (hk : s.size + 10 < k) : posthornref16_name.f k s = some (nameB s.data.toList) := by
  have hlen : s.data.toList.length = s.size := data_length s
  unfold posthornref16_name.f
  by_cases h : (s.size : Int) > 0
  · have e : posthornref01_Bad.f k 11 s = some ((badAt 11 s.data.toList : Nat) : Int) := by
      have := bad_l0 s hs s.size 0 (by omega) k (by omega)
      simpa [posthornref01_Bad.f, sl] using this
    rw [if_pos h, e]
    simp only [Option.bind_some]
    congr 1
    have hne : s.data.toList.isEmpty = false := by
      cases hl : s.data.toList with
      | nil => rw [hl] at hlen; simp at hlen; omega
      | cons _ _ => rfl
    unfold nameB
    rw [hne, Bool.not_false, Bool.true_and, Bool.eq_iff_iff, ← badAt_full, beq_iff_eq, hlen]
    omega
  · rw [if_neg h]
    have hz : s.data.toList = [] := List.eq_nil_of_length_eq_zero (by omega)
    rw [hz]
    rfl


theorem row_loop (s : ByteArray) (hs : s.size < 9223372036854775000) : ∀ (d i : Nat), s.size = i + d → ∀ k, d < k → ∃ r, posthornref16_row.l0 k s 0 (i : Int) = some r ∧ decide (r.size < s.size) = hasEnd (sl s i) := by
  intro d
  induction d with
  | zero =>
    intro i hi k hk
    obtain ⟨k, rfl⟩ : ∃ m, k = m + 1 := ⟨k - 1, by omega⟩
    simp only [posthornref16_row.l0]
    obtain rfl : i = s.size := by omega
    rw [if_neg (by omega), sl_end]
    refine ⟨_, by rw [if_pos (by omega), if_pos (by omega), if_pos (by omega)], ?_⟩
    rw [Int.toNat_natCast, extract_mk, mk_size]
    simp [hasEnd, sl_len]
  | succ d ih =>
    intro i hi k hk
    obtain ⟨k, rfl⟩ : ∃ m, k = m + 1 := ⟨k - 1, by omega⟩
    obtain ⟨c, hc, hb⟩ := sl_cons s i (by omega)
    have hsz : ∀ r, r = s.extract (0 : Int).toNat (i : Int).toNat → decide (r.size < s.size) = true := by
      rintro r rfl
      rw [Int.toNat_natCast, extract_mk, mk_size, List.length_take, sl_len]
      exact decide_eq_true (by simp; omega)
    simp only [posthornref16_row.l0]
    rw [if_pos (by omega), if_pos (by omega), hb]
    by_cases h13 : (c.toNat : Int) = 13
    · rw [if_pos h13]
      refine ⟨_, by rw [if_pos (by omega), if_pos (by omega), if_pos (by omega)], ?_⟩
      rw [hsz _ rfl, hc, u13.1 h13]
      rfl
    · rw [if_neg h13]
      by_cases h10 : (c.toNat : Int) = 10
      · rw [if_pos h10]
        refine ⟨_, by rw [if_pos (by omega), if_pos (by omega), if_pos (by omega)], ?_⟩
        rw [hsz _ rfl, hc, u10.1 h10]
        rfl
      · rw [if_neg h10, w1 i (by omega)]
        obtain ⟨r, h1, h2⟩ := ih (i + 1) (by omega) k (by omega)
        refine ⟨r, h1, ?_⟩
        rw [h2, hc]
        have n13 : (c == 13) = false := beq_eq_false_iff_ne.2 (fun e => h13 (u13.2 e))
        have n10 : (c == 10) = false := beq_eq_false_iff_ne.2 (fun e => h10 (u10.2 e))
        simp [hasEnd, n13, n10]


theorem row_f (s : ByteArray) (hs : s.size < 9223372036854775000) (k : Nat) (hk : s.size < k) : ∃ r, posthornref16_row.f k s 0 = some r ∧ decide (r.size < s.size) = hasEnd s.data.toList := by
  obtain ⟨r, h1, h2⟩ := row_loop s hs s.size 0 (by omega) k hk
  exact ⟨r, h1, h2⟩

theorem blanks_loop (s : ByteArray) (hs : s.size < 9223372036854775000) : ∀ (d i : Nat), s.size = i + d → ∀ k, d < k → posthornref16_blanks.l0 k s (i : Int) = some (blanksB (sl s i)) := by
  intro d
  induction d with
  | zero =>
    intro i hi k hk
    obtain ⟨k, rfl⟩ : ∃ m, k = m + 1 := ⟨k - 1, by omega⟩
    simp only [posthornref16_blanks.l0]
    obtain rfl : i = s.size := by omega
    rw [if_neg (by omega), sl_end]
    rfl
  | succ d ih =>
    intro i hi k hk
    obtain ⟨k, rfl⟩ : ∃ m, k = m + 1 := ⟨k - 1, by omega⟩
    obtain ⟨c, hc, hb⟩ := sl_cons s i (by omega)
    simp only [posthornref16_blanks.l0]
    rw [if_pos (by omega), if_pos (by omega), hb, blank_f, hc]
    simp only [Option.bind_some]
    have e : (decide ((c.toNat : Int) = 32 ∨ (c.toNat : Int) = 9)) = (c == 32 || c == 9) := by
      rw [Bool.eq_iff_iff]
      simp only [decide_eq_true_eq, Bool.or_eq_true, beq_iff_eq, u32, u9]
    rw [e]
    cases h : (c == 32 || c == 9)
    · rw [if_neg (by simp)]
      simp [blanksB, h]
    · rw [if_pos rfl, w1 i (by omega), ih (i + 1) (by omega) k (by omega)]
      simp [blanksB, h]

theorem blanks_f (s : ByteArray) (hs : s.size < 9223372036854775000) (k : Nat) (hk : s.size < k) : posthornref16_blanks.f k s = some (blanksB s.data.toList) := blanks_loop s hs s.size 0 (by omega) k hk



theorem sl_zero (s : ByteArray) : sl s 0 = s.data.toList := rfl
theorem bt_at_nat (s : ByteArray) (i : Nat) (h : i < s.size) : bt s (i : Int) = ((s.data.toList.getD i 0).toNat : Int) := by
  obtain ⟨c, hc, hb⟩ := sl_cons s i h
  have : s.data.toList[i]? = some c := by
    have h0 : (sl s i)[0]? = some c := by rw [hc]; rfl
    unfold sl at h0
    rw [List.getElem?_drop] at h0
    simpa using h0
  rw [hb, List.getD_eq_getElem?_getD, this]
  rfl
theorem isBlank_dec (c : UInt8) : decide ((c.toNat : Int) = 32 ∨ (c.toNat : Int) = 9) = isBlank c := by
  unfold isBlank
  rw [Bool.eq_iff_iff]
  simp only [decide_eq_true_eq, Bool.or_eq_true, beq_iff_eq, u32, u9]
/-- is a place a joint, by the reference -/
def jointB (s : List UInt8) (i : Nat) : Bool := decide (1 ≤ i) && (jointAt s i && !blanksB (s.drop i))
theorem joint_f (s : ByteArray) (hs : s.size < 9223372036854775000) (i : Nat) (h1 : 1 ≤ i) (hi : i < s.size) (k : Nat) (hk : s.size < k) : posthornref16_joint.f k s (i : Int) = some (jointB s.data.toList i) := by
  unfold posthornref16_joint.f
  have hw : wrap64 ((i : Int) - 1) = ((i - 1 : Nat) : Int) := by unfold wrap64; omega
  rw [if_pos (by omega), if_pos (by omega), if_pos (by omega), hw, blank_f, bt_at_nat s i hi]
  simp only [Option.bind_some]
  rw [isBlank_dec]
  unfold jointB jointAt
  rw [decide_eq_true h1, Bool.true_and]
  cases hb : isBlank (s.data.toList.getD i 0)
  · rw [if_neg (by simp)]
    rfl
  · rw [if_pos rfl, if_pos (by omega), if_pos (by omega), blank_f, bt_at_nat s (i - 1) (by omega)]
    simp only [Option.bind_some]
    rw [isBlank_dec]
    cases hb2 : isBlank (s.data.toList.getD (i - 1) 0)
    · rw [if_neg (by simp), if_pos (by omega)]
      have hsz : (s.extract (i : Int).toNat s.size).size ≤ s.size := by rw [Int.toNat_natCast, extract_mk, mk_size, List.length_take, sl_len]; omega
      rw [blanks_f _ (by omega) k (by omega)]
      simp only [Option.bind_some]
      rw [Int.toNat_natCast, extract_mk, mk_list, List.take_of_length_le (by rw [sl_len]; omega)]
      rfl
    · rw [if_pos rfl]
      rfl
end Go.Proofs.YtammhcfifnffeaaDoor.FoldBase
/- FieldFolds: how field.Fold cuts, told row by row (lists alone). -/
namespace Go.Proofs.YtammhcfifnffeaaDoor.FoldLists
open Go.Proofs.YtammhcfifnffeaaDoor.JointsIter Go.Proofs.YtammhcfifnffeaaDoor.FoldWalk
set_option linter.unusedVariables false

/-- the joint at which a row is cut that began at b: behind 'last' those of R that still fit -/
def pick (most : Int) (b ahead : Nat) : Nat → List Nat → Nat
  | last, [] => last
  | last, k :: r => if most < (ahead : Int) + k - b then last else pick most b ahead k r
/-- the joints that are left behind the cut -/
def rest (most : Int) (b ahead : Nat) : List Nat → List Nat
  | [] => []
  | k :: r => if most < (ahead : Int) + k - b then k :: r else rest most b ahead r
/-- no cut: everything fits -/
theorem foldGo_fits (s : List UInt8) (most : Int) (acc : List UInt8) (b ahead : Nat) : ∀ (L : List Nat) (last : Nat), (∀ k ∈ L, (ahead : Int) + k - b ≤ most) → foldGo s most L acc b last ahead = (acc, b)
  | [], last, _ => rfl
  | k :: r, last, h => by
    rw [foldGo, if_neg (fun e => by have := h k List.mem_cons_self; omega)]
    exact foldGo_fits s most acc b ahead r k (fun x hx => h x (List.mem_cons_of_mem _ hx))
/-- no joint: no cut -/
theorem foldGo_none (s : List UInt8) (most : Int) (acc : List UInt8) (b ahead n : Nat) : foldGo s most [n] acc b b ahead = (acc, b) := by
  rw [foldGo, if_neg (fun e => by omega)]
  rfl
/-- one cut, 'last' having been met -/
theorem foldGo_cut (s : List UInt8) (most : Int) (acc : List UInt8) (b ahead n : Nat) (hn : most < (ahead : Int) + n - b) : ∀ (R : List Nat) (last : Nat), b < last → (∀ k ∈ R, b < k) →
    foldGo s most (R ++ [n]) acc b last ahead = foldGo s most (rest most b ahead R ++ [n]) (acc ++ (s.drop b).take (pick most b ahead last R - b) ++ [13, 10]) (pick most b ahead last R) (pick most b ahead last R) 0
  | [], last, hl, _ => by
    simp only [List.nil_append, pick, rest]
    rw [foldGo, if_pos ⟨hl, hn⟩, foldGo, foldGo_none]
  | k :: r, last, hl, hR => by
    simp only [List.cons_append, pick, rest]
    by_cases h : most < (ahead : Int) + k - b
    · rw [if_pos h, if_pos h, foldGo, if_pos ⟨hl, h⟩]
      simp only [List.cons_append]
      conv => rhs; rw [foldGo, if_neg (fun e => by omega)]
    · rw [if_neg h, if_neg h, foldGo, if_neg (fun e => h e.2)]
      exact foldGo_cut s most acc b ahead n hn r k (hR k List.mem_cons_self) (fun x hx => hR x (List.mem_cons_of_mem _ hx))
/-- a row that begins at b with the joints k :: r ahead of it and does not fit -/
theorem foldGo_row (s : List UInt8) (most : Int) (acc : List UInt8) (b ahead n k : Nat) (r : List Nat) (hn : most < (ahead : Int) + n - b) (hk : b < k) (hr : ∀ x ∈ r, b < x) :
    foldGo s most (k :: r ++ [n]) acc b b ahead = foldGo s most (rest most b ahead r ++ [n]) (acc ++ (s.drop b).take (pick most b ahead k r - b) ++ [13, 10]) (pick most b ahead k r) (pick most b ahead k r) 0 := by
  rw [List.cons_append, foldGo, if_neg (fun e => by omega)]
  exact foldGo_cut s most acc b ahead n hn r k hk hr
end Go.Proofs.YtammhcfifnffeaaDoor.FoldLists
/- FieldFolds: what the reference's scan of a row finds. -/
namespace Go.Proofs.YtammhcfifnffeaaDoor.FoldScan
open Go.RowKit Go.Proofs.YtammhcfifnffeaaDoorW.PrintWords Go.Proofs.YtammhcfifnffeaaDoor.PFieldFolds Go.Proofs.YtammhcfifnffeaaDoor.AnyEnd Go.Proofs.YtammhcfifnffeaaDoor.CheckWalk Go.Proofs.YtammhcfifnffeaaDoor.JointsIter Go.Proofs.YtammhcfifnffeaaDoor.FoldWalk Go.Proofs.YtammhcfifnffeaaDoor.FoldBase Go.Proofs.YtammhcfifnffeaaDoor.FoldLists
set_option linter.unusedVariables false
set_option linter.unusedSimpArgs false

/-- the joints from i on, by the reference -/
def jointsFrom (s : List UInt8) (i d : Nat) : List Nat := (List.range' i d).filter (jointB s)
theorem jointsFrom_succ (s : List UInt8) (i d : Nat) : jointsFrom s i (d + 1) = (if jointB s i = true then [i] else []) ++ jointsFrom s (i + 1) d := by
  unfold jointsFrom
  rw [List.range'_succ, List.filter_cons]
  split <;> rfl
def firstOf (f : Int) : List Nat → Int
  | [] => f
  | j :: r => firstOf (if f < 0 then (j : Int) else f) r
def lastOf (most : Int) (b ahead : Nat) (l : Int) : List Nat → Int
  | [] => l
  | j :: r => lastOf most b ahead (if (ahead : Int) + j - b ≤ most then (j : Int) else l) r
theorem scan (nm s : ByteArray) (most : Int) (body : ByteArray) (b ahead : Nat) (hs : s.size < 4294967296) (hb : b ≤ s.size) (ha : ahead < 9007199254740992) :
    ∀ (d i : Nat) (f l : Int), s.size ≤ i + d → 1 ≤ i → i < 9007199254740992 → ∀ k, d + s.size < k →
    ∃ k', k ≤ k' + d ∧ k' ≤ k ∧ posthornref16_Fold.l1 k nm s most body b ahead f l (i : Int) = posthornref16_Fold.l1 k' nm s most body b ahead (firstOf f (jointsFrom s.data.toList i (s.size - i))) (lastOf most b ahead l (jointsFrom s.data.toList i (s.size - i))) (max i s.size : Nat) := by
  intro d
  induction d with
  | zero =>
    intro i f l hd h1 hi k hk
    refine ⟨k, by omega, by omega, ?_⟩
    have e : s.size - i = 0 := by omega
    rw [e]
    have e2 : max i s.size = i := by omega
    rw [e2]
    rfl
  | succ d ih =>
    intro i f l hd h1 hi k hk
    by_cases hlt : i < s.size
    · obtain ⟨k, rfl⟩ : ∃ m, k = m + 1 := ⟨k - 1, by omega⟩
      have hw : wrap64 ((i : Int) + 1) = ((i + 1 : Nat) : Int) := by unfold wrap64; omega
      have hx : wrap64 ((wrap64 ((ahead : Int) + i)) - b) = (ahead : Int) + i - b := by
        have e1 : wrap64 ((ahead : Int) + i) = (ahead : Int) + i := by unfold wrap64; omega
        rw [e1]
        unfold wrap64
        omega
      have hsub : s.size - i = (s.size - (i + 1)) + 1 := by omega
      have hmx : max i s.size = max (i + 1) s.size := by omega
      rw [hsub, jointsFrom_succ, hmx]
      conv => arg 1; ext k'; rhs; rhs; lhs; unfold posthornref16_Fold.l1
      rw [if_pos (by omega), joint_f s (by omega) i h1 hlt k (by omega)]
      simp only [Option.bind_some, hx, hw]
      cases hj : jointB s.data.toList i
      · rw [if_neg (by simp)]
        obtain ⟨k', c1, c2, c3⟩ := ih (i + 1) f l (by omega) (by omega) (by omega) k (by omega)
        exact ⟨k', by omega, by omega, by rw [c3]; rfl⟩
      · rw [if_pos rfl]
        obtain ⟨k', c1, c2, c3⟩ := ih (i + 1) (if f < 0 then (i : Int) else f) (if (ahead : Int) + i - b ≤ most then (i : Int) else l) (by omega) (by omega) (by omega) k (by omega)
        refine ⟨k', by omega, by omega, ?_⟩
        simp only [if_true, List.cons_append, List.nil_append, firstOf, lastOf]
        rw [← c3]
        by_cases h2 : f < 0
        · rw [if_pos h2, if_pos h2]
          by_cases h3 : (ahead : Int) + i - b ≤ most
          · rw [if_pos h3, if_pos h3]
          · rw [if_neg h3, if_neg h3]
        · rw [if_neg h2, if_neg h2]
          by_cases h3 : (ahead : Int) + i - b ≤ most
          · rw [if_pos h3, if_pos h3]
          · rw [if_neg h3, if_neg h3]
    · refine ⟨k, by omega, by omega, ?_⟩
      have e : s.size - i = 0 := by omega
      rw [e]
      have e2 : max i s.size = i := by omega
      rw [e2]
      rfl

theorem firstOf_nonneg : ∀ (r : List Nat) (f : Int), 0 ≤ f → firstOf f r = f
  | [], f, _ => rfl
  | j :: r, f, h => by rw [firstOf, if_neg (by omega)]; exact firstOf_nonneg r f h
theorem firstOf_cons (k : Nat) (r : List Nat) : firstOf (-1) (k :: r) = k := by
  rw [firstOf, if_pos (by omega)]
  exact firstOf_nonneg r _ (by omega)
theorem lastOf_none (most : Int) (b ahead : Nat) : ∀ (r : List Nat) (l : Int), (∀ j ∈ r, most < (ahead : Int) + j - b) → lastOf most b ahead l r = l
  | [], l, _ => rfl
  | j :: r, l, h => by
    rw [lastOf, if_neg (by have := h j List.mem_cons_self; omega)]
    exact lastOf_none most b ahead r l (fun x hx => h x (List.mem_cons_of_mem _ hx))
theorem lastOf_pick (most : Int) (b ahead : Nat) : ∀ (r : List Nat) (last : Nat), r.Pairwise (· < ·) → lastOf most b ahead (last : Int) r = (pick most b ahead last r : Nat)
  | [], last, _ => rfl
  | j :: r, last, h => by
    rw [List.pairwise_cons] at h
    rw [lastOf, pick]
    by_cases hj : most < (ahead : Int) + j - b
    · rw [if_neg (by omega), if_pos hj]
      exact lastOf_none most b ahead r _ (fun x hx => by have := h.1 x hx; omega)
    · rw [if_pos (by omega), if_neg hj]
      exact lastOf_pick most b ahead r j h.2
/-- what the reference cuts at is what field.Fold cuts at -/
theorem cut_at (most : Int) (b ahead k : Nat) (r : List Nat) (h : (k :: r).Pairwise (· < ·)) : max (firstOf (-1) (k :: r)) (lastOf most b ahead (-1) (k :: r)) = (pick most b ahead k r : Nat) := by
  rw [firstOf_cons, lastOf]
  have h' := List.pairwise_cons.1 h
  by_cases hk : (ahead : Int) + k - b ≤ most
  · rw [if_pos hk, lastOf_pick most b ahead r k h'.2]
    have : k ≤ pick most b ahead k r := by
      have g : ∀ (r : List Nat) (last : Nat), (∀ x ∈ r, last < x) → r.Pairwise (· < ·) → last ≤ pick most b ahead last r := by
        intro r
        induction r with
        | nil => intro last _ _; exact Nat.le_refl _
        | cons j r ih =>
          intro last hl hp
          rw [pick]
          split
          · exact Nat.le_refl _
          · have h1 := hl j List.mem_cons_self
            rw [List.pairwise_cons] at hp
            have := ih j hp.1 hp.2
            omega
      exact g r k h'.1 h'.2
    omega
  · rw [if_neg hk, lastOf_none most b ahead r (-1) (fun x hx => by have := h'.1 x hx; omega)]
    have : pick most b ahead k r = k := by
      cases r with
      | nil => rfl
      | cons j r =>
        rw [pick, if_pos]
        have := h'.1 j List.mem_cons_self
        omega
    omega
theorem rest_filter (most : Int) (b ahead : Nat) : ∀ (r : List Nat) (last : Nat), (∀ x ∈ r, last < x) → r.Pairwise (· < ·) → rest most b ahead r = r.filter (fun x => decide (pick most b ahead last r < x))
  | [], last, _, _ => rfl
  | j :: r, last, hl, hp => by
    rw [rest, pick]
    have hj := hl j List.mem_cons_self
    have hp' := List.pairwise_cons.1 hp
    by_cases h : most < (ahead : Int) + j - b
    · rw [if_pos h, if_pos h]
      symm
      rw [List.filter_eq_self]
      intro x hx
      exact decide_eq_true (hl x hx)
    · rw [if_neg h, if_neg h]
      have ih := rest_filter most b ahead r j hp'.1 hp'.2
      rw [ih, List.filter_cons, if_neg]
      have g : ∀ (r : List Nat) (last : Nat), (∀ x ∈ r, last < x) → r.Pairwise (· < ·) → last ≤ pick most b ahead last r := by
        intro r
        induction r with
        | nil => intro last _ _; exact Nat.le_refl _
        | cons j r ih =>
          intro last hl hp
          rw [pick]
          split
          · exact Nat.le_refl _
          · have h1 := hl j List.mem_cons_self
            rw [List.pairwise_cons] at hp
            have := ih j hp.1 hp.2
            omega
      have := g r j hp'.1 hp'.2
      simp
      omega
end Go.Proofs.YtammhcfifnffeaaDoor.FoldScan
/- FieldFolds: the joints by the reference are the joints of field.joints. -/
namespace Go.Proofs.YtammhcfifnffeaaDoor.FoldWords
open Go.Proofs.YtammhcfifnffeaaDoor.AnyEnd Go.Proofs.YtammhcfifnffeaaDoor.JointsIter Go.Proofs.YtammhcfifnffeaaDoor.FoldBase Go.Proofs.YtammhcfifnffeaaDoor.FoldScan
set_option linter.unusedVariables false

theorem split_words (s : List UInt8) : ∃ t, s = Lib.trimRightS s [32, 9] ++ t ∧ blanksB t = true ∧ ∀ i, i < words s → blanksB ((Lib.trimRightS s [32, 9]).drop i) = false := by
  have hp : (fun b : UInt8 => ([32, 9] : List UInt8).contains b) = fun b => b == 32 || b == 9 := funext blank_contains
  refine ⟨(s.reverse.takeWhile (fun b => b == 32 || b == 9)).reverse, ?_, ?_, ?_⟩
  · unfold Lib.trimRightS
    rw [hp, ← List.reverse_append, List.takeWhile_append_dropWhile, List.reverse_reverse]
  · unfold blanksB
    rw [List.all_reverse]
    exact List.all_takeWhile
  · intro i hi
    unfold words at hi
    cases hb : blanksB ((Lib.trimRightS s [32, 9]).drop i) with
    | false => rfl
    | true =>
      exfalso
      unfold Lib.trimRightS at hi hb
      rw [hp] at hi hb
      cases hd : s.reverse.dropWhile (fun b => b == 32 || b == 9) with
      | nil => rw [hd] at hi; simp at hi
      | cons x r =>
        have h2 := List.head?_dropWhile_not (fun b : UInt8 => b == 32 || b == 9) s.reverse
        rw [hd] at h2 hb hi
        simp only [List.head?_cons] at h2
        unfold blanksB at hb
        have hmem : x ∈ ((x :: r).reverse).drop i := by
          rw [List.reverse_cons, List.drop_append_of_le_length (by simp at hi ⊢; omega)]
          simp
        have := List.all_eq_true.1 hb x hmem
        rw [this] at h2
        cases h2
theorem blanks_drop (s : List UInt8) (i : Nat) (hi : i ≤ s.length) : blanksB (s.drop i) = decide (words s ≤ i) := by
  obtain ⟨t, hs, ht, hw⟩ := split_words s
  by_cases h : words s ≤ i
  · rw [decide_eq_true h]
    have e : s.drop i = t.drop (i - words s) := by
      conv => lhs; rw [hs]
      rw [List.drop_append, List.drop_eq_nil_of_le h, List.nil_append]
      rfl
    rw [e]
    unfold blanksB at ht ⊢
    rw [List.all_eq_true] at ht ⊢
    intro x hx
    exact ht x (List.mem_of_mem_drop hx)
  · rw [decide_eq_false h]
    have e : s.drop i = (Lib.trimRightS s [32, 9]).drop i ++ t := by
      conv => lhs; rw [hs]
      rw [List.drop_append_of_le_length (by unfold words at h; omega)]
    rw [e]
    have h2 := hw i (by omega)
    unfold blanksB at h2 ⊢
    rw [List.all_append, h2, Bool.false_and]
theorem jointB_eq (s : List UInt8) (i : Nat) (hi : i ≤ s.length) : jointB s i = (decide (1 ≤ i) && (jointAt s i && decide (i < words s))) := by
  unfold jointB
  rw [blanks_drop s i hi]
  congr 2
  rw [Bool.eq_iff_iff]
  simp

theorem jointsL_range (s : List UInt8) : jointsL s = (List.range s.length).filter (jointB s) := by
  have hw := words_le s
  have e : List.range s.length = List.range (words s) ++ List.range' (words s) (s.length - words s) := by
    rw [List.range_eq_range', List.range_eq_range']
    have := List.range'_append_1 (s := 0) (m := words s) (n := s.length - words s)
    rw [Nat.zero_add] at this
    rw [this]
    congr 1
    omega
  rw [e, List.filter_append]
  have h2 : (List.range' (words s) (s.length - words s)).filter (jointB s) = [] := by
    rw [List.filter_eq_nil_iff]
    intro x hx
    rw [List.mem_range'_1] at hx
    rw [jointB_eq s x (by omega), decide_eq_false (p := x < words s) (by omega), Bool.and_false, Bool.and_false]
    simp
  rw [h2, List.append_nil]
  unfold jointsL jointsTo
  apply List.filter_congr
  intro x hx
  rw [List.mem_range] at hx
  rw [jointB_eq s x (by omega), decide_eq_true hx, Bool.and_true]
theorem joints_behind (s : List UInt8) (i : Nat) (hi : i ≤ s.length) : jointsFrom s i (s.length - i) = (jointsL s).filter (fun x => decide (i ≤ x)) := by
  rw [jointsL_range, List.filter_filter]
  have e : List.range s.length = List.range i ++ List.range' i (s.length - i) := by
    rw [List.range_eq_range', List.range_eq_range']
    have := List.range'_append_1 (s := 0) (m := i) (n := s.length - i)
    rw [Nat.zero_add] at this
    rw [this]
    congr 1
    omega
  rw [e, List.filter_append]
  have h2 : (List.range i).filter (fun x => decide (i ≤ x) && jointB s x) = [] := by
    rw [List.filter_eq_nil_iff]
    intro x hx
    rw [List.mem_range] at hx
    rw [decide_eq_false (by omega), Bool.false_and]
    simp
  rw [h2, List.nil_append]
  unfold jointsFrom
  apply List.filter_congr
  intro x hx
  rw [List.mem_range'_1] at hx
  rw [decide_eq_true (by omega), Bool.true_and]
theorem joints_sorted (s : List UInt8) : (jointsL s).Pairwise (· < ·) := by
  rw [jointsL_range]
  exact List.Pairwise.filter _ List.pairwise_lt_range
end Go.Proofs.YtammhcfifnffeaaDoor.FoldWords
/- FieldFolds: the reference's rows are field.Fold's rows. -/
namespace Go.Proofs.YtammhcfifnffeaaDoor.FoldRows
open Go.RowKit Go.Proofs.YtammhcfifnffeaaDoorW.PrintWords Go.Proofs.YtammhcfifnffeaaDoor.PFieldFolds Go.Proofs.YtammhcfifnffeaaDoor.JointsIter Go.Proofs.YtammhcfifnffeaaDoor.FoldWalk Go.Proofs.YtammhcfifnffeaaDoor.FoldBase Go.Proofs.YtammhcfifnffeaaDoor.FoldLists Go.Proofs.YtammhcfifnffeaaDoor.FoldScan Go.Proofs.YtammhcfifnffeaaDoor.FoldWords
open Go.Proofs.YtammhcfifnffeaaDoor.CheckPure (mk mk_size mk_list extract_mk sl_len)
set_option linter.unusedVariables false
set_option linter.unusedSimpArgs false

/-- a row of the fold is longer than 998 -/
def long (most : Int) (len : Nat) : Nat → List Nat → Nat → Nat → Bool
  | 0, _, _, _ => true
  | n + 1, R, b, ahead => if most < (ahead : Int) + len - b then (match R with
    | [] => decide ((998 : Int) < (ahead : Int) + len - b)
    | k :: r => decide ((998 : Int) < (ahead : Int) + pick most b ahead k r - b) || long most len n (rest most b ahead r) (pick most b ahead k r) 0) else decide ((998 : Int) < (ahead : Int) + len - b)
theorem wrap_two (ahead e b : Nat) (h1 : ahead < 9007199254740992) (h2 : e < 9007199254740992) (h3 : b < 9007199254740992) : wrap64 ((wrap64 ((ahead : Int) + e)) - b) = (ahead : Int) + e - b := by
  have e1 : wrap64 ((ahead : Int) + e) = (ahead : Int) + e := by unfold wrap64; omega
  rw [e1]
  unfold wrap64
  omega
/-- the last piece -/
theorem last_piece (nm s : ByteArray) (most : Int) (acc : List UInt8) (b ahead : Nat) (hs : s.size < 4294967296) (hb : b ≤ s.size) (ha : ahead < 9007199254740992) (hacc : acc.length < 1000000000000) (k : Nat) :
    posthornref16_Fold.j5 (k + 1) nm s most (mk acc) b ahead (s.size : Int) = some (if (998 : Int) < (ahead : Int) + s.size - b then ((⟨#[]⟩ : ByteArray), (⟨#[]⟩ : ByteArray), 160) else (nm, mk (acc ++ s.data.toList.drop b), 0)) := by
  unfold posthornref16_Fold.j5
  rw [wrap_two ahead s.size b ha (by omega) (by omega)]
  by_cases h : (998 : Int) < (ahead : Int) + s.size - b
  · rw [if_pos h, if_pos h]
  · rw [if_neg h, if_neg h]
    have hsz : (s.extract (b : Int).toNat (s.size : Int).toNat) = mk (s.data.toList.drop b) := by
      rw [Int.toNat_natCast, Int.toNat_natCast, extract_mk]
      rw [List.take_of_length_le (by rw [sl_len]; exact Nat.le_refl _)]
      rfl
    have hlen : (s.data.toList.drop b).length = s.size - b := by rw [List.length_drop, data_length]
    rw [if_pos (by omega), if_pos (by omega), if_pos (by omega), hsz, if_pos (by rw [mk_size, mk_size, hlen]; omega), if_pos rfl]
    have : mk acc ++ mk (s.data.toList.drop b) = mk (acc ++ s.data.toList.drop b) := by
      apply ByteArray.ext
      simp [mk]
    rw [this]
/-- a piece that is cut off -/
theorem cut_piece (nm s : ByteArray) (most : Int) (acc : List UInt8) (b ahead e : Nat) (hs : s.size < 4294967296) (hb : b ≤ e) (he : e < s.size) (ha : ahead < 9007199254740992) (hacc : acc.length < 1000000000000) (k : Nat) :
    posthornref16_Fold.j5 (k + 1) nm s most (mk acc) b ahead (e : Int) = if (998 : Int) < (ahead : Int) + e - b then some ((⟨#[]⟩ : ByteArray), (⟨#[]⟩ : ByteArray), 160) else posthornref16_Fold.l0 k nm s most (mk (acc ++ (s.data.toList.drop b).take (e - b) ++ [13, 10])) (e : Int) 0 := by
  conv => lhs; unfold posthornref16_Fold.j5
  rw [wrap_two ahead e b ha (by omega) (by omega)]
  by_cases h : (998 : Int) < (ahead : Int) + e - b
  · rw [if_pos h, if_pos h]
  · rw [if_neg h, if_neg h]
    have hsz : (s.extract (b : Int).toNat (e : Int).toNat) = mk ((s.data.toList.drop b).take (e - b)) := by
      rw [Int.toNat_natCast, Int.toNat_natCast, extract_mk]
      rfl
    have hlen : ((s.data.toList.drop b).take (e - b)).length ≤ s.size := by rw [List.length_take, List.length_drop, data_length]; omega
    have hcat : mk acc ++ mk ((s.data.toList.drop b).take (e - b)) = mk (acc ++ (s.data.toList.drop b).take (e - b)) := by
      apply ByteArray.ext
      simp [mk]
    have hcat2 : mk (acc ++ (s.data.toList.drop b).take (e - b)) ++ (⟨#[13, 10]⟩ : ByteArray) = mk (acc ++ (s.data.toList.drop b).take (e - b) ++ [13, 10]) := by
      apply ByteArray.ext
      simp [mk]
    rw [if_pos (by omega), if_pos (by omega), if_pos (by omega), hsz, if_pos (by rw [mk_size, mk_size]; omega), if_neg (by omega), hcat, if_pos (by rw [mk_size, List.length_append]; omega), hcat2]

def behind (s : List UInt8) (b : Nat) : List Nat := (jointsL s).filter fun x => decide (b < x)
/-- the scan of one row, and what comes of it -/
theorem row_end (nm s : ByteArray) (most : Int) (acc : List UInt8) (b ahead : Nat) (hs : s.size < 4294967296) (hb : b ≤ s.size) (ha : ahead < 9007199254740992) (k : Nat) (hk : s.size + s.size + 10 < k) :
    ∃ k', k ≤ k' + s.size + 6 ∧ posthornref16_Fold.l0 k nm s most (mk acc) b ahead = posthornref16_Fold.j5 (k' + 1) nm s most (mk acc) b ahead
      (if most < (ahead : Int) + s.size - b ∧ behind s.data.toList b ≠ [] then max (firstOf (-1) (behind s.data.toList b)) (lastOf most b ahead (-1) (behind s.data.toList b)) else (s.size : Int)) := by
  obtain ⟨k, rfl⟩ : ∃ q, k = q + 1 := ⟨k - 1, by omega⟩
  have hsl : s.data.toList.length = s.size := data_length s
  have hw : wrap64 ((b : Int) + 1) = ((b + 1 : Nat) : Int) := by unfold wrap64; omega
  obtain ⟨k1, c1, c2, c3⟩ := scan nm s most (mk acc) b ahead hs hb ha s.size (b + 1) (-1) (-1) (by omega) (by omega) (by omega) k (by omega)
  have hj : jointsFrom s.data.toList (b + 1) (s.size - (b + 1)) = behind s.data.toList b := by
    unfold behind
    by_cases h : b + 1 ≤ s.size
    · have := joints_behind s.data.toList (b + 1) (by omega)
      rw [hsl] at this
      rw [this]
      rfl
    · have e : s.size - (b + 1) = 0 := by omega
      have z : jointsFrom s.data.toList (b + 1) 0 = [] := rfl
      rw [e, z]
      symm
      rw [List.filter_eq_nil_iff]
      intro x hx
      have h1 := joints_behind s.data.toList 0 (by omega)
      unfold jointsL jointsTo at hx
      have h2 := List.mem_range.1 (List.mem_filter.1 hx).1
      have h3 := words_le s.data.toList
      simp only [decide_eq_true_eq]
      omega
  rw [hj] at c3
  obtain ⟨k2, rfl⟩ : ∃ q, k1 = q + 1 + 1 := ⟨k1 - 2, by omega⟩
  obtain ⟨k3, rfl⟩ : ∃ q, k2 = q + 1 := ⟨k2 - 1, by omega⟩
  refine ⟨k3, by omega, ?_⟩
  conv => lhs; unfold posthornref16_Fold.l0
  rw [hw, c3]
  conv => lhs; unfold posthornref16_Fold.l1
  rw [if_neg (by omega), wrap_two ahead s.size b ha (by omega) (by omega)]
  have hf : decide (firstOf (-1) (behind s.data.toList b) ≥ 0) = decide (behind s.data.toList b ≠ []) := by
    cases h : behind s.data.toList b with
    | nil => simp [firstOf]
    | cons x r => rw [firstOf_cons]; simp
  by_cases h1 : most < (ahead : Int) + s.size - b
  · rw [if_pos (by omega), hf]
    conv => lhs; unfold posthornref16_Fold.j4
    by_cases h2 : behind s.data.toList b ≠ []
    · rw [if_pos (decide_eq_true h2), if_pos ⟨h1, h2⟩]
      have hm : ∀ x y : Int, mx x y = max x y := by intro x y; unfold mx; first | rfl | (split <;> omega) | omega
      rw [hm]
    · rw [if_neg (by simpa using h2), if_neg (fun e => h2 e.2)]
  · rw [if_neg (by omega)]
    conv => lhs; unfold posthornref16_Fold.j4
    rw [if_neg (by simp), if_neg (fun e => h1 e.1)]

theorem pick_mem (most : Int) (b ahead : Nat) : ∀ (r : List Nat) (x : Nat), pick most b ahead x r ∈ x :: r
  | [], x => by simp [pick]
  | j :: r, x => by
    rw [pick]
    split
    · simp
    · exact List.mem_cons_of_mem _ (pick_mem most b ahead r j)
theorem behind_sorted (s : List UInt8) (b : Nat) : (behind s b).Pairwise (· < ·) := List.Pairwise.filter _ (joints_sorted s)
theorem behind_lt (s : List UInt8) (b : Nat) : ∀ x ∈ behind s b, b < x ∧ x < s.length := by
  intro x hx
  obtain ⟨h1, h2⟩ := List.mem_filter.1 hx
  rw [jointsL_range] at h1
  exact ⟨of_decide_eq_true h2, List.mem_range.1 (List.mem_filter.1 h1).1⟩
theorem behind_rest (s : List UInt8) (most : Int) (b ahead x : Nat) (r : List Nat) (h : behind s b = x :: r) : behind s (pick most b ahead x r) = rest most b ahead r := by
  have hs := behind_sorted s b
  rw [h, List.pairwise_cons] at hs
  have hm := pick_mem most b ahead r x
  have hbe : b < pick most b ahead x r := (behind_lt s b _ (by rw [h]; exact hm)).1
  rw [rest_filter most b ahead r x hs.1 hs.2]
  have e : behind s (pick most b ahead x r) = (behind s b).filter fun y => decide (pick most b ahead x r < y) := by
    unfold behind
    rw [List.filter_filter]
    apply List.filter_congr
    intro y _
    rw [Bool.eq_iff_iff]
    simp
    omega
  rw [e, h, List.filter_cons, if_neg]
  simp only [decide_eq_true_eq]
  rcases List.mem_cons.1 hm with h' | h'
  · omega
  · have := hs.1 _ h'; omega

/-- all rows -/
theorem rows_all (nm s : ByteArray) (most : Int) (hs : s.size < 4294967296) : ∀ (n b ahead : Nat) (acc : List UInt8), (behind s.data.toList b).length < n → b ≤ s.size → ahead < 9007199254740992 → acc.length + 3 * (s.size - b) < 900000000000 →
    ∃ K, ∀ k, K ≤ k → posthornref16_Fold.l0 k nm s most (mk acc) b ahead = some (if long most s.size n (behind s.data.toList b) b ahead = true then ((⟨#[]⟩ : ByteArray), (⟨#[]⟩ : ByteArray), 160) else
      (nm, mk ((foldGo s.data.toList most (behind s.data.toList b ++ [s.size]) acc b b ahead).1 ++ s.data.toList.drop (foldGo s.data.toList most (behind s.data.toList b ++ [s.size]) acc b b ahead).2), 0)) := by
  have hsl : s.data.toList.length = s.size := data_length s
  intro n
  induction n with
  | zero => intro b ahead acc h; omega
  | succ n ih =>
    intro b ahead acc hR hb ha hacc
    have hbl := behind_lt s.data.toList b
    by_cases h1 : most < (ahead : Int) + s.size - b
    · cases h2 : behind s.data.toList b with
      | nil =>
        refine ⟨s.size + s.size + 20, fun k hk => ?_⟩
        obtain ⟨k', _, e⟩ := row_end nm s most acc b ahead hs hb ha k (by omega)
        rw [e, h2, if_neg (fun x => x.2 rfl), last_piece nm s most acc b ahead hs hb ha (by omega)]
        simp only [long, List.nil_append]
        rw [if_pos h1, foldGo_none]
        by_cases h9 : (998 : Int) < (ahead : Int) + s.size - b
        · rw [if_pos h9, if_pos (decide_eq_true h9)]
        · rw [if_neg h9, if_neg (by simpa using h9)]
      | cons x r =>
        have hsort := behind_sorted s.data.toList b
        rw [h2] at hsort hR hbl
        have hm := pick_mem most b ahead r x
        obtain ⟨he1, he2⟩ := hbl _ hm
        rw [hsl] at he2
        have hrest := behind_rest s.data.toList most b ahead x r h2
        have hrl : (rest most b ahead r).length ≤ r.length := by
          rw [rest_filter most b ahead r x (List.pairwise_cons.1 hsort).1 (List.pairwise_cons.1 hsort).2]
          exact List.length_filter_le _ _
        obtain ⟨K, hK⟩ := ih (pick most b ahead x r) 0 (acc ++ (s.data.toList.drop b).take (pick most b ahead x r - b) ++ [13, 10]) (by rw [hrest]; simp only [List.length_cons] at hR; omega) (by omega) (by omega) (by
          simp only [List.length_append, List.length_take, List.length_drop, List.length_cons, List.length_nil, hsl]
          omega)
        refine ⟨K + s.size + s.size + 20, fun k hk => ?_⟩
        obtain ⟨k', c1, e⟩ := row_end nm s most acc b ahead hs hb ha k (by omega)
        rw [e, h2, if_pos ⟨h1, by simp⟩, cut_at most b ahead x r hsort, cut_piece nm s most acc b ahead _ hs (by omega) he2 ha (by omega)]
        simp only [long]
        rw [if_pos h1, foldGo_row s.data.toList most acc b ahead s.size x r h1 (hbl x List.mem_cons_self).1 (fun y hy => (hbl y (List.mem_cons_of_mem _ hy)).1)]
        by_cases h9 : (998 : Int) < (ahead : Int) + pick most b ahead x r - b
        · rw [if_pos h9, decide_eq_true h9, Bool.true_or, if_pos rfl]
        · have hK' := hK k' (by omega)
          rw [show ((0 : Nat) : Int) = 0 from rfl] at hK'
          rw [if_neg h9, decide_eq_false h9, Bool.false_or, hK', hrest]
    · refine ⟨s.size + s.size + 20, fun k hk => ?_⟩
      obtain ⟨k', _, e⟩ := row_end nm s most acc b ahead hs hb ha k (by omega)
      rw [e, if_neg (fun x => h1 x.1), last_piece nm s most acc b ahead hs hb ha (by omega)]
      rw [foldGo_fits s.data.toList most acc b ahead _ b (by
        intro y hy
        rcases List.mem_append.1 hy with hy | hy
        · have := (hbl y hy).2; rw [hsl] at this; omega
        · rw [List.mem_singleton.1 hy]; omega)]
      have hlg : long most s.size (n + 1) (behind s.data.toList b) b ahead = decide ((998 : Int) < (ahead : Int) + s.size - b) := by unfold long; rw [if_neg h1]
      rw [hlg]
      by_cases h9 : (998 : Int) < (ahead : Int) + s.size - b
      · rw [if_pos h9, if_pos (decide_eq_true h9)]
      · rw [if_neg h9, if_neg (by simpa using h9)]
end Go.Proofs.YtammhcfifnffeaaDoor.FoldRows
/- FieldFolds: the reference's Fold ahead of its rows. -/
namespace Go.Proofs.YtammhcfifnffeaaDoor.FoldHead
open Go.RowKit Go Go.Proofs Go.Proofs.YtammhcfifnffeaaDoorW.PrintWords Go.Proofs.YtammhcfifnffeaaDoor.PFieldFolds Go.Proofs.YtammhcfifnffeaaDoor.JointsIter Go.Proofs.YtammhcfifnffeaaDoor.AnyEnd Go.Proofs.YtammhcfifnffeaaDoor.Octet Go.Proofs.YtammhcfifnffeaaDoor.FoldWalk Go.Proofs.YtammhcfifnffeaaDoor.FoldBase
/-- the reference's Fold ahead of its rows -/
theorem fold_head (nm s : ByteArray) (most : Int) (hn : nm.size < 4294967296) (hs : s.size < 4294967296) (k : Nat) (hk : nm.size + s.size + 20 < k) :
    posthornref16_Fold.f (k + 1 + 1) nm s most = if nameB nm.data.toList = false ∨ hasEnd s.data.toList = true then some ((⟨#[]⟩ : ByteArray), (⟨#[]⟩ : ByteArray), 160) else if most < 1 ∨ 998 < most then some ((⟨#[]⟩ : ByteArray), (⟨#[]⟩ : ByteArray), 2) else posthornref16_Fold.l0 k nm s most (⟨#[]⟩ : ByteArray) 0 ((nm.size + 1 : Nat) : Int) := by
  unfold posthornref16_Fold.f
  rw [name_f nm (by omega) (k + 1 + 1) (by omega)]
  simp only [Option.bind_some]
  have hw : wrap64 ((nm.size : Int) + 1) = ((nm.size + 1 : Nat) : Int) := by unfold wrap64; omega
  cases hnm : nameB nm.data.toList
  · rw [if_neg (by simp), if_pos (.inl rfl)]
    simp only [posthornref16_Fold.j0, if_true]
  · obtain ⟨r, h1, h2⟩ := row_f s (by omega) (k + 1 + 1) (by omega)
    rw [if_pos rfl, h1]
    simp only [Option.bind_some]
    have h2' : decide ((r.size : Int) < (s.size : Int)) = hasEnd s.data.toList := by rw [← h2, decide_eq_decide]; omega
    rw [h2']
    cases he : hasEnd s.data.toList
    · simp only [posthornref16_Fold.j0, posthornref16_Fold.j1, Bool.false_eq_true, if_false, or_self, Bool.true_eq_false, if_true]
      by_cases h3 : most < 1
      · rw [if_pos h3, if_pos (.inl h3)]
      · rw [if_neg h3]
        by_cases h4 : 998 < most
        · rw [if_pos (decide_eq_true h4), if_pos (.inr h4)]
        · rw [if_neg (by simpa using h4), if_neg (by omega), hw]
    · rw [if_pos (.inr rfl)]
      simp only [posthornref16_Fold.j0, if_true]
end Go.Proofs.YtammhcfifnffeaaDoor.FoldHead
/- FieldFolds: what Check tells of a folded body: the rows of a text that was put together. -/
namespace Go.Proofs.YtammhcfifnffeaaDoor.FoldChecks
open Go.Proofs.YtammhcfifnffeaaDoor.RowsIter Go.Proofs.YtammhcfifnffeaaDoor.AnyEnd Go.Proofs.YtammhcfifnffeaaDoor.CheckPure
set_option linter.unusedVariables false
theorem clean_of (x : List UInt8) (h : hasEnd x = false) : ∀ b ∈ x, b ≠ 13 ∧ b ≠ 10 := by
  intro b hb
  unfold hasEnd at h
  rw [List.any_eq_false] at h
  have := h b hb
  simp only [Bool.or_eq_true, beq_iff_eq, not_or] at this
  exact this
theorem hasEnd_sub {x y : List UInt8} (h : hasEnd y = false) (hs : ∀ b ∈ x, b ∈ y) : hasEnd x = false := by
  unfold hasEnd at h ⊢
  rw [List.any_eq_false] at h ⊢
  exact fun b hb => h b (hs b hb)
/-- a piece, a line end, and what follows -/
theorem rowsL_cut (x y : List UInt8) (h : hasEnd x = false) : rowsL (x ++ [13, 10] ++ y) = x :: rowsL y := by
  rw [List.append_assoc, rowsL_clean x _ (clean_of x h)]
  have e : rowsL ([13, 10] ++ y) = [] :: rowsL y := by simp [rowsL]
  rw [e]
  simp [joinH]
theorem rowsL_last (x : List UInt8) (h : hasEnd x = false) : rowsL x = [x] := by
  have := rowsL_clean x [] (clean_of x h)
  rw [List.append_nil] at this
  rw [this]
  simp [rowsL, joinH]
end Go.Proofs.YtammhcfifnffeaaDoor.FoldChecks
/- FieldFolds: the reference's Fold tells what field.Fold tells. -/
namespace Go.Proofs.YtammhcfifnffeaaDoor.FoldPure
open Go.RowKit Go.Proofs.YtammhcfifnffeaaDoor.RowsIter Go.Proofs.YtammhcfifnffeaaDoorW.PrintWords Go.Proofs.YtammhcfifnffeaaDoor.PFieldFolds Go.Proofs.YtammhcfifnffeaaDoor.AnyEnd Go.Proofs.YtammhcfifnffeaaDoor.Octet Go.Proofs.YtammhcfifnffeaaDoor.CheckWalk Go.Proofs.YtammhcfifnffeaaDoor.JointsIter Go.Proofs.YtammhcfifnffeaaDoor.FoldWalk Go.Proofs.YtammhcfifnffeaaDoor.FoldBase Go.Proofs.YtammhcfifnffeaaDoor.FoldLists Go.Proofs.YtammhcfifnffeaaDoor.FoldScan Go.Proofs.YtammhcfifnffeaaDoor.FoldWords Go.Proofs.YtammhcfifnffeaaDoor.FoldRows Go.Proofs.YtammhcfifnffeaaDoor.FoldHead Go.Proofs.YtammhcfifnffeaaDoor.FoldChecks
open Go.Proofs.YtammhcfifnffeaaDoor.CheckPure (mk mk_size mk_list mk_data extract_mk sl_len)
set_option linter.unusedVariables false
set_option linter.unusedSimpArgs false

/-- the rows of the folded body -/
def pieces (s : List UInt8) (most : Int) : Nat → List Nat → Nat → Nat → List (List UInt8)
  | 0, _, b, _ => [s.drop b]
  | n + 1, R, b, ahead => if most < (ahead : Int) + s.length - b then (match R with
    | [] => [s.drop b]
    | k :: r => (s.drop b).take (pick most b ahead k r - b) :: pieces s most n (rest most b ahead r) (pick most b ahead k r) 0) else [s.drop b]
def joinE : List (List UInt8) → List UInt8
  | [] => []
  | x :: l => if l.isEmpty then x else x ++ [13, 10] ++ joinE l
theorem pieces_ne (s : List UInt8) (most : Int) (n : Nat) (R : List Nat) (b ahead : Nat) : (pieces s most n R b ahead).isEmpty = false := by
  cases n with
  | zero => rfl
  | succ n =>
    unfold pieces
    split
    · cases R <;> rfl
    · rfl
theorem rows_join : ∀ P : List (List UInt8), P.isEmpty = false → (∀ x ∈ P, hasEnd x = false) → rowsL (joinE P) = P
  | [], h, _ => by cases h
  | x :: l, _, h => by
    have hx := h x List.mem_cons_self
    unfold joinE
    cases hl : l.isEmpty
    · rw [if_neg (by simp), rowsL_cut x _ hx, rows_join l hl (fun y hy => h y (List.mem_cons_of_mem _ hy))]
    · rw [if_pos rfl, rowsL_last x hx, List.isEmpty_iff.1 hl]
theorem pieces_sub (s : List UInt8) (most : Int) : ∀ (n : Nat) (R : List Nat) (b ahead : Nat), ∀ x ∈ pieces s most n R b ahead, ∀ y ∈ x, y ∈ s
  | 0, R, b, ahead, x, hx, y, hy => by
    rw [pieces, List.mem_singleton] at hx
    subst hx
    exact List.mem_of_mem_drop hy
  | n + 1, R, b, ahead, x, hx, y, hy => by
    unfold pieces at hx
    split at hx
    · cases R with
      | nil =>
        rw [List.mem_singleton] at hx
        subst hx
        exact List.mem_of_mem_drop hy
      | cons k r =>
        rcases List.mem_cons.1 hx with rfl | hx
        · exact List.mem_of_mem_drop (List.mem_of_mem_take hy)
        · exact pieces_sub s most n _ _ _ x hx y hy
    · rw [List.mem_singleton] at hx
      subst hx
      exact List.mem_of_mem_drop hy
theorem rest_len (s : List UInt8) (most : Int) (b ahead x : Nat) (r : List Nat) (h : behind s b = x :: r) : (rest most b ahead r).length ≤ r.length := by
  have hs := behind_sorted s b
  rw [h] at hs
  rw [rest_filter most b ahead r x (List.pairwise_cons.1 hs).1 (List.pairwise_cons.1 hs).2]
  exact List.length_filter_le _ _
/-- the folded body is its rows, joined -/
theorem joined (s : List UInt8) (most : Int) : ∀ (n b ahead : Nat) (acc : List UInt8), (behind s b).length < n → b ≤ s.length →
    (foldGo s most (behind s b ++ [s.length]) acc b b ahead).1 ++ s.drop (foldGo s most (behind s b ++ [s.length]) acc b b ahead).2 = acc ++ joinE (pieces s most n (behind s b) b ahead)
  | 0, b, ahead, acc, h, _ => by omega
  | n + 1, b, ahead, acc, hR, hb => by
    have hbl := behind_lt s b
    unfold pieces
    by_cases h1 : most < (ahead : Int) + s.length - b
    · rw [if_pos h1]
      cases h2 : behind s b with
      | nil =>
        rw [List.nil_append, foldGo_none]
        rfl
      | cons x r =>
        rw [h2] at hbl hR
        have hm := pick_mem most b ahead r x
        obtain ⟨he1, he2⟩ := hbl _ hm
        have hrest := behind_rest s most b ahead x r h2
        have hrl := rest_len s most b ahead x r h2
        rw [foldGo_row s most acc b ahead s.length x r h1 (hbl x List.mem_cons_self).1 (fun y hy => (hbl y (List.mem_cons_of_mem _ hy)).1)]
        have ih := joined s most n (pick most b ahead x r) 0 (acc ++ (s.drop b).take (pick most b ahead x r - b) ++ [13, 10]) (by rw [hrest]; simp only [List.length_cons] at hR; omega) (by omega)
        rw [hrest] at ih
        rw [ih]
        simp only [joinE, pieces_ne, Bool.false_eq_true, if_false, List.append_assoc]
    · rw [if_neg h1, foldGo_fits s most acc b ahead _ b (by
        intro y hy
        rcases List.mem_append.1 hy with hy | hy
        · have := (hbl y hy).2; omega
        · rw [List.mem_singleton.1 hy]; omega)]
      rfl
theorem rowBad_clean (n : Nat) (x : List UInt8) (h : hasEnd x = false) : rowBad n x = decide (998 < x.length + n) := by unfold rowBad; rw [h, Bool.or_false]
theorem anyBad_zero (P : List (List UInt8)) : P.any (rowBad 0) = anyBad 0 P := by cases P <;> rfl
theorem bad_long (s : List UInt8) (hs : hasEnd s = false) (most : Int) : ∀ (n b ahead : Nat), (behind s b).length < n → b ≤ s.length →
    anyBad ahead (pieces s most n (behind s b) b ahead) = long most s.length n (behind s b) b ahead
  | 0, b, ahead, h, _ => by omega
  | n + 1, b, ahead, hR, hb => by
    have hbl := behind_lt s b
    have hlast : anyBad ahead [s.drop b] = decide ((998 : Int) < (ahead : Int) + s.length - b) := by
      simp only [anyBad, List.any_nil, Bool.or_false]
      rw [rowBad_clean _ _ (hasEnd_sub hs fun y hy => List.mem_of_mem_drop hy), decide_eq_decide, List.length_drop]
      omega
    unfold pieces long
    by_cases h1 : most < (ahead : Int) + s.length - b
    · rw [if_pos h1, if_pos h1]
      cases h2 : behind s b with
      | nil => exact hlast
      | cons x r =>
        rw [h2] at hbl hR
        have hm := pick_mem most b ahead r x
        obtain ⟨he1, he2⟩ := hbl _ hm
        have hrest := behind_rest s most b ahead x r h2
        have hrl := rest_len s most b ahead x r h2
        have ih := bad_long s hs most n (pick most b ahead x r) 0 (by rw [hrest]; simp only [List.length_cons] at hR; omega) (by omega)
        rw [hrest] at ih
        show (rowBad ahead _ || (pieces s most n (rest most b ahead r) (pick most b ahead x r) 0).any (rowBad 0)) = _
        rw [anyBad_zero, ih, rowBad_clean _ _ (hasEnd_sub hs fun y hy => List.mem_of_mem_drop (List.mem_of_mem_take hy))]
        congr 1
        rw [decide_eq_decide, List.length_take, List.length_drop]
        omega
    · rw [if_neg h1, if_neg h1]
      exact hlast
theorem off_of (s : List UInt8) (b m : Nat) (hj : jointB s b = true) (hb : b < s.length) (hm : blanksB ((s.drop b).take m) = false) (h0 : 0 < m) : foldOff ((s.drop b).take m) = false := by
  unfold foldOff
  rw [hm, Bool.false_or]
  have hd : s.drop b = s[b] :: s.drop (b + 1) := List.drop_eq_getElem_cons hb
  obtain ⟨m, rfl⟩ : ∃ q, m = q + 1 := ⟨m - 1, by omega⟩
  rw [hd, List.take_succ_cons]
  unfold jointB jointAt isBlank at hj
  rw [List.getD_eq_getElem?_getD, List.getElem?_eq_getElem hb] at hj
  simp only [Option.getD_some, Bool.and_eq_true] at hj
  simp only [blankB, hj.2.1.1, Bool.not_true]
theorem joint_prev (s : List UInt8) (i : Nat) (hi : i ≤ s.length) (h : jointB s i = true) (h1 : 1 ≤ i) : ∃ c, s[i - 1]? = some c ∧ isBlank c = false := by
  unfold jointB jointAt at h
  simp only [Bool.and_eq_true, Bool.not_eq_true', List.getD_eq_getElem?_getD] at h
  have hl : i - 1 < s.length := by omega
  rw [List.getElem?_eq_getElem hl] at h ⊢
  exact ⟨_, rfl, h.2.1.2⟩
theorem behind_joint (s : List UInt8) (b : Nat) : ∀ x ∈ behind s b, jointB s x = true := by
  intro x hx
  have h1 := (List.mem_filter.1 hx).1
  rw [jointsL_range] at h1
  exact (List.mem_filter.1 h1).2
theorem off_pieces (s : List UInt8) (most : Int) : ∀ (n b ahead : Nat), (behind s b).length < n → b < s.length → jointB s b = true → ∀ x ∈ pieces s most n (behind s b) b ahead, foldOff x = false
  | 0, b, ahead, h, _, _, _, _ => by omega
  | n + 1, b, ahead, hR, hb, hj, z, hz => by
    have hbl := behind_lt s b
    have hlast : foldOff (s.drop b) = false := by
      have := off_of s b (s.length - b) hj hb (by
        rw [List.take_of_length_le (by rw [List.length_drop]; exact Nat.le_refl _)]
        unfold jointB at hj
        simp only [Bool.and_eq_true, Bool.not_eq_true'] at hj
        exact hj.2.2) (by omega)
      rwa [List.take_of_length_le (by rw [List.length_drop]; exact Nat.le_refl _)] at this
    unfold pieces at hz
    by_cases h1 : most < (ahead : Int) + s.length - b
    · rw [if_pos h1] at hz
      cases h2 : behind s b with
      | nil =>
        rw [h2] at hz
        rw [List.mem_singleton.1 hz]
        exact hlast
      | cons x r =>
        have hjs := behind_joint s b
        rw [h2] at hbl hR hz hjs
        have hm := pick_mem most b ahead r x
        obtain ⟨he1, he2⟩ := hbl _ hm
        have hrest := behind_rest s most b ahead x r h2
        have hrl := rest_len s most b ahead x r h2
        have hjp := hjs _ hm
        rcases List.mem_cons.1 hz with rfl | hz
        · refine off_of s b _ hj hb ?_ (by omega)
          obtain ⟨c, hc, hcb⟩ := joint_prev s _ (by omega) hjp (by omega)
          cases hB : blanksB ((s.drop b).take (pick most b ahead x r - b)) with
          | false => rfl
          | true =>
            exfalso
            unfold blanksB at hB
            have hmem : c ∈ (s.drop b).take (pick most b ahead x r - b) := by
              refine List.mem_iff_getElem?.2 ⟨pick most b ahead x r - 1 - b, ?_⟩
              rw [List.getElem?_take_of_lt (by omega), List.getElem?_drop]
              rw [show b + (pick most b ahead x r - 1 - b) = pick most b ahead x r - 1 by omega]
              exact hc
            have := List.all_eq_true.1 hB c hmem
            unfold isBlank at hcb
            rw [this] at hcb
            cases hcb
        · rw [← hrest] at hz
          exact off_pieces s most n (pick most b ahead x r) 0 (by rw [hrest]; simp only [List.length_cons] at hR; omega) he2 hjp z hz
    · rw [if_neg h1] at hz
      rw [List.mem_singleton.1 hz]
      exact hlast
theorem off_tail (s : List UInt8) (most : Int) (n b ahead : Nat) (hR : (behind s b).length < n) (hb : b ≤ s.length) : foldBad (pieces s most n (behind s b) b ahead) = false := by
  cases n with
  | zero => omega
  | succ n =>
    have hbl := behind_lt s b
    unfold foldBad pieces
    by_cases h1 : most < (ahead : Int) + s.length - b
    · rw [if_pos h1]
      cases h2 : behind s b with
      | nil => rfl
      | cons x r =>
        have hjs := behind_joint s b
        rw [h2] at hbl hR hjs
        have hm := pick_mem most b ahead r x
        obtain ⟨he1, he2⟩ := hbl _ hm
        have hrest := behind_rest s most b ahead x r h2
        have hrl := rest_len s most b ahead x r h2
        rw [List.tail_cons, List.any_eq_false]
        intro z hz
        rw [← hrest] at hz
        rw [off_pieces s most n (pick most b ahead x r) 0 (by rw [hrest]; simp only [List.length_cons] at hR; omega) he2 (hjs _ hm) z hz]
        simp
    · rw [if_neg h1]
      rfl
theorem behind_zero (s : List UInt8) : behind s 0 = jointsL s := by
  unfold behind
  rw [List.filter_eq_self]
  intro x hx
  rw [jointsL_range] at hx
  have := (List.mem_filter.1 hx).2
  unfold jointB at this
  rw [Bool.and_eq_true] at this
  have := of_decide_eq_true this.1
  exact decide_eq_true (by omega)
/-- what Check tells of the folded body -/
theorem check_body (nm s : List UInt8) (hn : nameB nm = true) (hs : hasEnd s = false) (most : Int) (n : Nat) (hR : (behind s 0).length < n) :
    checkV nm (foldBody nm s most) = if long most s.length n (behind s 0) 0 (nm.length + 1) = true then 160 else 0 := by
  have hj := joined s most n 0 (nm.length + 1) [] hR (Nat.zero_le _)
  rw [List.nil_append] at hj
  have hb : foldBody nm s most = joinE (pieces s most n (behind s 0) 0 (nm.length + 1)) := by
    unfold foldBody
    rw [← behind_zero]
    exact hj
  have hr := rows_join _ (pieces_ne s most n (behind s 0) 0 (nm.length + 1)) (fun x hx => hasEnd_sub hs (pieces_sub s most n _ _ _ x hx))
  unfold checkV
  rw [hb, hr, hn, if_neg (by simp), bad_long s hs most n 0 (nm.length + 1) hR (Nat.zero_le _), off_tail s most n 0 (nm.length + 1) hR (Nat.zero_le _)]
  simp
/-- the reference's Fold -/
theorem fold_f (nm s : ByteArray) (most : Int) (hn : nm.size < 4294967296) (hs : s.size < 4294967296) :
    ∃ K, ∀ k, K ≤ k → posthornref16_Fold.f k nm s most = some (mk (foldV nm.data.toList s.data.toList most).1, mk (foldV nm.data.toList s.data.toList most).2.1, (foldV nm.data.toList s.data.toList most).2.2) := by
  have hsl : s.data.toList.length = s.size := data_length s
  have hnl : nm.data.toList.length = nm.size := data_length nm
  obtain ⟨K, hK⟩ := rows_all nm s most hs ((behind s.data.toList 0).length + 1) 0 (nm.size + 1) [] (by omega) (Nat.zero_le _) (by omega) (by simp; omega)
  refine ⟨K + nm.size + s.size + 30, fun k hk => ?_⟩
  obtain ⟨k, rfl⟩ : ∃ q, k = q + 1 + 1 := ⟨k - 2, by omega⟩
  rw [fold_head nm s most hn hs k (by omega)]
  unfold foldV
  by_cases h1 : nameB nm.data.toList = false ∨ hasEnd s.data.toList = true
  · rw [if_pos h1, if_pos h1]
    rfl
  · rw [if_neg h1, if_neg h1]
    by_cases h2 : most < 1 ∨ 998 < most
    · rw [if_pos h2, if_pos h2]
      rfl
    · rw [if_neg h2, if_neg h2]
      have hnm : nameB nm.data.toList = true := by cases h : nameB nm.data.toList <;> simp_all
      have hen : hasEnd s.data.toList = false := by cases h : hasEnd s.data.toList <;> simp_all
      have hk := hK k (by omega)
      have hc := check_body nm.data.toList s.data.toList hnm hen most ((behind s.data.toList 0).length + 1) (by omega)
      rw [hsl, hnl] at hc
      have hmk : mk [] = (⟨#[]⟩ : ByteArray) := rfl
      rw [hmk] at hk
      rw [show ((0 : Nat) : Int) = 0 from rfl] at hk
      rw [hk, hc]
      cases hl : long most s.size ((behind s.data.toList 0).length + 1) (behind s.data.toList 0) 0 (nm.size + 1)
      · simp only [Bool.false_eq_true, if_false, if_true]
        rw [mk_data]
        unfold foldBody
        rw [← behind_zero, hsl, hnl]
      · simp only [if_true]
        rw [if_neg (by omega)]
        rfl
end Go.Proofs.YtammhcfifnffeaaDoor.FoldPure
/- The functions blank and more of the statement FieldFoldBack, by contract. (Began as printed by print.sh.) -/
namespace Go.Proofs.YtammhcfifnffeaaDoor.FoldBackFns
open Go.RowKit Go.Proofs.YtammhcfifnffeaaDoorW.PrintWords Go.Proofs.YtammhcfifnffeaaDoorW.PrintLast Go.Proofs.YtammhcfifnffeaaDoorW.PrintMore Go.Proofs.YtammhcfifnffeaaDoor.PFieldPrints Go.Proofs.YtammhcfifnffeaaDoor.JointsIter Go.Proofs.YtammhcfifnffeaaDoor.FoldBase
attribute [local go_sem] max2_int min2_int max_two min_two max_three min_three max_four min_four
set_option linter.unusedVariables false
set_option linter.unusedSimpArgs false

def posthornlaw16_blank.f (a0 : Int) : Option (Bool) := if a0 = 32 then (some true) else (some (a0 == 9))
set_option maxHeartbeats 8000000 in
set_option maxRecDepth 100000 in
theorem posthornlaw16_blank.calls (a0 : Int) (r : Bool) (w : World) (h : posthornlaw16_blank.f a0 = some r) :
    Calls Tryd.prog 29 #[.int .u8 a0] w fun e w' => e = .returned (.bool r) ∧ Drawn0 w w' := by
  have H : (if a0 = 32 then (some true) else (some (a0 == 9))) = some r := h
  clear h
  by_cases c2 : a0 = 32
  · rw [if_pos c2] at H
    have c2b0 : (a0 == 32) = true := beq_iff_eq.mpr c2
    have c2b1 : (a0 != 32) = false := bne_eq_false_iff_eq.mpr c2
    clear c2
    obtain rfl := Option.some.inj H
    go_enter Tryd.func29, Tryd.ntmps29
    go_wp2
    go_ret
    exact ⟨by first | rfl | (simp; done) | (simp [*]; done), by repeat (first | exact Drawn0.refl _ | apply Drawn0.step)⟩
  · rw [if_neg c2] at H
    have c2b0 : (a0 == 32) = false := beq_eq_false_iff_ne.mpr c2
    have c2b1 : (a0 != 32) = true := bne_iff_ne.mpr c2
    obtain rfl := Option.some.inj H
    go_enter Tryd.func29, Tryd.ntmps29
    go_wp2
    go_ret
    exact ⟨by first | rfl | (simp; done) | (simp [*]; done), by repeat (first | exact Drawn0.refl _ | apply Drawn0.step)⟩

def posthornlaw16_more.l0 : Nat → ByteArray → Int → Option (Bool)
  | 0, _, _ => none
  | k + 1, x0, x3 => if x3 < (x0.size : Int) then (if 0 ≤ x3 then (if (bt x0 x3) = 32 then (posthornlaw16_more.l0 k x0 (wrap64 (x3 + 1))) else (if (bt x0 x3) = 9 then (posthornlaw16_more.l0 k x0 (wrap64 (x3 + 1))) else (if (bt x0 x3) = 13 then (posthornlaw16_more.l0 k x0 (wrap64 (x3 + 1))) else (if (bt x0 x3) = 10 then (posthornlaw16_more.l0 k x0 (wrap64 (x3 + 1))) else (some true))))) else (none)) else (some false)
def posthornlaw16_more.f (k : Nat) (a0 : ByteArray) : Option (Bool) := posthornlaw16_more.l0 k a0 0
theorem posthornlaw16_more.mono_l : ∀ k, (∀ y0 y1, LeO (posthornlaw16_more.l0 k y0 y1) (posthornlaw16_more.l0 (k + 1) y0 y1))
  | 0 => fun _ _ r h => by simp [posthornlaw16_more.l0] at h
  | k + 1 => by
    have ih0 := posthornlaw16_more.mono_l k
    · intro y0 y1
      unfold posthornlaw16_more.l0
      repeat' first
      | (with_reducible exact ih0 _ _)
      | (with_reducible exact LeO.refl _)
      | (with_reducible exact LeO.none _)
      | (with_reducible refine LeO.ite ?_ ?_)
      | (with_reducible refine LeO.bind ?_ (fun _ => ?_))
      | exact ih0 _ _
      | exact LeO.none _
      | refine LeO.ite ?_ ?_
      | refine LeO.bind ?_ (fun _ => ?_)
theorem posthornlaw16_more.mono : ∀ a0 k, LeO (posthornlaw16_more.f k a0) (posthornlaw16_more.f (k + 1) a0) := by
  intro a0 k
  have ih0 := posthornlaw16_more.mono_l k
  unfold posthornlaw16_more.f
  repeat' first
      | (with_reducible exact ih0 _ _)
      | (with_reducible exact LeO.refl _)
      | (with_reducible exact LeO.none _)
      | (with_reducible refine LeO.ite ?_ ?_)
      | (with_reducible refine LeO.bind ?_ (fun _ => ?_))
      | exact ih0 _ _
      | exact LeO.none _
      | refine LeO.ite ?_ ?_
      | refine LeO.bind ?_ (fun _ => ?_)
set_option maxHeartbeats 8000000 in
set_option maxRecDepth 100000 in
theorem posthornlaw16_more.calls (k : Nat) (a0 : ByteArray) (r : Bool) (w : World) (h : posthornlaw16_more.f k a0 = some r) :
    Calls Tryd.prog 30 #[.string a0] w fun e w' => e = .returned (.bool r) ∧ Drawn0 w w' := by
  have H : (posthornlaw16_more.l0 k a0 0) = some r := h
  clear h
  have H' := Aside0.mk H
  clear H
  go_enter Tryd.func30, Tryd.ntmps30
  go_wp2
  go_loopg [3] k (fun kq v3 w' => ∃ (x3_1 : Int), v3 = .int .i64 x3_1 ∧ Aside0 (posthornlaw16_more.l0 kq a0 x3_1 = some r) ∧ Aside0 (kq ≤ k) ∧ Drawn0 w w')
  case atStart => exact ⟨(0), (by first | rfl | (simp; done) | (simp [*]; done)), H', ⟨Nat.le_refl _⟩, by repeat (first | exact Drawn0.refl _ | apply Drawn0.step)⟩
  case round =>
    clear H'
    obtain ⟨x3_1, rfl, HA, HK1, ⟨m1, rfl⟩⟩ := hrel
    cases gk with
    | zero => exact absurd HA.out (by simp [posthornlaw16_more.l0])
    | succ k1 =>
      have H := HA.out
      clear HA
      simp only [posthornlaw16_more.l0] at H
      by_cases c2 : x3_1 < (a0.size : Int)
      · rw [if_pos c2] at H
        have c2b0 : decide (x3_1 < (a0.size : Int)) = true := decide_eq_true c2
        clear c2
        by_cases c3 : 0 ≤ x3_1
        · rw [if_pos c3] at H
          have c3b0 : decide (0 ≤ x3_1) = true := decide_eq_true c3
          clear c3
          by_cases c5 : (bt a0 x3_1) = 32
          · rw [if_pos c5] at H
            have c5b0 : ((bt a0 x3_1) == 32) = true := beq_iff_eq.mpr c5
            have c5b1 : ((bt a0 x3_1) != 32) = false := bne_eq_false_iff_eq.mpr c5
            clear c5
            have H' := Aside0.mk H
            clear H
            have p4 : 0 ≤ (x3_1 : Int) := of_decide_eq_true (by first | (with_reducible assumption) | assumption)
            have q4 : x3_1 < (a0.size : Int) := of_decide_eq_true (by first | (with_reducible assumption) | assumption)
            have hx4 := bt_at a0 x3_1
            replace p4 := eq_true p4
            replace q4 := eq_true q4
            go_wp2
            go_roundg k1
            case measure => have := HK1.out; omega
            case rel => exact ⟨(wrap64 (x3_1 + 1)), (by first | rfl | (simp; done) | (simp [*]; done)), H', ⟨by have := HK1.out; omega⟩, by repeat (first | exact Drawn0.refl _ | apply Drawn0.step)⟩
          · rw [if_neg c5] at H
            have c5b0 : ((bt a0 x3_1) == 32) = false := beq_eq_false_iff_ne.mpr c5
            have c5b1 : ((bt a0 x3_1) != 32) = true := bne_iff_ne.mpr c5
            by_cases c7 : (bt a0 x3_1) = 9
            · rw [if_pos c7] at H
              have c7b0 : ((bt a0 x3_1) == 9) = true := beq_iff_eq.mpr c7
              have c7b1 : ((bt a0 x3_1) != 9) = false := bne_eq_false_iff_eq.mpr c7
              clear c7
              have H' := Aside0.mk H
              clear H
              have p4 : 0 ≤ (x3_1 : Int) := of_decide_eq_true (by first | (with_reducible assumption) | assumption)
              have q4 : x3_1 < (a0.size : Int) := of_decide_eq_true (by first | (with_reducible assumption) | assumption)
              have hx4 := bt_at a0 x3_1
              replace p4 := eq_true p4
              replace q4 := eq_true q4
              have p6 : 0 ≤ (x3_1 : Int) := of_decide_eq_true (by first | (with_reducible assumption) | assumption)
              have q6 : x3_1 < (a0.size : Int) := of_decide_eq_true (by first | (with_reducible assumption) | assumption)
              have hx6 := bt_at a0 x3_1
              replace p6 := eq_true p6
              replace q6 := eq_true q6
              go_wp2
              go_roundg k1
              case measure => have := HK1.out; omega
              case rel => exact ⟨(wrap64 (x3_1 + 1)), (by first | rfl | (simp; done) | (simp [*]; done)), H', ⟨by have := HK1.out; omega⟩, by repeat (first | exact Drawn0.refl _ | apply Drawn0.step)⟩
            · rw [if_neg c7] at H
              have c7b0 : ((bt a0 x3_1) == 9) = false := beq_eq_false_iff_ne.mpr c7
              have c7b1 : ((bt a0 x3_1) != 9) = true := bne_iff_ne.mpr c7
              by_cases c9 : (bt a0 x3_1) = 13
              · rw [if_pos c9] at H
                have c9b0 : ((bt a0 x3_1) == 13) = true := beq_iff_eq.mpr c9
                have c9b1 : ((bt a0 x3_1) != 13) = false := bne_eq_false_iff_eq.mpr c9
                clear c9
                have H' := Aside0.mk H
                clear H
                have p4 : 0 ≤ (x3_1 : Int) := of_decide_eq_true (by first | (with_reducible assumption) | assumption)
                have q4 : x3_1 < (a0.size : Int) := of_decide_eq_true (by first | (with_reducible assumption) | assumption)
                have hx4 := bt_at a0 x3_1
                replace p4 := eq_true p4
                replace q4 := eq_true q4
                have p6 : 0 ≤ (x3_1 : Int) := of_decide_eq_true (by first | (with_reducible assumption) | assumption)
                have q6 : x3_1 < (a0.size : Int) := of_decide_eq_true (by first | (with_reducible assumption) | assumption)
                have hx6 := bt_at a0 x3_1
                replace p6 := eq_true p6
                replace q6 := eq_true q6
                have p8 : 0 ≤ (x3_1 : Int) := of_decide_eq_true (by first | (with_reducible assumption) | assumption)
                have q8 : x3_1 < (a0.size : Int) := of_decide_eq_true (by first | (with_reducible assumption) | assumption)
                have hx8 := bt_at a0 x3_1
                replace p8 := eq_true p8
                replace q8 := eq_true q8
                go_wp2
                go_roundg k1
                case measure => have := HK1.out; omega
                case rel => exact ⟨(wrap64 (x3_1 + 1)), (by first | rfl | (simp; done) | (simp [*]; done)), H', ⟨by have := HK1.out; omega⟩, by repeat (first | exact Drawn0.refl _ | apply Drawn0.step)⟩
              · rw [if_neg c9] at H
                have c9b0 : ((bt a0 x3_1) == 13) = false := beq_eq_false_iff_ne.mpr c9
                have c9b1 : ((bt a0 x3_1) != 13) = true := bne_iff_ne.mpr c9
                by_cases c11 : (bt a0 x3_1) = 10
                · rw [if_pos c11] at H
                  have c11b0 : ((bt a0 x3_1) == 10) = true := beq_iff_eq.mpr c11
                  have c11b1 : ((bt a0 x3_1) != 10) = false := bne_eq_false_iff_eq.mpr c11
                  clear c11
                  have H' := Aside0.mk H
                  clear H
                  have p4 : 0 ≤ (x3_1 : Int) := of_decide_eq_true (by first | (with_reducible assumption) | assumption)
                  have q4 : x3_1 < (a0.size : Int) := of_decide_eq_true (by first | (with_reducible assumption) | assumption)
                  have hx4 := bt_at a0 x3_1
                  replace p4 := eq_true p4
                  replace q4 := eq_true q4
                  have p6 : 0 ≤ (x3_1 : Int) := of_decide_eq_true (by first | (with_reducible assumption) | assumption)
                  have q6 : x3_1 < (a0.size : Int) := of_decide_eq_true (by first | (with_reducible assumption) | assumption)
                  have hx6 := bt_at a0 x3_1
                  replace p6 := eq_true p6
                  replace q6 := eq_true q6
                  have p8 : 0 ≤ (x3_1 : Int) := of_decide_eq_true (by first | (with_reducible assumption) | assumption)
                  have q8 : x3_1 < (a0.size : Int) := of_decide_eq_true (by first | (with_reducible assumption) | assumption)
                  have hx8 := bt_at a0 x3_1
                  replace p8 := eq_true p8
                  replace q8 := eq_true q8
                  have p10 : 0 ≤ (x3_1 : Int) := of_decide_eq_true (by first | (with_reducible assumption) | assumption)
                  have q10 : x3_1 < (a0.size : Int) := of_decide_eq_true (by first | (with_reducible assumption) | assumption)
                  have hx10 := bt_at a0 x3_1
                  replace p10 := eq_true p10
                  replace q10 := eq_true q10
                  go_wp2
                  go_roundg k1
                  case measure => have := HK1.out; omega
                  case rel => exact ⟨(wrap64 (x3_1 + 1)), (by first | rfl | (simp; done) | (simp [*]; done)), H', ⟨by have := HK1.out; omega⟩, by repeat (first | exact Drawn0.refl _ | apply Drawn0.step)⟩
                · rw [if_neg c11] at H
                  have c11b0 : ((bt a0 x3_1) == 10) = false := beq_eq_false_iff_ne.mpr c11
                  have c11b1 : ((bt a0 x3_1) != 10) = true := bne_iff_ne.mpr c11
                  obtain rfl := Option.some.inj H
                  have p4 : 0 ≤ (x3_1 : Int) := of_decide_eq_true (by first | (with_reducible assumption) | assumption)
                  have q4 : x3_1 < (a0.size : Int) := of_decide_eq_true (by first | (with_reducible assumption) | assumption)
                  have hx4 := bt_at a0 x3_1
                  replace p4 := eq_true p4
                  replace q4 := eq_true q4
                  have p6 : 0 ≤ (x3_1 : Int) := of_decide_eq_true (by first | (with_reducible assumption) | assumption)
                  have q6 : x3_1 < (a0.size : Int) := of_decide_eq_true (by first | (with_reducible assumption) | assumption)
                  have hx6 := bt_at a0 x3_1
                  replace p6 := eq_true p6
                  replace q6 := eq_true q6
                  have p8 : 0 ≤ (x3_1 : Int) := of_decide_eq_true (by first | (with_reducible assumption) | assumption)
                  have q8 : x3_1 < (a0.size : Int) := of_decide_eq_true (by first | (with_reducible assumption) | assumption)
                  have hx8 := bt_at a0 x3_1
                  replace p8 := eq_true p8
                  replace q8 := eq_true q8
                  have p10 : 0 ≤ (x3_1 : Int) := of_decide_eq_true (by first | (with_reducible assumption) | assumption)
                  have q10 : x3_1 < (a0.size : Int) := of_decide_eq_true (by first | (with_reducible assumption) | assumption)
                  have hx10 := bt_at a0 x3_1
                  replace p10 := eq_true p10
                  replace q10 := eq_true q10
                  go_wp2
                  go_ret
                  exact ⟨by first | rfl | (simp; done) | (simp [*]; done), by repeat (first | exact Drawn0.refl _ | apply Drawn0.step)⟩
        · rw [if_neg c3] at H
          exact absurd H (by simp)
      · rw [if_neg c2] at H
        have c2b0 : decide (x3_1 < (a0.size : Int)) = false := decide_eq_false c2
        clear c2
        obtain rfl := Option.some.inj H
        go_wp2
        go_ret
        exact ⟨by first | rfl | (simp; done) | (simp [*]; done), by repeat (first | exact Drawn0.refl _ | apply Drawn0.step)⟩

-- NOT PRINTED: function 9 (posthornlaw16_FieldFoldBack)

/-- does a text hold a byte that is neither blank nor a part of a line end? -/
def moreC (c : UInt8) : Bool := !(c == 32) && !(c == 9) && !(c == 13) && !(c == 10)
def moreL (l : List UInt8) : Bool := l.any moreC
theorem u8_int (c d : UInt8) : ((c.toNat : Int) = (d.toNat : Int)) ↔ c = d := by
  constructor
  · intro h
    exact UInt8.toNat_inj.1 (by omega)
  · rintro rfl
    rfl
theorem more_go (s : ByteArray) (hs : s.size < 9000000000000000000) : ∀ (d i : Nat), s.size - i ≤ d → ∀ k, d < k → posthornlaw16_more.l0 k s (i : Int) = some (moreL (s.data.toList.drop i)) := by
  have hsl : s.data.toList.length = s.size := data_length s
  intro d
  induction d with
  | zero =>
    intro i hi k hk
    obtain ⟨k, rfl⟩ : ∃ q, k = q + 1 := ⟨k - 1, by omega⟩
    simp only [posthornlaw16_more.l0]
    rw [if_neg (by omega), List.drop_eq_nil_of_le (by omega)]
    rfl
  | succ d ih =>
    intro i hi k hk
    obtain ⟨k, rfl⟩ : ∃ q, k = q + 1 := ⟨k - 1, by omega⟩
    simp only [posthornlaw16_more.l0]
    by_cases h : i < s.size
    · have hw : wrap64 ((i : Int) + 1) = ((i + 1 : Nat) : Int) := by unfold wrap64; omega
      rw [if_pos (by omega), if_pos (by omega), bt_at_nat s i h, hw, ih (i + 1) (by omega) k (by omega)]
      have hd : s.data.toList.drop i = s.data.toList.getD i 0 :: s.data.toList.drop (i + 1) := by
        rw [List.drop_eq_getElem_cons (by omega), List.getD_eq_getElem?_getD, List.getElem?_eq_getElem (by omega)]
        rfl
      rw [hd]
      generalize s.data.toList.getD i 0 = c
      show _ = some (moreC c || moreL (s.data.toList.drop (i + 1)))
      have e32 : ((c.toNat : Int) = 32) ↔ c = 32 := u8_int c 32
      have e9 : ((c.toNat : Int) = 9) ↔ c = 9 := u8_int c 9
      have e13 : ((c.toNat : Int) = 13) ↔ c = 13 := u8_int c 13
      have e10 : ((c.toNat : Int) = 10) ↔ c = 10 := u8_int c 10
      by_cases c1 : c = 32
      · rw [if_pos (e32.2 c1), show moreC c = false by unfold moreC; simp [c1], Bool.false_or]
      · rw [if_neg (fun e => c1 (e32.1 e))]
        by_cases c2 : c = 9
        · rw [if_pos (e9.2 c2), show moreC c = false by unfold moreC; simp [c2], Bool.false_or]
        · rw [if_neg (fun e => c2 (e9.1 e))]
          by_cases c3 : c = 13
          · rw [if_pos (e13.2 c3), show moreC c = false by unfold moreC; simp [c3], Bool.false_or]
          · rw [if_neg (fun e => c3 (e13.1 e))]
            by_cases c4 : c = 10
            · rw [if_pos (e10.2 c4), show moreC c = false by unfold moreC; simp [c4], Bool.false_or]
            · rw [if_neg (fun e => c4 (e10.1 e)), show moreC c = true by unfold moreC; simp [c1, c2, c3, c4], Bool.true_or]
    · rw [if_neg (by omega), List.drop_eq_nil_of_le (by omega)]
      rfl
theorem more_calls (s : ByteArray) (hs : s.size < 9000000000000000000) (w : World) : Calls Tryd.prog 30 #[.string s] w fun e w' => e = .returned (.bool (moreL s.data.toList)) ∧ Drawn0 w w' :=
  posthornlaw16_more.calls (s.size + 1) s _ w (by
    have := more_go s hs s.size 0 (by omega) (s.size + 1) (by omega)
    rw [List.drop_zero] at this
    exact this)
theorem blank_calls (c : UInt8) (w : World) : Calls Tryd.prog 29 #[.int .u8 (c.toNat : Int)] w fun e w' => e = .returned (.bool (isBlank c)) ∧ Drawn0 w w' :=
  posthornlaw16_blank.calls (c.toNat : Int) _ w (by
    have e32 : ((c.toNat : Int) = 32) ↔ c = 32 := u8_int c 32
    have e9 : ((c.toNat : Int) = 9) ↔ c = 9 := u8_int c 9
    unfold posthornlaw16_blank.f isBlank
    by_cases c1 : c = 32
    · rw [if_pos (e32.2 c1)]
      simp [c1]
    · rw [if_neg (fun e => c1 (e32.1 e))]
      by_cases c2 : c = 9
      · simp [c2]
      · have h1 : ((c.toNat : Int) == 9) = false := beq_eq_false_iff_ne.2 fun e => c2 (e9.1 e)
        rw [h1]
        simp [c1, c2])
end Go.Proofs.YtammhcfifnffeaaDoor.FoldBackFns
/- FieldFoldBack: what a folded body is (lists alone): it is right, unfolds to what it was, and keeps its width where it can. -/
namespace Go.Proofs.YtammhcfifnffeaaDoor.FoldBackPure
open Go.RowKit Go.Proofs.YtammhcfifnffeaaDoorW.PrintWords Go.Proofs.YtammhcfifnffeaaDoor.PFieldFolds Go.Proofs.YtammhcfifnffeaaDoor.RowsIter Go.Proofs.YtammhcfifnffeaaDoor.AnyEnd Go.Proofs.YtammhcfifnffeaaDoor.Octet Go.Proofs.YtammhcfifnffeaaDoor.CheckWalk Go.Proofs.YtammhcfifnffeaaDoor.JointsIter Go.Proofs.YtammhcfifnffeaaDoor.FoldWalk Go.Proofs.YtammhcfifnffeaaDoor.FoldBase Go.Proofs.YtammhcfifnffeaaDoor.FoldLists Go.Proofs.YtammhcfifnffeaaDoor.FoldWords Go.Proofs.YtammhcfifnffeaaDoor.FoldRows Go.Proofs.YtammhcfifnffeaaDoor.FoldChecks Go.Proofs.YtammhcfifnffeaaDoor.FoldPure Go.Proofs.YtammhcfifnffeaaDoor.FoldBackFns
open Go.Proofs.YtammhcfifnffeaaDoor.UnfoldWalk (joinAll joinFrom)
open Go.Proofs.YtammhcfifnffeaaDoor.CheckPure (name_clean)
set_option linter.unusedVariables false

theorem flat_pieces (s : List UInt8) (most : Int) : ∀ (n b ahead : Nat), (behind s b).length < n → (pieces s most n (behind s b) b ahead).flatten = s.drop b
  | 0, b, ahead, h => by omega
  | n + 1, b, ahead, hR => by
    have hbl := behind_lt s b
    unfold pieces
    by_cases h1 : most < (ahead : Int) + s.length - b
    · rw [if_pos h1]
      cases h2 : behind s b with
      | nil => simp
      | cons x r =>
        rw [h2] at hbl hR
        have hm := pick_mem most b ahead r x
        obtain ⟨he1, he2⟩ := hbl _ hm
        have hrest := behind_rest s most b ahead x r h2
        have hrl := rest_len s most b ahead x r h2
        have ih := flat_pieces s most n (pick most b ahead x r) 0 (by rw [hrest]; simp only [List.length_cons] at hR; omega)
        rw [hrest] at ih
        show _ ++ (pieces s most n (rest most b ahead r) (pick most b ahead x r) 0).flatten = _
        rw [ih]
        have e : s.drop (pick most b ahead x r) = (s.drop b).drop (pick most b ahead x r - b) := by
          rw [List.drop_drop]
          congr 1
          omega
        rw [e, List.take_append_drop]
    · rw [if_neg h1]
      simp
theorem few_pieces (s : List UInt8) (most : Int) : ∀ (n b ahead : Nat), (behind s b).length < n → (pieces s most n (behind s b) b ahead).length ≤ (behind s b).length + 1
  | 0, b, ahead, h => by omega
  | n + 1, b, ahead, hR => by
    unfold pieces
    by_cases h1 : most < (ahead : Int) + s.length - b
    · rw [if_pos h1]
      cases h2 : behind s b with
      | nil => simp
      | cons x r =>
        rw [h2] at hR
        have hrest := behind_rest s most b ahead x r h2
        have hrl := rest_len s most b ahead x r h2
        have ih := few_pieces s most n (pick most b ahead x r) 0 (by rw [hrest]; simp only [List.length_cons] at hR; omega)
        rw [hrest] at ih
        simp only [List.length_cons]
        omega
    · rw [if_neg h1]
      simp
theorem join_len : ∀ P : List (List UInt8), (joinE P).length ≤ P.flatten.length + 2 * P.length
  | [] => Nat.le_refl _
  | x :: l => by
    have ih := join_len l
    unfold joinE
    cases hl : l.isEmpty
    · rw [if_neg (by simp)]
      simp only [List.length_append, List.length_cons, List.length_nil, List.flatten_cons]
      omega
    · rw [if_pos rfl]
      simp only [List.length_append, List.length_cons, List.flatten_cons]
      omega
theorem join_mem : ∀ (P : List (List UInt8)) (c : UInt8), c ∈ joinE P → c ∈ P.flatten ∨ c = 13 ∨ c = 10
  | [], c, h => by cases h
  | x :: l, c, h => by
    unfold joinE at h
    cases hl : l.isEmpty
    · rw [hl, if_neg (by simp)] at h
      simp only [List.append_assoc, List.mem_append, List.mem_cons, List.not_mem_nil, or_false] at h
      rw [List.flatten_cons, List.mem_append]
      rcases h with h | (h | h) | h
      · exact .inl (.inl h)
      · exact .inr (.inl h)
      · exact .inr (.inr h)
      · rcases join_mem l c h with h | h
        · exact .inl (.inr h)
        · exact .inr h
    · rw [hl, if_pos rfl] at h
      rw [List.flatten_cons, List.mem_append]
      exact .inl (.inl h)
theorem join_blank : ∀ (l : List (List UInt8)), (∀ y ∈ l, foldOff y = false) → joinFrom l = l.flatten
  | [], _ => rfl
  | y :: l, h => by
    have hy := h y List.mem_cons_self
    unfold foldOff at hy
    rw [Bool.or_eq_false_iff] at hy
    have hb : UnfoldWalk.blankB y = true := by
      have h2 : CheckWalk.blankB y = true := by simpa using hy.2
      cases y with
      | nil => cases h2
      | cons c y => exact h2
    unfold joinFrom
    rw [hb, if_pos rfl, List.nil_append, join_blank l fun z hz => h z (List.mem_cons_of_mem _ hz)]
    rfl
/-- no row that is too long has a place to fold -/
def Right (most : Int) : Nat → List (List UInt8) → Prop
  | _, [] => True
  | a, x :: Q => (∀ j, 1 ≤ j → j < x.length → most < (a : Int) + x.length → jointAt x j = true → moreL ((joinE (x :: Q)).drop j) = false) ∧ Right most 0 Q
theorem more_not (s : List UInt8) (i : Nat) (c : UInt8) (hc : moreC c = true) (h : c ∈ s.drop i) : blanksB (s.drop i) = false := by
  cases hb : blanksB (s.drop i) with
  | false => rfl
  | true =>
    unfold blanksB at hb
    have := List.all_eq_true.1 hb c h
    unfold moreC at hc
    simp only [Bool.and_eq_true, Bool.not_eq_true'] at hc
    rw [hc.1.1.1, hc.1.1.2] at this
    cases this
theorem more_join (x : List UInt8) (Q : List (List UInt8)) (j : Nat) (hj : j ≤ x.length) (h : moreL ((joinE (x :: Q)).drop j) = true) : ∃ c, moreC c = true ∧ (c ∈ x.drop j ∨ c ∈ Q.flatten) := by
  unfold moreL at h
  obtain ⟨c, hc, hm⟩ := List.any_eq_true.1 h
  refine ⟨c, hm, ?_⟩
  unfold joinE at hc
  cases hl : Q.isEmpty
  · rw [hl, if_neg (by simp), List.append_assoc, List.drop_append_of_le_length hj] at hc
    rcases List.mem_append.1 hc with h | h
    · exact .inl h
    · have hn : c ≠ 13 ∧ c ≠ 10 := by
        unfold moreC at hm
        simp only [Bool.and_eq_true, Bool.not_eq_true', beq_eq_false_iff_ne] at hm
        exact ⟨hm.1.2, hm.2⟩
      simp only [List.mem_append, List.mem_cons, List.not_mem_nil, or_false] at h
      rcases h with (h | h) | h
      · exact absurd h hn.1
      · exact absurd h hn.2
      · rcases join_mem Q c h with h | h | h
        · exact .inr h
        · exact absurd h hn.1
        · exact absurd h hn.2
  · rw [hl, if_pos rfl] at hc
    exact .inl hc
theorem pick_fit (most : Int) (b ahead : Nat) : ∀ (r : List Nat) (x : Nat), pick most b ahead x r = x ∨ (ahead : Int) + pick most b ahead x r - b ≤ most
  | [], x => .inl rfl
  | j :: r, x => by
    rw [pick]
    by_cases h : most < (ahead : Int) + j - b
    · rw [if_pos h]; exact .inl rfl
    · rw [if_neg h]
      rcases pick_fit most b ahead r j with e | e
      · exact .inr (by rw [e]; omega)
      · exact .inr e
theorem behind_mem (s : List UInt8) (b i : Nat) (h1 : b < i) (h2 : i < s.length) (h3 : jointB s i = true) : i ∈ behind s b := by
  unfold behind
  rw [jointsL_range]
  exact List.mem_filter.2 ⟨List.mem_filter.2 ⟨List.mem_range.2 h2, h3⟩, decide_eq_true h1⟩
theorem joint_in (s : List UInt8) (b m j : Nat) (h1 : 1 ≤ j) (hj : j < m) (h : jointAt ((s.drop b).take m) j = true) : jointAt s (b + j) = true := by
  unfold jointAt at h ⊢
  have e : ∀ i, i < m → ((s.drop b).take m).getD i 0 = s.getD (b + i) 0 := fun i hi => by
    rw [List.getD_eq_getElem?_getD, List.getElem?_take_of_lt hi, List.getElem?_drop, List.getD_eq_getElem?_getD]
  rw [e j hj, e (j - 1) (by omega)] at h
  rw [show b + j - 1 = b + (j - 1) by omega]
  exact h
theorem right_pieces (s : List UInt8) (most : Int) : ∀ (n b ahead : Nat), (behind s b).length < n → b ≤ s.length → Right most ahead (pieces s most n (behind s b) b ahead)
  | 0, b, ahead, h, _ => by omega
  | n + 1, b, ahead, hR, hb => by
    have hbl := behind_lt s b
    have hlast : (∀ j, 1 ≤ j → b + j < s.length → most < (ahead : Int) + s.length - b → jointB s (b + j) = true → False) → Right most ahead [s.drop b] := fun hh => by
      refine ⟨fun j h1 h2 h3 h4 => ?_, trivial⟩
      rw [List.length_drop] at h2 h3
      cases hm : moreL ((joinE [s.drop b]).drop j) with
      | false => rfl
      | true =>
        exfalso
        obtain ⟨c, hc, hx⟩ := more_join (s.drop b) [] j (by rw [List.length_drop]; omega) hm
        have hx : c ∈ s.drop (b + j) := by
          rcases hx with hx | hx
          · rwa [List.drop_drop] at hx
          · cases hx
        refine hh j h1 (by omega) (by omega) ?_
        have hj := joint_in s b (s.length - b) j h1 (by omega) (by rw [List.take_of_length_le (by rw [List.length_drop]; exact Nat.le_refl _)]; exact h4)
        unfold jointB
        rw [hj, more_not s _ c hc hx, decide_eq_true (by omega : 1 ≤ b + j)]
        rfl
    unfold pieces
    by_cases h1 : most < (ahead : Int) + s.length - b
    · rw [if_pos h1]
      cases h2 : behind s b with
      | nil =>
        refine hlast fun j h3 h4 _ h5 => ?_
        have := behind_mem s b (b + j) (by omega) h4 h5
        rw [h2] at this
        cases this
      | cons k r =>
        have hbs := behind_sorted s b
        rw [h2] at hbl hR hbs
        have hm := pick_mem most b ahead r k
        obtain ⟨he1, he2⟩ := hbl _ hm
        have hrest := behind_rest s most b ahead k r h2
        have hrl := rest_len s most b ahead k r h2
        have hlt : (behind s (pick most b ahead k r)).length < n := by rw [hrest]; simp only [List.length_cons] at hR; omega
        have ih := right_pieces s most n (pick most b ahead k r) 0 hlt (by omega)
        have hfl := flat_pieces s most n (pick most b ahead k r) 0 hlt
        rw [hrest] at ih hfl
        refine ⟨fun j h3 h4 h5 h6 => ?_, ih⟩
        have hxl : ((s.drop b).take (pick most b ahead k r - b)).length = pick most b ahead k r - b := by rw [List.length_take, List.length_drop]; omega
        rw [hxl] at h4 h5
        cases hmo : moreL ((joinE ((s.drop b).take (pick most b ahead k r - b) :: pieces s most n (rest most b ahead r) (pick most b ahead k r) 0)).drop j) with
        | false => rfl
        | true =>
          exfalso
          obtain ⟨c, hc, hx⟩ := more_join _ _ j (by rw [hxl]; omega) hmo
          have hx : c ∈ s.drop (b + j) := by
            rcases hx with hx | hx
            · rw [List.drop_take] at hx
              have := List.mem_of_mem_take hx
              rwa [List.drop_drop] at this
            · rw [hfl] at hx
              rw [show pick most b ahead k r = (b + j) + (pick most b ahead k r - (b + j)) by omega, ← List.drop_drop] at hx
              exact List.mem_of_mem_drop hx
          have hj := joint_in s b _ j h3 h4 h6
          have hjb : jointB s (b + j) = true := by
            unfold jointB
            rw [hj, more_not s _ c hc hx, decide_eq_true (by omega : 1 ≤ b + j)]
            rfl
          have hmem := behind_mem s b (b + j) (by omega) (by omega) hjb
          rw [h2] at hmem
          have hkle : k ≤ b + j := by
            rcases List.mem_cons.1 hmem with e | e
            · omega
            · exact Nat.le_of_lt ((List.pairwise_cons.1 hbs).1 _ e)
          rcases pick_fit most b ahead r k with e | e
          · omega
          · omega
    · rw [if_neg h1]
      exact hlast fun j _ _ h _ => h1 h
/-- what Fold tells when it tells no error -/
theorem told (nm s : List UInt8) (most : Int) (x y : List UInt8) (h : foldV nm s most = (x, y, 0)) :
    x = nm ∧ (1 ≤ most ∧ most ≤ 998) ∧ hasEnd nm = false ∧ checkV nm y = 0 ∧ joinAll (rowsL y) = s ∧ y.length ≤ 3 * s.length + 2 ∧ ∃ P, P.isEmpty = false ∧ y = joinE P ∧ (∀ p ∈ P, hasEnd p = false) ∧ Right most (nm.length + 1) P := by
  unfold foldV at h
  by_cases h1 : nameB nm = false ∨ hasEnd s = true
  · rw [if_pos h1] at h
    cases h
  · rw [if_neg h1] at h
    by_cases h2 : most < 1 ∨ 998 < most
    · rw [if_pos h2] at h
      cases h
    · rw [if_neg h2] at h
      have hnm : nameB nm = true := by cases h : nameB nm <;> simp_all
      have hs : hasEnd s = false := by cases h : hasEnd s <;> simp_all
      by_cases h3 : checkV nm (foldBody nm s most) = 0
      · rw [if_pos h3] at h
        obtain ⟨rfl, h4⟩ := Prod.mk.inj h
        obtain ⟨rfl, _⟩ := Prod.mk.inj h4
        have hR : (behind s 0).length < (behind s 0).length + 1 := Nat.lt_succ_self _
        have hj := joined s most ((behind s 0).length + 1) 0 (nm.length + 1) [] hR (Nat.zero_le _)
        rw [List.nil_append] at hj
        have hb : foldBody nm s most = joinE (pieces s most ((behind s 0).length + 1) (behind s 0) 0 (nm.length + 1)) := by
          unfold foldBody
          rw [← behind_zero]
          exact hj
        have hcl : ∀ p ∈ pieces s most ((behind s 0).length + 1) (behind s 0) 0 (nm.length + 1), hasEnd p = false := fun x hx => hasEnd_sub hs (pieces_sub s most _ _ _ _ x hx)
        have hr := rows_join _ (pieces_ne s most ((behind s 0).length + 1) (behind s 0) 0 (nm.length + 1)) hcl
        have hfl := flat_pieces s most ((behind s 0).length + 1) 0 (nm.length + 1) hR
        have hoff := off_tail s most ((behind s 0).length + 1) 0 (nm.length + 1) hR (Nat.zero_le _)
        have hlen := join_len (pieces s most ((behind s 0).length + 1) (behind s 0) 0 (nm.length + 1))
        have hfew := few_pieces s most ((behind s 0).length + 1) 0 (nm.length + 1) hR
        have hbn : (behind s 0).length ≤ s.length := by
          unfold behind
          refine Nat.le_trans (List.length_filter_le _ _) ?_
          rw [jointsL_range]
          refine Nat.le_trans (List.length_filter_le _ _) ?_
          rw [List.length_range]
          exact Nat.le_refl _
        have hright := right_pieces s most ((behind s 0).length + 1) 0 (nm.length + 1) hR (Nat.zero_le _)
        rw [List.drop_zero] at hfl
        refine ⟨rfl, by omega, ?_, h3, ?_, ?_, _, pieces_ne _ _ _ _ _ _, hb, hcl, hright⟩
        · unfold hasEnd
          rw [List.any_eq_false]
          intro c hc
          have := name_clean nm hnm c hc
          simp [this.1, this.2]
        · rw [hb, hr]
          generalize hP : pieces s most ((behind s 0).length + 1) (behind s 0) 0 (nm.length + 1) = P at hfl hoff ⊢
          cases P with
          | nil => rw [← hfl]; rfl
          | cons p P =>
            show p ++ joinFrom P = s
            unfold foldBad at hoff
            rw [List.tail_cons, List.any_eq_false] at hoff
            rw [join_blank P fun z hz => by simpa using hoff z hz]
            exact hfl
        · rw [hb]
          rw [hfl] at hlen
          omega
      · rw [if_neg h3] at h
        exact absurd (congrArg (fun t => t.2.2) h) h3
/-- .. and when it tells one -/
theorem told_bad (nm s : List UInt8) (most : Int) (x y : List UInt8) (c : Int) (h : foldV nm s most = (x, y, c)) (hc : c ≠ 0) : x = [] ∧ y = [] := by
  unfold foldV at h
  split at h
  · cases h; exact ⟨rfl, rfl⟩
  · split at h
    · cases h; exact ⟨rfl, rfl⟩
    · split at h
      · cases h; exact absurd rfl hc
      · cases h; exact ⟨rfl, rfl⟩
/-- where the statement's loop stands: what is ahead of the row that may be folded, and the rows -/
def At (most : Int) (B : Nat) (R : ByteArray) (f : Nat) : Prop :=
  ∃ (H x : List UInt8) (Q : List (List UInt8)), R.data.toList = H ++ joinE (x :: Q) ∧ hasEnd H = false ∧ (∀ p ∈ x :: Q, hasEnd p = false) ∧ Right most H.length (x :: Q) ∧ f = H.length ∧ R.size ≤ B
theorem at_step {most : Int} {B : Nat} {R : ByteArray} {f : Nat} (h : At most B R f) :
    ∃ N, f ≤ N ∧ N ≤ R.size ∧ (∀ k, k < N → R.data.toList.getD k 0 ≠ 13)
      ∧ (∀ i, f + 1 ≤ i → i < N → most < (N : Int) → isBlank (R.data.toList.getD i 0) = true → isBlank (R.data.toList.getD (i - 1) 0) = false → moreL (R.data.toList.drop i) = false)
      ∧ (N = R.size ∨ (N + 2 ≤ R.size ∧ R.data.toList.getD N 0 = 13 ∧ ∀ R' : ByteArray, R'.data.toList = R.data.toList.drop (N + 2) → At most B R' 0)) := by
  obtain ⟨H, x, Q, hR, hH, hP, hr, rfl, hB⟩ := h
  have hsz : R.size = (H ++ joinE (x :: Q)).length := by rw [← hR, data_length]
  have hxe : hasEnd x = false := hP x List.mem_cons_self
  have hjx : ∃ T, joinE (x :: Q) = x ++ T ∧ (Q = [] ∧ T = [] ∨ Q ≠ [] ∧ T = 13 :: 10 :: joinE Q) := by
    unfold joinE
    cases Q with
    | nil => exact ⟨[], by simp, .inl ⟨rfl, rfl⟩⟩
    | cons q Q => exact ⟨13 :: 10 :: joinE (q :: Q), by simp, .inr ⟨by simp, rfl⟩⟩
  obtain ⟨T, hT, hQ⟩ := hjx
  have hpre : ∀ k, k < H.length + x.length → R.data.toList.getD k 0 = (H ++ x).getD k 0 := fun k hk => by
    rw [hR, hT, ← List.append_assoc, List.getD_eq_getElem?_getD, List.getElem?_append_left (by rw [List.length_append]; exact hk), List.getD_eq_getElem?_getD]
  have hat : ∀ j, j < x.length → R.data.toList.getD (H.length + j) 0 = x.getD j 0 := fun j hj => by
    rw [hpre _ (by omega), List.getD_eq_getElem?_getD, List.getElem?_append_right (by omega), List.getD_eq_getElem?_getD]
    congr 2
    omega
  refine ⟨H.length + x.length, by omega, ?_, ?_, ?_, ?_⟩
  · rw [hsz, hT]
    simp only [List.length_append]
    omega
  · intro k hk e
    rw [hpre k hk, List.getD_eq_getElem?_getD, List.getElem?_eq_getElem (by rw [List.length_append]; exact hk)] at e
    have hmem : (13 : UInt8) ∈ H ++ x := by
      rw [← e]
      exact List.getElem_mem _
    rcases List.mem_append.1 hmem with h | h
    · exact (clean_of H hH 13 h).1 rfl
    · exact (clean_of x hxe 13 h).1 rfl
  · intro i h1 h2 h3 h4 h5
    obtain ⟨j, rfl⟩ : ∃ j, i = H.length + j := ⟨i - H.length, by omega⟩
    have := hr.1 j (by omega) (by omega) (by omega) (by
      unfold jointAt
      rw [hat j (by omega)] at h4
      rw [show H.length + j - 1 = H.length + (j - 1) by omega, hat (j - 1) (by omega)] at h5
      rw [h4, h5]
      rfl)
    rw [hR, ← List.drop_drop, List.drop_left]
    exact this
  · rcases hQ with ⟨_, rfl⟩ | ⟨hne, rfl⟩
    · left
      rw [hsz, hT]
      simp
    · right
      have hd : R.data.toList.drop (H.length + x.length) = 13 :: 10 :: joinE Q := by
        rw [hR, hT, ← List.append_assoc, ← List.length_append, List.drop_left]
      refine ⟨?_, ?_, fun R' hR' => ?_⟩
      · rw [hsz, hT]
        simp only [List.length_append, List.length_cons]
        omega
      · have : (R.data.toList.drop (H.length + x.length)).getD 0 0 = 13 := by rw [hd]; rfl
        rw [List.getD_eq_getElem?_getD, List.getElem?_drop, Nat.add_zero] at this
        rw [List.getD_eq_getElem?_getD]
        exact this
      · rw [← List.drop_drop, hd] at hR'
        cases Q with
        | nil => exact absurd rfl hne
        | cons q Q =>
          refine ⟨[], q, Q, hR', rfl, fun p hp => hP p (List.mem_cons_of_mem _ hp), hr.2, rfl, ?_⟩
          have hl : R'.size ≤ R.size := by
            rw [← data_length R', hR', hsz, hT]
            simp only [List.length_append, List.length_cons, List.drop_succ_cons, List.drop_zero]
            omega
          omega
end Go.Proofs.YtammhcfifnffeaaDoor.FoldBackPure
/- FieldFoldBack: the walk of the law, over the contracts of its callees. -/
namespace Go.Proofs.YtammhcfifnffeaaDoor.FoldBackLaw
open Go.RowKit Go.Shelf Go.Proofs.YtammhcfifnffeaaDoorW.PrintWords Go.Proofs.YtammhcfifnffeaaDoorW.PrintMore Go.Proofs.YtammhcfifnffeaaDoor.PFieldFolds Go.Proofs.YtammhcfifnffeaaDoor.Octet Go.Proofs.YtammhcfifnffeaaDoor.CheckWalk Go.Proofs.YtammhcfifnffeaaDoor.FoldWalk Go.Proofs.YtammhcfifnffeaaDoor.FoldPure Go.Proofs.YtammhcfifnffeaaDoor.FoldBackFns Go.Proofs.YtammhcfifnffeaaDoor.FoldBackPure Go.Proofs.YtammhcfifnffeaaDoor.JointsIter Go.Proofs.YtammhcfifnffeaaDoor.AnyEnd
open Go.Proofs.YtammhcfifnffeaaDoor.CheckPure (mk mk_data)
open Go.Proofs.YtammhcfifnffeaaDoor.Wakes (wakes_calls)
open Go.Proofs.YtammhcfifnffeaaDoor.UnfoldWalk (unfold_calls ints)
attribute [local go_sem] max2_int min2_int max_two min_two max_three min_three max_four min_four
set_option linter.unusedVariables false
set_option linter.unusedSimpArgs false
theorem str_ints (l : List UInt8) : strOfNums (ints l) = ⟨l.toArray⟩ := by
  unfold strOfNums ints
  apply ByteArray.ext
  apply Array.toList_inj.1
  simp [List.map_map, Function.comp_def]
def strLen : Value → Nat
  | .string s => s.size
  | _ => 0
theorem ext_drop (s : ByteArray) (i : Nat) (h : i ≤ s.size) : (s.extract i s.size).data.toList = s.data.toList.drop i := by
  rw [ByteArray.data_extract, Array.toList_extract, List.extract_eq_take_drop]
  exact List.take_of_length_le (by rw [List.length_drop, data_length]; exact Nat.le_refl _)
theorem getD_at (s : ByteArray) (i : Nat) (h : i < s.size) : s.data.toList.getD i 0 = s[i]'h := by
  have := Lib.data_getElem? s i h
  rw [List.getD_eq_getElem?_getD, this]
  rfl
set_option maxHeartbeats 4000000 in
set_option maxRecDepth 100000 in
theorem law_calls (nm s : ByteArray) (most m : Int) (w : World) (hn : nm.size ≤ 1048576) (hs : s.size ≤ 1048576) (hmo : (Lit.int .i64 most).wf = true) (hm : w.cell? ⟨0, 0, none⟩ = some (.int .i64 m)) (hT : Laid w) (hU : Lib.Utf8Tabs 1 2 w) :
    Calls Tryd.prog 9 #[.string nm, .string s, .int .i64 most] w fun e w' => e = .returned (.bool true) ∧ Below w.heap.size w w' := by
  have hu30 := Tryd.underlying30
  obtain ⟨K, hK⟩ := fold_f nm s most (by omega) (by omega)
  have HK := Lib.hid (hK K (Nat.le_refl _))
  have HM := Lib.hid hm
  have HT := Lib.hid hT
  have HU := Lib.hid hU
  have h0lt := World.block_lt_of_cell? w _ hm
  clear hK hm hT hU
  generalize hG : foldV nm.data.toList s.data.toList most = V at *
  obtain ⟨x, y, c⟩ := V
  have HG := Lib.hid hG
  obtain ⟨X, hX⟩ : ∃ X : ByteArray, X = ⟨x.toArray⟩ := ⟨_, rfl⟩
  obtain ⟨Y, hY⟩ : ∃ Y : ByteArray, Y = ⟨y.toArray⟩ := ⟨_, rfl⟩
  have HX := Lib.hid hX
  have HY := Lib.hid hY
  have HK2 := Lib.hid (show posthornref16_Fold.f K nm s most = some (X, Y, c) by rw [hX, hY]; have h := HK.out; simp only [mk] at h; exact h)
  clear hG hX hY HK
  go_enter Tryd.func9, Tryd.ntmps9
  go_wp2_with fail
  refine (wakes_calls m _ HM.out HT.out HU.out).mono ?_
  rintro e w0 ⟨rfl, hb0⟩
  have HB0 := Lib.hid hb0
  clear hb0
  go_wp2_with fail
  refine (fold_calls nm s most m _ (by omega) hs hmo ((HB0.out.cell h0lt).trans HM.out) (HT.out.below HT.out.size HB0.out)).mono ?_
  rintro e w1 ⟨x1, y1, c1, hv, rfl, hb1⟩
  rw [HG.out] at hv
  cases hv
  rw [← HX.out, ← HY.out]
  have hR1 : (w1.alloc (.cells #[.string X, .string Y] 30)).heap[w1.heap.size]? = some (.cells #[.string X, .string Y] 30 (0, 0)) := World.alloc_heap_new w1 _
  have HR1 := Lib.hid hR1
  have hB1 := HB0.out.trans (hb1.mono HB0.out.size)
  have HB1 := Lib.hid (hB1.alloc hB1.size (.cells #[.string X, .string Y] 30))
  clear hb1 hR1 hB1
  go_wp2_with fail
  refine (posthornref16_Fold.calls K nm s most _ _ _ _ HK2.out).mono ?_
  rintro e w2 ⟨rfl, hb2⟩
  have hlt1 := (Array.getElem?_eq_some_iff.1 HR1.out).1
  have hx2 := hb2.alloc hb2.size (.cells #[.string X, .string Y] 30)
  have hR2 := (hx2.block _ hlt1).trans HR1.out
  have HB2 := Lib.hid (HB1.out.trans (hx2.mono HB1.out.size))
  have HR2 := Lib.hid hR2
  have r0 := blk_cell hR2 0
  have r1 := blk_cell hR2 1
  have f0 := blk_frozen hR2 0
  have f1 := blk_frozen hR2 1
  clear hb2 hx2 hlt1 hR2
  by_cases hc : c = 0
  · subst hc
    obtain ⟨hxn, hmo1, hcl, hck, hun, hyl, P, hP, hyP, hPc, hright⟩ := told _ _ _ _ _ HG.out
    have HUN := Lib.hid hun
    have HCL := Lib.hid hcl
    have HPC := Lib.hid hPc
    have HYP := Lib.hid hyP
    have HRI := Lib.hid hright
    clear hun hcl hPc hyP hright
    have hYl : Y.data.toList = y := by rw [HY.out]
    have hYs : Y.size ≤ 3 * s.size + 2 := by
      rw [← data_length Y, hYl, ← data_length s]
      exact hyl
    have hXn : X = nm := by rw [HX.out, hxn]
    subst hXn
    have HYL := Lib.hid hYl
    have HCK := Lib.hid (check_calls X Y m (w2.alloc (.cells #[.string X, .string Y] 30)) (by omega) (by omega) ((HB2.out.cell h0lt).trans HM.out) (HT.out.below HT.out.size HB2.out))
    rw [HYL.out, hck] at HCK
    clear hck hYl hyl
    go_wp2_with fail
    clear r0 r1 f0 f1
    refine HCK.out.mono ?_
    rintro e w3 ⟨rfl, hb3⟩
    have hR3 := (hb3.block _ (Array.getElem?_eq_some_iff.1 HR2.out).1).trans HR2.out
    have HR3 := Lib.hid hR3
    have HB3 := Lib.hid (HB2.out.trans (hb3.mono HB2.out.size))
    have r0 := blk_cell hR3 0
    have r1 := blk_cell hR3 1
    have HUF := Lib.hid (unfold_calls Y m w3 (by omega) ((HB3.out.cell h0lt).trans HM.out))
    rw [HYL.out, HUN.out, str_ints, show (⟨s.data.toList.toArray⟩ : ByteArray) = s from rfl] at HUF
    clear hb3 hR3 HCK HR2
    go_wp2_with fail
    clear r0 r1
    refine HUF.out.mono ?_
    rintro e w4 ⟨rfl, hb4⟩
    have hR4 := (hb4.block _ (Array.getElem?_eq_some_iff.1 HR3.out).1).trans HR3.out
    have HB4 := Lib.hid (HB3.out.trans (hb4.mono HB3.out.size))
    have r0 := blk_cell hR4 0
    have r1 := blk_cell hR4 1
    clear hb4 hR4 HUF HR3
    have hAt : At most 8388608 (X ++ ⟨#[58]⟩ ++ Y) (X.size + 1) := by
      have hP1 := HPC.out
      have hP2 := HRI.out
      have hP3 := HYP.out
      cases P with
      | nil => cases hP
      | cons p Q =>
        refine ⟨X.data.toList ++ [58], p, Q, ?_, ?_, hP1, ?_, ?_, ?_⟩
        · rw [← hP3, ← HYL.out]
          simp
        · have := HCL.out
          unfold hasEnd at this ⊢
          rw [List.any_append, this]
          rfl
        · rw [List.length_append]
          exact hP2
        · rw [List.length_append, data_length]
          rfl
        · simp only [ByteArray.size_append]
          have : (⟨#[58]⟩ : ByteArray).size = 1 := rfl
          omega
    have HAT := Lib.hid hAt
    clear hAt
    go_wp2
    clear r0 r1
    go_loopw [11, 12] (fun v f wr => ∃ (R : ByteArray) (n : Nat), v = .string R ∧ f = .int .i64 n ∧ At most 8388608 R n ∧ Below w.heap.size w wr) (fun v _ _ => strLen v)
    case atStart => exact ⟨_, X.size + 1, rfl, by go_num, HAT.out, HB4.out⟩
    case round =>
      obtain ⟨R, f, rfl, rfl, hAt, hB⟩ := hrel
      have hRB : R.size ≤ 8388608 := by obtain ⟨_, _, _, _, _, _, _, _, h⟩ := hAt; exact h
      obtain ⟨N, hfN, hNR, hno, hri, hend⟩ := at_step hAt
      have HB := Lib.hid hB
      have HNO := Lib.hid hno
      have HRT := Lib.hid hri
      have HEN := Lib.hid hend
      clear hAt hB hno hri hend
      go_wp2
      go_loop [13] (fun v => ∃ k : Nat, k ≤ N ∧ v = .int .i64 k) (fun v => N - (intOf v).toNat)
      case atStart => exact ⟨0, by omega, rfl⟩
      case round =>
        obtain ⟨k, hk, rfl⟩ := hrel
        by_cases hlt : k < N
        · obtain ⟨b, hb⟩ : ∃ b : UInt8, R[k]'(by omega) = b := ⟨_, rfl⟩
          have hne : ¬ (b.toNat : Int) = 13 := fun e => HNO.out k hlt (by rw [getD_at R k (by omega), hb]; exact (u8_int b 13).1 e)
          have hkR : k < R.size := by omega
          go_wp2
          go_round
          case rel => exact ⟨k + 1, by omega, by go_num⟩
          case measure => simp [intOf]; omega
        · obtain rfl : k = N := by omega
          rcases HEN.out with hend | ⟨hN2, h13, hnx⟩
          · have hkR : ¬ k < R.size := by omega
            go_wp2
            go_loopw [14] (fun v wq => ∃ i : Nat, f + 1 ≤ i ∧ i ≤ max k (f + 1) ∧ v = .int .i64 i ∧ Below w.heap.size w wq) (fun v _ => max k (f + 1) - (intOf v).toNat)
            case atStart => exact ⟨f + 1, by omega, by omega, by go_num, HB.out⟩
            case round =>
              obtain ⟨i, hi1, hi2, rfl, hBq⟩ := hrel
              have HBQ := Lib.hid hBq
              clear hBq
              by_cases hik : i < k
              · by_cases hmk : most < (k : Int)
                · obtain ⟨b1, hb1⟩ : ∃ b : UInt8, R[i]'(by omega) = b := ⟨_, rfl⟩
                  obtain ⟨b2, hb2⟩ : ∃ b : UInt8, R[i - 1]'(by omega) = b := ⟨_, rfl⟩
                  have hrt := HRT.out i hi1 hik hmk
                  rw [getD_at R i (by omega), getD_at R (i - 1) (by omega), hb1, hb2] at hrt
                  have HRI2 := Lib.hid hrt
                  have HC1 := Lib.hid (fun W => blank_calls b1 W)
                  have HC2 := Lib.hid (fun W => blank_calls b2 W)
                  have hi0 : (0 : Int) ≤ (i : Int) - 1 := by omega
                  have hi3 : ((i : Int) - 1).toNat = i - 1 := by omega
                  have hi4 : (i : Int) - 1 < (R.size : Int) := by omega
                  have hi5 : i < R.size := by omega
                  have hi6 : i - 1 < R.size := by omega
                  have hmc := fun W => more_calls (R.extract i R.size) (by rw [ByteArray.size_extract]; omega) W
                  rw [ext_drop R i (by omega)] at hmc
                  have HC3 := Lib.hid hmc
                  clear hrt hmc
                  cases hB1 : isBlank b1
                  · go_wp2_with (go_at_call 29; refine (HC1.out _).mono ?_; rintro e w5 ⟨rfl, ⟨⟨n1, rfl⟩⟩⟩; rw [hB1])
                    go_roundw
                    case rel => exact ⟨i + 1, by omega, by omega, by go_num, pw_below_drewN HBQ.out n1⟩
                    case measure => simp [intOf]; omega
                  · cases hB2 : isBlank b2
                    · go_wp2_with (first | (go_at_call 29; refine (HC1.out _).mono ?_; rintro e w5 ⟨rfl, ⟨⟨n1, rfl⟩⟩⟩; rw [hB1]) | (go_at_call 29; refine (HC2.out _).mono ?_; rintro e w5 ⟨rfl, ⟨⟨n2, rfl⟩⟩⟩; rw [hB2]))
                      refine (HC3.out _).mono ?_
                      rintro e w5 ⟨rfl, ⟨⟨n3, rfl⟩⟩⟩
                      rw [HRI2.out hB1 hB2]
                      go_wp2
                      go_roundw
                      case rel => exact ⟨i + 1, by omega, by omega, by go_num, pw_below_drewN HBQ.out _⟩
                      case measure => simp [intOf]; omega
                    · go_wp2_with (first | (go_at_call 29; refine (HC1.out _).mono ?_; rintro e w5 ⟨rfl, ⟨⟨n1, rfl⟩⟩⟩; rw [hB1]) | (go_at_call 29; refine (HC2.out _).mono ?_; rintro e w5 ⟨rfl, ⟨⟨n2, rfl⟩⟩⟩; rw [hB2]))
                      go_roundw
                      case rel => exact ⟨i + 1, by omega, by omega, by go_num, pw_below_drewN HBQ.out _⟩
                      case measure => simp [intOf]; omega
                · go_wp2
                  all_goals (go_ret; exact ⟨rfl, HBQ.out⟩)
              · go_wp2
                all_goals (go_ret; exact ⟨rfl, HBQ.out⟩)
          · have hkR : k < R.size := by omega
            obtain ⟨b, hb⟩ : ∃ b : UInt8, R[k]'(by omega) = b := ⟨_, rfl⟩
            have hne : (b.toNat : Int) = 13 := by
              rw [getD_at R k hkR, hb] at h13
              exact (u8_int b 13).2 h13
            have HNX := Lib.hid hnx
            clear h13 hnx
            go_wp2
            go_loopw [14] (fun v wq => ∃ i : Nat, f + 1 ≤ i ∧ i ≤ max k (f + 1) ∧ v = .int .i64 i ∧ Below w.heap.size w wq) (fun v _ => max k (f + 1) - (intOf v).toNat)
            case atStart => exact ⟨f + 1, by omega, by omega, by go_num, HB.out⟩
            case round =>
              obtain ⟨i, hi1, hi2, rfl, hBq⟩ := hrel
              have HBQ := Lib.hid hBq
              clear hBq
              by_cases hik : i < k
              · by_cases hmk : most < (k : Int)
                · obtain ⟨b1, hb1⟩ : ∃ b : UInt8, R[i]'(by omega) = b := ⟨_, rfl⟩
                  obtain ⟨b2, hb2⟩ : ∃ b : UInt8, R[i - 1]'(by omega) = b := ⟨_, rfl⟩
                  have hrt := HRT.out i hi1 hik hmk
                  rw [getD_at R i (by omega), getD_at R (i - 1) (by omega), hb1, hb2] at hrt
                  have HRI2 := Lib.hid hrt
                  have HC1 := Lib.hid (fun W => blank_calls b1 W)
                  have HC2 := Lib.hid (fun W => blank_calls b2 W)
                  have hi0 : (0 : Int) ≤ (i : Int) - 1 := by omega
                  have hi3 : ((i : Int) - 1).toNat = i - 1 := by omega
                  have hi4 : (i : Int) - 1 < (R.size : Int) := by omega
                  have hi5 : i < R.size := by omega
                  have hi6 : i - 1 < R.size := by omega
                  have hmc := fun W => more_calls (R.extract i R.size) (by rw [ByteArray.size_extract]; omega) W
                  rw [ext_drop R i (by omega)] at hmc
                  have HC3 := Lib.hid hmc
                  clear hrt hmc
                  cases hB1 : isBlank b1
                  · go_wp2_with (go_at_call 29; refine (HC1.out _).mono ?_; rintro e w5 ⟨rfl, ⟨⟨n1, rfl⟩⟩⟩; rw [hB1])
                    go_roundw
                    case rel => exact ⟨i + 1, by omega, by omega, by go_num, pw_below_drewN HBQ.out n1⟩
                    case measure => simp [intOf]; omega
                  · cases hB2 : isBlank b2
                    · go_wp2_with (first | (go_at_call 29; refine (HC1.out _).mono ?_; rintro e w5 ⟨rfl, ⟨⟨n1, rfl⟩⟩⟩; rw [hB1]) | (go_at_call 29; refine (HC2.out _).mono ?_; rintro e w5 ⟨rfl, ⟨⟨n2, rfl⟩⟩⟩; rw [hB2]))
                      refine (HC3.out _).mono ?_
                      rintro e w5 ⟨rfl, ⟨⟨n3, rfl⟩⟩⟩
                      rw [HRI2.out hB1 hB2]
                      go_wp2
                      go_roundw
                      case rel => exact ⟨i + 1, by omega, by omega, by go_num, pw_below_drewN HBQ.out _⟩
                      case measure => simp [intOf]; omega
                    · go_wp2_with (first | (go_at_call 29; refine (HC1.out _).mono ?_; rintro e w5 ⟨rfl, ⟨⟨n1, rfl⟩⟩⟩; rw [hB1]) | (go_at_call 29; refine (HC2.out _).mono ?_; rintro e w5 ⟨rfl, ⟨⟨n2, rfl⟩⟩⟩; rw [hB2]))
                      go_roundw
                      case rel => exact ⟨i + 1, by omega, by omega, by go_num, pw_below_drewN HBQ.out _⟩
                      case measure => simp [intOf]; omega
                · go_wp2
                  go_roundw
                  case rel => exact ⟨R.extract (k + 2) R.size, 0, rfl, by go_num, HNX.out _ (ext_drop R (k + 2) (by omega)), HBQ.out⟩
                  case measure =>
                    show (R.extract (k + 2) R.size).size < R.size
                    rw [ByteArray.size_extract]
                    omega
              · go_wp2
                go_roundw
                case rel => exact ⟨R.extract (k + 2) R.size, 0, rfl, by go_num, HNX.out _ (ext_drop R (k + 2) (by omega)), HBQ.out⟩
                case measure =>
                  show (R.extract (k + 2) R.size).size < R.size
                  rw [ByteArray.size_extract]
                  omega
  · obtain ⟨hx0, hy0⟩ := told_bad _ _ _ _ _ _ HG.out hc
    have hX0 : X = ⟨#[]⟩ := by rw [HX.out, hx0]
    have hY0 : Y = ⟨#[]⟩ := by rw [HY.out, hy0]
    subst hX0
    subst hY0
    have hc0 : (c == 0) = false := beq_eq_false_iff_ne.2 hc
    have hc1 : (c != 0) = true := bne_iff_ne.2 hc
    clear hc
    go_wp2
    go_ret
    exact ⟨by simp, HB2.out⟩
end Go.Proofs.YtammhcfifnffeaaDoor.FoldBackLaw
