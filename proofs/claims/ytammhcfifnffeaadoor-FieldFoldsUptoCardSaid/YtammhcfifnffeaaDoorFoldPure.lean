/- FieldFolds: the reference's Fold tells what field.Fold tells. -/
import Derived.Test.YtammhcfifnffeaaDoorFoldRows
import Derived.Test.YtammhcfifnffeaaDoorFoldHead
import Derived.Test.YtammhcfifnffeaaDoorFoldChecks
namespace Go.Proofs.YtammhcfifnffeaaDoor.FoldPure
open Go.RowKit Go.Proofs.YtammhcfifnffeaaDoor.RowsIter Go.Proofs.YtammhcfifnffeaaDoorW.PrintWords Go.Proofs.YtammhcfifnffeaaDoor.PFieldFolds Go.Proofs.YtammhcfifnffeaaDoor.AnyEnd Go.Proofs.YtammhcfifnffeaaDoor.Octet Go.Proofs.YtammhcfifnffeaaDoor.CheckWalk Go.Proofs.YtammhcfifnffeaaDoor.JointsIter Go.Proofs.YtammhcfifnffeaaDoor.FoldWalk Go.Proofs.YtammhcfifnffeaaDoor.FoldBase Go.Proofs.YtammhcfifnffeaaDoor.FoldLists Go.Proofs.YtammhcfifnffeaaDoor.FoldScan Go.Proofs.YtammhcfifnffeaaDoor.FoldWords Go.Proofs.YtammhcfifnffeaaDoor.FoldRows Go.Proofs.YtammhcfifnffeaaDoor.FoldHead Go.Proofs.YtammhcfifnffeaaDoor.FoldChecks
open Go.Proofs.YtammhcfifnffeaaDoor.CheckPure (mk mk_size mk_list mk_data extract_mk sl_len)
set_option linter.unusedVariables false
set_option linter.unusedSimpArgs false

/-- the rows of the folded body -/
def pieces (s : List UInt8) (most : Int) : Nat → List Nat → Nat → Nat → List (List UInt8)
  | 0, _, b, _ => [s.drop b]
  | n + 1, R, b, ahead => if most < (ahead : Int) + s.length - b then (match R with
    | [] => [s.drop b]
    | k :: r => (s.drop b).take (pick most b ahead k r - b) :: pieces s most n (rest most b ahead r) (pick most b ahead k r) 0) else [s.drop b]
def joinE : List (List UInt8) → List UInt8
  | [] => []
  | x :: l => if l.isEmpty then x else x ++ [13, 10] ++ joinE l
theorem pieces_ne (s : List UInt8) (most : Int) (n : Nat) (R : List Nat) (b ahead : Nat) : (pieces s most n R b ahead).isEmpty = false := by
  cases n with
  | zero => rfl
  | succ n =>
    unfold pieces
    split
    · cases R <;> rfl
    · rfl
theorem rows_join : ∀ P : List (List UInt8), P.isEmpty = false → (∀ x ∈ P, hasEnd x = false) → rowsL (joinE P) = P
  | [], h, _ => by cases h
  | x :: l, _, h => by
    have hx := h x List.mem_cons_self
    unfold joinE
    cases hl : l.isEmpty
    · rw [if_neg (by simp), rowsL_cut x _ hx, rows_join l hl (fun y hy => h y (List.mem_cons_of_mem _ hy))]
    · rw [if_pos rfl, rowsL_last x hx, List.isEmpty_iff.1 hl]
theorem pieces_sub (s : List UInt8) (most : Int) : ∀ (n : Nat) (R : List Nat) (b ahead : Nat), ∀ x ∈ pieces s most n R b ahead, ∀ y ∈ x, y ∈ s
  | 0, R, b, ahead, x, hx, y, hy => by
    rw [pieces, List.mem_singleton] at hx
    subst hx
    exact List.mem_of_mem_drop hy
  | n + 1, R, b, ahead, x, hx, y, hy => by
    unfold pieces at hx
    split at hx
    · cases R with
      | nil =>
        rw [List.mem_singleton] at hx
        subst hx
        exact List.mem_of_mem_drop hy
      | cons k r =>
        rcases List.mem_cons.1 hx with rfl | hx
        · exact List.mem_of_mem_drop (List.mem_of_mem_take hy)
        · exact pieces_sub s most n _ _ _ x hx y hy
    · rw [List.mem_singleton] at hx
      subst hx
      exact List.mem_of_mem_drop hy
theorem rest_len (s : List UInt8) (most : Int) (b ahead x : Nat) (r : List Nat) (h : behind s b = x :: r) : (rest most b ahead r).length ≤ r.length := by
  have hs := behind_sorted s b
  rw [h] at hs
  rw [rest_filter most b ahead r x (List.pairwise_cons.1 hs).1 (List.pairwise_cons.1 hs).2]
  exact List.length_filter_le _ _
/-- the folded body is its rows, joined -/
theorem joined (s : List UInt8) (most : Int) : ∀ (n b ahead : Nat) (acc : List UInt8), (behind s b).length < n → b ≤ s.length →
    (foldGo s most (behind s b ++ [s.length]) acc b b ahead).1 ++ s.drop (foldGo s most (behind s b ++ [s.length]) acc b b ahead).2 = acc ++ joinE (pieces s most n (behind s b) b ahead)
  | 0, b, ahead, acc, h, _ => by omega
  | n + 1, b, ahead, acc, hR, hb => by
    have hbl := behind_lt s b
    unfold pieces
    by_cases h1 : most < (ahead : Int) + s.length - b
    · rw [if_pos h1]
      cases h2 : behind s b with
      | nil =>
        rw [List.nil_append, foldGo_none]
        rfl
      | cons x r =>
        rw [h2] at hbl hR
        have hm := pick_mem most b ahead r x
        obtain ⟨he1, he2⟩ := hbl _ hm
        have hrest := behind_rest s most b ahead x r h2
        have hrl := rest_len s most b ahead x r h2
        rw [foldGo_row s most acc b ahead s.length x r h1 (hbl x List.mem_cons_self).1 (fun y hy => (hbl y (List.mem_cons_of_mem _ hy)).1)]
        have ih := joined s most n (pick most b ahead x r) 0 (acc ++ (s.drop b).take (pick most b ahead x r - b) ++ [13, 10]) (by rw [hrest]; simp only [List.length_cons] at hR; omega) (by omega)
        rw [hrest] at ih
        rw [ih]
        simp only [joinE, pieces_ne, Bool.false_eq_true, if_false, List.append_assoc]
    · rw [if_neg h1, foldGo_fits s most acc b ahead _ b (by
        intro y hy
        rcases List.mem_append.1 hy with hy | hy
        · have := (hbl y hy).2; omega
        · rw [List.mem_singleton.1 hy]; omega)]
      rfl
theorem rowBad_clean (n : Nat) (x : List UInt8) (h : hasEnd x = false) : rowBad n x = decide (998 < x.length + n) := by unfold rowBad; rw [h, Bool.or_false]
theorem anyBad_zero (P : List (List UInt8)) : P.any (rowBad 0) = anyBad 0 P := by cases P <;> rfl
theorem bad_long (s : List UInt8) (hs : hasEnd s = false) (most : Int) : ∀ (n b ahead : Nat), (behind s b).length < n → b ≤ s.length →
    anyBad ahead (pieces s most n (behind s b) b ahead) = long most s.length n (behind s b) b ahead
  | 0, b, ahead, h, _ => by omega
  | n + 1, b, ahead, hR, hb => by
    have hbl := behind_lt s b
    have hlast : anyBad ahead [s.drop b] = decide ((998 : Int) < (ahead : Int) + s.length - b) := by
      simp only [anyBad, List.any_nil, Bool.or_false]
      rw [rowBad_clean _ _ (hasEnd_sub hs fun y hy => List.mem_of_mem_drop hy), decide_eq_decide, List.length_drop]
      omega
    unfold pieces long
    by_cases h1 : most < (ahead : Int) + s.length - b
    · rw [if_pos h1, if_pos h1]
      cases h2 : behind s b with
      | nil => exact hlast
      | cons x r =>
        rw [h2] at hbl hR
        have hm := pick_mem most b ahead r x
        obtain ⟨he1, he2⟩ := hbl _ hm
        have hrest := behind_rest s most b ahead x r h2
        have hrl := rest_len s most b ahead x r h2
        have ih := bad_long s hs most n (pick most b ahead x r) 0 (by rw [hrest]; simp only [List.length_cons] at hR; omega) (by omega)
        rw [hrest] at ih
        show (rowBad ahead _ || (pieces s most n (rest most b ahead r) (pick most b ahead x r) 0).any (rowBad 0)) = _
        rw [anyBad_zero, ih, rowBad_clean _ _ (hasEnd_sub hs fun y hy => List.mem_of_mem_drop (List.mem_of_mem_take hy))]
        congr 1
        rw [decide_eq_decide, List.length_take, List.length_drop]
        omega
    · rw [if_neg h1, if_neg h1]
      exact hlast
theorem off_of (s : List UInt8) (b m : Nat) (hj : jointB s b = true) (hb : b < s.length) (hm : blanksB ((s.drop b).take m) = false) (h0 : 0 < m) : foldOff ((s.drop b).take m) = false := by
  unfold foldOff
  rw [hm, Bool.false_or]
  have hd : s.drop b = s[b] :: s.drop (b + 1) := List.drop_eq_getElem_cons hb
  obtain ⟨m, rfl⟩ : ∃ q, m = q + 1 := ⟨m - 1, by omega⟩
  rw [hd, List.take_succ_cons]
  unfold jointB jointAt isBlank at hj
  rw [List.getD_eq_getElem?_getD, List.getElem?_eq_getElem hb] at hj
  simp only [Option.getD_some, Bool.and_eq_true] at hj
  simp only [blankB, hj.2.1.1, Bool.not_true]
theorem joint_prev (s : List UInt8) (i : Nat) (hi : i ≤ s.length) (h : jointB s i = true) (h1 : 1 ≤ i) : ∃ c, s[i - 1]? = some c ∧ isBlank c = false := by
  unfold jointB jointAt at h
  simp only [Bool.and_eq_true, Bool.not_eq_true', List.getD_eq_getElem?_getD] at h
  have hl : i - 1 < s.length := by omega
  rw [List.getElem?_eq_getElem hl] at h ⊢
  exact ⟨_, rfl, h.2.1.2⟩
theorem behind_joint (s : List UInt8) (b : Nat) : ∀ x ∈ behind s b, jointB s x = true := by
  intro x hx
  have h1 := (List.mem_filter.1 hx).1
  rw [jointsL_range] at h1
  exact (List.mem_filter.1 h1).2
theorem off_pieces (s : List UInt8) (most : Int) : ∀ (n b ahead : Nat), (behind s b).length < n → b < s.length → jointB s b = true → ∀ x ∈ pieces s most n (behind s b) b ahead, foldOff x = false
  | 0, b, ahead, h, _, _, _, _ => by omega
  | n + 1, b, ahead, hR, hb, hj, z, hz => by
    have hbl := behind_lt s b
    have hlast : foldOff (s.drop b) = false := by
      have := off_of s b (s.length - b) hj hb (by
        rw [List.take_of_length_le (by rw [List.length_drop]; exact Nat.le_refl _)]
        unfold jointB at hj
        simp only [Bool.and_eq_true, Bool.not_eq_true'] at hj
        exact hj.2.2) (by omega)
      rwa [List.take_of_length_le (by rw [List.length_drop]; exact Nat.le_refl _)] at this
    unfold pieces at hz
    by_cases h1 : most < (ahead : Int) + s.length - b
    · rw [if_pos h1] at hz
      cases h2 : behind s b with
      | nil =>
        rw [h2] at hz
        rw [List.mem_singleton.1 hz]
        exact hlast
      | cons x r =>
        have hjs := behind_joint s b
        rw [h2] at hbl hR hz hjs
        have hm := pick_mem most b ahead r x
        obtain ⟨he1, he2⟩ := hbl _ hm
        have hrest := behind_rest s most b ahead x r h2
        have hrl := rest_len s most b ahead x r h2
        have hjp := hjs _ hm
        rcases List.mem_cons.1 hz with rfl | hz
        · refine off_of s b _ hj hb ?_ (by omega)
          obtain ⟨c, hc, hcb⟩ := joint_prev s _ (by omega) hjp (by omega)
          cases hB : blanksB ((s.drop b).take (pick most b ahead x r - b)) with
          | false => rfl
          | true =>
            exfalso
            unfold blanksB at hB
            have hmem : c ∈ (s.drop b).take (pick most b ahead x r - b) := by
              refine List.mem_iff_getElem?.2 ⟨pick most b ahead x r - 1 - b, ?_⟩
              rw [List.getElem?_take_of_lt (by omega), List.getElem?_drop]
              rw [show b + (pick most b ahead x r - 1 - b) = pick most b ahead x r - 1 by omega]
              exact hc
            have := List.all_eq_true.1 hB c hmem
            unfold isBlank at hcb
            rw [this] at hcb
            cases hcb
        · rw [← hrest] at hz
          exact off_pieces s most n (pick most b ahead x r) 0 (by rw [hrest]; simp only [List.length_cons] at hR; omega) he2 hjp z hz
    · rw [if_neg h1] at hz
      rw [List.mem_singleton.1 hz]
      exact hlast
theorem off_tail (s : List UInt8) (most : Int) (n b ahead : Nat) (hR : (behind s b).length < n) (hb : b ≤ s.length) : foldBad (pieces s most n (behind s b) b ahead) = false := by
  cases n with
  | zero => omega
  | succ n =>
    have hbl := behind_lt s b
    unfold foldBad pieces
    by_cases h1 : most < (ahead : Int) + s.length - b
    · rw [if_pos h1]
      cases h2 : behind s b with
      | nil => rfl
      | cons x r =>
        have hjs := behind_joint s b
        rw [h2] at hbl hR hjs
        have hm := pick_mem most b ahead r x
        obtain ⟨he1, he2⟩ := hbl _ hm
        have hrest := behind_rest s most b ahead x r h2
        have hrl := rest_len s most b ahead x r h2
        rw [List.tail_cons, List.any_eq_false]
        intro z hz
        rw [← hrest] at hz
        rw [off_pieces s most n (pick most b ahead x r) 0 (by rw [hrest]; simp only [List.length_cons] at hR; omega) he2 (hjs _ hm) z hz]
        simp
    · rw [if_neg h1]
      rfl
theorem behind_zero (s : List UInt8) : behind s 0 = jointsL s := by
  unfold behind
  rw [List.filter_eq_self]
  intro x hx
  rw [jointsL_range] at hx
  have := (List.mem_filter.1 hx).2
  unfold jointB at this
  rw [Bool.and_eq_true] at this
  have := of_decide_eq_true this.1
  exact decide_eq_true (by omega)
/-- what Check tells of the folded body -/
theorem check_body (nm s : List UInt8) (hn : nameB nm = true) (hs : hasEnd s = false) (most : Int) (n : Nat) (hR : (behind s 0).length < n) :
    checkV nm (foldBody nm s most) = if long most s.length n (behind s 0) 0 (nm.length + 1) = true then 160 else 0 := by
  have hj := joined s most n 0 (nm.length + 1) [] hR (Nat.zero_le _)
  rw [List.nil_append] at hj
  have hb : foldBody nm s most = joinE (pieces s most n (behind s 0) 0 (nm.length + 1)) := by
    unfold foldBody
    rw [← behind_zero]
    exact hj
  have hr := rows_join _ (pieces_ne s most n (behind s 0) 0 (nm.length + 1)) (fun x hx => hasEnd_sub hs (pieces_sub s most n _ _ _ x hx))
  unfold checkV
  rw [hb, hr, hn, if_neg (by simp), bad_long s hs most n 0 (nm.length + 1) hR (Nat.zero_le _), off_tail s most n 0 (nm.length + 1) hR (Nat.zero_le _)]
  simp
/-- the reference's Fold -/
theorem fold_f (nm s : ByteArray) (most : Int) (hn : nm.size < 4294967296) (hs : s.size < 4294967296) :
    ∃ K, ∀ k, K ≤ k → posthornref16_Fold.f k nm s most = some (mk (foldV nm.data.toList s.data.toList most).1, mk (foldV nm.data.toList s.data.toList most).2.1, (foldV nm.data.toList s.data.toList most).2.2) := by
  have hsl : s.data.toList.length = s.size := data_length s
  have hnl : nm.data.toList.length = nm.size := data_length nm
  obtain ⟨K, hK⟩ := rows_all nm s most hs ((behind s.data.toList 0).length + 1) 0 (nm.size + 1) [] (by omega) (Nat.zero_le _) (by omega) (by simp; omega)
  refine ⟨K + nm.size + s.size + 30, fun k hk => ?_⟩
  obtain ⟨k, rfl⟩ : ∃ q, k = q + 1 + 1 := ⟨k - 2, by omega⟩
  rw [fold_head nm s most hn hs k (by omega)]
  unfold foldV
  by_cases h1 : nameB nm.data.toList = false ∨ hasEnd s.data.toList = true
  · rw [if_pos h1, if_pos h1]
    rfl
  · rw [if_neg h1, if_neg h1]
    by_cases h2 : most < 1 ∨ 998 < most
    · rw [if_pos h2, if_pos h2]
      rfl
    · rw [if_neg h2, if_neg h2]
      have hnm : nameB nm.data.toList = true := by cases h : nameB nm.data.toList <;> simp_all
      have hen : hasEnd s.data.toList = false := by cases h : hasEnd s.data.toList <;> simp_all
      have hk := hK k (by omega)
      have hc := check_body nm.data.toList s.data.toList hnm hen most ((behind s.data.toList 0).length + 1) (by omega)
      rw [hsl, hnl] at hc
      have hmk : mk [] = (⟨#[]⟩ : ByteArray) := rfl
      rw [hmk] at hk
      rw [show ((0 : Nat) : Int) = 0 from rfl] at hk
      rw [hk, hc]
      cases hl : long most s.size ((behind s.data.toList 0).length + 1) (behind s.data.toList 0) 0 (nm.size + 1)
      · simp only [Bool.false_eq_true, if_false, if_true]
        rw [mk_data]
        unfold foldBody
        rw [← behind_zero, hsl, hnl]
      · simp only [if_true]
        rw [if_neg (by omega)]
        rfl
end Go.Proofs.YtammhcfifnffeaaDoor.FoldPure
