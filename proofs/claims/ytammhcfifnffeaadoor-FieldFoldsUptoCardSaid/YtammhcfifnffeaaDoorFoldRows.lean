/- FieldFolds: the reference's rows are field.Fold's rows. -/
import Derived.Test.YtammhcfifnffeaaDoorFoldWords
namespace Go.Proofs.YtammhcfifnffeaaDoor.FoldRows
open Go.RowKit Go.Proofs.YtammhcfifnffeaaDoorW.PrintWords Go.Proofs.YtammhcfifnffeaaDoor.PFieldFolds Go.Proofs.YtammhcfifnffeaaDoor.JointsIter Go.Proofs.YtammhcfifnffeaaDoor.FoldWalk Go.Proofs.YtammhcfifnffeaaDoor.FoldBase Go.Proofs.YtammhcfifnffeaaDoor.FoldLists Go.Proofs.YtammhcfifnffeaaDoor.FoldScan Go.Proofs.YtammhcfifnffeaaDoor.FoldWords
open Go.Proofs.YtammhcfifnffeaaDoor.CheckPure (mk mk_size mk_list extract_mk sl_len)
set_option linter.unusedVariables false
set_option linter.unusedSimpArgs false

/-- a row of the fold is longer than 998 -/
def long (most : Int) (len : Nat) : Nat → List Nat → Nat → Nat → Bool
  | 0, _, _, _ => true
  | n + 1, R, b, ahead => if most < (ahead : Int) + len - b then (match R with
    | [] => decide ((998 : Int) < (ahead : Int) + len - b)
    | k :: r => decide ((998 : Int) < (ahead : Int) + pick most b ahead k r - b) || long most len n (rest most b ahead r) (pick most b ahead k r) 0) else decide ((998 : Int) < (ahead : Int) + len - b)
theorem wrap_two (ahead e b : Nat) (h1 : ahead < 9007199254740992) (h2 : e < 9007199254740992) (h3 : b < 9007199254740992) : wrap64 ((wrap64 ((ahead : Int) + e)) - b) = (ahead : Int) + e - b := by
  have e1 : wrap64 ((ahead : Int) + e) = (ahead : Int) + e := by unfold wrap64; omega
  rw [e1]
  unfold wrap64
  omega
/-- the last piece -/
theorem last_piece (nm s : ByteArray) (most : Int) (acc : List UInt8) (b ahead : Nat) (hs : s.size < 4294967296) (hb : b ≤ s.size) (ha : ahead < 9007199254740992) (hacc : acc.length < 1000000000000) (k : Nat) :
    posthornref16_Fold.j5 (k + 1) nm s most (mk acc) b ahead (s.size : Int) = some (if (998 : Int) < (ahead : Int) + s.size - b then ((⟨#[]⟩ : ByteArray), (⟨#[]⟩ : ByteArray), 160) else (nm, mk (acc ++ s.data.toList.drop b), 0)) := by
  unfold posthornref16_Fold.j5
  rw [wrap_two ahead s.size b ha (by omega) (by omega)]
  by_cases h : (998 : Int) < (ahead : Int) + s.size - b
  · rw [if_pos h, if_pos h]
  · rw [if_neg h, if_neg h]
    have hsz : (s.extract (b : Int).toNat (s.size : Int).toNat) = mk (s.data.toList.drop b) := by
      rw [Int.toNat_natCast, Int.toNat_natCast, extract_mk]
      rw [List.take_of_length_le (by rw [sl_len]; exact Nat.le_refl _)]
      rfl
    have hlen : (s.data.toList.drop b).length = s.size - b := by rw [List.length_drop, data_length]
    rw [if_pos (by omega), if_pos (by omega), if_pos (by omega), hsz, if_pos (by rw [mk_size, mk_size, hlen]; omega), if_pos rfl]
    have : mk acc ++ mk (s.data.toList.drop b) = mk (acc ++ s.data.toList.drop b) := by
      apply ByteArray.ext
      simp [mk]
    rw [this]
/-- a piece that is cut off -/
theorem cut_piece (nm s : ByteArray) (most : Int) (acc : List UInt8) (b ahead e : Nat) (hs : s.size < 4294967296) (hb : b ≤ e) (he : e < s.size) (ha : ahead < 9007199254740992) (hacc : acc.length < 1000000000000) (k : Nat) :
    posthornref16_Fold.j5 (k + 1) nm s most (mk acc) b ahead (e : Int) = if (998 : Int) < (ahead : Int) + e - b then some ((⟨#[]⟩ : ByteArray), (⟨#[]⟩ : ByteArray), 160) else posthornref16_Fold.l0 k nm s most (mk (acc ++ (s.data.toList.drop b).take (e - b) ++ [13, 10])) (e : Int) 0 := by
  conv => lhs; unfold posthornref16_Fold.j5
  rw [wrap_two ahead e b ha (by omega) (by omega)]
  by_cases h : (998 : Int) < (ahead : Int) + e - b
  · rw [if_pos h, if_pos h]
  · rw [if_neg h, if_neg h]
    have hsz : (s.extract (b : Int).toNat (e : Int).toNat) = mk ((s.data.toList.drop b).take (e - b)) := by
      rw [Int.toNat_natCast, Int.toNat_natCast, extract_mk]
      rfl
    have hlen : ((s.data.toList.drop b).take (e - b)).length ≤ s.size := by rw [List.length_take, List.length_drop, data_length]; omega
    have hcat : mk acc ++ mk ((s.data.toList.drop b).take (e - b)) = mk (acc ++ (s.data.toList.drop b).take (e - b)) := by
      apply ByteArray.ext
      simp [mk]
    have hcat2 : mk (acc ++ (s.data.toList.drop b).take (e - b)) ++ (⟨#[13, 10]⟩ : ByteArray) = mk (acc ++ (s.data.toList.drop b).take (e - b) ++ [13, 10]) := by
      apply ByteArray.ext
      simp [mk]
    rw [if_pos (by omega), if_pos (by omega), if_pos (by omega), hsz, if_pos (by rw [mk_size, mk_size]; omega), if_neg (by omega), hcat, if_pos (by rw [mk_size, List.length_append]; omega), hcat2]

def behind (s : List UInt8) (b : Nat) : List Nat := (jointsL s).filter fun x => decide (b < x)
/-- the scan of one row, and what comes of it -/
theorem row_end (nm s : ByteArray) (most : Int) (acc : List UInt8) (b ahead : Nat) (hs : s.size < 4294967296) (hb : b ≤ s.size) (ha : ahead < 9007199254740992) (k : Nat) (hk : s.size + s.size + 10 < k) :
    ∃ k', k ≤ k' + s.size + 6 ∧ posthornref16_Fold.l0 k nm s most (mk acc) b ahead = posthornref16_Fold.j5 (k' + 1) nm s most (mk acc) b ahead
      (if most < (ahead : Int) + s.size - b ∧ behind s.data.toList b ≠ [] then max (firstOf (-1) (behind s.data.toList b)) (lastOf most b ahead (-1) (behind s.data.toList b)) else (s.size : Int)) := by
  obtain ⟨k, rfl⟩ : ∃ q, k = q + 1 := ⟨k - 1, by omega⟩
  have hsl : s.data.toList.length = s.size := data_length s
  have hw : wrap64 ((b : Int) + 1) = ((b + 1 : Nat) : Int) := by unfold wrap64; omega
  obtain ⟨k1, c1, c2, c3⟩ := scan nm s most (mk acc) b ahead hs hb ha s.size (b + 1) (-1) (-1) (by omega) (by omega) (by omega) k (by omega)
  have hj : jointsFrom s.data.toList (b + 1) (s.size - (b + 1)) = behind s.data.toList b := by
    unfold behind
    by_cases h : b + 1 ≤ s.size
    · have := joints_behind s.data.toList (b + 1) (by omega)
      rw [hsl] at this
      rw [this]
      rfl
    · have e : s.size - (b + 1) = 0 := by omega
      have z : jointsFrom s.data.toList (b + 1) 0 = [] := rfl
      rw [e, z]
      symm
      rw [List.filter_eq_nil_iff]
      intro x hx
      have h1 := joints_behind s.data.toList 0 (by omega)
      unfold jointsL jointsTo at hx
      have h2 := List.mem_range.1 (List.mem_filter.1 hx).1
      have h3 := words_le s.data.toList
      simp only [decide_eq_true_eq]
      omega
  rw [hj] at c3
  obtain ⟨k2, rfl⟩ : ∃ q, k1 = q + 1 + 1 := ⟨k1 - 2, by omega⟩
  obtain ⟨k3, rfl⟩ : ∃ q, k2 = q + 1 := ⟨k2 - 1, by omega⟩
  refine ⟨k3, by omega, ?_⟩
  conv => lhs; unfold posthornref16_Fold.l0
  rw [hw, c3]
  conv => lhs; unfold posthornref16_Fold.l1
  rw [if_neg (by omega), wrap_two ahead s.size b ha (by omega) (by omega)]
  have hf : decide (firstOf (-1) (behind s.data.toList b) ≥ 0) = decide (behind s.data.toList b ≠ []) := by
    cases h : behind s.data.toList b with
    | nil => simp [firstOf]
    | cons x r => rw [firstOf_cons]; simp
  by_cases h1 : most < (ahead : Int) + s.size - b
  · rw [if_pos (by omega), hf]
    conv => lhs; unfold posthornref16_Fold.j4
    by_cases h2 : behind s.data.toList b ≠ []
    · rw [if_pos (decide_eq_true h2), if_pos ⟨h1, h2⟩]
      have hm : ∀ x y : Int, mx x y = max x y := by intro x y; unfold mx; first | rfl | (split <;> omega) | omega
      rw [hm]
    · rw [if_neg (by simpa using h2), if_neg (fun e => h2 e.2)]
  · rw [if_neg (by omega)]
    conv => lhs; unfold posthornref16_Fold.j4
    rw [if_neg (by simp), if_neg (fun e => h1 e.1)]

theorem pick_mem (most : Int) (b ahead : Nat) : ∀ (r : List Nat) (x : Nat), pick most b ahead x r ∈ x :: r
  | [], x => by simp [pick]
  | j :: r, x => by
    rw [pick]
    split
    · simp
    · exact List.mem_cons_of_mem _ (pick_mem most b ahead r j)
theorem behind_sorted (s : List UInt8) (b : Nat) : (behind s b).Pairwise (· < ·) := List.Pairwise.filter _ (joints_sorted s)
theorem behind_lt (s : List UInt8) (b : Nat) : ∀ x ∈ behind s b, b < x ∧ x < s.length := by
  intro x hx
  obtain ⟨h1, h2⟩ := List.mem_filter.1 hx
  rw [jointsL_range] at h1
  exact ⟨of_decide_eq_true h2, List.mem_range.1 (List.mem_filter.1 h1).1⟩
theorem behind_rest (s : List UInt8) (most : Int) (b ahead x : Nat) (r : List Nat) (h : behind s b = x :: r) : behind s (pick most b ahead x r) = rest most b ahead r := by
  have hs := behind_sorted s b
  rw [h, List.pairwise_cons] at hs
  have hm := pick_mem most b ahead r x
  have hbe : b < pick most b ahead x r := (behind_lt s b _ (by rw [h]; exact hm)).1
  rw [rest_filter most b ahead r x hs.1 hs.2]
  have e : behind s (pick most b ahead x r) = (behind s b).filter fun y => decide (pick most b ahead x r < y) := by
    unfold behind
    rw [List.filter_filter]
    apply List.filter_congr
    intro y _
    rw [Bool.eq_iff_iff]
    simp
    omega
  rw [e, h, List.filter_cons, if_neg]
  simp only [decide_eq_true_eq]
  rcases List.mem_cons.1 hm with h' | h'
  · omega
  · have := hs.1 _ h'; omega

/-- all rows -/
theorem rows_all (nm s : ByteArray) (most : Int) (hs : s.size < 4294967296) : ∀ (n b ahead : Nat) (acc : List UInt8), (behind s.data.toList b).length < n → b ≤ s.size → ahead < 9007199254740992 → acc.length + 3 * (s.size - b) < 900000000000 →
    ∃ K, ∀ k, K ≤ k → posthornref16_Fold.l0 k nm s most (mk acc) b ahead = some (if long most s.size n (behind s.data.toList b) b ahead = true then ((⟨#[]⟩ : ByteArray), (⟨#[]⟩ : ByteArray), 160) else
      (nm, mk ((foldGo s.data.toList most (behind s.data.toList b ++ [s.size]) acc b b ahead).1 ++ s.data.toList.drop (foldGo s.data.toList most (behind s.data.toList b ++ [s.size]) acc b b ahead).2), 0)) := by
  have hsl : s.data.toList.length = s.size := data_length s
  intro n
  induction n with
  | zero => intro b ahead acc h; omega
  | succ n ih =>
    intro b ahead acc hR hb ha hacc
    have hbl := behind_lt s.data.toList b
    by_cases h1 : most < (ahead : Int) + s.size - b
    · cases h2 : behind s.data.toList b with
      | nil =>
        refine ⟨s.size + s.size + 20, fun k hk => ?_⟩
        obtain ⟨k', _, e⟩ := row_end nm s most acc b ahead hs hb ha k (by omega)
        rw [e, h2, if_neg (fun x => x.2 rfl), last_piece nm s most acc b ahead hs hb ha (by omega)]
        simp only [long, List.nil_append]
        rw [if_pos h1, foldGo_none]
        by_cases h9 : (998 : Int) < (ahead : Int) + s.size - b
        · rw [if_pos h9, if_pos (decide_eq_true h9)]
        · rw [if_neg h9, if_neg (by simpa using h9)]
      | cons x r =>
        have hsort := behind_sorted s.data.toList b
        rw [h2] at hsort hR hbl
        have hm := pick_mem most b ahead r x
        obtain ⟨he1, he2⟩ := hbl _ hm
        rw [hsl] at he2
        have hrest := behind_rest s.data.toList most b ahead x r h2
        have hrl : (rest most b ahead r).length ≤ r.length := by
          rw [rest_filter most b ahead r x (List.pairwise_cons.1 hsort).1 (List.pairwise_cons.1 hsort).2]
          exact List.length_filter_le _ _
        obtain ⟨K, hK⟩ := ih (pick most b ahead x r) 0 (acc ++ (s.data.toList.drop b).take (pick most b ahead x r - b) ++ [13, 10]) (by rw [hrest]; simp only [List.length_cons] at hR; omega) (by omega) (by omega) (by
          simp only [List.length_append, List.length_take, List.length_drop, List.length_cons, List.length_nil, hsl]
          omega)
        refine ⟨K + s.size + s.size + 20, fun k hk => ?_⟩
        obtain ⟨k', c1, e⟩ := row_end nm s most acc b ahead hs hb ha k (by omega)
        rw [e, h2, if_pos ⟨h1, by simp⟩, cut_at most b ahead x r hsort, cut_piece nm s most acc b ahead _ hs (by omega) he2 ha (by omega)]
        simp only [long]
        rw [if_pos h1, foldGo_row s.data.toList most acc b ahead s.size x r h1 (hbl x List.mem_cons_self).1 (fun y hy => (hbl y (List.mem_cons_of_mem _ hy)).1)]
        by_cases h9 : (998 : Int) < (ahead : Int) + pick most b ahead x r - b
        · rw [if_pos h9, decide_eq_true h9, Bool.true_or, if_pos rfl]
        · have hK' := hK k' (by omega)
          rw [show ((0 : Nat) : Int) = 0 from rfl] at hK'
          rw [if_neg h9, decide_eq_false h9, Bool.false_or, hK', hrest]
    · refine ⟨s.size + s.size + 20, fun k hk => ?_⟩
      obtain ⟨k', _, e⟩ := row_end nm s most acc b ahead hs hb ha k (by omega)
      rw [e, if_neg (fun x => h1 x.1), last_piece nm s most acc b ahead hs hb ha (by omega)]
      rw [foldGo_fits s.data.toList most acc b ahead _ b (by
        intro y hy
        rcases List.mem_append.1 hy with hy | hy
        · have := (hbl y hy).2; rw [hsl] at this; omega
        · rw [List.mem_singleton.1 hy]; omega)]
      have hlg : long most s.size (n + 1) (behind s.data.toList b) b ahead = decide ((998 : Int) < (ahead : Int) + s.size - b) := by unfold long; rw [if_neg h1]
      rw [hlg]
      by_cases h9 : (998 : Int) < (ahead : Int) + s.size - b
      · rw [if_pos h9, if_pos (decide_eq_true h9)]
      · rw [if_neg h9, if_neg (by simpa using h9)]
end Go.Proofs.YtammhcfifnffeaaDoor.FoldRows
