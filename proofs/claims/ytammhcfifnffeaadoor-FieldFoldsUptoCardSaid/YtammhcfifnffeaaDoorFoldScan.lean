/- FieldFolds: what the reference's scan of a row finds. -/
import Derived.Test.YtammhcfifnffeaaDoorFoldBase
import Derived.Test.YtammhcfifnffeaaDoorFoldLists
namespace Go.Proofs.YtammhcfifnffeaaDoor.FoldScan
open Go.RowKit Go.Proofs.YtammhcfifnffeaaDoorW.PrintWords Go.Proofs.YtammhcfifnffeaaDoor.PFieldFolds Go.Proofs.YtammhcfifnffeaaDoor.AnyEnd Go.Proofs.YtammhcfifnffeaaDoor.CheckWalk Go.Proofs.YtammhcfifnffeaaDoor.JointsIter Go.Proofs.YtammhcfifnffeaaDoor.FoldWalk Go.Proofs.YtammhcfifnffeaaDoor.FoldBase Go.Proofs.YtammhcfifnffeaaDoor.FoldLists
set_option linter.unusedVariables false
set_option linter.unusedSimpArgs false

/-- the joints from i on, by the reference -/
def jointsFrom (s : List UInt8) (i d : Nat) : List Nat := (List.range' i d).filter (jointB s)
theorem jointsFrom_succ (s : List UInt8) (i d : Nat) : jointsFrom s i (d + 1) = (if jointB s i = true then [i] else []) ++ jointsFrom s (i + 1) d := by
  unfold jointsFrom
  rw [List.range'_succ, List.filter_cons]
  split <;> rfl
def firstOf (f : Int) : List Nat → Int
  | [] => f
  | j :: r => firstOf (if f < 0 then (j : Int) else f) r
def lastOf (most : Int) (b ahead : Nat) (l : Int) : List Nat → Int
  | [] => l
  | j :: r => lastOf most b ahead (if (ahead : Int) + j - b ≤ most then (j : Int) else l) r
theorem scan (nm s : ByteArray) (most : Int) (body : ByteArray) (b ahead : Nat) (hs : s.size < 4294967296) (hb : b ≤ s.size) (ha : ahead < 9007199254740992) :
    ∀ (d i : Nat) (f l : Int), s.size ≤ i + d → 1 ≤ i → i < 9007199254740992 → ∀ k, d + s.size < k →
    ∃ k', k ≤ k' + d ∧ k' ≤ k ∧ posthornref16_Fold.l1 k nm s most body b ahead f l (i : Int) = posthornref16_Fold.l1 k' nm s most body b ahead (firstOf f (jointsFrom s.data.toList i (s.size - i))) (lastOf most b ahead l (jointsFrom s.data.toList i (s.size - i))) (max i s.size : Nat) := by
  intro d
  induction d with
  | zero =>
    intro i f l hd h1 hi k hk
    refine ⟨k, by omega, by omega, ?_⟩
    have e : s.size - i = 0 := by omega
    rw [e]
    have e2 : max i s.size = i := by omega
    rw [e2]
    rfl
  | succ d ih =>
    intro i f l hd h1 hi k hk
    by_cases hlt : i < s.size
    · obtain ⟨k, rfl⟩ : ∃ m, k = m + 1 := ⟨k - 1, by omega⟩
      have hw : wrap64 ((i : Int) + 1) = ((i + 1 : Nat) : Int) := by unfold wrap64; omega
      have hx : wrap64 ((wrap64 ((ahead : Int) + i)) - b) = (ahead : Int) + i - b := by
        have e1 : wrap64 ((ahead : Int) + i) = (ahead : Int) + i := by unfold wrap64; omega
        rw [e1]
        unfold wrap64
        omega
      have hsub : s.size - i = (s.size - (i + 1)) + 1 := by omega
      have hmx : max i s.size = max (i + 1) s.size := by omega
      rw [hsub, jointsFrom_succ, hmx]
      conv => arg 1; ext k'; rhs; rhs; lhs; unfold posthornref16_Fold.l1
      rw [if_pos (by omega), joint_f s (by omega) i h1 hlt k (by omega)]
      simp only [Option.bind_some, hx, hw]
      cases hj : jointB s.data.toList i
      · rw [if_neg (by simp)]
        obtain ⟨k', c1, c2, c3⟩ := ih (i + 1) f l (by omega) (by omega) (by omega) k (by omega)
        exact ⟨k', by omega, by omega, by rw [c3]; rfl⟩
      · rw [if_pos rfl]
        obtain ⟨k', c1, c2, c3⟩ := ih (i + 1) (if f < 0 then (i : Int) else f) (if (ahead : Int) + i - b ≤ most then (i : Int) else l) (by omega) (by omega) (by omega) k (by omega)
        refine ⟨k', by omega, by omega, ?_⟩
        simp only [if_true, List.cons_append, List.nil_append, firstOf, lastOf]
        rw [← c3]
        by_cases h2 : f < 0
        · rw [if_pos h2, if_pos h2]
          by_cases h3 : (ahead : Int) + i - b ≤ most
          · rw [if_pos h3, if_pos h3]
          · rw [if_neg h3, if_neg h3]
        · rw [if_neg h2, if_neg h2]
          by_cases h3 : (ahead : Int) + i - b ≤ most
          · rw [if_pos h3, if_pos h3]
          · rw [if_neg h3, if_neg h3]
    · refine ⟨k, by omega, by omega, ?_⟩
      have e : s.size - i = 0 := by omega
      rw [e]
      have e2 : max i s.size = i := by omega
      rw [e2]
      rfl

theorem firstOf_nonneg : ∀ (r : List Nat) (f : Int), 0 ≤ f → firstOf f r = f
  | [], f, _ => rfl
  | j :: r, f, h => by rw [firstOf, if_neg (by omega)]; exact firstOf_nonneg r f h
theorem firstOf_cons (k : Nat) (r : List Nat) : firstOf (-1) (k :: r) = k := by
  rw [firstOf, if_pos (by omega)]
  exact firstOf_nonneg r _ (by omega)
theorem lastOf_none (most : Int) (b ahead : Nat) : ∀ (r : List Nat) (l : Int), (∀ j ∈ r, most < (ahead : Int) + j - b) → lastOf most b ahead l r = l
  | [], l, _ => rfl
  | j :: r, l, h => by
    rw [lastOf, if_neg (by have := h j List.mem_cons_self; omega)]
    exact lastOf_none most b ahead r l (fun x hx => h x (List.mem_cons_of_mem _ hx))
theorem lastOf_pick (most : Int) (b ahead : Nat) : ∀ (r : List Nat) (last : Nat), r.Pairwise (· < ·) → lastOf most b ahead (last : Int) r = (pick most b ahead last r : Nat)
  | [], last, _ => rfl
  | j :: r, last, h => by
    rw [List.pairwise_cons] at h
    rw [lastOf, pick]
    by_cases hj : most < (ahead : Int) + j - b
    · rw [if_neg (by omega), if_pos hj]
      exact lastOf_none most b ahead r _ (fun x hx => by have := h.1 x hx; omega)
    · rw [if_pos (by omega), if_neg hj]
      exact lastOf_pick most b ahead r j h.2
/-- what the reference cuts at is what field.Fold cuts at -/
theorem cut_at (most : Int) (b ahead k : Nat) (r : List Nat) (h : (k :: r).Pairwise (· < ·)) : max (firstOf (-1) (k :: r)) (lastOf most b ahead (-1) (k :: r)) = (pick most b ahead k r : Nat) := by
  rw [firstOf_cons, lastOf]
  have h' := List.pairwise_cons.1 h
  by_cases hk : (ahead : Int) + k - b ≤ most
  · rw [if_pos hk, lastOf_pick most b ahead r k h'.2]
    have : k ≤ pick most b ahead k r := by
      have g : ∀ (r : List Nat) (last : Nat), (∀ x ∈ r, last < x) → r.Pairwise (· < ·) → last ≤ pick most b ahead last r := by
        intro r
        induction r with
        | nil => intro last _ _; exact Nat.le_refl _
        | cons j r ih =>
          intro last hl hp
          rw [pick]
          split
          · exact Nat.le_refl _
          · have h1 := hl j List.mem_cons_self
            rw [List.pairwise_cons] at hp
            have := ih j hp.1 hp.2
            omega
      exact g r k h'.1 h'.2
    omega
  · rw [if_neg hk, lastOf_none most b ahead r (-1) (fun x hx => by have := h'.1 x hx; omega)]
    have : pick most b ahead k r = k := by
      cases r with
      | nil => rfl
      | cons j r =>
        rw [pick, if_pos]
        have := h'.1 j List.mem_cons_self
        omega
    omega
theorem rest_filter (most : Int) (b ahead : Nat) : ∀ (r : List Nat) (last : Nat), (∀ x ∈ r, last < x) → r.Pairwise (· < ·) → rest most b ahead r = r.filter (fun x => decide (pick most b ahead last r < x))
  | [], last, _, _ => rfl
  | j :: r, last, hl, hp => by
    rw [rest, pick]
    have hj := hl j List.mem_cons_self
    have hp' := List.pairwise_cons.1 hp
    by_cases h : most < (ahead : Int) + j - b
    · rw [if_pos h, if_pos h]
      symm
      rw [List.filter_eq_self]
      intro x hx
      exact decide_eq_true (hl x hx)
    · rw [if_neg h, if_neg h]
      have ih := rest_filter most b ahead r j hp'.1 hp'.2
      rw [ih, List.filter_cons, if_neg]
      have g : ∀ (r : List Nat) (last : Nat), (∀ x ∈ r, last < x) → r.Pairwise (· < ·) → last ≤ pick most b ahead last r := by
        intro r
        induction r with
        | nil => intro last _ _; exact Nat.le_refl _
        | cons j r ih =>
          intro last hl hp
          rw [pick]
          split
          · exact Nat.le_refl _
          · have h1 := hl j List.mem_cons_self
            rw [List.pairwise_cons] at hp
            have := ih j hp.1 hp.2
            omega
      have := g r j hp'.1 hp'.2
      simp
      omega
end Go.Proofs.YtammhcfifnffeaaDoor.FoldScan
