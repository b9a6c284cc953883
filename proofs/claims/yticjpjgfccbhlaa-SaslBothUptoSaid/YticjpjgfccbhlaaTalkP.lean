/- sasl: what a talk of a client and an exchange comes to, for each mechanism: plain. -/
import Derived.Test.YticjpjgfccbhlaaTalk
import Derived.Lib.SplitLaws
namespace Go.Proofs.Yticjpjgfccbhlaa.Sasl
open Go.RowKit Go.Proofs.YticjpjgfccbhlaaW.PrintWords Go.Proofs.Yticjpjgfccbhlaa.PSaslBoth Go.Proofs.Yticjpjgfccbhlaa.Hash
open Go.Proofs.Yticjpjgfccbhlaa.Code (unV)
set_option linter.unusedVariables false
set_option linter.unusedSimpArgs false
theorem idx0 : ∀ (u r : List UInt8), (∀ x ∈ u, x ≠ 0) → Lib.index (u ++ 0 :: r) [0] = u.length
  | [], r, _ => by
    rw [List.nil_append, Lib.index, if_pos (by simp [List.isPrefixOf])]
    rfl
  | b :: u, r, h => by
    have hb : b ≠ 0 := h b (by simp)
    have ih := idx0 u r (fun x hx => h x (by simp [hx]))
    rw [List.cons_append, Lib.index, if_neg (by simp [List.isPrefixOf, Ne.symm hb]), ih, if_neg (by simp)]
    simp
theorem clean_nul {n : ByteArray} (h : clean n = true) : ∀ x ∈ n.data.toList, x ≠ 0 := by
  intro x hx e
  have hc : Lib.containsAny n.data.toList [0, 13, 10] = false := by unfold clean at h; simpa using h
  obtain ⟨j, hj, e2⟩ := List.mem_iff_getElem.1 hx
  have := noAny_of_not hc j x hj (by rw [List.getElem?_eq_getElem hj, e2])
  rw [e] at this
  revert this
  decide
theorem count0 (u : List UInt8) (h : ∀ x ∈ u, x ≠ 0) : u.count 0 = 0 := List.count_eq_zero.2 fun hm => h 0 hm rfl
theorem split_three (n s : ByteArray) (hn : ∀ x ∈ n.data.toList, x ≠ 0) (hs : ∀ x ∈ s.data.toList, x ≠ 0) : splitL (⟨#[0]⟩ ++ n ++ ⟨#[0]⟩ ++ s) = [⟨#[]⟩, n, s] := by
  obtain ⟨a, ha⟩ : ∃ a, a = (⟨#[0]⟩ ++ n ++ ⟨#[0]⟩ ++ s : ByteArray) := ⟨_, rfl⟩
  have hl : a.data.toList = [] ++ 0 :: (n.data.toList ++ 0 :: s.data.toList) := by
    rw [ha, data_app, data_app, data_app]
    simp
  rw [← ha]
  have hc : Lib.countB a ⟨#[0]⟩ = 2 := by
    show Lib.count a.data.toList [0] = 2
    rw [Lib.count_one, hl, List.nil_append, List.count_cons_self, List.count_append, List.count_cons_self, count0 _ hn, count0 _ hs]
  have hm : (splitL a).map (·.data.toList) = [[], n.data.toList, s.data.toList] := by
    unfold splitL
    rw [Lib.splitB_data, hc]
    show Lib.splitK [0] 0 2 a.data.toList = _
    have i1 := idx0 [] (n.data.toList ++ 0 :: s.data.toList) (by simp)
    have i2 := idx0 n.data.toList s.data.toList hn
    rw [← hl] at i1
    rw [Lib.splitK, i1, if_neg (by simp)]
    have d1 : a.data.toList.drop (((([] : List UInt8).length : Nat) : Int).toNat + [(0 : UInt8)].length) = n.data.toList ++ 0 :: s.data.toList := by rw [hl]; rfl
    rw [d1, Lib.splitK, i2, if_neg (by simp), Lib.splitK]
    have d2 : List.drop (((n.data.toList.length : Nat) : Int).toNat + [(0 : UInt8)].length) (n.data.toList ++ 0 :: s.data.toList) = s.data.toList := by
      rw [Int.toNat_natCast]
      show List.drop (n.data.toList.length + 1) _ = _
      rw [List.drop_append, List.drop_of_length_le (by omega), show n.data.toList.length + 1 - n.data.toList.length = 1 by omega]
      rfl
    have d3 : List.take (((n.data.toList.length : Nat) : Int).toNat + 0) (n.data.toList ++ 0 :: s.data.toList) = n.data.toList := by
      rw [Int.toNat_natCast, Nat.add_zero, List.take_append_of_le_length (Nat.le_refl _), List.take_of_length_le (Nat.le_refl _)]
    rw [d2, d3]
    rfl
  have inj : ∀ l : List ByteArray, l.map (·.data.toList) = [[], n.data.toList, s.data.toList] → l = [⟨#[]⟩, n, s] := by
    intro l h
    have hlen : l.length = 3 := by have := congrArg List.length h; simpa using this
    obtain ⟨x, l, rfl⟩ := List.exists_cons_of_length_eq_add_one hlen
    obtain ⟨y, l, rfl⟩ := List.exists_cons_of_length_eq_add_one (by simpa using hlen)
    obtain ⟨z, l, rfl⟩ := List.exists_cons_of_length_eq_add_one (by simpa using hlen)
    obtain rfl : l = [] := List.length_eq_zero_iff.1 (by simpa using hlen)
    simp only [List.map_cons, List.map_nil, List.cons.injEq, and_true] at h
    rw [ba_ext (a := x) (b := ⟨#[]⟩) h.1, ba_ext h.2.1, ba_ext h.2.2]
  exact inj _ hm
theorem answer_line (T S : Nat → Int) (x x' : XS) (a : ByteArray) (h : x.st = 1) (hr : readT T S x a = (x', 0)) : answerV T S x (b64S a) = (x', 0) := by
  have hv : readV T S x (b64S a) = readT T S x a := by
    unfold readV
    rw [un_line]
    simp only [strOf_bytes]
    rw [if_neg (by decide)]
  unfold answerV
  rw [if_neg (by omega), if_neg (by omega), if_neg (line_ne _), hv, hr]
  rfl
/-- how an exchange ends -/
def endV (us : List S40) (s : Stp) (n : ByteArray) (right : Bool) : XS := if right then ⟨us, 2, s, n⟩ else ⟨us, 3, s, ⟨#[]⟩⟩
theorem endV_st (us : List S40) (s : Stp) (n : ByteArray) (r : Bool) : (endV us s n r).st = if r then 2 else 3 := by cases r <;> rfl
theorem endV_user (us : List S40) (s : Stp) (n : ByteArray) (r : Bool) : userV (endV us s n r) = if r then n else ⟨#[]⟩ := by cases r <;> rfl
theorem endV_ne (us : List S40) (s : Stp) (n : ByteArray) (r : Bool) : (endV us s n r).st ≠ 1 := by rw [endV_st]; cases r <;> decide
theorem read_end (T S : Nat → Int) (us : List S40) (s : Stp) (a n : ByteArray) (r : Bool) (h : takeV T S us s a = ⟨none, n, r, 0⟩) : readT T S ⟨us, 1, s, ⟨#[]⟩⟩ a = (endV us s n r, 0) := by
  unfold readT
  simp only [h]
  cases r <;> rfl
theorem talks_plain (T S : Nat → Int) (us : List S40) (n s : ByteArray) (hu : OkUs us) (hn : clean n = true) (hs : clean s = true) :
    Talks T S n s ⟨us, 1, .plain, ⟨#[]⟩⟩ (some .plain) 1 (endV us .plain n (pairedV us n s)) := by
  refine .step rfl ⟨hu, True.intro⟩ (by show (⟨#[]⟩ : ByteArray).size ≤ _; decide) (answer_line T S _ _ _ rfl (read_end T S us .plain _ n _ ?_)) (.done (endV_ne _ _ _ _))
  show plainT us (splitL (⟨#[0]⟩ ++ n ++ ⟨#[0]⟩ ++ s)) = _
  rw [split_three n s (clean_nul hn) (clean_nul hs)]
  simp [plainT]
theorem talks_login (T S : Nat → Int) (us : List S40) (n s : ByteArray) (hu : OkUs us) :
    Talks T S n s ⟨us, 1, .login, ⟨#[]⟩⟩ (some .login) 2 (endV us (.word n) n (pairedV us n s)) := by
  refine .step (x' := ⟨us, 1, .word n, ⟨#[]⟩⟩) rfl ⟨hu, True.intro⟩ (by show (Stp.login).ask.size ≤ _; decide) (answer_line T S _ _ _ rfl rfl) ?_
  exact .step (s := .word n) rfl ⟨hu, True.intro⟩ (by show (⟨#[80, 97, 115, 115, 119, 111, 114, 100, 58]⟩ : ByteArray).size ≤ _; decide) (answer_line T S _ _ _ rfl (read_end T S us (.word n) s n _ rfl)) (.done (endV_ne _ _ _ _))
theorem talks_cram (T S : Nat → Int) (us : List S40) (n s stamp : ByteArray) (hu : OkUs us) (hst : stamp.size ≤ 20000000) :
    Talks T S n s ⟨us, 1, .cram stamp, ⟨#[]⟩⟩ (some (.cram ⟨#[]⟩)) 1 (endV us (.cram stamp) n (shownV T S us stamp n (digestV T S s stamp))) := by
  refine .step rfl ⟨hu, by show stamp.size ≤ _; omega⟩ hst (answer_line T S _ _ _ rfl (read_end T S us (.cram stamp) _ n _ ?_)) (.done (endV_ne _ _ _ _))
  exact take_cram_line T S us stamp n _ (digest_nosp T S s stamp)
end Go.Proofs.Yticjpjgfccbhlaa.Sasl
