/- SaslBoth: what the two exchanges of a round come to: plain. -/
import Derived.Test.YticjpjgfccbhlaaFirst
namespace Go.Proofs.Yticjpjgfccbhlaa.Sasl
open Go.RowKit Go.Proofs.YticjpjgfccbhlaaW.PrintWords Go.Proofs.Yticjpjgfccbhlaa.PSaslBoth Go.Proofs.Yticjpjgfccbhlaa.Hash
open Go.Proofs.Yticjpjgfccbhlaa.Code (unV)
set_option linter.unusedVariables false
set_option linter.unusedSimpArgs false
theorem paired_all (us : List S40) (n s : ByteArray) : pairedV (us ++ [⟨n, s⟩]) n s = true := by
  unfold pairedV
  rw [List.any_append]
  simp
theorem shown_all (T S : Nat → Int) (us : List S40) (stamp n s : ByteArray) : shownV T S (us ++ [⟨n, s⟩]) stamp n (digestV T S s stamp) = true := by
  unfold shownV
  rw [List.any_append]
  simp
theorem ok_all {us : List S40} {n s : ByteArray} (hu : us.length ≤ 10000000 ∧ ∀ u ∈ us, u.f1.size ≤ 10000000) (hs : s.size ≤ 1000) : OkUs (us ++ [⟨n, s⟩]) := by
  refine ⟨by rw [List.length_append]; simp; omega, fun u hm => ?_⟩
  rcases List.mem_append.1 hm with hm | hm
  · have := hu.2 u hm; omega
  · rw [List.mem_singleton.1 hm]; show s.size ≤ _; omega
theorem line_ne_eq (t : ByteArray) : b64S t ≠ eqL := fun e => by
  have h := line_size t
  rw [e] at h
  have : eqL.size = 1 := rfl
  omega
/-- PLAIN with an answer at once -/
theorem begin_plain (T S : Nat → Int) (us : List S40) (n s stamp : ByteArray) (hn : clean n = true) (hs : clean s = true) :
    beginV T S us ⟨#[80, 76, 65, 73, 78]⟩ stamp (b64S (⟨#[0]⟩ ++ n ++ ⟨#[0]⟩ ++ s)) true = (some (endV us .plain n (pairedV us n s)), 0) := by
  have hr : readV T S ⟨us, 1, .plain, ⟨#[]⟩⟩ (b64S (⟨#[0]⟩ ++ n ++ ⟨#[0]⟩ ++ s)) = (endV us .plain n (pairedV us n s), 0) := by
    unfold readV
    rw [un_line]
    simp only [strOf_bytes]
    rw [if_neg (by decide)]
    refine read_end T S us .plain _ n _ ?_
    show plainT us (splitL (⟨#[0]⟩ ++ n ++ ⟨#[0]⟩ ++ s)) = _
    rw [split_three n s (clean_nul hn) (clean_nul hs)]
    simp [plainT]
  unfold beginV
  rw [show firstV ⟨#[80, 76, 65, 73, 78]⟩ stamp = some .plain from rfl]
  simp only [Bool.true_eq_false, if_false]
  rw [if_neg (by show ¬ (Stp.plain).isCram = true; decide), if_neg (line_ne_eq _), hr]
  rfl
/-- what one mechanism comes to, for the two exchanges of a round -/
structure MechB (T S : Nat → Int) (us : List S40) (n s stamp m : ByteArray) (once : Bool) (a b : Stp) (fst : ByteArray) (x1 : XS) (k1 : Nat) (k2 : Nat) (xf : XS) : Prop where
  sz : m.size ≤ 100
  up : upV m = m
  same : ∀ w, Calls Try.prog 36 #[.string m, .string ⟨#[80, 76, 65, 73, 78]⟩] w fun e w' => e = .returned (.bool once) ∧ Below w.heap.size w w'
  fs : fst = if once then b64S (⟨#[0]⟩ ++ n ++ ⟨#[0]⟩ ++ s) else ⟨#[]⟩
  f0 : firstV m ⟨#[]⟩ = some a
  f1 : firstV m stamp = some b
  bx : beginV T S us m stamp fst once = (some x1, 0)
  t1 : Talks T S n s x1 (some a) k1 xf
  t2 : Talks T S n s ⟨us, 1, b, ⟨#[]⟩⟩ (some a) k2 xf
  l1 : k1 ≤ 4
  l2 : k2 ≤ 4
  st : xf.st = 2
  user : userV xf = n
  az : xf.nx.ask.size ≤ 100000000
theorem drawn_below {w w' : World} (h : Drawn0 w w') : Below w.heap.size w w' := by
  obtain ⟨k, rfl⟩ := h.out
  exact pw_below_drewN (Below.refl _ _) k
theorem mechB_at (T S : Nat → Int) (us : List S40) (n s stamp : ByteArray) (hu : OkUs (us ++ [⟨n, s⟩])) (hn : clean n = true) (hs : clean s = true) (hst : stamp.size ≤ 20000000) (j : Nat) (hj : j < 3) :
    ∃ m once a b fst x1 k1 k2 xf, [(⟨#[80, 76, 65, 73, 78]⟩ : ByteArray), ⟨#[76, 79, 71, 73, 78]⟩, ⟨#[67, 82, 65, 77, 45, 77, 68, 53]⟩][j]? = some m ∧ MechB T S (us ++ [⟨n, s⟩]) n s stamp m once a b fst x1 k1 k2 xf := by
  match j, hj with
  | 0, _ =>
    have hp := paired_all us n s
    have ht := talks_plain T S (us ++ [⟨n, s⟩]) n s hu hn hs
    have hb := begin_plain T S (us ++ [⟨n, s⟩]) n s stamp hn hs
    rw [hp] at ht hb
    exact ⟨_, true, .plain, .plain, _, _, 0, 1, _, rfl, by decide, rfl, fun w => (octet_Same.calls 20 _ _ true w (by kernel_rfl)).mono fun e w' h => ⟨h.1, drawn_below h.2⟩, rfl, rfl, rfl, hb, .done (endV_ne _ _ _ _), ht, by decide, by decide, rfl, rfl, by show (⟨#[]⟩ : ByteArray).size ≤ _; decide⟩
  | 1, _ =>
    have hp := paired_all us n s
    have ht := talks_login T S (us ++ [⟨n, s⟩]) n s hu
    rw [hp] at ht
    exact ⟨_, false, .login, .login, _, _, 2, 2, _, rfl, by decide, rfl, fun w => (octet_Same.calls 20 _ _ false w (by kernel_rfl)).mono fun e w' h => ⟨h.1, drawn_below h.2⟩, rfl, rfl, rfl, rfl, ht, ht, by decide, by decide, rfl, rfl, by show (⟨#[80, 97, 115, 115, 119, 111, 114, 100, 58]⟩ : ByteArray).size ≤ _; decide⟩
  | 2, _ =>
    have hp := shown_all T S us stamp n s
    have ht := talks_cram T S (us ++ [⟨n, s⟩]) n s stamp hu hst
    rw [hp] at ht
    exact ⟨_, false, .cram ⟨#[]⟩, .cram stamp, _, _, 1, 1, _, rfl, by decide, rfl, fun w => (octet_Same.calls 20 _ _ false w (by kernel_rfl)).mono fun e w' h => ⟨h.1, drawn_below h.2⟩, rfl, rfl, rfl, rfl, ht, ht, by decide, by decide, rfl, rfl, by show stamp.size ≤ _; omega⟩
end Go.Proofs.Yticjpjgfccbhlaa.Sasl
