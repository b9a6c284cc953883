/- SaslShown: what Begin and Answer keep: plain. -/
import Derived.Test.YticjpjgfccbhlaaDoorShownP
namespace Go.Proofs.YticjpjgfccbhlaaDoor.Sasl
open Go.RowKit Go.Proofs.YticjpjgfccbhlaaDoorW.PrintWords Go.Proofs.YticjpjgfccbhlaaDoor.PSaslStale Go.Proofs.YticjpjgfccbhlaaDoor.Hash
open Go.Proofs.YticjpjgfccbhlaaDoor.Code (unV)
set_option linter.unusedVariables false
set_option linter.unusedSimpArgs false
theorem readT_err (T S : Nat → Int) (x : XS) (a : ByteArray) (h : (readT T S x a).2 ≠ 0) : (readT T S x a).1 = x := by
  rw [readT_er] at h
  unfold readT
  simp only [h, ne_eq, not_false_eq_true, if_true]
theorem readV_err (T S : Nat → Int) (x : XS) (t : ByteArray) (h : (readV T S x t).2 ≠ 0) : (readV T S x t).1 = x := by
  unfold readV at h ⊢
  by_cases c : (unV t.data.toList).2.1 ≠ 0
  · rw [if_pos c]
  · rw [if_neg c] at h ⊢
    exact readT_err T S x _ h
/-- what was said when an exchange begins -/
def said0 (a : ByteArray) (has : Bool) : List ByteArray := if has then [if a = eqL then ⟨#[]⟩ else a] else []
theorem inv_begin {T S : Nat → Int} {us : List S40} {m stamp a : ByteArray} {has : Bool} {x : XS} (hb : beginV T S us m stamp a has = (some x, 0)) (hu : OkUs us) (hs : stamp.size ≤ 100000000) : InvX T S us stamp x (said0 a has) := by
  have key : ∀ s, firstV m stamp = some s → OkStp s ∧ (s = .plain ∨ s = .login ∨ s = .cram stamp) := by
    intro s h
    rcases first_place m stamp with ⟨_, h2⟩ | ⟨_, h2⟩ | ⟨_, h2⟩ | ⟨_, h2⟩ <;> rw [h2] at h
    · cases h; exact ⟨True.intro, .inl rfl⟩
    · cases h; exact ⟨True.intro, .inr (.inl rfl)⟩
    · cases h; exact ⟨hs, .inr (.inr rfl)⟩
    · cases h
  unfold beginV at hb
  cases hf : firstV m stamp with
  | none => rw [hf] at hb; cases hb
  | some s =>
    rw [hf] at hb
    obtain ⟨k1, k2⟩ := key s hf
    have h0 : InvX T S us stamp ⟨us, 1, s, ⟨#[]⟩⟩ [] := ⟨rfl, ⟨hu, k1⟩, .inl ⟨rfl, by
      rcases k2 with h | h | h
      · exact .inl h
      · exact .inr (.inl h)
      · exact .inr (.inr (.inl h))⟩⟩
    cases has with
    | false =>
      have e : (some (⟨us, 1, s, ⟨#[]⟩⟩ : XS), (0 : Int)) = (some x, 0) := hb
      obtain rfl := Option.some.inj (congrArg Prod.fst e)
      exact h0
    | true =>
      simp only [Bool.true_eq_false, if_false] at hb
      by_cases hc : s.isCram = true
      · rw [if_pos hc] at hb
        have := congrArg Prod.snd hb
        exact absurd this (by show ¬ (221 : Int) = 0; decide)
      · rw [if_neg hc] at hb
        obtain ⟨b, hbb⟩ : ∃ b, b = if a = eqL then (⟨#[]⟩ : ByteArray) else a := ⟨_, rfl⟩
        rw [← hbb] at hb
        by_cases hr : (readV T S ⟨us, 1, s, ⟨#[]⟩⟩ b).2 ≠ 0
        · rw [if_pos hr] at hb
          have := congrArg Prod.fst hb
          cases this
        · rw [if_neg hr] at hb
          have e := Option.some.inj (congrArg Prod.fst hb)
          have := inv_read h0 rfl b (Decidable.not_not.1 hr)
          rw [show (readV T S ⟨us, 1, s, ⟨#[]⟩⟩ b).1 = x from e] at this
          unfold said0
          rw [if_pos rfl, ← hbb]
          exact this
theorem InvX.next {T S : Nat → Int} {us : List S40} {stamp : ByteArray} {x : XS} {said : List ByteArray} (h : InvX T S us stamp x said) (hst : x.st ≠ 1) (t : ByteArray) : InvX T S us stamp x (said ++ [t]) := by
  refine ⟨h.eu, h.ok, ?_⟩
  rcases h.st with a | a | a | a
  · exact absurd a.1 hst
  · exact .inr (.inl ⟨a.1, a.2.app t⟩)
  · exact .inr (.inr (.inl a))
  · exact .inr (.inr (.inr a))
theorem inv_answer {T S : Nat → Int} {us : List S40} {stamp : ByteArray} {x x' : XS} {said : List ByteArray} {t : ByteArray} {f : Int} (h : InvX T S us stamp x said) (ha : answerV T S x t = (x', f)) :
    InvX T S us stamp x' (said ++ [t]) ∧ (x.st ≠ 1 → f = 6 ∧ x' = x) ∧ (x.st = 1 → t = starL → f = 0 ∧ x'.st = 4) ∧ (x.st = 1 → f = 221 → x'.st = 3) := by
  have h0 : x.st ≠ 0 := by
    rcases h.st with a | a | a | a
    · rw [a.1]; decide
    · rw [a.1]; decide
    · rw [a]; decide
    · rw [a]; decide
  unfold answerV at ha
  rw [if_neg h0] at ha
  by_cases h1 : x.st = 1
  · rw [if_neg (by simpa using h1)] at ha
    by_cases hq : t = starL
    · rw [if_pos hq] at ha
      obtain ⟨rfl, rfl⟩ := Prod.mk.inj ha
      exact ⟨⟨h.eu, h.ok, .inr (.inr (.inr rfl))⟩, fun c => absurd h1 c, fun _ _ => ⟨rfl, rfl⟩, fun _ c => absurd c (by decide)⟩
    · rw [if_neg hq] at ha
      by_cases hr : (readV T S x t).2 ≠ 0
      · rw [if_pos hr, readV_err T S x t hr] at ha
        obtain ⟨rfl, rfl⟩ := Prod.mk.inj ha
        exact ⟨⟨h.eu, h.ok, .inr (.inr (.inl rfl))⟩, fun c => absurd h1 c, fun _ c => absurd c hq, fun _ _ => rfl⟩
      · rw [if_neg hr] at ha
        have hr0 : (readV T S x t).2 = 0 := Decidable.not_not.1 hr
        have hi := inv_read h h1 t hr0
        rw [ha] at hi hr0
        exact ⟨hi, fun c => absurd h1 c, fun _ c => absurd c hq, fun _ c => absurd (c.symm.trans hr0) (by decide)⟩
  · rw [if_pos (by simpa using h1)] at ha
    obtain ⟨rfl, rfl⟩ := Prod.mk.inj ha
    exact ⟨h.next h1 t, fun _ => ⟨rfl, rfl⟩, fun c => absurd c h1, fun c => absurd c h1⟩
theorem ok_ask {s : Stp} (h : OkStp s) : s.ask.size ≤ 100000000 := by
  cases s with
  | cram s => exact h
  | plain => show (⟨#[]⟩ : ByteArray).size ≤ _; decide
  | login => show (Stp.login).ask.size ≤ _; decide
  | word n => show (⟨#[80, 97, 115, 115, 119, 111, 114, 100, 58]⟩ : ByteArray).size ≤ _; decide
/-- an exchange stays where blocks are turned that are newer -/
theorem ExchAt.low {w w1 : World} {X B : Nat} {x : XS} {A : Option Addr} {n c : Nat} (h : ExchAt w X x A n c) (hb : Below B w w1) (hX : X < B) (hA : ∀ ad, A = some ad → 0 < n → ad.block < B) : ExchAt w1 X x A n c := by
  refine ⟨(hb.block X hX).trans h.blk, ?_, h.len, h.cap, h.apart⟩
  have hr := h.us
  refine ⟨hr.1, hr.2.1, fun hn => ?_⟩
  obtain ⟨ad, he, hc⟩ := hr.2.2 hn
  refine ⟨ad, he, fun j p hj => ?_⟩
  obtain ⟨cs, h1, h2, h3⟩ := hc j p hj
  exact ⟨cs, h1, h2, fun i u hu => (hb.cell (by rw [add_block]; exact hA ad he hn)).trans (h3 i u hu)⟩
theorem ExchAt.old {w : World} {X : Nat} {x : XS} {A : Option Addr} {n c : Nat} (h : ExchAt w X x A n c) : ∀ ad, A = some ad → 0 < n → ad.block < w.heap.size := by
  intro ad had h0
  obtain ⟨ad2, e2, y0, _⟩ := at_T40 (had ▸ h.us) 0 (by omega) (by omega)
  cases e2
  have := World.block_lt_of_cell? w _ y0
  rw [add_block] at this
  exact this
end Go.Proofs.YticjpjgfccbhlaaDoor.Sasl
