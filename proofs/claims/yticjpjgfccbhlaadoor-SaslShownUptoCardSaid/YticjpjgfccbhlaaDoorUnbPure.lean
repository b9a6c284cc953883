/- posthornref04.Unbase64: the plain law. (Turned from the word seat's text.) -/
import Derived.Test.YticjpjgfccbhlaaDoorRefC
import Derived.Test.YticjpjgfccbhlaaDoorLines
namespace Go.Proofs.YticjpjgfccbhlaaDoor.Code
open Go.RowKit Go.Proofs.YticjpjgfccbhlaaDoorW.PrintWords Go.Proofs.YticjpjgfccbhlaaDoor.PSaslStale
open Go.Proofs.YticjpjgfccbhlaaDoor.Sasl (bt_byte ba_ext)
theorem leO_add {α : Type} (f : Nat → Option α) (h : ∀ k, LeO (f k) (f (k + 1))) (k : Nat) : ∀ m, LeO (f k) (f (k + m))
  | 0 => LeO.refl _
  | m + 1 => LeO.trans (leO_add f h k m) (h (k + m))
theorem num_all : ∀ n : Fin 256, posthornref04_number.f 70 (n.val : Int) = some (if valV n.val < 64 then valV n.val else -1) := by decide +kernel
theorem num_f (c : UInt8) (k : Nat) : posthornref04_number.f (70 + k) (c.toNat : Int) = some (if valV c.toNat < 64 then valV c.toNat else -1) :=
  leO_add (fun k => posthornref04_number.f k (c.toNat : Int)) (posthornref04_number.mono _) 70 k _ (num_all ⟨c.toNat, c.toNat_lt⟩)
theorem low4_all : ∀ n : Fin 256, posthornref04_low.f 80 (n.val : Int) 4 = some (decide (valV n.val < 64) && decide (valV n.val % 16 = 0)) := by decide +kernel
theorem low4_f (c : UInt8) (k : Nat) : posthornref04_low.f (80 + k) (c.toNat : Int) 4 = some (decide (valV c.toNat < 64) && decide (valV c.toNat % 16 = 0)) :=
  leO_add (fun k => posthornref04_low.f k (c.toNat : Int) 4) (posthornref04_low.mono _ _) 80 k _ (low4_all ⟨c.toNat, c.toNat_lt⟩)
theorem low2_all : ∀ n : Fin 256, posthornref04_low.f 80 (n.val : Int) 2 = some (decide (valV n.val < 64) && decide (valV n.val % 4 = 0)) := by decide +kernel
theorem low2_f (c : UInt8) (k : Nat) : posthornref04_low.f (80 + k) (c.toNat : Int) 2 = some (decide (valV c.toNat < 64) && decide (valV c.toNat % 4 = 0)) :=
  leO_add (fun k => posthornref04_low.f k (c.toNat : Int) 2) (posthornref04_low.mono _ _) 80 k _ (low2_all ⟨c.toNat, c.toNat_lt⟩)
theorem val_eq_all : ∀ n : Fin 256, valV n.val = 64 ↔ n.val = 61 := by decide +kernel
theorem val_eq (c : UInt8) : valV c.toNat = 64 ↔ (c.toNat : Int) = 61 := by
  have := val_eq_all ⟨c.toNat, c.toNat_lt⟩
  rw [this]
  show c.toNat = 61 ↔ _
  omega
def okL (a : UInt8) : Bool := decide (valV a.toNat < 64)
def ok3 (b c : UInt8) : Bool := decide (valV c.toNat < 64) || (decide ((c.toNat : Int) = 61) && decide (valV b.toNat % 16 = 0))
def ok4 (c d : UInt8) : Bool := if (c.toNat : Int) = 61 then decide ((d.toNat : Int) = 61) else decide (valV d.toNat < 64) || (decide ((d.toNat : Int) = 61) && decide (valV c.toNat % 4 = 0))
/-- the bytes of a group so far -/
def okB : List UInt8 → Bool
  | [a] => okL a
  | [a, b] => okL a && okL b
  | [a, b, c] => okL a && okL b && ok3 b c
  | [a, b, c, d] => okL a && okL b && ok3 b c && ok4 c d
  | _ => false
theorem num_ge (c : UInt8) : decide ((if valV c.toNat < 64 then valV c.toNat else -1) ≥ 0) = okL c := by
  have := val_range c
  unfold okL
  by_cases h : valV c.toNat < 64
  · rw [if_pos h, decide_eq_true h, decide_eq_true (by omega)]
  · rw [if_neg h, decide_eq_false h]
    rfl
theorem begun_low (x : ByteArray) (i : Int) (hi : i = 0 ∨ i = 1) (hs : i < (x.size : Int)) (a : UInt8) (ha : bt x i = (a.toNat : Int)) (k : Nat) : posthornref04_begun.l0 (72 + k) x i = if okL a = true then posthornref04_begun.l0 (70 + k) x (i + 1) else some false := by
  have w : wrap64 (i + 1) = i + 1 := by
    unfold wrap64
    omega
  rw [show 72 + k = (70 + k + 1) + 1 from by omega, posthornref04_begun.l0, if_pos hs, if_pos (by omega), ha, show 70 + k + 1 = 70 + (k + 1) from by omega, num_f]
  show (if i = 0 then posthornref04_begun.j1 (70 + k + 1) x i (decide ((if valV a.toNat < 64 then valV a.toNat else -1) ≥ 0)) i (i == 0) else posthornref04_begun.j1 (70 + k + 1) x i (decide ((if valV a.toNat < 64 then valV a.toNat else -1) ≥ 0)) i (i == 1)) = _
  rw [num_ge]
  have e : (if i = 0 then posthornref04_begun.j1 (70 + k + 1) x i (okL a) i (i == 0) else posthornref04_begun.j1 (70 + k + 1) x i (okL a) i (i == 1)) = posthornref04_begun.j1 (70 + k + 1) x i (okL a) i true := by
    rcases hi with rfl | rfl
    · rfl
    · rfl
  rw [e, posthornref04_begun.j1, if_pos rfl, w]
theorem begun_two (x : ByteArray) (hs : (2 : Int) < (x.size : Int)) (b c : UInt8) (hb : bt x 1 = (b.toNat : Int)) (hc : bt x 2 = (c.toNat : Int)) (hl : okL b = true) (k : Nat) : posthornref04_begun.l0 (82 + k) x 2 = if ok3 b c = true then posthornref04_begun.l0 (80 + k) x 3 else some false := by
  have w : wrap64 ((2 : Int) + 1) = 3 := by
    unfold wrap64
    omega
  rw [show 82 + k = (80 + k + 1) + 1 from by omega, posthornref04_begun.l0, if_pos hs, if_pos (by decide), hc, show 80 + k + 1 = 70 + (k + 11) from by omega, num_f]
  show posthornref04_begun.j1 (70 + (k + 11)) x 2 (decide ((if valV c.toNat < 64 then valV c.toNat else -1) ≥ 0)) 2 false = _
  rw [num_ge, show 70 + (k + 11) = 80 + k + 1 from by omega, posthornref04_begun.j1, if_neg (by decide), if_pos rfl, w, hc, hb, low4_f]
  unfold ok3
  by_cases h1 : valV c.toNat < 64
  · rw [if_pos (by unfold okL; exact decide_eq_true h1), decide_eq_true h1]
    rfl
  · rw [if_neg (by unfold okL; rw [decide_eq_true_eq]; exact h1), decide_eq_false h1, if_pos hs, Bool.false_or]
    have hl' : valV b.toNat < 64 := of_decide_eq_true hl
    by_cases h2 : (c.toNat : Int) = 61
    · rw [if_pos h2, if_pos (by omega), decide_eq_true h2, decide_eq_true hl', Bool.true_and]
      rfl
    · rw [if_neg h2, decide_eq_false h2, Bool.false_and]
      rfl
theorem begun_three (x : ByteArray) (hs : (3 : Int) < (x.size : Int)) (c d : UInt8) (hc : bt x 2 = (c.toNat : Int)) (hd : bt x 3 = (d.toNat : Int)) (h3 : valV c.toNat < 64 ∨ (c.toNat : Int) = 61) (k : Nat) : posthornref04_begun.l0 (82 + k) x 3 = if ok4 c d = true then posthornref04_begun.l0 (80 + k) x 4 else some false := by
  have w : wrap64 ((3 : Int) + 1) = 4 := by
    unfold wrap64
    omega
  rw [show 82 + k = (80 + k + 1) + 1 from by omega, posthornref04_begun.l0, if_pos hs, if_pos (by decide), hd, show 80 + k + 1 = 70 + (k + 11) from by omega, num_f]
  show posthornref04_begun.j1 (70 + (k + 11)) x 3 (decide ((if valV d.toNat < 64 then valV d.toNat else -1) ≥ 0)) 3 false = _
  rw [num_ge, show 70 + (k + 11) = 80 + k + 1 from by omega, posthornref04_begun.j1, if_neg (by decide), if_neg (by decide), w, hc, hd, low2_f, if_pos (show (2 : Int) < (x.size : Int) from by clear w; omega)]
  unfold ok4
  by_cases h2 : (c.toNat : Int) = 61
  · rw [if_pos h2, if_pos h2, if_pos hs]
    by_cases h4 : (d.toNat : Int) = 61
    · rw [if_pos h4, decide_eq_true h4, if_pos rfl]
    · rw [if_neg h4, decide_eq_false h4]
      rfl
  · rw [if_neg h2, if_neg h2]
    have hc64 : valV c.toNat < 64 := h3.resolve_right h2
    unfold okL
    by_cases h1 : valV d.toNat < 64
    · rw [decide_eq_true h1]
      rfl
    · rw [decide_eq_false h1, Bool.false_or, if_pos hs]
      by_cases h4 : (d.toNat : Int) = 61
      · rw [if_pos h4, decide_eq_true h4, decide_eq_true hc64, Bool.true_and]
        rfl
      · rw [if_neg h4, decide_eq_false h4]
        rfl
theorem begun_stop (x : ByteArray) (i : Int) (hs : i = (x.size : Int)) (k : Nat) : posthornref04_begun.l0 (1 + k) x i = some true := by
  rw [Nat.add_comm, posthornref04_begun.l0, if_neg (by omega)]
theorem ok3_or {b c : UInt8} (h : ok3 b c = true) : valV c.toNat < 64 ∨ (c.toNat : Int) = 61 := by
  unfold ok3 at h
  rw [Bool.or_eq_true, Bool.and_eq_true, decide_eq_true_eq, decide_eq_true_eq] at h
  rcases h with h | h
  · exact Or.inl h
  · exact Or.inr h.1
theorem begun_f (g : List UInt8) (h0 : 1 ≤ g.length) (h1 : g.length ≤ 4) (k : Nat) : posthornref04_begun.f (90 + k) ⟨g.toArray⟩ = some (okB g) := by
  unfold posthornref04_begun.f
  match g, h0, h1 with
  | [a], _, _ =>
    rw [show 90 + k = 72 + (k + 18) from by omega, begun_low _ 0 (Or.inl rfl) (by show (0 : Int) < 1; decide) a rfl]
    show _ = some (okL a)
    by_cases g1 : okL a = true
    · rw [if_pos g1, show 70 + (k + 18) = 1 + (k + 87) from by omega, begun_stop ⟨#[a]⟩ (0 + 1) rfl, g1]
    · rw [if_neg g1]
      rw [Bool.not_eq_true] at g1
      rw [g1]
  | [a, b], _, _ =>
    rw [show 90 + k = 72 + (k + 18) from by omega, begun_low _ 0 (Or.inl rfl) (by show (0 : Int) < 2; decide) a rfl]
    show _ = some (okL a && okL b)
    by_cases g1 : okL a = true
    · rw [if_pos g1, show 70 + (k + 18) = 72 + (k + 16) from by omega, show (0 : Int) + 1 = 1 from rfl, begun_low _ 1 (Or.inr rfl) (by show (1 : Int) < 2; decide) b rfl, g1]
      by_cases g2 : okL b = true
      · rw [if_pos g2, show 70 + (k + 16) = 1 + (k + 85) from by omega, begun_stop ⟨#[a, b]⟩ (1 + 1) rfl, g2]
        rfl
      · rw [if_neg g2]
        rw [Bool.not_eq_true] at g2
        rw [g2]
        rfl
    · rw [if_neg g1]
      rw [Bool.not_eq_true] at g1
      rw [g1]
      rfl
  | [a, b, c], _, _ =>
    rw [show 90 + k = 72 + (k + 18) from by omega, begun_low _ 0 (Or.inl rfl) (by show (0 : Int) < 3; decide) a rfl]
    show _ = some (okL a && okL b && ok3 b c)
    by_cases g1 : okL a = true
    · rw [if_pos g1, show 70 + (k + 18) = 72 + (k + 16) from by omega, show (0 : Int) + 1 = 1 from rfl, begun_low _ 1 (Or.inr rfl) (by show (1 : Int) < 3; decide) b rfl, g1]
      by_cases g2 : okL b = true
      · rw [if_pos g2, show 70 + (k + 16) = 82 + (k + 4) from by omega, show (1 : Int) + 1 = 2 from rfl, begun_two _ (by show (2 : Int) < 3; decide) b c rfl rfl g2, g2]
        by_cases g3 : ok3 b c = true
        · rw [if_pos g3, show 80 + (k + 4) = 1 + (k + 83) from by omega, begun_stop ⟨#[a, b, c]⟩ 3 rfl, g3]
          rfl
        · rw [if_neg g3]
          rw [Bool.not_eq_true] at g3
          rw [g3]
          rfl
      · rw [if_neg g2]
        rw [Bool.not_eq_true] at g2
        rw [g2]
        rfl
    · rw [if_neg g1]
      rw [Bool.not_eq_true] at g1
      rw [g1]
      rfl
  | [a, b, c, d], _, _ =>
    rw [show 90 + k = 72 + (k + 18) from by omega, begun_low _ 0 (Or.inl rfl) (by show (0 : Int) < 4; decide) a rfl]
    show _ = some (okL a && okL b && ok3 b c && ok4 c d)
    by_cases g1 : okL a = true
    · rw [if_pos g1, show 70 + (k + 18) = 72 + (k + 16) from by omega, show (0 : Int) + 1 = 1 from rfl, begun_low _ 1 (Or.inr rfl) (by show (1 : Int) < 4; decide) b rfl, g1]
      by_cases g2 : okL b = true
      · rw [if_pos g2, show 70 + (k + 16) = 82 + (k + 4) from by omega, show (1 : Int) + 1 = 2 from rfl, begun_two _ (by show (2 : Int) < 4; decide) b c rfl rfl g2, g2]
        by_cases g3 : ok3 b c = true
        · rw [if_pos g3, show 80 + (k + 4) = 82 + (k + 2) from by omega, begun_three _ (by show (3 : Int) < 4; decide) c d rfl rfl (ok3_or g3), g3]
          by_cases g4 : ok4 c d = true
          · rw [if_pos g4, show 80 + (k + 2) = 1 + (k + 81) from by omega, begun_stop ⟨#[a, b, c, d]⟩ 4 rfl, g4]
            rfl
          · rw [if_neg g4]
            rw [Bool.not_eq_true] at g4
            rw [g4]
            rfl
        · rw [if_neg g3]
          rw [Bool.not_eq_true] at g3
          rw [g3]
          rfl
      · rw [if_neg g2]
        rw [Bool.not_eq_true] at g2
        rw [g2]
        rfl
    · rw [if_neg g1]
      rw [Bool.not_eq_true] at g1
      rw [g1]
      rfl
theorem uwrap (n : Int) (h0 : 0 ≤ n) (h : n < 9223372036854775808) : wrap64 n = n := by
  unfold wrap64
  omega
/-- does the text ahead end with =? -/
def ovB (pre : List UInt8) : Bool := pre.getLast? == some 61
theorem bt_last (t : ByteArray) (pre r : List UInt8) (x : UInt8) (ht : t.data.toList = (pre ++ [x]) ++ r) : bt t (pre.length : Int) = (x.toNat : Int) := by
  have hsz : t.size = t.data.toList.length := by rw [Array.length_toList]; rfl
  have hlt : pre.length < t.size := by
    rw [hsz, ht]
    simp
  rw [bt_byte t pre.length hlt]
  have e : t.data.toList[pre.length]? = some x := by
    rw [ht, List.append_assoc, List.getElem?_append_right (by omega), Nat.sub_self]
    rfl
  rw [Array.getElem?_toList] at e
  have e2 : t.data[pre.length]? = some (t[pre.length]'hlt) := Array.getElem?_eq_getElem hlt
  rw [e2] at e
  injection e with e
  rw [e]
theorem on_f (t : ByteArray) (pre g r : List UInt8) (ht : t.data.toList = pre ++ (g ++ r)) (hp : pre.length % 4 = 0) (h0 : 1 ≤ g.length) (h1 : g.length ≤ 4) (hs : t.size < 1099511627776) (k : Nat) : posthornref04_On.f (90 + k) t ((pre.length + (g.length - 1) : Nat) : Int) = some (!(ovB pre) && okB g) := by
  have hsz : t.size = pre.length + (g.length + r.length) := by
    have : t.size = t.data.toList.length := by rw [Array.length_toList]; rfl
    rw [this, ht]
    simp
  have e1 : Int.tdiv ((pre.length + (g.length - 1) : Nat) : Int) 4 = ((pre.length / 4 : Nat) : Int) := by
    rw [Int.tdiv_eq_ediv_of_nonneg (by omega)]
    omega
  have e2 : wrap64 ((pre.length / 4 : Nat) : Int) = ((pre.length / 4 : Nat) : Int) := by
    clear e1
    exact uwrap _ (by omega) (by omega)
  have e3 : wrap64 (((pre.length / 4 : Nat) : Int) * 4) = (pre.length : Int) := by
    clear e1 e2
    rw [uwrap _ (by omega) (by omega)]
    omega
  have e4 : wrap64 (((pre.length + (g.length - 1) : Nat) : Int) + 1) = ((pre.length + g.length : Nat) : Int) := by
    clear e1 e2 e3
    rw [uwrap _ (by omega) (by omega)]
    omega
  have ex : t.extract pre.length (pre.length + g.length) = ⟨g.toArray⟩ := ba_ext (by
    rw [Lib.extract_data, ht, List.drop_left' rfl, show pre.length + g.length - pre.length = g.length from by omega, List.take_left' rfl])
  unfold posthornref04_On.f
  rw [e1, e2, e3, e4]
  clear e1 e2 e3 e4
  rw [Int.toNat_natCast, Int.toNat_natCast, ex, begun_f g h0 h1]
  have tail : (if (0 : Int) ≤ (pre.length : Int) then (if (pre.length : Int) ≤ ((pre.length + g.length : Nat) : Int) then (if ((pre.length + g.length : Nat) : Int) ≤ (t.size : Int) then ((some (okB g)).bind fun t178 => (some t178)) else (none)) else (none)) else (none)) = some (okB g) := by
    rw [if_pos (by omega), if_pos (by omega), if_pos (by omega)]
    rfl
  rw [tail]
  rcases List.eq_nil_or_concat pre with rfl | ⟨p, x, rfl⟩
  · rw [if_pos (show (([] : List UInt8).length : Int) = 0 from rfl)]
    rfl
  · have hpl : (p ++ [x]).length = p.length + 1 := by simp
    rw [List.concat_eq_append] at *
    have w : wrap64 (((p ++ [x]).length : Int) - 1) = (p.length : Int) := by
      rw [hpl, uwrap _ (by omega) (by omega)]
      omega
    rw [if_neg (by rw [hpl]; omega), w]
    clear w
    rw [if_pos (by omega), if_pos (by rw [hsz, hpl]; omega), bt_last t p (g ++ r) x ht]
    have eo : ovB (p ++ [x]) = decide ((x.toNat : Int) = 61) := by
      unfold ovB
      rw [List.getLast?_concat]
      by_cases hx : x = 61
      · subst hx
        rfl
      · rw [decide_eq_false]
        · exact beq_eq_false_iff_ne.2 (fun h => hx (by injection h))
        · intro h
          apply hx
          apply UInt8.toNat_inj.1
          show x.toNat = 61
          omega
    rw [eo]
    by_cases hx : (x.toNat : Int) = 61
    · rw [if_pos hx, decide_eq_true hx]
      rfl
    · rw [if_neg hx, decide_eq_false hx]
      rfl
/-- the first place with which a text does not go on -/
def refGo : Bool → Nat → List UInt8 → Option Nat
  | ov, i, a :: b :: c :: d :: r => if (!ov && okB [a]) = true then (if okB [a, b] = true then (if okB [a, b, c] = true then (if okB [a, b, c, d] = true then refGo (d == 61) (i + 4) r else some (i + 3)) else some (i + 2)) else some (i + 1)) else some i
  | ov, i, [a, b, c] => if (!ov && okB [a]) = true then (if okB [a, b] = true then (if okB [a, b, c] = true then some (i + 3) else some (i + 2)) else some (i + 1)) else some i
  | ov, i, [a, b] => if (!ov && okB [a]) = true then (if okB [a, b] = true then some (i + 2) else some (i + 1)) else some i
  | ov, i, [a] => if (!ov && okB [a]) = true then some (i + 1) else some i
  | _, _, [] => none
/-- the bytes of the groups -/
def grps : List UInt8 → List Int
  | a :: b :: c :: d :: r => grp (valV a.toNat) (valV b.toNat) (valV c.toNat) (valV d.toNat) ++ grps r
  | _ => []
theorem why_f (c : UInt8) (k : Nat) : ∃ er, er ≠ 0 ∧ posthornref04_why.f (70 + k) (c.toNat : Int) = some er := by
  unfold posthornref04_why.f
  rw [num_f]
  show ∃ er, er ≠ 0 ∧ (if (if valV c.toNat < 64 then valV c.toNat else -1) < 0 then (if (c.toNat : Int) = 61 then some (41 : Int) else some 40) else some 41) = some er
  by_cases h : (if valV c.toNat < 64 then valV c.toNat else -1) < 0
  · rw [if_pos h]
    by_cases h2 : (c.toNat : Int) = 61
    · rw [if_pos h2]
      exact ⟨41, by decide, rfl⟩
    · rw [if_neg h2]
      exact ⟨40, by decide, rfl⟩
  · rw [if_neg h]
    exact ⟨41, by decide, rfl⟩
theorem l0_on (t : ByteArray) (pre g r : List UInt8) (ht : t.data.toList = pre ++ (g ++ r)) (hp : pre.length % 4 = 0) (h0 : 1 ≤ g.length) (h1 : g.length ≤ 4) (hs : t.size < 1099511627776) (k : Nat) : ∃ er, er ≠ 0 ∧ posthornref04_Unbase64.l0 (91 + k) t ((pre.length + (g.length - 1) : Nat) : Int) = if (!(ovB pre) && okB g) = true then posthornref04_Unbase64.l0 (90 + k) t ((pre.length + g.length : Nat) : Int) else some ([], er, ((pre.length + (g.length - 1) : Nat) : Int)) := by
  have hsz : t.size = pre.length + (g.length + r.length) := by
    have : t.size = t.data.toList.length := by rw [Array.length_toList]; rfl
    rw [this, ht]
    simp
  have hi : pre.length + (g.length - 1) < t.size := by omega
  obtain ⟨er, he, hw⟩ := why_f (t[pre.length + (g.length - 1)]'hi) (k + 20)
  refine ⟨er, he, ?_⟩
  have e4 : wrap64 (((pre.length + (g.length - 1) : Nat) : Int) + 1) = ((pre.length + g.length : Nat) : Int) := by
    rw [uwrap _ (by omega) (by omega)]
    omega
  rw [show 91 + k = 90 + k + 1 from by omega, posthornref04_Unbase64.l0, if_pos (by clear e4; omega), on_f t pre g r ht hp h0 h1 hs k, e4, bt_byte t _ hi, show 90 + k = 70 + (k + 20) from by omega, hw]
  show (if (!(ovB pre) && okB g) = true then _ else _) = _
  rw [if_pos (show (0 : Int) ≤ ((pre.length + (g.length - 1) : Nat) : Int) from by clear e4; omega)]
  rfl
theorem l0_stop (t : ByteArray) (k : Nat) : posthornref04_Unbase64.l0 (k + 1) t (t.size : Int) = if ((t.size : Int) % 4) = 0 then posthornref04_Unbase64.l1 k t [] 0 else some ([], 41, (t.size : Int)) := by
  rw [posthornref04_Unbase64.l0, if_neg (by omega)]
theorem ov_four (pre : List UInt8) (a b c d : UInt8) : ovB (pre ++ [a, b, c, d]) = (d == 61) := by
  unfold ovB
  rw [show pre ++ [a, b, c, d] = (pre ++ [a, b, c]) ++ [d] from by simp, List.getLast?_concat]
  rfl
/-- a step of the reference's first loop -/
theorem st_on (t : ByteArray) (pre g r : List UInt8) (ht : t.data.toList = pre ++ (g ++ r)) (hp : pre.length % 4 = 0) (h0 : 1 ≤ g.length) (h1 : g.length ≤ 4) (hs : t.size < 1099511627776) (k j : Nat) (hj : j + 1 = pre.length + g.length) : ((!(ovB pre) && okB g) = true → posthornref04_Unbase64.l0 (91 + k) t (j : Int) = posthornref04_Unbase64.l0 (90 + k) t ((j + 1 : Nat) : Int)) ∧ (¬ (!(ovB pre) && okB g) = true → ∃ er, er ≠ 0 ∧ posthornref04_Unbase64.l0 (91 + k) t (j : Int) = some ([], er, (j : Int))) := by
  obtain ⟨er, he, h⟩ := l0_on t pre g r ht hp h0 h1 hs k
  rw [show pre.length + (g.length - 1) = j from by omega, show pre.length + g.length = j + 1 from by omega] at h
  constructor
  · intro hc
    rw [h, if_pos hc]
  · intro hc
    exact ⟨er, he, by rw [h, if_neg hc]⟩
theorem size_of (t : ByteArray) (l : List UInt8) (h : t.data.toList = l) : t.size = l.length := by
  rw [← h, Array.length_toList]
  rfl
theorem ref_l0 (t : ByteArray) (hs : t.size < 1099511627776) : ∀ (rest pre : List UInt8), t.data.toList = pre ++ rest → pre.length % 4 = 0 → ∀ k : Nat, (∀ j, refGo (ovB pre) pre.length rest = some j → ∃ er, er ≠ 0 ∧ posthornref04_Unbase64.l0 (92 + rest.length + k) t (pre.length : Int) = some ([], er, (j : Int))) ∧ (refGo (ovB pre) pre.length rest = none → posthornref04_Unbase64.l0 (92 + rest.length + k) t (pre.length : Int) = posthornref04_Unbase64.l1 (91 + k) t [] 0)
  | [], pre, ht, hp, k => by
    have hsz := size_of t _ ht
    rw [List.append_nil] at hsz
    refine ⟨fun j h => by simp [refGo] at h, fun _ => ?_⟩
    rw [← hsz, show 92 + ([] : List UInt8).length + k = (91 + k) + 1 from by simp; omega, l0_stop, if_pos (by omega)]
  | [a], pre, ht, hp, k => by
    have hsz := size_of t _ ht
    rw [List.length_append, show [a].length = 1 from rfl] at hsz
    rw [show refGo (ovB pre) pre.length [a] = if (!(ovB pre) && okB [a]) = true then some (pre.length + 1) else some pre.length from rfl, show 92 + [a].length + k = 91 + (k + 2) from by simp; omega]
    obtain ⟨a1, a2⟩ := st_on t pre [a] [] ht hp (by simp) (by simp) hs (k + 2) pre.length rfl
    by_cases h1 : (!(ovB pre) && okB [a]) = true
    · rw [if_pos h1, a1 h1, ← hsz, show 90 + (k + 2) = (91 + k) + 1 from by omega, l0_stop, if_neg (by omega)]
      exact ⟨fun j h => ⟨41, by decide, by injection h with h; rw [h]⟩, fun h => by simp at h⟩
    · rw [if_neg h1]
      exact ⟨fun j h => by injection h with h; rw [← h]; exact a2 h1, fun h => by simp at h⟩
  | [a, b], pre, ht, hp, k => by
    have hsz := size_of t _ ht
    rw [List.length_append, show [a, b].length = 2 from rfl] at hsz
    rw [show refGo (ovB pre) pre.length [a, b] = if (!(ovB pre) && okB [a]) = true then (if okB [a, b] = true then some (pre.length + 2) else some (pre.length + 1)) else some pre.length from rfl, show 92 + [a, b].length + k = 91 + (k + 3) from by simp; omega]
    obtain ⟨a1, a2⟩ := st_on t pre [a] [b] ht hp (by simp) (by simp) hs (k + 3) pre.length rfl
    obtain ⟨b1, b2⟩ := st_on t pre [a, b] [] ht hp (by simp) (by simp) hs (k + 2) (pre.length + 1) rfl
    by_cases h1 : (!(ovB pre) && okB [a]) = true
    · rw [if_pos h1, a1 h1, show 90 + (k + 3) = 91 + (k + 2) from by omega]
      have ho := (Bool.and_eq_true _ _ ▸ h1).1
      rw [ho, Bool.true_and] at b1 b2
      by_cases h2 : okB [a, b] = true
      · rw [if_pos h2, b1 h2, show pre.length + 1 + 1 = pre.length + 2 from rfl, ← hsz, show 90 + (k + 2) = (91 + k) + 1 from by omega, l0_stop, if_neg (by omega)]
        exact ⟨fun j h => ⟨41, by decide, by injection h with h; rw [h]⟩, fun h => by simp at h⟩
      · rw [if_neg h2]
        exact ⟨fun j h => by injection h with h; rw [← h]; exact b2 h2, fun h => by simp at h⟩
    · rw [if_neg h1]
      exact ⟨fun j h => by injection h with h; rw [← h]; exact a2 h1, fun h => by simp at h⟩
  | [a, b, c], pre, ht, hp, k => by
    have hsz := size_of t _ ht
    rw [List.length_append, show [a, b, c].length = 3 from rfl] at hsz
    rw [show refGo (ovB pre) pre.length [a, b, c] = if (!(ovB pre) && okB [a]) = true then (if okB [a, b] = true then (if okB [a, b, c] = true then some (pre.length + 3) else some (pre.length + 2)) else some (pre.length + 1)) else some pre.length from rfl, show 92 + [a, b, c].length + k = 91 + (k + 4) from by simp; omega]
    obtain ⟨a1, a2⟩ := st_on t pre [a] [b, c] ht hp (by simp) (by simp) hs (k + 4) pre.length rfl
    obtain ⟨b1, b2⟩ := st_on t pre [a, b] [c] ht hp (by simp) (by simp) hs (k + 3) (pre.length + 1) rfl
    obtain ⟨c1, c2⟩ := st_on t pre [a, b, c] [] ht hp (by simp) (by simp) hs (k + 2) (pre.length + 2) rfl
    by_cases h1 : (!(ovB pre) && okB [a]) = true
    · rw [if_pos h1, a1 h1, show 90 + (k + 4) = 91 + (k + 3) from by omega]
      have ho := (Bool.and_eq_true _ _ ▸ h1).1
      rw [ho, Bool.true_and] at b1 b2 c1 c2
      by_cases h2 : okB [a, b] = true
      · rw [if_pos h2, b1 h2, show pre.length + 1 + 1 = pre.length + 2 from rfl, show 90 + (k + 3) = 91 + (k + 2) from by omega]
        by_cases h3 : okB [a, b, c] = true
        · rw [if_pos h3, c1 h3, show pre.length + 2 + 1 = pre.length + 3 from rfl, ← hsz, show 90 + (k + 2) = (91 + k) + 1 from by omega, l0_stop, if_neg (by omega)]
          exact ⟨fun j h => ⟨41, by decide, by injection h with h; rw [h]⟩, fun h => by simp at h⟩
        · rw [if_neg h3]
          exact ⟨fun j h => by injection h with h; rw [← h]; exact c2 h3, fun h => by simp at h⟩
      · rw [if_neg h2]
        exact ⟨fun j h => by injection h with h; rw [← h]; exact b2 h2, fun h => by simp at h⟩
    · rw [if_neg h1]
      exact ⟨fun j h => by injection h with h; rw [← h]; exact a2 h1, fun h => by simp at h⟩
  | a :: b :: c :: d :: r, pre, ht, hp, k => by
    rw [show refGo (ovB pre) pre.length (a :: b :: c :: d :: r) = if (!(ovB pre) && okB [a]) = true then (if okB [a, b] = true then (if okB [a, b, c] = true then (if okB [a, b, c, d] = true then refGo (d == 61) (pre.length + 4) r else some (pre.length + 3)) else some (pre.length + 2)) else some (pre.length + 1)) else some pre.length from rfl, show 92 + (a :: b :: c :: d :: r).length + k = 91 + (r.length + 5 + k) from by simp only [List.length_cons]; omega]
    obtain ⟨a1, a2⟩ := st_on t pre [a] (b :: c :: d :: r) ht hp (by simp) (by simp) hs (r.length + 5 + k) pre.length rfl
    obtain ⟨b1, b2⟩ := st_on t pre [a, b] (c :: d :: r) ht hp (by simp) (by simp) hs (r.length + 4 + k) (pre.length + 1) rfl
    obtain ⟨c1, c2⟩ := st_on t pre [a, b, c] (d :: r) ht hp (by simp) (by simp) hs (r.length + 3 + k) (pre.length + 2) rfl
    obtain ⟨d1, d2⟩ := st_on t pre [a, b, c, d] r ht hp (by simp) (by simp) hs (r.length + 2 + k) (pre.length + 3) rfl
    by_cases h1 : (!(ovB pre) && okB [a]) = true
    · rw [if_pos h1, a1 h1, show 90 + (r.length + 5 + k) = 91 + (r.length + 4 + k) from by omega]
      have ho := (Bool.and_eq_true _ _ ▸ h1).1
      rw [ho, Bool.true_and] at b1 b2 c1 c2 d1 d2
      by_cases h2 : okB [a, b] = true
      · rw [if_pos h2, b1 h2, show pre.length + 1 + 1 = pre.length + 2 from rfl, show 90 + (r.length + 4 + k) = 91 + (r.length + 3 + k) from by omega]
        by_cases h3 : okB [a, b, c] = true
        · rw [if_pos h3, c1 h3, show pre.length + 2 + 1 = pre.length + 3 from rfl, show 90 + (r.length + 3 + k) = 91 + (r.length + 2 + k) from by omega]
          by_cases h4 : okB [a, b, c, d] = true
          · rw [if_pos h4, d1 h4, show pre.length + 3 + 1 = pre.length + 4 from rfl, show 90 + (r.length + 2 + k) = 92 + r.length + k from by omega]
            have ih := ref_l0 t hs r (pre ++ [a, b, c, d]) (by rw [ht]; simp) (by rw [List.length_append]; show (pre.length + 4) % 4 = 0; omega) k
            rw [ov_four, show (pre ++ [a, b, c, d]).length = pre.length + 4 from by simp] at ih
            exact ih
          · rw [if_neg h4]
            exact ⟨fun j h => by injection h with h; rw [← h]; exact d2 h4, fun h => by simp at h⟩
        · rw [if_neg h3]
          exact ⟨fun j h => by injection h with h; rw [← h]; exact c2 h3, fun h => by simp at h⟩
      · rw [if_neg h2]
        exact ⟨fun j h => by injection h with h; rw [← h]; exact b2 h2, fun h => by simp at h⟩
    · rw [if_neg h1]
      exact ⟨fun j h => by injection h with h; rw [← h]; exact a2 h1, fun h => by simp at h⟩
theorem go_none {ov : Bool} {i : Nat} {rest : List UInt8} (h : refGo ov i rest = none) : rest = [] ∨ ∃ a b c d r, rest = a :: b :: c :: d :: r ∧ ov = false ∧ okB [a, b, c, d] = true ∧ refGo (d == 61) (i + 4) r = none := by
  match rest, h with
  | [], _ => exact Or.inl rfl
  | [a], h =>
    exfalso
    rw [refGo] at h
    split at h <;> simp at h
  | [a, b], h =>
    exfalso
    rw [refGo] at h
    split at h
    · split at h <;> simp at h
    · simp at h
  | [a, b, c], h =>
    exfalso
    rw [refGo] at h
    split at h
    · split at h
      · split at h <;> simp at h
      · simp at h
    · simp at h
  | a :: b :: c :: d :: r, h =>
    rw [refGo] at h
    by_cases h1 : (!ov && okB [a]) = true
    · rw [if_pos h1] at h
      by_cases h2 : okB [a, b] = true
      · rw [if_pos h2] at h
        by_cases h3 : okB [a, b, c] = true
        · rw [if_pos h3] at h
          by_cases h4 : okB [a, b, c, d] = true
          · rw [if_pos h4] at h
            refine Or.inr ⟨a, b, c, d, r, rfl, ?_, h4, h⟩
            cases ov
            · rfl
            · simp at h1
          · rw [if_neg h4] at h
            simp at h
        · rw [if_neg h3] at h
          simp at h
      · rw [if_neg h2] at h
        simp at h
    · rw [if_neg h1] at h
      simp at h
def val0 (c : UInt8) : Int := if valV c.toNat < 64 then valV c.toNat else 0
theorem mx_num (c : UInt8) : mx 0 (if valV c.toNat < 64 then valV c.toNat else -1) = val0 c := by
  have := val_range c
  unfold val0 mx
  by_cases h : valV c.toNat < 64
  · rw [if_pos h]
    by_cases h2 : valV c.toNat = 0
    · rw [h2]
      rfl
    · repeat' split
      all_goals omega
  · rw [if_neg h, if_neg h]
    rfl
theorem val0_range (c : UInt8) : 0 ≤ val0 c ∧ val0 c < 64 := by
  have := val_range c
  unfold val0
  split <;> omega
theorem group_step (x : ByteArray) (m q i : Int) (hi : 0 ≤ i ∧ i < 4) (hs : i < (x.size : Int)) (hq : 0 ≤ q ∧ q < 1073741824) (c : UInt8) (hc : bt x i = (c.toNat : Int)) (k : Nat) : posthornref04_group.l0 (71 + k) x m q i = posthornref04_group.l0 (70 + k) x m (q * 64 + val0 c) (i + 1) := by
  have hv := val0_range c
  have w1 : wrap64 (q * 64) = q * 64 := uwrap _ (by omega) (by omega)
  have w2 : wrap64 (q * 64 + val0 c) = q * 64 + val0 c := by
    clear w1
    exact uwrap _ (by omega) (by omega)
  have w3 : wrap64 (i + 1) = i + 1 := by
    clear w1 w2
    exact uwrap _ (by omega) (by omega)
  rw [show 71 + k = 70 + k + 1 from by omega, posthornref04_group.l0, if_pos hi.2, if_pos hi.1, if_pos hs, hc, num_f]
  show posthornref04_group.l0 (70 + k) x m (wrap64 (wrap64 (q * 64) + mx 0 (if valV c.toNat < 64 then valV c.toNat else -1))) (wrap64 (i + 1)) = _
  rw [mx_num, w1, w2, w3]
theorem group_stop (x : ByteArray) (m : Nat) (hm : m ≤ 3) (q : Int) (hq : 0 ≤ q ∧ q < 16777216) (k : Nat) : posthornref04_group.l0 (1 + k) x (m : Int) q 4 = some (([q / 65536 % 256, q / 256 % 256, q % 256] : List Int).take m) := by
  have d1 : Int.tdiv q 65536 = q / 65536 := Int.tdiv_eq_ediv_of_nonneg hq.1
  have d2 : Int.tdiv q 256 = q / 256 := Int.tdiv_eq_ediv_of_nonneg hq.1
  have d3 : Int.tmod q 256 = q % 256 := Int.tmod_eq_emod_of_nonneg hq.1
  have w1 : wrap64 (q / 65536) = q / 65536 := by
    clear d1 d2 d3
    exact uwrap _ (by omega) (by omega)
  have w2 : wrap64 (q / 256) = q / 256 := by
    clear d1 d2 d3 w1
    exact uwrap _ (by omega) (by omega)
  have d4 : Int.tmod (q / 256) 256 = q / 256 % 256 := Int.tmod_eq_emod_of_nonneg (by clear d1 d2 d3 w1 w2; omega)
  have m1 : q / 256 % 256 % 256 = q / 256 % 256 := by
    clear d1 d2 d3 w1 w2 d4
    omega
  have m2 : q % 256 % 256 = q % 256 := by
    clear d1 d2 d3 w1 w2 d4 m1
    omega
  rw [Nat.add_comm, posthornref04_group.l0, if_neg (by decide), d1, d2, d3, w1, w2, d4, m1, m2]
  show (if (0 : Int) ≤ (m : Int) then (if (m : Int) ≤ 3 then some (([q / 65536 % 256, q / 256 % 256, q % 256] : List Int).take ((m : Int)).toNat) else none) else none) = _
  rw [if_pos (by clear d1 d2 d3 w1 w2 d4 m1 m2; omega), if_pos (by clear d1 d2 d3 w1 w2 d4 m1 m2; omega), Int.toNat_natCast]
theorem b0_eq (x y : Int) (hx : 0 ≤ x ∧ x < 64) (hy : 0 ≤ y ∧ y < 64) : b0 x y = x * 4 + y / 16 := by
  unfold b0
  rw [show x * 4 % 256 = x * 4 from by omega, u8_or2 _ _ (by omega) (by omega) (by omega) (by omega) (by omega)]
theorem b1_eq (x y : Int) (_hx : 0 ≤ x ∧ x < 64) (hy : 0 ≤ y ∧ y < 64) : b1 x y = x % 16 * 16 + y / 4 := by
  unfold b1
  rw [show x * 16 % 256 = x % 16 * 16 from by omega, u8_or4 _ _ (by omega) (by omega) (by omega) (by omega) (by omega)]
theorem b2_eq (x y : Int) (_hx : 0 ≤ x ∧ x < 64) (hy : 0 ≤ y ∧ y < 64) : b2 x y = x % 4 * 64 + y := by
  unfold b2
  rw [show x * 64 % 256 = x % 4 * 64 from by omega, u8_or6 _ _ (by omega) (by omega) (by omega) (by omega) (by omega)]
theorem okL_val {a : UInt8} (h : okL a = true) : val0 a = valV a.toNat ∧ 0 ≤ valV a.toNat ∧ valV a.toNat < 64 := by
  have h1 : valV a.toNat < 64 := of_decide_eq_true h
  have := val_range a
  exact ⟨by unfold val0; rw [if_pos h1], by omega, h1⟩
theorem pad_val {c : UInt8} (h : (c.toNat : Int) = 61) : val0 c = 0 ∧ valV c.toNat = 64 := by
  have h1 := (val_eq c).2 h
  exact ⟨by unfold val0; rw [if_neg (by omega)], h1⟩
theorem bits_cut (p q r s : Int) (hp : 0 ≤ p ∧ p < 64) (hq : 0 ≤ q ∧ q < 64) (hr : 0 ≤ r ∧ r < 64) (hs : 0 ≤ s ∧ s < 64) : (((0 * 64 + p) * 64 + q) * 64 + r) * 64 + s < 16777216 ∧ 0 ≤ (((0 * 64 + p) * 64 + q) * 64 + r) * 64 + s ∧ ((((0 * 64 + p) * 64 + q) * 64 + r) * 64 + s) / 65536 % 256 = p * 4 + q / 16 ∧ ((((0 * 64 + p) * 64 + q) * 64 + r) * 64 + s) / 256 % 256 = q % 16 * 16 + r / 4 ∧ ((((0 * 64 + p) * 64 + q) * 64 + r) * 64 + s) % 256 = r % 4 * 64 + s := by
  refine ⟨?_, ?_, ?_, ?_, ?_⟩ <;> omega
theorem group_all (a b c d : UInt8) (m : Nat) (hm : m ≤ 3) (k : Nat) : posthornref04_group.l0 (86 + k) ⟨#[a, b, c, d]⟩ (m : Int) 0 0 = some (([val0 a * 4 + val0 b / 16, val0 b % 16 * 16 + val0 c / 4, val0 c % 4 * 64 + val0 d] : List Int).take m) := by
  have ha := val0_range a
  have hb := val0_range b
  have hc := val0_range c
  have hd := val0_range d
  rw [show 86 + k = 71 + (k + 15) from by omega, group_step _ _ 0 0 (by decide) (by show (0 : Int) < 4; decide) (by decide) a rfl, show 70 + (k + 15) = 71 + (k + 14) from by omega, show (0 : Int) + 1 = 1 from rfl,
    group_step _ _ _ 1 (by decide) (by show (1 : Int) < 4; decide) (by omega) b rfl, show 70 + (k + 14) = 71 + (k + 13) from by omega, show (1 : Int) + 1 = 2 from rfl,
    group_step _ _ _ 2 (by decide) (by show (2 : Int) < 4; decide) (by omega) c rfl, show 70 + (k + 13) = 71 + (k + 12) from by omega, show (2 : Int) + 1 = 3 from rfl,
    group_step _ _ _ 3 (by decide) (by show (3 : Int) < 4; decide) (by omega) d rfl, show 70 + (k + 12) = 1 + (k + 81) from by omega, show (3 : Int) + 1 = 4 from rfl]
  obtain ⟨g1, g2, g3, g4, g5⟩ := bits_cut (val0 a) (val0 b) (val0 c) (val0 d) ha hb hc hd
  rw [group_stop _ m hm _ ⟨g2, g1⟩, g3, g4, g5]
theorem ok4_parts {a b c d : UInt8} (h : okB [a, b, c, d] = true) : okL a = true ∧ okL b = true ∧ ok3 b c = true ∧ ok4 c d = true := by
  have h' : (okL a && okL b && ok3 b c && ok4 c d) = true := h
  rw [Bool.and_eq_true, Bool.and_eq_true, Bool.and_eq_true] at h'
  exact ⟨h'.1.1.1, h'.1.1.2, h'.1.2, h'.2⟩
theorem group_f (a b c d : UInt8) (h : okB [a, b, c, d] = true) (k : Nat) : posthornref04_group.f (88 + k) ⟨#[a, b, c, d]⟩ = some (grp (valV a.toNat) (valV b.toNat) (valV c.toNat) (valV d.toNat)) := by
  obtain ⟨h1, h2, h3, h4⟩ := ok4_parts h
  obtain ⟨va, ra⟩ := okL_val h1
  obtain ⟨vb, rb⟩ := okL_val h2
  unfold posthornref04_group.f
  rw [if_pos (by show (3 : Int) < 4; decide), show 88 + k = (86 + k) + 1 + 1 from by omega, show bt ⟨#[a, b, c, d]⟩ 3 = (d.toNat : Int) from rfl]
  by_cases hc : (c.toNat : Int) = 61
  · obtain ⟨c0, c1⟩ := pad_val hc
    have hd : (d.toNat : Int) = 61 := by
      unfold ok4 at h4
      rw [if_pos hc] at h4
      exact of_decide_eq_true h4
    rw [if_pos hd, posthornref04_group.j0, if_pos (by show (2 : Int) < 4; decide), show bt ⟨#[a, b, c, d]⟩ 2 = (c.toNat : Int) from rfl, if_pos hc, posthornref04_group.j1, show (1 : Int) = ((1 : Nat) : Int) from rfl, group_all _ _ _ _ 1 (by decide), c1]
    unfold grp
    rw [if_pos rfl, b0_eq _ _ ra rb, va, vb]
    rfl
  · have c64 : valV c.toNat < 64 := (ok3_or h3).resolve_right hc
    obtain ⟨vc, rc⟩ := okL_val (decide_eq_true c64 : okL c = true)
    unfold ok4 at h4
    rw [if_neg hc] at h4
    by_cases hd : (d.toNat : Int) = 61
    · obtain ⟨d0, d1⟩ := pad_val hd
      rw [if_pos hd, posthornref04_group.j0, if_pos (by show (2 : Int) < 4; decide), show bt ⟨#[a, b, c, d]⟩ 2 = (c.toNat : Int) from rfl, if_neg hc, posthornref04_group.j1, show (2 : Int) = ((2 : Nat) : Int) from rfl, group_all _ _ _ _ 2 (by decide), d1]
      unfold grp
      rw [if_neg (by omega), if_pos rfl, b0_eq _ _ ra rb, b1_eq _ _ rb rc, va, vb, vc]
      rfl
    · have d64 : valV d.toNat < 64 := by
        rw [Bool.or_eq_true, Bool.and_eq_true, decide_eq_true_eq, decide_eq_true_eq] at h4
        rcases h4 with h4 | h4
        · exact h4
        · exact absurd h4.1 hd
      obtain ⟨vd, rd_⟩ := okL_val (decide_eq_true d64 : okL d = true)
      rw [if_neg hd, posthornref04_group.j0, if_pos (by show (2 : Int) < 4; decide), show bt ⟨#[a, b, c, d]⟩ 2 = (c.toNat : Int) from rfl, if_neg hc, posthornref04_group.j1, show (3 : Int) = ((3 : Nat) : Int) from rfl, group_all _ _ _ _ 3 (by decide)]
      unfold grp
      rw [if_neg (by omega), if_neg (by omega), b0_eq _ _ ra rb, b1_eq _ _ rb rc, b2_eq _ _ rc rd_, va, vb, vc, vd]
      rfl
theorem grp_len (p q r s : Int) : (grp p q r s).length ≤ 3 := by
  unfold grp
  repeat' split
  all_goals simp
theorem ref_l1 (t : ByteArray) (hs : t.size < 1099511627776) : ∀ (rest pre : List UInt8) (acc : List Int), t.data.toList = pre ++ rest → acc.length ≤ pre.length → refGo (ovB pre) pre.length rest = none → ∀ k : Nat, posthornref04_Unbase64.l1 (100 + rest.length + k) t acc (pre.length : Int) = some (acc ++ grps rest, 0, 0)
  | [], pre, acc, ht, ha, _, k => by
    have hsz := size_of t _ ht
    rw [List.append_nil] at hsz
    rw [show 100 + ([] : List UInt8).length + k = (99 + k) + 1 from by simp; omega, posthornref04_Unbase64.l1, if_neg (by omega)]
    simp [grps]
  | [a], _, _, _, _, h, _ => by
    rcases go_none h with h | ⟨_, _, _, _, _, h, _⟩ <;> simp at h
  | [a, b], _, _, _, _, h, _ => by
    rcases go_none h with h | ⟨_, _, _, _, _, h, _⟩ <;> simp at h
  | [a, b, c], _, _, _, _, h, _ => by
    rcases go_none h with h | ⟨_, _, _, _, _, h, _⟩ <;> simp at h
  | a :: b :: c :: d :: r, pre, acc, ht, ha, h, k => by
    have hsz := size_of t _ ht
    rw [List.length_append, show (a :: b :: c :: d :: r).length = r.length + 4 from rfl] at hsz
    obtain ⟨hok, hgo⟩ : okB [a, b, c, d] = true ∧ refGo (d == 61) (pre.length + 4) r = none := by
      rcases go_none h with h | ⟨a', b', c', d', r', he, _, h2, h3⟩
      · simp at h
      · injection he with e1 he
        injection he with e2 he
        injection he with e3 he
        injection he with e4 he
        subst e1 e2 e3 e4 he
        exact ⟨h2, h3⟩
    have w : wrap64 ((pre.length : Int) + 4) = ((pre.length + 4 : Nat) : Int) := by
      rw [uwrap _ (by omega) (by omega)]
      omega
    have ex : t.extract pre.length (pre.length + 4) = ⟨#[a, b, c, d]⟩ := ba_ext (by
      rw [Lib.extract_data, ht, List.drop_left' rfl, show pre.length + 4 - pre.length = 4 from by omega]
      rfl)
    have hg := grp_len (valV a.toNat) (valV b.toNat) (valV c.toNat) (valV d.toNat)
    rw [show 100 + (a :: b :: c :: d :: r).length + k = (103 + r.length + k) + 1 from by simp only [List.length_cons]; omega, posthornref04_Unbase64.l1, w, if_pos (by clear w; omega), if_pos (by clear w; omega), if_pos (by clear w; omega), if_pos (by clear w; omega), Int.toNat_natCast, Int.toNat_natCast, ex, show 103 + r.length + k = 88 + (15 + r.length + k) from by omega, group_f a b c d hok]
    show (if acc.length + (grp (valV a.toNat) (valV b.toNat) (valV c.toNat) (valV d.toNat)).length < 140737488355328 then posthornref04_Unbase64.l1 (88 + (15 + r.length + k)) t (acc ++ grp (valV a.toNat) (valV b.toNat) (valV c.toNat) (valV d.toNat)) ((pre.length + 4 : Nat) : Int) else none) = _
    rw [if_pos (by clear w; omega)]
    have ih := ref_l1 t hs r (pre ++ [a, b, c, d]) (acc ++ grp (valV a.toNat) (valV b.toNat) (valV c.toNat) (valV d.toNat)) (by rw [ht]; simp) (by
      rw [List.length_append, List.length_append]
      show acc.length + _ ≤ pre.length + 4
      clear w
      omega) (by
      rw [ov_four, show (pre ++ [a, b, c, d]).length = pre.length + 4 from by simp]
      exact hgo) (3 + k)
    rw [show (pre ++ [a, b, c, d]).length = pre.length + 4 from by simp, show 100 + r.length + (3 + k) = 88 + (15 + r.length + k) from by omega] at ih
    rw [ih, List.append_assoc]
    rfl
/-! ### the machine of four places -/
theorem take_err {s : St} {d : List Int} {c : UInt8} (h : nextV s.q1 s.q2 s.n s.over (valV c.toNat) ≠ 0) : (takeV s d c.toNat).2.2 ≠ 0 := by
  unfold takeV
  rw [if_pos h]
  exact h
theorem take_1 (x0 x1 x2 x3 : Int) (ov : Bool) (d : List Int) (a : UInt8) : ((!ov && okB [a]) = true → takeV ⟨x0, x1, x2, x3, 0, ov⟩ d a.toNat = (⟨valV a.toNat, x1, x2, x3, 1, ov⟩, d, 0)) ∧ (¬ (!ov && okB [a]) = true → (takeV ⟨x0, x1, x2, x3, 0, ov⟩ d a.toNat).2.2 ≠ 0) := by
  have hr := val_range a
  constructor
  · intro h
    rw [Bool.and_eq_true] at h
    have h1 : valV a.toNat < 64 := of_decide_eq_true h.2
    rw [take_low _ _ _ _ rfl hr.1 h1 (by cases ov <;> simp at h ⊢) (by show 0 < 3; decide)]
    rfl
  · intro h
    apply take_err
    show nextV x1 x2 0 ov (valV a.toNat) ≠ 0
    unfold nextV
    cases ov with
    | true => split <;> simp
    | false =>
      have h1 : ¬ valV a.toNat < 64 := fun h2 => h (by
        show (true && okL a) = true
        rw [Bool.true_and]
        exact decide_eq_true h2)
      split
      · simp
      · rw [if_neg (by decide), if_neg (by omega), if_neg (by omega), if_pos (by decide)]
        simp
theorem take_2 (x0 x1 x2 x3 : Int) (d : List Int) (b : UInt8) : (okL b = true → takeV ⟨x0, x1, x2, x3, 1, false⟩ d b.toNat = (⟨x0, valV b.toNat, x2, x3, 2, false⟩, d, 0)) ∧ (¬ okL b = true → (takeV ⟨x0, x1, x2, x3, 1, false⟩ d b.toNat).2.2 ≠ 0) := by
  have hr := val_range b
  constructor
  · intro h
    have h1 : valV b.toNat < 64 := of_decide_eq_true h
    rw [take_low _ _ _ _ rfl hr.1 h1 rfl (by show 1 < 3; decide)]
    rfl
  · intro h
    apply take_err
    show nextV x1 x2 1 false (valV b.toNat) ≠ 0
    have h1 : ¬ valV b.toNat < 64 := fun h2 => h (decide_eq_true h2)
    unfold nextV
    split
    · simp
    · rw [if_neg (by decide), if_neg (by omega), if_neg (by omega), if_pos (by decide)]
      simp
theorem take_3 (x0 x2 x3 : Int) (d : List Int) (b c : UInt8) : (ok3 b c = true → takeV ⟨x0, valV b.toNat, x2, x3, 2, false⟩ d c.toNat = (⟨x0, valV b.toNat, valV c.toNat, x3, 3, false⟩, d, 0)) ∧ (¬ ok3 b c = true → (takeV ⟨x0, valV b.toNat, x2, x3, 2, false⟩ d c.toNat).2.2 ≠ 0) := by
  have hr := val_range c
  constructor
  · intro h
    by_cases h1 : valV c.toNat < 64
    · rw [take_low _ _ _ _ rfl hr.1 h1 rfl (by show 2 < 3; decide)]
      rfl
    · unfold ok3 at h
      rw [decide_eq_false h1, Bool.false_or, Bool.and_eq_true, decide_eq_true_eq, decide_eq_true_eq] at h
      have h2 := (val_eq c).2 h.1
      rw [take_pad2 _ _ _ h2 rfl rfl h.2, h2]
      rfl
  · intro h
    apply take_err
    show nextV (valV b.toNat) x2 2 false (valV c.toNat) ≠ 0
    unfold ok3 at h
    have h1 : ¬ valV c.toNat < 64 := fun h2 => h (by rw [decide_eq_true h2]; rfl)
    rw [decide_eq_false h1, Bool.false_or, Bool.and_eq_true, decide_eq_true_eq, decide_eq_true_eq] at h
    unfold nextV
    split
    · simp
    · have h64 : valV c.toNat = 64 := by omega
      have h2 : ¬ valV b.toNat % 16 = 0 := fun h3 => h ⟨(val_eq c).1 h64, h3⟩
      rw [if_neg (by decide), if_neg (by omega), if_neg (by omega), if_neg (by decide), if_pos ⟨rfl, h2⟩]
      simp
theorem take_4 (x0 x1 x3 : Int) (dd : List Int) (c d : UInt8) (hc : valV c.toNat < 64 ∨ (c.toNat : Int) = 61) : (ok4 c d = true → takeV ⟨x0, x1, valV c.toNat, x3, 3, false⟩ dd d.toNat = (⟨x0, x1, valV c.toNat, valV d.toNat, 0, d == 61⟩, dd ++ grp x0 x1 (valV c.toNat) (valV d.toNat), 0)) ∧ (¬ ok4 c d = true → (takeV ⟨x0, x1, valV c.toNat, x3, 3, false⟩ dd d.toNat).2.2 ≠ 0) := by
  have hr := val_range d
  have e61 : (d == 61) = decide ((d.toNat : Int) = 61) := by
    by_cases hd : (d.toNat : Int) = 61
    · rw [decide_eq_true hd]
      have : d = 61 := UInt8.toNat_inj.1 (by show d.toNat = 61; omega)
      rw [this]
      rfl
    · rw [decide_eq_false hd]
      exact beq_eq_false_iff_ne.2 (fun h => hd (by rw [h]; rfl))
  constructor
  · intro h
    unfold ok4 at h
    by_cases hc2 : (c.toNat : Int) = 61
    · rw [if_pos hc2, decide_eq_true_eq] at h
      have h64 := (val_eq d).2 h
      rw [take_pad3 _ _ _ h64 rfl rfl (Or.inl ((val_eq c).2 hc2)), h64, e61, decide_eq_true h]
    · rw [if_neg hc2] at h
      have c64 := hc.resolve_right hc2
      by_cases h1 : valV d.toNat < 64
      · have hd : ¬ (d.toNat : Int) = 61 := fun h2 => by
          have := (val_eq d).2 h2
          omega
        rw [take_four _ _ _ _ rfl hr.1 h1 rfl rfl (by show valV c.toNat ≠ 64; omega), e61, decide_eq_false hd]
      · rw [decide_eq_false h1, Bool.false_or, Bool.and_eq_true, decide_eq_true_eq, decide_eq_true_eq] at h
        have h64 := (val_eq d).2 h.1
        rw [take_pad3 _ _ _ h64 rfl rfl (Or.inr h.2), h64, e61, decide_eq_true h.1]
  · intro h
    apply take_err
    show nextV x1 (valV c.toNat) 3 false (valV d.toNat) ≠ 0
    unfold ok4 at h
    unfold nextV
    split
    · simp
    · rename_i h65
      rw [if_neg (by decide)]
      by_cases hc2 : (c.toNat : Int) = 61
      · rw [if_pos hc2, decide_eq_true_eq] at h
        have h64 : ¬ valV d.toNat = 64 := fun h2 => h ((val_eq d).1 h2)
        rw [if_pos ⟨rfl, (val_eq c).2 hc2⟩, if_pos h64]
        simp
      · rw [if_neg hc2] at h
        have h1 : ¬ valV d.toNat < 64 := fun h2 => h (by rw [decide_eq_true h2]; rfl)
        rw [decide_eq_false h1, Bool.false_or, Bool.and_eq_true, decide_eq_true_eq, decide_eq_true_eq] at h
        have h64 : valV d.toNat = 64 := by omega
        have h4 : ¬ valV c.toNat % 4 = 0 := fun h3 => h ⟨(val_eq d).1 h64, h3⟩
        have c64 := hc.resolve_right hc2
        rw [if_neg (by omega), if_neg (by omega), if_neg (by decide), if_neg (by omega), if_pos ⟨rfl, h4⟩]
        simp
theorem un_step {c : UInt8} {r : List UInt8} {i : Nat} {s s' : St} {d d' : List Int} (h : takeV s d c.toNat = (s', d', 0)) : unGo (c :: r) i s d = unGo r (i + 1) s' d' := by
  rw [unGo_cons, h]
  rfl
theorem un_err {c : UInt8} {r : List UInt8} {i : Nat} {s : St} {d : List Int} (h : (takeV s d c.toNat).2.2 ≠ 0) : ∃ er, er ≠ 0 ∧ unGo (c :: r) i s d = ([], er, i) := by
  refine ⟨_, h, ?_⟩
  rw [unGo_cons, if_pos h]
theorem un_go : ∀ (rest : List UInt8) (i : Nat) (x0 x1 x2 x3 : Int) (ov : Bool) (d : List Int), (∀ j, refGo ov i rest = some j → ∃ er, er ≠ 0 ∧ unGo rest i ⟨x0, x1, x2, x3, 0, ov⟩ d = ([], er, j)) ∧ (refGo ov i rest = none → unGo rest i ⟨x0, x1, x2, x3, 0, ov⟩ d = (d ++ grps rest, 0, 0))
  | [], i, x0, x1, x2, x3, ov, d => by
    refine ⟨fun j h => by simp [refGo] at h, fun _ => ?_⟩
    rw [unGo_nil]
    simp [grps]
  | [a], i, x0, x1, x2, x3, ov, dd => by
    rw [show refGo ov i [a] = if (!ov && okB [a]) = true then some (i + 1) else some i from rfl]
    obtain ⟨a1, a2⟩ := take_1 x0 x1 x2 x3 ov dd a
    by_cases h1 : (!ov && okB [a]) = true
    · rw [if_pos h1, un_step (a1 h1)]
      exact ⟨fun j h => ⟨41, by decide, by injection h with h; rw [← h]; rfl⟩, fun h => by simp at h⟩
    · rw [if_neg h1]
      exact ⟨fun j h => by injection h with h; rw [← h]; exact un_err (a2 h1), fun h => by simp at h⟩
  | [a, b], i, x0, x1, x2, x3, ov, dd => by
    rw [show refGo ov i [a, b] = if (!ov && okB [a]) = true then (if okB [a, b] = true then some (i + 2) else some (i + 1)) else some i from rfl]
    obtain ⟨a1, a2⟩ := take_1 x0 x1 x2 x3 ov dd a
    by_cases h1 : (!ov && okB [a]) = true
    · obtain ⟨ho, ha⟩ := Bool.and_eq_true _ _ ▸ h1
      have hov : ov = false := by cases ov <;> simp at ho ⊢
      subst hov
      obtain ⟨b1, b2⟩ := take_2 (valV a.toNat) x1 x2 x3 dd b
      rw [if_pos h1, un_step (a1 h1)]
      have e2 : okB [a, b] = okL b := by
        show (okL a && okL b) = okL b
        rw [show okL a = true from ha, Bool.true_and]
      rw [e2]
      by_cases h2 : okL b = true
      · rw [if_pos h2, un_step (b1 h2)]
        exact ⟨fun j h => ⟨41, by decide, by injection h with h; rw [← h]; rfl⟩, fun h => by simp at h⟩
      · rw [if_neg h2]
        exact ⟨fun j h => by injection h with h; rw [← h]; exact un_err (b2 h2), fun h => by simp at h⟩
    · rw [if_neg h1]
      exact ⟨fun j h => by injection h with h; rw [← h]; exact un_err (a2 h1), fun h => by simp at h⟩
  | [a, b, c], i, x0, x1, x2, x3, ov, dd => by
    rw [show refGo ov i [a, b, c] = if (!ov && okB [a]) = true then (if okB [a, b] = true then (if okB [a, b, c] = true then some (i + 3) else some (i + 2)) else some (i + 1)) else some i from rfl]
    obtain ⟨a1, a2⟩ := take_1 x0 x1 x2 x3 ov dd a
    by_cases h1 : (!ov && okB [a]) = true
    · obtain ⟨ho, ha⟩ := Bool.and_eq_true _ _ ▸ h1
      have hov : ov = false := by cases ov <;> simp at ho ⊢
      subst hov
      obtain ⟨b1, b2⟩ := take_2 (valV a.toNat) x1 x2 x3 dd b
      obtain ⟨c1, c2⟩ := take_3 (valV a.toNat) x2 x3 dd b c
      rw [if_pos h1, un_step (a1 h1)]
      have e2 : okB [a, b] = okL b := by
        show (okL a && okL b) = okL b
        rw [show okL a = true from ha, Bool.true_and]
      rw [e2]
      by_cases h2 : okL b = true
      · rw [if_pos h2, un_step (b1 h2)]
        have e3 : okB [a, b, c] = ok3 b c := by
          show (okL a && okL b && ok3 b c) = ok3 b c
          rw [show okL a = true from ha, h2]
          rfl
        rw [e3]
        by_cases h3 : ok3 b c = true
        · rw [if_pos h3, un_step (c1 h3)]
          exact ⟨fun j h => ⟨41, by decide, by injection h with h; rw [← h]; rfl⟩, fun h => by simp at h⟩
        · rw [if_neg h3]
          exact ⟨fun j h => by injection h with h; rw [← h]; exact un_err (c2 h3), fun h => by simp at h⟩
      · rw [if_neg h2]
        exact ⟨fun j h => by injection h with h; rw [← h]; exact un_err (b2 h2), fun h => by simp at h⟩
    · rw [if_neg h1]
      exact ⟨fun j h => by injection h with h; rw [← h]; exact un_err (a2 h1), fun h => by simp at h⟩
  | a :: b :: c :: d :: r, i, x0, x1, x2, x3, ov, dd => by
    rw [show refGo ov i (a :: b :: c :: d :: r) = if (!ov && okB [a]) = true then (if okB [a, b] = true then (if okB [a, b, c] = true then (if okB [a, b, c, d] = true then refGo (d == 61) (i + 4) r else some (i + 3)) else some (i + 2)) else some (i + 1)) else some i from rfl]
    obtain ⟨a1, a2⟩ := take_1 x0 x1 x2 x3 ov dd a
    by_cases h1 : (!ov && okB [a]) = true
    · obtain ⟨ho, ha⟩ := Bool.and_eq_true _ _ ▸ h1
      have hov : ov = false := by cases ov <;> simp at ho ⊢
      subst hov
      obtain ⟨b1, b2⟩ := take_2 (valV a.toNat) x1 x2 x3 dd b
      obtain ⟨c1, c2⟩ := take_3 (valV a.toNat) x2 x3 dd b c
      rw [if_pos h1, un_step (a1 h1)]
      have e2 : okB [a, b] = okL b := by
        show (okL a && okL b) = okL b
        rw [show okL a = true from ha, Bool.true_and]
      rw [e2]
      by_cases h2 : okL b = true
      · rw [if_pos h2, un_step (b1 h2)]
        have e3 : okB [a, b, c] = ok3 b c := by
          show (okL a && okL b && ok3 b c) = ok3 b c
          rw [show okL a = true from ha, h2]
          rfl
        rw [e3]
        by_cases h3 : ok3 b c = true
        · rw [if_pos h3, un_step (c1 h3)]
          obtain ⟨d1, d2⟩ := take_4 (valV a.toNat) (valV b.toNat) x3 dd c d (ok3_or h3)
          have e4 : okB [a, b, c, d] = ok4 c d := by
            show (okL a && okL b && ok3 b c && ok4 c d) = ok4 c d
            rw [show okL a = true from ha, h2, h3]
            rfl
          rw [e4]
          by_cases h4 : ok4 c d = true
          · rw [if_pos h4, un_step (d1 h4)]
            obtain ⟨i1, i2⟩ := un_go r (i + 4) (valV a.toNat) (valV b.toNat) (valV c.toNat) (valV d.toNat) (d == 61) (dd ++ grp (valV a.toNat) (valV b.toNat) (valV c.toNat) (valV d.toNat))
            refine ⟨i1, fun h => ?_⟩
            rw [show grps (a :: b :: c :: d :: r) = grp (valV a.toNat) (valV b.toNat) (valV c.toNat) (valV d.toNat) ++ grps r from rfl, ← List.append_assoc]
            exact i2 h
          · rw [if_neg h4]
            exact ⟨fun j h => by injection h with h; rw [← h]; exact un_err (d2 h4), fun h => by simp at h⟩
        · rw [if_neg h3]
          exact ⟨fun j h => by injection h with h; rw [← h]; exact un_err (c2 h3), fun h => by simp at h⟩
      · rw [if_neg h2]
        exact ⟨fun j h => by injection h with h; rw [← h]; exact un_err (b2 h2), fun h => by simp at h⟩
    · rw [if_neg h1]
      exact ⟨fun j h => by injection h with h; rw [← h]; exact un_err (a2 h1), fun h => by simp at h⟩
theorem unb_ref (t : ByteArray) (hs : t.size < 1099511627776) : ∃ k er a, posthornref04_Unbase64.f k t = some ((unV t.data.toList).1, er, a) ∧ (er = 0 ↔ (unV t.data.toList).2.1 = 0) := by
  obtain ⟨r1, r2⟩ := ref_l0 t hs t.data.toList [] rfl rfl (9 + t.data.toList.length)
  obtain ⟨u1, u2⟩ := un_go t.data.toList 0 0 0 0 0 false []
  have eo : ovB [] = false := rfl
  rw [eo, show ([] : List UInt8).length = 0 from rfl] at r1 r2
  cases h : refGo false 0 t.data.toList with
  | some j =>
    obtain ⟨er, he, hl⟩ := r1 j h
    obtain ⟨er2, he2, hu⟩ := u1 j h
    have hv : unV t.data.toList = ([], er2, j) := hu
    rw [hv]
    exact ⟨_, er, _, hl, ⟨fun e => absurd e he, fun e => absurd e he2⟩⟩
  | none =>
    have hl := r2 h
    have hu := u2 h
    have h1 := ref_l1 t hs t.data.toList [] [] rfl (by simp) (by rw [eo]; exact h) 0
    rw [show 91 + (9 + t.data.toList.length) = 100 + t.data.toList.length + 0 from by omega] at hl
    have hv : unV t.data.toList = ([] ++ grps t.data.toList, 0, 0) := hu
    rw [hv]
    exact ⟨_, 0, 0, hl.trans h1, ⟨fun _ => rfl, fun _ => rfl⟩⟩
end Go.Proofs.YticjpjgfccbhlaaDoor.Code
