/- sasl: all takes under one contract; the exchange as a heap block; read. -/
import Derived.Test.YticjpjgfccbhlaaPlain
namespace Go.Proofs.Yticjpjgfccbhlaa.Sasl
open Go.RowKit Go.Proofs.YticjpjgfccbhlaaW.PrintWords Go.Proofs.YticjpjgfccbhlaaW.PrintLast Go.Proofs.YticjpjgfccbhlaaW.PrintMore Go.Proofs.Yticjpjgfccbhlaa.PSaslBoth Go.Proofs.Yticjpjgfccbhlaa.Hash
attribute [local go_sem] max2_int min2_int max_two min_two max_three min_three max_four min_four
set_option linter.unusedVariables false
set_option linter.unusedSimpArgs false
/-- where all of this may be called: the tables, strings.Split, and what lies below B stays -/
structure Env (T S : Nat → Int) (B : Nat) (w : World) : Prop where
  tabs : Tabs T S w
  splits : ∀ (a : ByteArray) (W : World), a.size < 4294967281 → Below B w W → Calls Try.prog 118 #[.string a, .string ⟨#[0]⟩] W fun e w' =>
      e = .returned (.slice (some ⟨W.heap.size, 0, none⟩) (Lib.countB a ⟨#[0]⟩ + 1) (Lib.countB a ⟨#[0]⟩ + 1)) ∧ w' = W.alloc (.cells ((splitL a).map Value.string).toArray 9)
  two : 3 ≤ B
  size : B ≤ w.heap.size
theorem Env.below {T S : Nat → Int} {B : Nat} {w w1 : World} (h : Env T S B w) (hb : Below B w w1) : Env T S B w1 :=
  ⟨h.tabs.below hb h.two, fun a W ha hB => h.splits a W ha (hb.trans hB), h.two, Nat.le_trans h.size hb.size⟩
theorem Env.sp {T S : Nat → Int} {B : Nat} {w : World} (h : Env T S B w) : Splits w := fun a W ha hB => h.splits a W ha (hB.mono h.size)
theorem Env.of_cell {T S : Nat → Int} {B : Nat} {w : World} (m : Int) (ht : Tabs T S w) (hm : w.cell? ⟨0, 0, none⟩ = some (.int .i64 m)) (h3 : 3 ≤ B) (hs : B ≤ w.heap.size) : Env T S B w :=
  ⟨ht, fun a W ha hB => Try.strings_Split a ⟨#[0]⟩ m W ha ((hB.cell (by show 0 < B; omega)).trans hm) (by decide), by omega, hs⟩
def Stp.fn : Stp → Nat
  | .plain => 117
  | .login => 132
  | .word _ => 137
  | .cram _ => 97
def Stp.fa : Stp → Nat
  | .plain => 116
  | .login => 131
  | .word _ => 136
  | .cram _ => 96
def Stp.ty : Stp → Nat
  | .plain => 85
  | .login => 86
  | .word _ => 170
  | .cram _ => 64
def Stp.recv : Stp → Value
  | .plain => .agg #[]
  | .login => .agg #[]
  | .word n => .agg #[.string n]
  | .cram s => .agg #[.string s]
theorem Stp.val_eq (s : Stp) : s.val = .iface s.ty s.recv := by cases s <;> rfl
theorem meth_take (s : Stp) (W : World) : (method 283 s.ty s.recv "posthorn/sasl.take").run Try.prog W = .ok (s.fn, s.recv) W := by cases s <;> kernel_rfl
theorem meth_asks (s : Stp) (W : World) : (method 283 s.ty s.recv "posthorn/sasl.asks").run Try.prog W = .ok (s.fa, s.recv) W := by cases s <;> kernel_rfl
theorem asks_calls (s : Stp) (w : World) : Calls Try.prog s.fa #[s.recv] w fun e w' => e = .returned (.string s.ask) ∧ Below w.heap.size w w' := by
  cases s
  · exact asks_plain w
  · exact asks_login w
  · exact asks_word _ w
  · exact asks_cram _ w
/-- what comes of an answer: the next step, who, whether it was right, the error -/
structure Took where
  next : Option Stp
  name : ByteArray
  right : Bool
  er : Int
def plainT (us : List S40) : List ByteArray → Took
  | [l0, l1, l2] => ⟨none, l1, decide (l0 = ⟨#[]⟩ ∨ l0 = l1) && pairedV us l1 l2, 0⟩
  | _ => ⟨none, ⟨#[]⟩, false, 221⟩
theorem plainT_bad (us : List S40) : ∀ l : List ByteArray, l.length ≠ 3 → plainT us l = ⟨none, ⟨#[]⟩, false, 221⟩
  | [], _ => rfl
  | [_], _ => rfl
  | [_, _], _ => rfl
  | [_, _, _], h => absurd rfl h
  | _ :: _ :: _ :: _ :: _, _ => rfl
def takeV (T S : Nat → Int) (us : List S40) (s : Stp) (a : ByteArray) : Took :=
  match s with
  | .plain => plainT us (splitL a)
  | .login => ⟨some (.word a), ⟨#[]⟩, false, 0⟩
  | .word n => ⟨none, n, pairedV us n a, 0⟩
  | .cram st => if lastSp a = -1 then ⟨none, ⟨#[]⟩, false, 221⟩ else ⟨none, a.extract 0 (lastSp a).toNat, shownV T S us st (a.extract 0 (lastSp a).toNat) (a.extract ((lastSp a).toNat + 1) a.size), 0⟩
def Took.val (r : Took) : Value := .tuple #[stpO r.next, .string r.name, .bool r.right, .int .i64 r.er]
/-- users and step of sizes that can be -/
def OkUs (us : List S40) : Prop := us.length ≤ 1000000000 ∧ ∀ u ∈ us, u.f1.size ≤ 100000000
def OkStp : Stp → Prop
  | .cram s => s.size ≤ 100000000
  | _ => True
theorem take_calls {T S : Nat → Int} {B : Nat} (s : Stp) (A : Option Addr) (n c : Nat) (us : List S40) (a : ByteArray) (w : World) (he : Env T S B w) (hC : Kd.C k40 w A n us) (hn : us.length = n) (hc : n ≤ c) (hu : OkUs us) (hs : OkStp s) (ha : a.size ≤ 1000000000) :
    Calls Try.prog s.fn #[s.recv, .slice A n c, .string a] w fun e w' => e = .returned (takeV T S us s a).val ∧ Below w.heap.size w w' := by
  cases s with
  | plain =>
    unfold takeV
    by_cases h3 : (splitL a).length = 3
    · obtain ⟨l0, l1, l2, hl⟩ : ∃ l0 l1 l2, splitL a = [l0, l1, l2] := by
        match hl : splitL a, h3 with
        | [l0, l1, l2], _ => exact ⟨l0, l1, l2, rfl⟩
      simp only [hl]
      exact take_plain_good a l0 l1 l2 A n c us w he.sp hl ha hC hn hc (hn ▸ hu.1)
    · simp only [plainT_bad us _ h3]
      exact take_plain_bad a _ w he.sp h3 ha
  | login => exact take_login _ a w
  | word nm => exact take_word nm A n c us a w hC hn hc (hn ▸ hu.1)
  | cram st =>
    unfold takeV
    rcases lastSp_cases a with h | ⟨i, h1, h2⟩
    · simp only [if_pos h]
      exact take_cram_bad st a _ w h ha
    · simp only [if_neg (show lastSp a ≠ -1 by omega)]
      rw [h2, Int.toNat_natCast]
      exact take_cram_good st a i A n c us w he.tabs h2 h1 ha hs hC hn hc (hn ▸ hu.1) hu.2
end Go.Proofs.Yticjpjgfccbhlaa.Sasl
