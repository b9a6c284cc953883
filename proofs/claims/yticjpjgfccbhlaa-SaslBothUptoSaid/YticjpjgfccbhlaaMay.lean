/- sasl: the law's may by contract. -/
import Derived.Test.YticjpjgfccbhlaaResp
namespace Go.Proofs.Yticjpjgfccbhlaa.Sasl
open Go.RowKit Go.Proofs.YticjpjgfccbhlaaW.PrintWords Go.Proofs.YticjpjgfccbhlaaW.PrintLast Go.Proofs.YticjpjgfccbhlaaW.PrintMore Go.Proofs.Yticjpjgfccbhlaa.PSaslBoth Go.Proofs.Yticjpjgfccbhlaa.Hash
set_option linter.unusedVariables false
set_option linter.unusedSimpArgs false
theorem noAny_of_not {l chars : List UInt8} (h : Lib.containsAny l chars = false) : Lib.NoAny l chars l.length := by
  have h0 : Lib.indexAny l chars < 0 := by
    unfold Lib.containsAny at h
    have := of_decide_eq_false h
    omega
  clear h
  induction l with
  | nil => exact fun j b hj hb => by simp at hb
  | cons a l ih =>
    rw [Lib.indexAny] at h0
    by_cases c : chars.contains a = true
    · rw [if_pos c] at h0; omega
    · rw [if_neg c] at h0
      have h1 : Lib.indexAny l chars < 0 := by
        have := Lib.indexAny_ge chars l
        by_cases d : (Lib.indexAny l chars == -1) = true
        · have := beq_iff_eq.1 d; omega
        · rw [if_neg d] at h0; omega
      intro j b hj hb
      cases j with
      | zero => simp at hb; subst hb; simpa using c
      | succ j => exact ih h1 j b (by simp at hj; omega) (by simpa using hb)
theorem containsAny_of_hit {l chars : List UInt8} {i : Nat} {x : UInt8} (hn : Lib.NoAny l chars i) (hx : l[i]? = some x) (hc : chars.contains x = true) : Lib.containsAny l chars = true := by
  unfold Lib.containsAny
  rw [Lib.indexAny_hit hn hx hc]
  simp
theorem containsAny_none {l chars : List UInt8} (hn : Lib.NoAny l chars l.length) : Lib.containsAny l chars = false := by
  unfold Lib.containsAny
  rw [Lib.indexAny_none hn]
  rfl
theorem containsAny_append (a b chars : List UInt8) : Lib.containsAny (a ++ b) chars = (Lib.containsAny a chars || Lib.containsAny b chars) := by
  have key : ∀ l : List UInt8, Lib.containsAny l chars = l.any (fun x => chars.contains x) := by
    intro l
    cases h : l.any (fun x => chars.contains x) with
    | false =>
      refine containsAny_none fun j b hj hb => ?_
      have hm := List.mem_of_getElem? hb
      cases hc : chars.contains b with
      | false => rfl
      | true => rw [List.any_eq_true.2 ⟨b, hm, hc⟩] at h; cases h
    | true =>
      cases hc : Lib.containsAny l chars with
      | true => rfl
      | false =>
        obtain ⟨x, hm, hx⟩ := List.any_eq_true.1 h
        obtain ⟨j, hj, e⟩ := List.mem_iff_getElem.1 hm
        have := noAny_of_not hc j x hj (by rw [List.getElem?_eq_getElem hj, e])
        rw [this] at hx; cases hx
  rw [key, key, key, List.any_append]
theorem clean_append (a b : ByteArray) : clean (a ++ b) = (clean a && clean b) := by
  unfold clean
  have e : (a ++ b).data.toList = a.data.toList ++ b.data.toList := by
    rw [← ByteArray.append_eq]
    simp
  rw [e, containsAny_append, Bool.not_or]
set_option maxHeartbeats 8000000 in
set_option maxRecDepth 100000 in
theorem lawMay_calls (n s : ByteArray) (w : World) (hn : n.size ≤ 1000000000) (hs : s.size ≤ 1000000000) :
    Calls Try.prog 22 #[.agg #[.string n, .string s]] w fun e w' => e = .returned (.bool (okUser n s)) ∧ Below w.heap.size w w' := by
  obtain ⟨W0, hW0⟩ : ∃ W0, W0 = w.alloc (.cells #[.string n, .string s] 41) := ⟨_, rfl⟩
  have hb0 : Below w.heap.size w W0 := hW0 ▸ (Below.refl _ _).alloc (Nat.le_refl _) _
  have hblk : W0.heap[w.heap.size]? = some (.cells #[.string n, .string s] 41 (0, 0)) := hW0 ▸ heap_alloc_new w _
  have y0 := blk_cell hblk 0
  have y1 := blk_cell hblk 1
  simp only [List.getElem?_toArray, List.getElem?_cons_succ, List.getElem?_cons_zero] at y0 y1
  by_cases hl : 1 ≤ n.size ∧ n.size ≤ 64 ∧ 1 ≤ s.size ∧ s.size ≤ 256
  · obtain ⟨t, ht⟩ : ∃ t, t = n ++ s := ⟨_, rfl⟩
    have q1 : decide ((n.size : Int) < 1) = false := decide_eq_false (by omega)
    have q2 : decide (64 < (n.size : Int)) = false := decide_eq_false (by omega)
    have q3 : decide ((s.size : Int) < 1) = false := decide_eq_false (by omega)
    have q4 : decide (256 < (s.size : Int)) = false := decide_eq_false (by omega)
    have hv := Lib.hid (show okUser n s = clean t by
      unfold okUser okT
      rw [decide_eq_true hl.1, decide_eq_true hl.2.1, decide_eq_true hl.2.2.1, decide_eq_true hl.2.2.2, ht, clean_append]
      simp)
    have hts : t.size ≤ 320 := by rw [ht, ByteArray.size_append]; omega
    have HB0 := Lib.hid hb0
    have HTS := Lib.hid hts
    have happ : n ++ s = t := ht.symm
    have hW1 : w.alloc (.cells #[.string n, .string s] 41) = W0 := hW0.symm
    clear hl hb0 hblk hW0 hts ht
    go_enter Try.func22, Try.ntmps22
    go_wp2
    go_loopg [4] t.size (fun g v wx => ∃ i : Nat, i + g = t.size ∧ v = .int .i64 i ∧ wx = W0 ∧ Lib.NoAny t.data.toList [0, 13, 10] i)
    case atStart => exact ⟨0, by omega, rfl, rfl, Lib.NoAny.zero _ _⟩
    case round =>
      obtain ⟨i, hig, rfl, rfl, hno⟩ := hrel
      have HN := Lib.hid hno
      clear hno
      cases gk with
      | zero =>
        obtain rfl : i = t.size := by omega
        have q := decide_eq_false (Int.lt_irrefl (t.size : Int))
        go_wp2
        go_ret
        exact ⟨by rw [hv.out, clean, containsAny_none (by rw [← Lib.size_eq]; exact HN.out)]; rfl, HB0.out⟩
      | succ g =>
        have hi : i < t.size := by omega
        have hts := HTS.out
        obtain ⟨x, hx⟩ : ∃ x : UInt8, t[i]'hi = x := ⟨_, rfl⟩
        have hxl := Lib.hid (show t.data.toList[i]? = some x by rw [← hx]; exact Lib.data_getElem? t i hi)
        cases hin : ([0, 13, 10] : List UInt8).contains x
        · have hne : x ≠ 0 ∧ x ≠ 13 ∧ x ≠ 10 := by simpa using hin
          have n0 : ((x.toNat : Int) == 0) = false := beq_eq_false_iff_ne.2 (fun e => hne.1 (UInt8.toNat_inj.1 (show x.toNat = (0 : UInt8).toNat by simpa using e)))
          have n1 : ((x.toNat : Int) == 13) = false := beq_eq_false_iff_ne.2 (fun e => hne.2.1 (UInt8.toNat_inj.1 (show x.toNat = 13 by omega)))
          have n2 : ((x.toNat : Int) == 10) = false := beq_eq_false_iff_ne.2 (fun e => hne.2.2 (UInt8.toNat_inj.1 (show x.toNat = 10 by omega)))
          clear hne
          go_wp2
          go_roundg g
          case measure => omega
          case rel => exact ⟨i + 1, by omega, by first | rfl | (congr 1; unfold wrap64; omega) | (congr 1; omega), rfl, HN.out.succ hxl.out hin⟩
        · have hor : (((x.toNat : Int) == 0) || ((x.toNat : Int) == 10) || ((x.toNat : Int) == 13)) = true := by
            have : x = 0 ∨ x = 13 ∨ x = 10 := by simpa using hin
            rcases this with rfl | rfl | rfl <;> rfl
          have HV := Lib.hid (show okUser n s = false by rw [hv.out, clean, containsAny_of_hit HN.out hxl.out hin]; rfl)
          cases m0 : ((x.toNat : Int) == 0) <;> cases m1 : ((x.toNat : Int) == 10) <;> cases m2 : ((x.toNat : Int) == 13)
          case false.false.false => rw [m0, m1, m2] at hor; cases hor
          all_goals
            clear hor
            go_wp2
            go_ret
            exact ⟨by rw [HV.out]; rfl, HB0.out⟩
  · have HB0 := Lib.hid hb0
    have hW1 : w.alloc (.cells #[.string n, .string s] 41) = W0 := hW0.symm
    have hv := Lib.hid (show okUser n s = false by
      unfold okUser okT
      by_cases a : 1 ≤ n.size ∧ n.size ≤ 64
      · by_cases b : 1 ≤ s.size ∧ s.size ≤ 256
        · exact absurd ⟨a.1, a.2, b.1, b.2⟩ hl
        · have : (decide (1 ≤ s.size) && (decide (s.size ≤ 256) && clean s)) = false := by
            by_cases c : 1 ≤ s.size
            · rw [decide_eq_false (by omega : ¬ s.size ≤ 256)]; simp
            · rw [decide_eq_false c]; simp
          rw [this, Bool.and_false]
      · have : (decide (1 ≤ n.size) && (decide (n.size ≤ 64) && clean n)) = false := by
          by_cases c : 1 ≤ n.size
          · rw [decide_eq_false (by omega : ¬ n.size ≤ 64)]; simp
          · rw [decide_eq_false c]; simp
        rw [this, Bool.false_and])
    have hor : (decide ((n.size : Int) < 1) || decide (64 < (n.size : Int)) || decide ((s.size : Int) < 1) || decide (256 < (s.size : Int))) = true := by
      simp only [Bool.or_eq_true, decide_eq_true_eq]
      omega
    clear hl hn hs hb0 hblk hW0
    cases q1 : decide ((n.size : Int) < 1) <;> cases q2 : decide (64 < (n.size : Int)) <;> cases q3 : decide ((s.size : Int) < 1) <;> cases q4 : decide (256 < (s.size : Int))
    case false.false.false.false => rw [q1, q2, q3, q4] at hor; cases hor
    all_goals
      clear hor
      go_enter Try.func22, Try.ntmps22
      go_wp2
      go_ret
      exact ⟨by rw [hv.out]; rfl, HB0.out⟩
end Go.Proofs.Yticjpjgfccbhlaa.Sasl
