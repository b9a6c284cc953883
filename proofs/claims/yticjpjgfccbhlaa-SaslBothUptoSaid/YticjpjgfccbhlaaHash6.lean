/- hash: a Hash by its value; Md5 by contract. -/
import Derived.Test.YticjpjgfccbhlaaHash5
namespace Go.Proofs.Yticjpjgfccbhlaa.Hash
open Go.RowKit Go.Proofs.YticjpjgfccbhlaaW.PrintWords Go.Proofs.YticjpjgfccbhlaaW.PrintLast Go.Proofs.YticjpjgfccbhlaaW.PrintMore Go.Proofs.Yticjpjgfccbhlaa.PSaslBoth
attribute [local go_sem] max2_int min2_int max_two min_two max_three min_three max_four min_four
set_option linter.unusedVariables false
set_option linter.unusedSimpArgs false
/-- the tables lie in the world -/
structure Tabs (T S : Nat → Int) (w : World) : Prop where
  t : ∀ j, j < 64 → w.cell? ⟨1, j, none⟩ = some (.int .u32 (T j))
  s : ∀ j, j < 16 → w.cell? ⟨2, j, none⟩ = some (.int .u8 (S j))
  p : ∀ j, j < 16 → 0 ≤ S j
theorem Tabs.size {T S : Nat → Int} {w : World} (h : Tabs T S w) : 3 ≤ w.heap.size := by
  have h1 : 2 < w.heap.size := World.block_lt_of_cell? w _ (h.s 0 (by decide))
  omega
theorem Tabs.below {T S : Nat → Int} {w w1 : World} {B : Nat} (h : Tabs T S w) (hb : Below B w w1) (hB : 3 ≤ B) : Tabs T S w1 :=
  ⟨fun j hj => (hb.cell (show 1 < B by omega)).trans (h.t j hj), fun j hj => (hb.cell (show 2 < B by omega)).trans (h.s j hj), h.p⟩
theorem Tabs.near {T S : Nat → Int} {w w1 : World} {g : Nat} (h : Tabs T S w) (hn : Near g w w1) (hg : 3 ≤ g) : Tabs T S w1 :=
  ⟨fun j hj => hn.cell (h.t j hj) (by omega), fun j hj => hn.cell (h.s j hj) (by omega), h.p⟩
/-- a Hash's value: the register, the bytes that wait, how many there were -/
abbrev HV := Four × List Int × Int
def newV : HV := (firstV, [], 0)
def writeV (T S : Nat → Int) (h : HV) (b : List Int) : HV := ((eatV T S (h.2.1 ++ b).length h.1 (h.2.1 ++ b)).1, (eatV T S (h.2.1 ++ b).length h.1 (h.2.1 ++ b)).2, wrap64 (h.2.2 + (b.length : Int)))
def sumD (T S : Nat → Int) (h : HV) : Nat → Int := digB (eatV T S (padV h.2.1 h.2.2).length h.1 (padV h.2.1 h.2.2)).1
/-- a Hash lies at a block -/
def HashAt (w : World) (g lo : Nat) (h : HV) : Prop := ∃ A c, w.heap[g]? = some (.cells (hashCells h.1 (.slice A h.2.1.length c) h.2.2) 161 (0, 0)) ∧ Kd.C (Kd.int .u8) w A h.2.1.length h.2.1 ∧ h.2.1.length ≤ c ∧ h.2.1.length < 64 ∧ (∀ ad, A = some ad → 0 < h.2.1.length → lo ≤ ad.block ∧ ad.block ≠ g)
theorem HashAt.lt {w : World} {g lo : Nat} {h : HV} (hh : HashAt w g lo h) : g < w.heap.size := by
  obtain ⟨A, c, h1, _⟩ := hh
  exact blk_lt h1
theorem HashAt.below {w w1 : World} {g lo : Nat} {h : HV} (hh : HashAt w g lo h) (hb : Below w.heap.size w w1) : HashAt w1 g lo h := by
  obtain ⟨A, c, h1, h2, h3, h4, h5⟩ := hh
  exact ⟨A, c, (hb.block g (blk_lt h1)).trans h1, Kd.C_below h2 hb, h3, h4, h5⟩
theorem HashAt.near {w w1 : World} {g lo g2 : Nat} {h : HV} (hh : HashAt w g lo h) (hn : Near g2 w w1) (hne : g ≠ g2) (hlo : g2 < lo ∨ h.2.1 = []) : HashAt w1 g lo h := by
  obtain ⟨A, c, h1, h2, h3, h4, h5⟩ := hh
  refine ⟨A, c, (hn.block g (blk_lt h1) hne).trans h1, C_near hn h2 (fun ad he h0 => ?_), h3, h4, h5⟩
  rcases hlo with hlo | hlo
  · have := (h5 ad he h0).1
    omega
  · rw [hlo] at h0
    simp at h0
theorem new_at (w : World) : Calls Try.prog 106 #[] w fun e w' => ∃ g, e = .returned (.pointer (some ⟨g, 0, none⟩)) ∧ w.heap.size ≤ g ∧ HashAt w' g 0 newV ∧ Below w.heap.size w w' := by
  refine (new_calls w).mono ?_
  rintro e w' ⟨g, rfl, h1, h2, h3⟩
  exact ⟨g, rfl, h1, ⟨none, 0, h2, Kd.C_nil _ _, by decide, by decide, fun ad he => by cases he⟩, h3⟩
theorem write_at {T S : Nat → Int} {g lo : Nat} {h : HV} {B : Option Addr} {lb cb : Nat} {b : List Int} {w : World} (hh : HashAt w g lo h) (ht : Tabs T S w) (hg2 : 3 ≤ g)
    (hb : Kd.C (Kd.int .u8) w B lb b) (hbl : b.length = lb) (hbc : lb ≤ cb) (hlb : lb ≤ 1000000000) (hbg : ∀ ad, B = some ad → 0 < lb → ad.block ≠ g) :
    Calls Try.prog 107 #[.pointer (some ⟨g, 0, none⟩), .slice B lb cb] w fun e w' => e = .returned (.int .i64 0) ∧ HashAt w' g w.heap.size (writeV T S h b) ∧ Near g w w' := by
  obtain ⟨A, c, h1, h2, h3, h4, h5⟩ := hh
  obtain ⟨⟨r0, r1, r2, r3⟩, rest, n⟩ := h
  refine (write_calls T S g r0 r1 r2 r3 n A rest.length c rest B lb cb b w h1 h2 rfl h3 h4 (fun ad he h0 => (h5 ad he h0).2) hb hbl hbc hlb hbg ht.t ht.s ht.p hg2).mono ?_
  rintro e w' ⟨rfl, A2, c2, k1, k2, k3, k4, k5, k6⟩
  refine ⟨rfl, ⟨A2, c2, ?_, k2, k3, k4, fun ad he h0 => ⟨k5 ad he h0, ?_⟩⟩, k6⟩
  · rw [k1]
    unfold writeV
    rw [hbl]
  · have := k5 ad he h0
    have := blk_lt h1
    omega
theorem sum_at {T S : Nat → Int} {g lo : Nat} {h : HV} {w : World} (hh : HashAt w g lo h) (ht : Tabs T S w) :
    Calls Try.prog 108 #[.pointer (some ⟨g, 0, none⟩)] w fun e w' => e = .returned (.agg (cellsN 16 (sumD T S h))) ∧ Below w.heap.size w w' := by
  obtain ⟨A, c, h1, h2, h3, h4, h5⟩ := hh
  obtain ⟨⟨r0, r1, r2, r3⟩, rest, n⟩ := h
  exact sum_calls T S g r0 r1 r2 r3 n A rest.length c rest w h1 h2 rfl h3 h4 ht.t ht.s ht.p
/-- Md5, byte by byte -/
def md5V (T S : Nat → Int) (b : List Int) : Nat → Int := sumD T S (writeV T S newV b)
end Go.Proofs.Yticjpjgfccbhlaa.Hash
