/- hash: first, New and register.digest by contract. -/
import Derived.Test.YticjpjgfccbhlaaHash2
import Derived.ChangeKeysEq
import Derived.Deep.MidRow
import Derived.Laws.Cover3
namespace Go.Proofs.Yticjpjgfccbhlaa.Hash
open Go.RowKit Go.Proofs.YticjpjgfccbhlaaW.PrintWords Go.Proofs.YticjpjgfccbhlaaW.PrintLast Go.Proofs.YticjpjgfccbhlaaW.PrintMore
attribute [local go_sem] max2_int min2_int max_two min_two max_three min_three max_four min_four
set_option linter.unusedVariables false
set_option linter.unusedSimpArgs false
def firstV : Four := (1732584193, 4023233417, 2562383102, 271733878)
set_option maxHeartbeats 2000000 in
set_option maxRecDepth 100000 in
theorem first_calls (w : World) : Calls Try.prog 109 #[] w fun e w' => e = .returned (.agg (cells4 firstV)) ∧ Below w.heap.size w w' := by
  have HX := Lib.hid (heap_alloc_new w (.cells (cells4 firstV) 158))
  have HBW := Lib.hid ((Below.refl w.heap.size w).alloc (Nat.le_refl _) (.cells (cells4 firstV) 158))
  go_enter Try.func109, Try.ntmps109
  go_wp2
  refine bodyPost_ret (results_single rfl (.cell w.heap.size 158 (cells4 firstV) (0, 0) _ rfl HX.out Try.underlying158 rfl (by kernel_rfl) .nil)) rfl ?_
  exact ⟨rfl, HBW.out⟩
/-- a Hash's cells -/
def hashCells (x : Four) (V : Value) (n : Int) : Array Value := #[.bool true, .int .u32 x.1, .int .u32 x.2.1, .int .u32 x.2.2.1, .int .u32 x.2.2.2, V, .int .i64 n]
set_option maxHeartbeats 2000000 in
set_option maxRecDepth 100000 in
theorem new_calls (w : World) : Calls Try.prog 106 #[] w fun e w' => ∃ g, e = .returned (.pointer (some ⟨g, 0, none⟩)) ∧ w.heap.size ≤ g ∧ w'.heap[g]? = some (.cells (hashCells firstV (.slice none 0 0) 0) 161 (0, 0)) ∧ Below w.heap.size w w' := by
  go_enter Try.func106, Try.ntmps106
  go_wp2_with fail
  refine (first_calls w).mono ?_
  rintro e w1 ⟨rfl, hb1⟩
  have HX := Lib.hid (heap_alloc_new w1 (.cells (hashCells firstV (.slice none 0 0) 0) 161))
  have HB := Lib.hid (hb1.alloc hb1.size (.cells (hashCells firstV (.slice none 0 0) 0) 161))
  have hz := hb1.size
  clear hb1
  go_wp2
  go_ret
  exact ⟨_, rfl, hz, HX.out, HB.out⟩
/-- the words of a register -/
def word4 (x : Four) (i : Nat) : Int := if i = 0 then x.1 else if i = 1 then x.2.1 else if i = 2 then x.2.2.1 else x.2.2.2
/-- a byte of the digest -/
def digB (x : Four) (j : Nat) : Int := word4 x (j / 4) / 2 ^ (8 * (j % 4)) % 256
/-- so many bytes, by place -/
def cellsN (N : Nat) (D : Nat → Int) : Array Value := ((List.range N).map fun j => Value.int .u8 (D j)).toArray
theorem cellsN_at (N : Nat) (D : Nat → Int) (j : Nat) (h : j < N) : (cellsN N D)[j]? = some (.int .u8 (D j)) := by
  unfold cellsN
  rw [List.getElem?_toArray, List.getElem?_map, List.getElem?_range h]
  rfl
theorem cellsN_size (N : Nat) (D : Nat → Int) : (cellsN N D).size = N := by
  unfold cellsN
  simp
def mix (D E : Nat → Int) (n : Nat) (j : Nat) : Int := if j < n then D j else E j
theorem mix_zero (D E : Nat → Int) : mix D E 0 = E := by
  funext j
  unfold mix
  rw [if_neg (by omega)]
theorem cellsN_ext (N : Nat) (D E : Nat → Int) (h : ∀ j, j < N → D j = E j) : cellsN N D = cellsN N E := by
  unfold cellsN
  congr 1
  apply List.map_congr_left
  intro j hj
  rw [h j (List.mem_range.1 hj)]
theorem cellsN_set (N : Nat) (D E : Nat → Int) (n : Nat) (h : n < N) : (cellsN N (mix D E n)).setIfInBounds n (.int .u8 (D n)) = cellsN N (mix D E (n + 1)) := by
  apply Array.ext
  · rw [Array.size_setIfInBounds, cellsN_size, cellsN_size]
  · intro j h1 h2
    rw [cellsN_size] at h2
    have e : (cellsN N (mix D E (n + 1)))[j]? = some (.int .u8 (mix D E (n + 1) j)) := cellsN_at N _ j h2
    have e2 : (cellsN N (mix D E n))[j]? = some (.int .u8 (mix D E n j)) := cellsN_at N _ j h2
    rw [← Option.some_inj, ← Array.getElem?_eq_getElem, ← Array.getElem?_eq_getElem, e, Array.getElem?_setIfInBounds]
    by_cases hj : n = j
    · subst hj
      rw [if_pos rfl, if_pos (by rw [cellsN_size]; exact h)]
      unfold mix
      rw [if_pos (by omega)]
    · rw [if_neg hj, e2]
      unfold mix
      by_cases h3 : j < n
      · rw [if_pos h3, if_pos (by omega)]
      · rw [if_neg h3, if_neg (by omega)]
theorem put_mix {W : World} {b t : Nat} {N : Nat} {D E : Nat → Int} (n : Nat) (hn : n < N) (h : W.heap[b]? = some (.cells (cellsN N (mix D E n)) t (0, 0))) : (W.setCell ⟨b, n, none⟩ (.int .u8 (D n))).heap[b]? = some (.cells (cellsN N (mix D E (n + 1))) t (0, 0)) := by
  rw [← cellsN_set N D E n hn]
  exact blk_put h n _ rfl
theorem mix_full (N : Nat) (D E : Nat → Int) : cellsN N (mix D E N) = cellsN N D := cellsN_ext N _ _ (fun j hj => by unfold mix; rw [if_pos hj])
theorem mix_none (N : Nat) (D E : Nat → Int) : cellsN N (mix D E 0) = cellsN N E := by rw [mix_zero]
theorem index_run (t e : TypeId) (n : Nat) (hu : Try.prog.underlying t = some (.array n e)) (he : ∀ W, (isAgg e).run Try.prog W = .ok false W) (hz : ∀ W, (sizeOf e).run Try.prog W = .ok 1 W) (cs : Array Value) (i : Nat) (hi : i < n) (v : Value) (hv : cs[i]? = some v) (W : World) : (Instr.index t (.agg cs) (.int .i64 (i : Int))).run Try.prog W = .ok v W := by
  have h1 : (0 ≤ (i : Int) ∧ (i : Int) < (n : Int)) := by omega
  simp [Instr.index, run_underlying hu, asIntOf, h1, hz, he, hv, hi, go_sem]
theorem shr_run64 (x y : Int) (hy : 0 ≤ y) (W : World) : (Op.shift .shr .u32 x .i64 y).run Try.prog W = .ok (.int .u32 (shrV x y)) W := by
  unfold Op.shift shrV
  rw [if_neg (by omega)]
  rfl
set_option maxHeartbeats 4000000 in
set_option maxRecDepth 100000 in
theorem digest_calls (x0 x1 x2 x3 : Int) (w : World) : Calls Try.prog 111 #[.agg #[.int .u32 x0, .int .u32 x1, .int .u32 x2, .int .u32 x3]] w fun e w' => e = .returned (.agg (cellsN 16 (digB (x0, x1, x2, x3)))) ∧ Below w.heap.size w w' := by
  obtain ⟨W1, hW1⟩ : ∃ W1, W1 = w.alloc (.cells #[.int .u32 x0, .int .u32 x1, .int .u32 x2, .int .u32 x3] 158) := ⟨_, rfl⟩
  obtain ⟨W2, hW2⟩ : ∃ W2, W2 = W1.alloc (.cells (cellsN 16 fun _ => 0) 108) := ⟨_, rfl⟩
  obtain ⟨W3, hW3⟩ : ∃ W3, W3 = W2.alloc (.cells (cellsN 16 fun _ => 0) 108) := ⟨_, rfl⟩
  have z1 : W1.heap.size = w.heap.size + 1 := by rw [hW1]; simp
  have z2 : W2.heap.size = w.heap.size + 2 := by rw [hW2, World.size_alloc, z1]
  obtain ⟨b2, hb2⟩ : ∃ b2, b2 = w.heap.size + 1 := ⟨_, rfl⟩
  obtain ⟨b3, hb3⟩ : ∃ b3, b3 = w.heap.size + 1 + 1 := ⟨_, rfl⟩
  have h2 : W3.heap[b2]? = some (.cells (cellsN 16 fun _ => 0) 108 (0, 0)) := by
    rw [hW3, heap_alloc_old _ _ (by omega), hW2, hb2, ← z1]
    exact heap_alloc_new _ _
  have h3 : W3.heap[b3]? = some (.cells (cellsN 16 fun _ => 0) 108 (0, 0)) := by
    rw [hW3, hb3, show w.heap.size + 1 + 1 = W2.heap.size by omega]
    exact heap_alloc_new _ _
  have hB : Below w.heap.size w W3 := by
    rw [hW3, hW2, hW1]
    exact ((((Below.refl _ _).alloc (Nat.le_refl _) _).alloc (by simp) _).alloc (by simp; omega) _)
  have HE := Lib.hid (show W3 = ((w.alloc (.cells #[.int .u32 x0, .int .u32 x1, .int .u32 x2, .int .u32 x3] 158)).alloc (.cells #[.int .u8 0, .int .u8 0, .int .u8 0, .int .u8 0, .int .u8 0, .int .u8 0, .int .u8 0, .int .u8 0, .int .u8 0, .int .u8 0, .int .u8 0, .int .u8 0, .int .u8 0, .int .u8 0, .int .u8 0, .int .u8 0] 108)).alloc (.cells #[.int .u8 0, .int .u8 0, .int .u8 0, .int .u8 0, .int .u8 0, .int .u8 0, .int .u8 0, .int .u8 0, .int .u8 0, .int .u8 0, .int .u8 0, .int .u8 0, .int .u8 0, .int .u8 0, .int .u8 0, .int .u8 0] 108) by rw [hW3, hW2, hW1]; rfl)
  have n23 : b3 ≠ b2 := by omega
  have hle2 : w.heap.size ≤ b2 := by omega
  have hle3 : w.heap.size ≤ b3 := by omega
  have H2 := Lib.hid h2
  have H3 := Lib.hid h3
  have HB := Lib.hid hB
  have HB2E := Lib.hid hb2
  have HB3E := Lib.hid hb3
  clear h2 h3 hB hW1 hW2 hW3 z1 z2
  obtain ⟨D, hD⟩ : ∃ D, D = digB (x0, x1, x2, x3) := ⟨_, rfl⟩
  have HD := Lib.hid hD
  rw [← hD]
  clear hD
  go_enter Try.func111, Try.ntmps111
  go_wp2
  rw [← HE.out, ← HB3E.out, ← HB2E.out]
  clear hb2 hb3
  go_loopw [8] (fun v wr => ∃ i : Nat, i ≤ 4 ∧ v = .int .i64 i ∧ wr.heap[b2]? = some (.cells (cellsN 16 fun _ => 0) 108 (0, 0)) ∧ wr.heap[b3]? = some (.cells (cellsN 16 (mix D (fun _ => 0) (4 * i))) 108 (0, 0)) ∧ Below w.heap.size w wr) (fun v _ => 4 - (intOf v).toNat)
  case atStart => exact ⟨0, by omega, rfl, H2.out, by rw [Nat.mul_zero, mix_zero]; exact H3.out, HB.out⟩
  case round =>
    obtain ⟨i, hi, rfl, g2, g3, gB⟩ := hrel
    have G2 := Lib.hid g2
    have G3 := Lib.hid g3
    have GB := Lib.hid gB
    clear g2 g3 gB
    by_cases hi4 : i < 4
    · have zi : (#[Value.int .u32 x0, Value.int .u32 x1, Value.int .u32 x2, Value.int .u32 x3] : Array Value)[i]? = some (.int .u32 (word4 (x0, x1, x2, x3) i)) := by
        rcases (show i = 0 ∨ i = 1 ∨ i = 2 ∨ i = 3 by omega) with rfl | rfl | rfl | rfl <;> rfl
      have q1 : ((i : Int) < 4) = True := eq_true (by omega)
      have zx := fun W => index_run 158 140 4 Try.underlying158 (fun W => by kernel_rfl) (fun W => by kernel_rfl) _ i hi4 _ zi W
      go_wp2
      obtain ⟨u, hu⟩ : ∃ u, u = word4 (x0, x1, x2, x3) i := ⟨_, rfl⟩
      rw [← hu]
      have HU := Lib.hid hu
      clear hu zi zx
      go_loopw [12] (fun v wq => ∃ k : Nat, k ≤ 4 ∧ v = .int .i64 k ∧ wq.heap[b2]? = some (.cells (cellsN 16 fun _ => 0) 108 (0, 0)) ∧ wq.heap[b3]? = some (.cells (cellsN 16 (mix D (fun _ => 0) (4 * i + k))) 108 (0, 0)) ∧ Below w.heap.size w wq) (fun v _ => 4 - (intOf v).toNat)
      case atStart => exact ⟨0, by omega, rfl, G2.out, G3.out, GB.out⟩
      case round =>
        obtain ⟨k, hk, rfl, g2, g3, gB⟩ := hrel
        have E2 := Lib.hid g2
        have E3 := Lib.hid g3
        have EB := Lib.hid gB
        clear g2 g3 gB
        by_cases hk4 : k < 4
        · have zr := fun W => shr_run64 u (8 * (k : Int)) (by omega) W
          have zf := blk_frozen E3.out (4 * i + k)
          have zc := blk_cell E3.out (4 * i + k)
          rw [cellsN_at 16 _ _ (by omega)] at zc
          go_wp2
          have hv : D (4 * i + k) = u / 2 ^ (8 * k) % 256 := by
            rw [HD.out]
            unfold digB
            rw [show (4 * i + k) / 4 = i by omega, show (4 * i + k) % 4 = k by omega, HU.out]
          rw [← hv]
          refine ⟨⟨k + 1, by omega, by go_num, (far_heap _ _ _ _ n23).trans E2.out, ?_, EB.out.setCell hle3 _⟩, by simp [intOf]; omega⟩
          rw [show 4 * i + (k + 1) = (4 * i + k) + 1 by omega, ← cellsN_set 16 D _ (4 * i + k) (by omega)]
          exact blk_put E3.out (4 * i + k) _ rfl
        · have hk4' : k = 4 := by omega
          subst hk4'
          go_wp2
          go_roundw
          case rel => exact ⟨i + 1, by omega, by go_num, E2.out, by rw [show 4 * (i + 1) = 4 * i + 4 by omega]; exact E3.out, EB.out⟩
          case measure => simp [intOf]; omega
    · have hi4' : i = 4 := by omega
      subst hi4'
      have e16 : cellsN 16 (mix D (fun _ => 0) (4 * 4)) = cellsN 16 D := cellsN_ext 16 _ _ (fun j hj => by unfold mix; rw [if_pos (by omega)])
      rw [e16] at G3
      have c0 := (blk_cell G3.out 0).trans (cellsN_at 16 D 0 (by decide))
      have e0 := (blk_cell G2.out 0).trans (cellsN_at 16 _ 0 (by decide))
      have f0 := blk_frozen G2.out 0
      have c1 := (blk_cell G3.out 1).trans (cellsN_at 16 D 1 (by decide))
      have e1 := (blk_cell G2.out 1).trans (cellsN_at 16 _ 1 (by decide))
      have f1 := blk_frozen G2.out 1
      have c2 := (blk_cell G3.out 2).trans (cellsN_at 16 D 2 (by decide))
      have e2 := (blk_cell G2.out 2).trans (cellsN_at 16 _ 2 (by decide))
      have f2 := blk_frozen G2.out 2
      have c3 := (blk_cell G3.out 3).trans (cellsN_at 16 D 3 (by decide))
      have e3 := (blk_cell G2.out 3).trans (cellsN_at 16 _ 3 (by decide))
      have f3 := blk_frozen G2.out 3
      have c4 := (blk_cell G3.out 4).trans (cellsN_at 16 D 4 (by decide))
      have e4 := (blk_cell G2.out 4).trans (cellsN_at 16 _ 4 (by decide))
      have f4 := blk_frozen G2.out 4
      have c5 := (blk_cell G3.out 5).trans (cellsN_at 16 D 5 (by decide))
      have e5 := (blk_cell G2.out 5).trans (cellsN_at 16 _ 5 (by decide))
      have f5 := blk_frozen G2.out 5
      have c6 := (blk_cell G3.out 6).trans (cellsN_at 16 D 6 (by decide))
      have e6 := (blk_cell G2.out 6).trans (cellsN_at 16 _ 6 (by decide))
      have f6 := blk_frozen G2.out 6
      have c7 := (blk_cell G3.out 7).trans (cellsN_at 16 D 7 (by decide))
      have e7 := (blk_cell G2.out 7).trans (cellsN_at 16 _ 7 (by decide))
      have f7 := blk_frozen G2.out 7
      have c8 := (blk_cell G3.out 8).trans (cellsN_at 16 D 8 (by decide))
      have e8 := (blk_cell G2.out 8).trans (cellsN_at 16 _ 8 (by decide))
      have f8 := blk_frozen G2.out 8
      have c9 := (blk_cell G3.out 9).trans (cellsN_at 16 D 9 (by decide))
      have e9 := (blk_cell G2.out 9).trans (cellsN_at 16 _ 9 (by decide))
      have f9 := blk_frozen G2.out 9
      have c10 := (blk_cell G3.out 10).trans (cellsN_at 16 D 10 (by decide))
      have e10 := (blk_cell G2.out 10).trans (cellsN_at 16 _ 10 (by decide))
      have f10 := blk_frozen G2.out 10
      have c11 := (blk_cell G3.out 11).trans (cellsN_at 16 D 11 (by decide))
      have e11 := (blk_cell G2.out 11).trans (cellsN_at 16 _ 11 (by decide))
      have f11 := blk_frozen G2.out 11
      have c12 := (blk_cell G3.out 12).trans (cellsN_at 16 D 12 (by decide))
      have e12 := (blk_cell G2.out 12).trans (cellsN_at 16 _ 12 (by decide))
      have f12 := blk_frozen G2.out 12
      have c13 := (blk_cell G3.out 13).trans (cellsN_at 16 D 13 (by decide))
      have e13 := (blk_cell G2.out 13).trans (cellsN_at 16 _ 13 (by decide))
      have f13 := blk_frozen G2.out 13
      have c14 := (blk_cell G3.out 14).trans (cellsN_at 16 D 14 (by decide))
      have e14 := (blk_cell G2.out 14).trans (cellsN_at 16 _ 14 (by decide))
      have f14 := blk_frozen G2.out 14
      have c15 := (blk_cell G3.out 15).trans (cellsN_at 16 D 15 (by decide))
      have e15 := (blk_cell G2.out 15).trans (cellsN_at 16 _ 15 (by decide))
      have f15 := blk_frozen G2.out 15
      go_wp2
      have hp := put_mix 15 (by decide) (put_mix 14 (by decide) (put_mix 13 (by decide) (put_mix 12 (by decide) (put_mix 11 (by decide) (put_mix 10 (by decide) (put_mix 9 (by decide) (put_mix 8 (by decide) (put_mix 7 (by decide) (put_mix 6 (by decide) (put_mix 5 (by decide) (put_mix 4 (by decide) (put_mix 3 (by decide) (put_mix 2 (by decide) (put_mix 1 (by decide) (put_mix 0 (by decide) ((show wr.heap[b2]? = some (.cells (cellsN 16 (mix D (fun _ => 0) 0)) 108 (0, 0)) by rw [mix_none]; exact G2.out)))))))))))))))))
      rw [mix_full] at hp
      refine bodyPost_ret (results_single rfl (.cell b2 108 (cellsN 16 D) (0, 0) _ rfl hp Try.underlying108 rfl (by rw [cellsN_size]; kernel_rfl) .nil)) rfl ?_
      exact ⟨rfl, Below.setCell (Below.setCell (Below.setCell (Below.setCell (Below.setCell (Below.setCell (Below.setCell (Below.setCell (Below.setCell (Below.setCell (Below.setCell (Below.setCell (Below.setCell (Below.setCell (Below.setCell (Below.setCell (GB.out) (p := ⟨b2, 0, none⟩) hle2 (.int .u8 (D 0))) (p := ⟨b2, 1, none⟩) hle2 (.int .u8 (D 1))) (p := ⟨b2, 2, none⟩) hle2 (.int .u8 (D 2))) (p := ⟨b2, 3, none⟩) hle2 (.int .u8 (D 3))) (p := ⟨b2, 4, none⟩) hle2 (.int .u8 (D 4))) (p := ⟨b2, 5, none⟩) hle2 (.int .u8 (D 5))) (p := ⟨b2, 6, none⟩) hle2 (.int .u8 (D 6))) (p := ⟨b2, 7, none⟩) hle2 (.int .u8 (D 7))) (p := ⟨b2, 8, none⟩) hle2 (.int .u8 (D 8))) (p := ⟨b2, 9, none⟩) hle2 (.int .u8 (D 9))) (p := ⟨b2, 10, none⟩) hle2 (.int .u8 (D 10))) (p := ⟨b2, 11, none⟩) hle2 (.int .u8 (D 11))) (p := ⟨b2, 12, none⟩) hle2 (.int .u8 (D 12))) (p := ⟨b2, 13, none⟩) hle2 (.int .u8 (D 13))) (p := ⟨b2, 14, none⟩) hle2 (.int .u8 (D 14))) (p := ⟨b2, 15, none⟩) hle2 (.int .u8 (D 15))⟩
end Go.Proofs.Yticjpjgfccbhlaa.Hash
