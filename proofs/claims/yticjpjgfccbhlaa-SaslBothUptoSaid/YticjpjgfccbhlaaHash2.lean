/- hash: register.with by contract. (The steps of its region that draws: printed by tools/hwith.py.) -/
import Derived.Test.YticjpjgfccbhlaaHash1
import Derived.Laws.Cover4
import Derived.Deep.Heap
import Derived.Lib.Hide
namespace Go.Proofs.Yticjpjgfccbhlaa.Hash
open Go.RowKit Go.Proofs.YticjpjgfccbhlaaW.PrintWords Go.Proofs.YticjpjgfccbhlaaW.PrintLast Go.Proofs.YticjpjgfccbhlaaW.PrintMore
attribute [local go_sem] max2_int min2_int max_two min_two max_three min_three max_four min_four
set_option linter.unusedVariables false
set_option linter.unusedSimpArgs false
/-- a row of bytes, by place -/
def row (M : List Int) (j : Nat) : Int := M.getD j 0
theorem row_at {w : World} {B : Nat} {M : List Int} (h : w.heap[B]? = some (.cells (nums .u8 M).toArray 152 (0, 0))) (hM : M.length = 64) (j : Nat) (hj : j < 64) : w.cell? ⟨B, j, none⟩ = some (.int .u8 (row M j)) := by
  rw [blk_cell h j, List.getElem?_toArray]
  unfold nums row
  rw [List.getElem?_map, List.getElem?_eq_getElem (by omega), List.getD_eq_getElem?_getD, List.getElem?_eq_getElem (by omega)]
  rfl
abbrev Four := Int × Int × Int × Int
def cells4 (x : Four) : Array Value := #[.int .u32 x.1, .int .u32 x.2.1, .int .u32 x.2.2.1, .int .u32 x.2.2.2]
def shlV (x y : Int) : Int := IntKind.u32.wrap (x * 2 ^ min y.toNat 32)
def shrV (x y : Int) : Int := x.fdiv (2 ^ min y.toNat 32)
theorem shl_run (x y : Int) (hy : 0 ≤ y) (W : World) : (Op.shift .shl .u32 x .u8 y).run Try.prog W = .ok (.int .u32 (shlV x y)) W := by
  unfold Op.shift shlV
  rw [if_neg (by omega)]
  rfl
theorem shr_run (x y : Int) (hy : 0 ≤ y) (W : World) : (Op.shift .shr .u32 x .u8 y).run Try.prog W = .ok (.int .u32 (shrV x y)) W := by
  unfold Op.shift shrV
  rw [if_neg (by omega)]
  rfl
theorem u8_wrap_nn (x : Int) : 0 ≤ IntKind.u8.wrap x := by
  show 0 ≤ x % 256
  omega
def sumV (T : Nat → Int) (m : Nat → Int) (i : Nat) (x : Four) : Int :=
  IntKind.u32.wrap ((stepV i x.2.1 x.2.2.1 x.2.2.2).1 + IntKind.u32.wrap (IntKind.u32.wrap (x.1 + T i) + wordV m (stepV i x.2.1 x.2.2.1 x.2.2.2).2))
def roundV (T S : Nat → Int) (m : Nat → Int) (i : Nat) (x : Four) : Four :=
  (x.2.2.2, (x.2.1 + bits .or .u32 (shlV (sumV T m i x) (S (i / 16 * 4 + i % 4))) (shrV (sumV T m i x) ((32 - S (i / 16 * 4 + i % 4)) % 256))) % 4294967296, x.2.1, x.2.2.1)
def roundsV (T S : Nat → Int) (m : Nat → Int) (x : Four) : Nat → Four
  | 0 => x
  | i + 1 => roundV T S m i (roundsV T S m x i)
/-- the sum of two registers, the first i words -/
def addV (i : Nat) (r x : Four) : Four := (if 0 < i then (r.1 + x.1) % 4294967296 else r.1, if 1 < i then (r.2.1 + x.2.1) % 4294967296 else r.2.1, if 2 < i then (r.2.2.1 + x.2.2.1) % 4294967296 else r.2.2.1, if 3 < i then (r.2.2.2 + x.2.2.2) % 4294967296 else r.2.2.2)
def withV (T S : Nat → Int) (r : Four) (m : Nat → Int) : Four := addV 4 r (roundsV T S m r 64)
theorem far_heap (w : World) (a : Addr) (u : Value) (k : Nat) (h : a.block ≠ k) : (w.setCell a u).heap[k]? = w.heap[k]? := Go.Deep.blk_setCell_other w a u k (fun e => h e.symm)
set_option maxHeartbeats 4000000 in
set_option maxRecDepth 100000 in
theorem with_calls (T S : Nat → Int) (a b c d : Int) (M : List Int) (hM : M.length = 64) (w : World)
    (hT : ∀ j, j < 64 → w.cell? ⟨1, j, none⟩ = some (.int .u32 (T j))) (hS : ∀ j, j < 16 → w.cell? ⟨2, j, none⟩ = some (.int .u8 (S j))) (hS0 : ∀ j, j < 16 → 0 ≤ S j) :
    Calls Try.prog 110 #[.agg #[.int .u32 a, .int .u32 b, .int .u32 c, .int .u32 d], .agg (nums .u8 M).toArray] w fun e w' => e = .returned (.agg (cells4 (withV T S (a, b, c, d) (row M)))) ∧ Below w.heap.size w w' := by
  obtain ⟨W1, hW1⟩ : ∃ W1, W1 = w.alloc (.cells #[.int .u32 a, .int .u32 b, .int .u32 c, .int .u32 d] 158) := ⟨_, rfl⟩
  obtain ⟨W2, hW2⟩ : ∃ W2, W2 = W1.alloc (.cells (nums .u8 M).toArray 152) := ⟨_, rfl⟩
  obtain ⟨W3, hW3⟩ : ∃ W3, W3 = W2.alloc (.cells #[.int .u32 0, .int .u32 0, .int .u32 0, .int .u32 0] 158) := ⟨_, rfl⟩
  obtain ⟨W4, hW4⟩ : ∃ W4, W4 = W3.alloc (.cells #[.int .u32 a, .int .u32 b, .int .u32 c, .int .u32 d] 158) := ⟨_, rfl⟩
  have z1 : W1.heap.size = w.heap.size + 1 := by rw [hW1]; simp
  have z2 : W2.heap.size = w.heap.size + 2 := by rw [hW2, World.size_alloc, z1]
  have z3 : W3.heap.size = w.heap.size + 3 := by rw [hW3, World.size_alloc, z2]
  obtain ⟨b2, hb2⟩ : ∃ b2, b2 = w.heap.size := ⟨_, rfl⟩
  obtain ⟨b3, hb3⟩ : ∃ b3, b3 = w.heap.size + 1 := ⟨_, rfl⟩
  obtain ⟨b4, hb4⟩ : ∃ b4, b4 = w.heap.size + 1 + 1 := ⟨_, rfl⟩
  obtain ⟨b5, hb5⟩ : ∃ b5, b5 = w.heap.size + 1 + 1 + 1 := ⟨_, rfl⟩
  have h2 : W4.heap[b2]? = some (.cells (cells4 (a, b, c, d)) 158 (0, 0)) := by
    rw [hW4, heap_alloc_old _ _ (by omega), hW3, heap_alloc_old _ _ (by omega), hW2, heap_alloc_old _ _ (by omega), hW1, hb2]
    exact heap_alloc_new _ _
  have h3 : W4.heap[b3]? = some (.cells (nums .u8 M).toArray 152 (0, 0)) := by
    rw [hW4, heap_alloc_old _ _ (by omega), hW3, heap_alloc_old _ _ (by omega), hW2, hb3, ← z1]
    exact heap_alloc_new _ _
  have h4 : W4.heap[b4]? = some (.cells #[.int .u32 0, .int .u32 0, .int .u32 0, .int .u32 0] 158 (0, 0)) := by
    rw [hW4, heap_alloc_old _ _ (by omega), hW3, hb4, ← z1, ← World.size_alloc (w := W1), ← hW2]
    exact heap_alloc_new _ _
  have h5 : W4.heap[b5]? = some (.cells (cells4 (a, b, c, d)) 158 (0, 0)) := by
    rw [hW4, hb5, show w.heap.size + 1 + 1 + 1 = W3.heap.size by omega]
    exact heap_alloc_new _ _
  have hB : Below w.heap.size w W4 := by
    rw [hW4, hW3, hW2, hW1]
    exact ((((Below.refl _ _).alloc (Nat.le_refl _) _).alloc (by simp) _).alloc (by simp; omega) _).alloc (by simp; omega) _
  have hT0 : 1 < w.heap.size := World.block_lt_of_cell? w _ (hT 0 (by decide))
  have hS1 : 2 < w.heap.size := World.block_lt_of_cell? w _ (hS 0 (by decide))
  have n52 : b5 ≠ b2 := by omega
  have n53 : b5 ≠ b3 := by omega
  have n54 : b5 ≠ b4 := by omega
  have n23 : b2 ≠ b3 := by omega
  have n24 : b2 ≠ b4 := by omega
  have HE := Lib.hid (show W4 = (((w.alloc (.cells #[.int .u32 a, .int .u32 b, .int .u32 c, .int .u32 d] 158)).alloc (.cells (nums .u8 M).toArray 152)).alloc (.cells #[.int .u32 0, .int .u32 0, .int .u32 0, .int .u32 0] 158)).alloc (.cells #[.int .u32 a, .int .u32 b, .int .u32 c, .int .u32 d] 158) by rw [hW4, hW3, hW2, hW1])
  have HH2 := Lib.hid h2
  have HH3 := Lib.hid h3
  have HH4 := Lib.hid h4
  have HH5 := Lib.hid h5
  have HBB := Lib.hid hB
  have HTT := Lib.hid hT
  have HSS := Lib.hid hS
  have HB2E := Lib.hid hb2
  have HB3E := Lib.hid hb3
  have HB4E := Lib.hid hb4
  have HB5E := Lib.hid hb5
  have hle : w.heap.size ≤ b5 := by omega
  have hle2 : w.heap.size ≤ b2 := by omega
  have hle4 : w.heap.size ≤ b4 := by omega
  clear h2 h3 h4 h5 hB hT hS hW1 hW2 hW3 hW4 z1 z2 z3
  go_enter Try.func110, Try.ntmps110
  go_wp2
  rw [← HE.out, ← HB5E.out, ← HB4E.out, ← HB3E.out, ← HB2E.out]
  clear hb2 hb3 hb4 hb5
  go_loopw [12] (fun v wr => ∃ (k : Nat) (x : Four), k ≤ 64 ∧ v = .int .i64 k ∧ x = roundsV T S (row M) (a, b, c, d) k ∧ wr.heap[b2]? = some (.cells (cells4 (a, b, c, d)) 158 (0, 0)) ∧ wr.heap[b3]? = some (.cells (nums .u8 M).toArray 152 (0, 0)) ∧ wr.heap[b4]? = some (.cells #[.int .u32 0, .int .u32 0, .int .u32 0, .int .u32 0] 158 (0, 0)) ∧ wr.heap[b5]? = some (.cells (cells4 x) 158 (0, 0)) ∧ Below w.heap.size w wr) (fun v _ => 64 - (intOf v).toNat)
  case atStart => exact ⟨0, (a, b, c, d), by omega, rfl, rfl, HH2.out, HH3.out, HH4.out, HH5.out, HBB.out⟩
  case round =>
    obtain ⟨k, ⟨x0, x1, x2, x3⟩, hk, rfl, hx, g2, g3, g4, g5, gB⟩ := hrel
    have H2 := Lib.hid g2
    have H3 := Lib.hid g3
    have H4 := Lib.hid g4
    have H5 := Lib.hid g5
    have HB := Lib.hid gB
    have HX := Lib.hid hx
    clear g2 g3 g4 g5 gB hx
    by_cases hlt : k < 64
    · have q1 : decide ((k : Int) < 64) = true := decide_eq_true (by omega)
      have q2 : ((k : Int) < 64) = True := eq_true (by omega)
      have zx0 := blk_cell H5.out 0
      have zx1 := blk_cell H5.out 1
      have zx2 := blk_cell H5.out 2
      have zx3 := blk_cell H5.out 3
      simp only [cells4, List.getElem?_toArray, List.getElem?_cons_succ, List.getElem?_cons_zero] at zx0 zx1 zx2 zx3
      have zt := (HB.out.cell (by exact hT0)).trans (HTT.out k hlt)
      obtain ⟨p1, hp1⟩ : ∃ p, p = (stepV k x1 x2 x3).1 := ⟨_, rfl⟩
      obtain ⟨p2, hp2⟩ : ∃ p, p = (stepV k x1 x2 x3).2 := ⟨_, rfl⟩
      have HST := Lib.hid (step_calls k x1 x2 x3 hlt wr)
      rw [← hp1, ← hp2] at HST
      have HP2 := Lib.hid (show p2 < 16 from hp2 ▸ stepV_lt k x1 x2 x3)
      have HP1E := Lib.hid hp1
      have HP2E := Lib.hid hp2
      clear hp1 hp2
      go_wp2_with fail
      refine HST.out.mono ?_
      rintro e w' ⟨rfl, rfl⟩
      go_wp2
      refine start_ (n := 12) (S := fun w' => w'.cell? ⟨b5, 0, none⟩ = some (.int .u32 x0) ∧ w'.cell? ⟨1, k, none⟩ = some (.int .u32 (T k))) (ds := []) #[false, false, false, false, false, false, false, false, false, false, false, false] (by kernel_rfl) rfl rfl ⟨zx0, zt⟩ (fun hHeld => ?_)
      generalize hdr : w'.drew = wd at hHeld ⊢
      have H2D := Lib.hid (show wd.heap[b2]? = _ from (congrArg (fun W => W.heap[b2]?) hdr).symm.trans H2.out)
      have H3D := Lib.hid (show wd.heap[b3]? = _ from (congrArg (fun W => W.heap[b3]?) hdr).symm.trans H3.out)
      have H4D := Lib.hid (show wd.heap[b4]? = _ from (congrArg (fun W => W.heap[b4]?) hdr).symm.trans H4.out)
      have H5D := Lib.hid (show wd.heap[b5]? = _ from (congrArg (fun W => W.heap[b5]?) hdr).symm.trans H5.out)
      have HBD := Lib.hid (show Below w.heap.size w wd from hdr ▸ below_drew1 HB.out)
      clear hdr
      refine pure_ (i := 0) (N := some 26) (v := ?_) (a' := ?_) #[true, false, false, false, false, false, false, false, false, false, false, false] rfl rfl (by kernel_rfl) (fun _ _ _ h => h) (Or.inl ⟨by rfl, ?_⟩) ?_ ?_
      rotate_left
      · intro w'
        go_simp
        with_reducible rfl
      rotate_left
      · simp only [Act.put, List.setIfInBounds_toArray, List.set_cons_zero, List.set_cons_succ, i64_w, i32_w]
        rfl
      refine pure_ (i := 1) (N := some 27) (v := ?_) (a' := ?_) #[true, true, false, false, false, false, false, false, false, false, false, false] rfl rfl (by kernel_rfl) (fun _ _ _ h => h) (Or.inl ⟨by rfl, ?_⟩) ?_ ?_
      rotate_left
      · intro w'
        go_simp
        with_reducible rfl
      rotate_left
      · simp only [Act.put, List.setIfInBounds_toArray, List.set_cons_zero, List.set_cons_succ, i64_w, i32_w]
        rfl
      refine pure_ (i := 3) (N := some 29) (v := ?_) (a' := ?_) #[true, true, false, true, false, false, false, false, false, false, false, false] rfl rfl (by kernel_rfl) (fun _ _ _ h => h) (Or.inl ⟨by rfl, ?_⟩) ?_ ?_
      rotate_left
      · intro w'
        go_simp
        with_reducible rfl
      rotate_left
      · simp only [Act.put, List.setIfInBounds_toArray, List.set_cons_zero, List.set_cons_succ, i64_w, i32_w]
        rfl
      refine pure_ (i := 4) (N := some 30) (v := ?_) (a' := ?_) #[true, true, false, true, true, false, false, false, false, false, false, false] rfl rfl (by kernel_rfl) (fun _ _ _ h => h) (Or.inl ⟨by rfl, ?_⟩) ?_ ?_
      rotate_left
      · intro w'
        go_simp
        with_reducible rfl
      rotate_left
      · simp only [Act.put, List.setIfInBounds_toArray, List.set_cons_zero, List.set_cons_succ, i64_w, i32_w]
        rfl
      refine pure_ (i := 7) (N := some 33) (v := ?_) (a' := ?_) #[true, true, false, true, true, false, false, true, false, false, false, false] rfl rfl (by kernel_rfl) (fun _ _ _ h => h) (Or.inl ⟨by rfl, ?_⟩) ?_ ?_
      rotate_left
      · intro w'
        go_simp
        with_reducible rfl
      rotate_left
      · simp only [Act.put, List.setIfInBounds_toArray, List.set_cons_zero, List.set_cons_succ, i64_w, i32_w]
        rfl
      refine take_ (i := 2) (N := some 28) (v := ?_) (a' := ?_) #[true, true, true, true, true, false, false, true, false, false, false, false] rfl rfl (by kernel_rfl) (fun _ _ _ h => h) (Or.inl ⟨by rfl, ?_⟩) hHeld ?_ ?_
      rotate_left
      · rintro w' ⟨s0, s1⟩
        go_simp
        with_reducible rfl
      rotate_left
      · simp only [Act.put, List.setIfInBounds_toArray, List.set_cons_zero, List.set_cons_succ, i64_w, i32_w]
        rfl
      refine take_ (i := 5) (N := some 31) (v := ?_) (a' := ?_) #[true, true, true, true, true, true, false, true, false, false, false, false] rfl rfl (by kernel_rfl) (fun _ _ _ h => h) (Or.inl ⟨by rfl, ?_⟩) hHeld ?_ ?_
      rotate_left
      · rintro w' ⟨s0, s1⟩
        go_simp
        with_reducible rfl
      rotate_left
      · simp only [Act.put, List.setIfInBounds_toArray, List.set_cons_zero, List.set_cons_succ, i64_w, i32_w]
        rfl
      refine pure_ (i := 6) (N := some 32) (v := ?_) (a' := ?_) #[true, true, true, true, true, true, true, true, false, false, false, false] rfl rfl (by kernel_rfl) (fun _ _ _ h => h) (Or.inl ⟨by rfl, ?_⟩) ?_ ?_
      rotate_left
      · intro w'
        go_simp
        with_reducible rfl
      rotate_left
      · simp only [Act.put, List.setIfInBounds_toArray, List.set_cons_zero, List.set_cons_succ, i64_w, i32_w]
        rfl
      refine one_ (i := 8) (N := some 34) #[true, true, true, true, true, true, true, true, true, false, false, false] rfl rfl (by kernel_rfl) (by decide) (fun K hK => ?_)
      refine goes_ Try.func113 (by kernel_rfl) rfl #[.pointer (some ⟨b3, 0, none⟩), .int .i64 (p2 : Int)] (by rfl) rfl rfl (by simp only [List.map_toArray, List.map_cons, List.map_nil]; rfl) ?_
      with_reducible refine (word_calls b3 (row M) p2 HP2.out wd (fun j hj => row_at H3D.out hM j hj)).mono ?_
      rintro e w6 ⟨rfl, hb6⟩
      refine ⟨_, rfl, ?_⟩
      have H26 := Lib.hid ((hb6.block b2 (blk_lt H2D.out)).trans H2D.out)
      have H36 := Lib.hid ((hb6.block b3 (blk_lt H3D.out)).trans H3D.out)
      have H46 := Lib.hid ((hb6.block b4 (blk_lt H4D.out)).trans H4D.out)
      have H56 := Lib.hid ((hb6.block b5 (blk_lt H5D.out)).trans H5D.out)
      have HB6 := Lib.hid (HBD.out.trans (hb6.mono HBD.out.size))
      have ht6 := (hb6.cell (Nat.lt_of_lt_of_le hT0 HBD.out.size)).trans hHeld.2
      clear hb6
      refine hK.out _ _ ⟨blk_cell H56.out 0, ht6⟩ (fun hHeld => ?_)
      clear hK K
      refine norm_ (a' := ?_) ?_ ?_
      rotate_left
      · show Act.put _ (some 34) _ = _
        simp only [Act.put, List.setIfInBounds_toArray, List.set_cons_zero, List.set_cons_succ, i64_w, i32_w]
        rfl
      refine pure_ (i := 9) (N := some 35) (v := ?_) (a' := ?_) #[true, true, true, true, true, true, true, true, true, true, false, false] rfl rfl (by kernel_rfl) (fun _ _ _ h => h) (Or.inl ⟨by rfl, ?_⟩) ?_ ?_
      rotate_left
      · intro w'
        go_simp
        with_reducible rfl
      rotate_left
      · simp only [Act.put, List.setIfInBounds_toArray, List.set_cons_zero, List.set_cons_succ, i64_w, i32_w]
        rfl
      refine pure_ (i := 10) (N := some 36) (v := ?_) (a' := ?_) #[true, true, true, true, true, true, true, true, true, true, true, false] rfl rfl (by kernel_rfl) (fun _ _ _ h => h) (Or.inl ⟨by rfl, ?_⟩) ?_ ?_
      rotate_left
      · intro w'
        go_simp
        with_reducible rfl
      rotate_left
      · simp only [Act.put, List.setIfInBounds_toArray, List.set_cons_zero, List.set_cons_succ, i64_w, i32_w]
        rfl
      refine pure_ (i := 11) (N := some 7) (v := ?_) (a' := ?_) #[true, true, true, true, true, true, true, true, true, true, true, true] rfl rfl (by kernel_rfl) (fun _ _ _ h => h) (Or.inl ⟨by rfl, ?_⟩) ?_ ?_
      rotate_left
      · intro w'
        go_simp
        with_reducible rfl
      rotate_left
      · simp only [Act.put, List.setIfInBounds_toArray, List.set_cons_zero, List.set_cons_succ, i64_w, i32_w]
        rfl
      refine done_ (by kernel_rfl) ?_

      generalize hf : IntKind.u32.wrap (p1 + IntKind.u32.wrap (IntKind.u32.wrap (x0 + T k) + wordV (row M) p2)) = f
      have HF := Lib.hid hf
      obtain ⟨q, hqq⟩ : ∃ q, q = k / 16 := ⟨_, rfl⟩
      obtain ⟨r, hr⟩ : ∃ r, r = k % 4 := ⟨_, rfl⟩
      have ht : Int.tdiv (k : Int) 16 = (q : Int) := by
        rw [Int.tdiv_eq_ediv_of_nonneg (by omega)]
        omega
      have hm : Int.tmod (k : Int) 4 = (r : Int) := by
        rw [Int.tmod_eq_emod_of_nonneg (by omega)]
        omega
      have hm2 : (k : Int) % 4 = (r : Int) := by omega
      have hq4 : q < 4 := by omega
      have hr4 : r < 4 := by omega
      have zs := (HB6.out.cell (by exact hS1)).trans (HSS.out (q * 4 + r) (by omega))
      obtain ⟨s, hs⟩ : ∃ s, s = S (q * 4 + r) := ⟨_, rfl⟩
      rw [← hs] at zs
      have zl := fun W => shl_run f s (by rw [hs]; exact hS0 _ (by omega)) W
      have zr := fun W => shr_run f ((32 - s) % 256) (by omega) W
      have HS2 := Lib.hid hs
      have HQ := Lib.hid hqq
      have HRR := Lib.hid hr
      clear hf hqq hr hs zx0 zx1 zx2 zx3 zt
      have zx0 := blk_cell H56.out 0
      have zx1 := blk_cell H56.out 1
      have zx2 := blk_cell H56.out 2
      have zx3 := blk_cell H56.out 3
      simp only [cells4, List.getElem?_toArray, List.getElem?_cons_succ, List.getElem?_cons_zero] at zx0 zx1 zx2 zx3
      have f0 := blk_frozen H56.out 0
      have f1 := blk_frozen H56.out 1
      have f2 := blk_frozen H56.out 2
      have f3 := blk_frozen H56.out 3
      go_wp2
      have hr : roundsV T S (row M) (a, b, c, d) (k + 1) = (x3, (x1 + bits .or .u32 (shlV f s) (shrV f ((32 - s) % 256))) % 4294967296, x1, x2) := by
        rw [roundsV, ← HX.out]
        unfold roundV sumV
        simp only
        rw [← HP1E.out, ← HP2E.out, HF.out, ← HQ.out, ← HRR.out, ← HS2.out]
      refine ⟨⟨k + 1, _, by omega, by go_num, hr.symm, ?_, ?_, ?_, ?_, ?_⟩, by simp [intOf]; omega⟩
      · rw [far_heap _ _ _ _ n52, far_heap _ _ _ _ n52, far_heap _ _ _ _ n52, far_heap _ _ _ _ n52]
        exact H26.out
      · rw [far_heap _ _ _ _ n53, far_heap _ _ _ _ n53, far_heap _ _ _ _ n53, far_heap _ _ _ _ n53]
        exact H36.out
      · rw [far_heap _ _ _ _ n54, far_heap _ _ _ _ n54, far_heap _ _ _ _ n54, far_heap _ _ _ _ n54]
        exact H46.out
      · exact blk_put (blk_put (blk_put (blk_put H56.out 0 _ rfl) 1 _ rfl) 2 _ rfl) 3 _ rfl
      · exact (((HB6.out.setCell hle _).setCell hle _).setCell hle _).setCell hle _
    · have hk64 : k = 64 := by omega
      subst hk64
      obtain ⟨X, hX⟩ : ∃ X : Four, X = (x0, x1, x2, x3) := ⟨_, rfl⟩
      rw [← hX] at H5 HX
      have HXX := Lib.hid hX
      clear hX
      go_wp2
      go_loopw [64] (fun v wq => ∃ i : Nat, i ≤ 4 ∧ v = .int .i64 i ∧ wq.heap[b2]? = some (.cells (cells4 (addV i (a, b, c, d) X)) 158 (0, 0)) ∧ wq.heap[b4]? = some (.cells #[.int .u32 0, .int .u32 0, .int .u32 0, .int .u32 0] 158 (0, 0)) ∧ wq.heap[b5]? = some (.cells (cells4 X) 158 (0, 0)) ∧ Below w.heap.size w wq) (fun v _ => 4 - (intOf v).toNat)
      case atStart => exact ⟨0, by omega, rfl, H2.out, H4.out, H5.out, HB.out⟩
      case round =>
        obtain ⟨i, hi, rfl, g2, g4, g5, gB⟩ := hrel
        have G2 := Lib.hid g2
        have G4 := Lib.hid g4
        have G5 := Lib.hid g5
        have GB := Lib.hid gB
        clear g2 g4 g5 gB
        obtain ⟨y0, y1, y2, y3⟩ := X
        by_cases hi4 : i < 4
        · have zx := blk_cell G5.out i
          have zr := blk_cell G2.out i
          have zf := blk_frozen G2.out i
          rcases (show i = 0 ∨ i = 1 ∨ i = 2 ∨ i = 3 by omega) with rfl | rfl | rfl | rfl
          · simp only [cells4, addV, List.getElem?_toArray, List.getElem?_cons_succ, List.getElem?_cons_zero] at zx zr
            go_wp2
            go_region
            go_wp2
            refine ⟨⟨1, by decide, rfl, blk_put G2.out 0 _ rfl, ?_, ?_, (GB.out.setCell hle2 _).drew⟩, by decide⟩
            · exact (far_heap _ _ _ _ n24).trans G4.out
            · exact (far_heap _ _ _ _ n52.symm).trans G5.out
          · simp only [cells4, addV, List.getElem?_toArray, List.getElem?_cons_succ, List.getElem?_cons_zero] at zx zr
            go_wp2
            go_region
            go_wp2
            refine ⟨⟨2, by decide, rfl, blk_put G2.out 1 _ rfl, ?_, ?_, (GB.out.setCell hle2 _).drew⟩, by decide⟩
            · exact (far_heap _ _ _ _ n24).trans G4.out
            · exact (far_heap _ _ _ _ n52.symm).trans G5.out
          · simp only [cells4, addV, List.getElem?_toArray, List.getElem?_cons_succ, List.getElem?_cons_zero] at zx zr
            go_wp2
            go_region
            go_wp2
            refine ⟨⟨3, by decide, rfl, blk_put G2.out 2 _ rfl, ?_, ?_, (GB.out.setCell hle2 _).drew⟩, by decide⟩
            · exact (far_heap _ _ _ _ n24).trans G4.out
            · exact (far_heap _ _ _ _ n52.symm).trans G5.out
          · simp only [cells4, addV, List.getElem?_toArray, List.getElem?_cons_succ, List.getElem?_cons_zero] at zx zr
            go_wp2
            go_region
            go_wp2
            refine ⟨⟨4, by decide, rfl, blk_put G2.out 3 _ rfl, ?_, ?_, (GB.out.setCell hle2 _).drew⟩, by decide⟩
            · exact (far_heap _ _ _ _ n24).trans G4.out
            · exact (far_heap _ _ _ _ n52.symm).trans G5.out
        · have hi4' : i = 4 := by omega
          subst hi4'
          have hw : withV T S (a, b, c, d) (row M) = addV 4 (a, b, c, d) (y0, y1, y2, y3) := by
            unfold withV
            rw [← HX.out]
          rw [← hw] at G2
          have HWV := Lib.hid hw
          obtain ⟨Y, hY⟩ : ∃ Y, Y = withV T S (a, b, c, d) (row M) := ⟨_, rfl⟩
          rw [← hY] at G2
          have HY := Lib.hid hY
          clear hw hY
          obtain ⟨v0, v1, v2, v3⟩ := Y
          have z0 := blk_cell G2.out 0
          have z1 := blk_cell G2.out 1
          have z2 := blk_cell G2.out 2
          have z3 := blk_cell G2.out 3
          simp only [cells4, List.getElem?_toArray, List.getElem?_cons_succ, List.getElem?_cons_zero] at z0 z1 z2 z3
          have f0 := blk_frozen G4.out 0
          have f1 := blk_frozen G4.out 1
          have f2 := blk_frozen G4.out 2
          have f3 := blk_frozen G4.out 3
          have e0 := blk_cell G4.out 0
          have e1 := blk_cell G4.out 1
          have e2 := blk_cell G4.out 2
          have e3 := blk_cell G4.out 3
          go_wp2
          refine bodyPost_ret (results_single rfl (.cell b4 158 (cells4 (v0, v1, v2, v3)) (0, 0) _ rfl (blk_put (blk_put (blk_put (blk_put G4.out 0 (.int .u32 v0) rfl) 1 (.int .u32 v1) rfl) 2 (.int .u32 v2) rfl) 3 (.int .u32 v3) rfl) Try.underlying158 rfl (by kernel_rfl) .nil)) rfl ?_
          refine ⟨by rw [← HY.out], ?_⟩
          exact (((GB.out.setCell hle4 _).setCell hle4 _).setCell hle4 _).setCell hle4 _
end Go.Proofs.Yticjpjgfccbhlaa.Hash
