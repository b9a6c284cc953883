/- hash: Hash.Write by contract. (The steps of its regions that draw: printed by tools/hwrite.py.) -/
import Derived.Test.YticjpjgfccbhlaaHash3
namespace Go.Proofs.Yticjpjgfccbhlaa.Hash
open Go.RowKit Go.Proofs.YticjpjgfccbhlaaW.PrintWords Go.Proofs.YticjpjgfccbhlaaW.PrintLast Go.Proofs.YticjpjgfccbhlaaW.PrintMore Go.Proofs.Yticjpjgfccbhlaa.PSaslBoth
attribute [local go_sem] max2_int min2_int max_two min_two max_three min_three max_four min_four
set_option linter.unusedVariables false
set_option linter.unusedSimpArgs false
/-- what a call on the state at block g leaves of all else -/
structure Near (g : Nat) (w w' : World) : Prop where
  os : w'.os = w.os
  tape : w'.tape = w.tape
  output : w'.output = w.output
  size : w.heap.size ≤ w'.heap.size
  block : ∀ k, k < w.heap.size → k ≠ g → w'.heap[k]? = w.heap[k]?
theorem Near.refl (g : Nat) (w : World) : Near g w w := ⟨rfl, rfl, rfl, Nat.le_refl _, fun _ _ _ => rfl⟩
theorem Near.trans {g : Nat} {w w1 w2 : World} (h : Near g w w1) (k : Near g w1 w2) : Near g w w2 :=
  ⟨k.os.trans h.os, k.tape.trans h.tape, k.output.trans h.output, Nat.le_trans h.size k.size, fun i hi hg => (k.block i (Nat.lt_of_lt_of_le hi h.size) hg).trans (h.block i hi hg)⟩
theorem Near.of_below {g : Nat} {w w1 : World} (h : Below w.heap.size w w1) : Near g w w1 := ⟨h.os, h.tape, h.output, h.size, fun i hi _ => h.block i hi⟩
theorem Near.below {g B : Nat} {w w1 : World} (h : Near g w w1) (hg : B ≤ g) (hB : B ≤ w.heap.size) : Below B w w1 := ⟨h.os, h.tape, h.output, h.size, fun i hi => h.block i (by omega) (by omega)⟩
theorem Near.setCell {g : Nat} {w w1 : World} (h : Near g w w1) (j : Nat) (u : Value) : Near g w (w1.setCell ⟨g, j, none⟩ u) :=
  ⟨h.os, h.tape, h.output, by simpa [World.setCell] using h.size, fun i hi hg => (far_heap w1 ⟨g, j, none⟩ u i (fun e => hg e.symm)).trans (h.block i hi hg)⟩
theorem Near.drew {g : Nat} {w w1 : World} (h : Near g w w1) : Near g w w1.drew := ⟨h.os, h.tape, h.output, h.size, h.block⟩
theorem Near.setDrew {g : Nat} {w w1 : World} (h : Near g w w1) (j : Nat) (u : Value) : Near g w (w1.setCell ⟨g, j, none⟩ u).drew := (h.setCell j u).drew
theorem Near.cell {g : Nat} {w w1 : World} (h : Near g w w1) {b j : Nat} {v : Value} (hc : w.cell? ⟨b, j, none⟩ = some v) (hb : b ≠ g) : w1.cell? ⟨b, j, none⟩ = some v := by
  have hlt : b < w.heap.size := World.block_lt_of_cell? w _ hc
  have e := h.block b hlt hb
  unfold World.cell? at hc ⊢
  rw [e]
  exact hc
theorem C_near {g : Nat} {w w1 : World} (h : Near g w w1) {A : Option Addr} {n : Nat} {l : List Int} (hr : Kd.C (Kd.int .u8) w A n l) (hne : ∀ ad, A = some ad → 0 < n → ad.block ≠ g) : Kd.C (Kd.int .u8) w1 A n l :=
  Kd.C_keep (0 : Int) hr ⟨h.size, fun i hi hg _ => h.block i hi hg⟩ hne
theorem made_own (W : World) (n : Nat) (hn : n ≤ 2000000000) : (W.alloc (.cells (madeCells #[.int .u8 0] n) 5)).ownsRow W.heap.size 5 1 (.slice (some ⟨W.heap.size, 0, none⟩) 0 n) 0 (nums .u8 []) :=
  World.ownsRow_made W _ n (Nat.le_refl _) (by show n ≤ 9223372036854775807; omega) (by simp [size_madeCells])
def AtI (w : World) (b off : Nat) (l : List Int) : Prop := ∀ (j : Nat) x, l[j]? = some x → w.cell? ⟨b, off + j, none⟩ = some (.int .u8 x)
theorem atI_of_C {w : World} {A : Option Addr} {n : Nat} {l : List Int} (h : Kd.C (Kd.int .u8) w A n l) (h0 : 0 < n) : ∃ b off, A = some ⟨b, off, none⟩ ∧ AtI w b off l := by
  have hn : l.length = n := h.1
  obtain ⟨ad, rfl, hc⟩ := h.2.2 h0
  have hx : ∀ (j : Nat) x, l[j]? = some x → w.cell? (ad.add j) = some (.int .u8 x) := by
    intro j x hj
    obtain ⟨cs, hl, hk, hu⟩ := hc j x hj
    obtain rfl : cs = [.int .u8 x] := hk
    have := hu 0 _ rfl
    rw [Nat.add_zero] at this
    rwa [show j * (Kd.int .u8).sz = j from Nat.mul_one j] at this
  obtain ⟨b, off, sp⟩ := ad
  have hsp : sp = none := by
    have := hx 0 _ (List.getElem?_eq_getElem (by omega))
    unfold World.cell? at this
    split at this
    · cases sp with
      | none => rfl
      | some k => simp [Addr.add] at this
    · cases this
  subst hsp
  exact ⟨b, off, rfl, fun j x hj => by rw [← add_at]; exact hx j x hj⟩
theorem exec_load {P : Program} {a : Act} {o : Oper} {t : TypeId} {x : Operand} {p v : Value} {W : World} (ho : o.op = .load t x) (hx : a.eval x = p) (h : (Instr.loadAt t p).run P W = .ok v W) : (execOp a.eval o).run P W = .ok (.value v) W := by
  simp [execOp, ho, hx, h]
theorem C_of_atI {w : World} {b off n : Nat} {l : List Int} (hn : l.length = n) (h : AtI w b off l) (hm : n ≤ 9223372036854775807) : Kd.C (Kd.int .u8) w (some ⟨b, off, none⟩) n l := by
  refine Kd.C_of_reads (d := (0 : Int)) (h1 := fun _ => rfl) ⟨hn, hm, fun _ => ⟨_, rfl, fun j hj => ?_⟩⟩
  rw [Addr.add_mid]
  have hj' : j < l.length := by omega
  have e : l[j]? = some (l.getD j 0) := by rw [List.getD_eq_getElem?_getD, List.getElem?_eq_getElem hj']; rfl
  exact h j _ e
theorem C_tail {w : World} {B off N c : Nat} {x : List Int} (k : Nat) (h : Kd.C (Kd.int .u8) w (some ⟨B, off, none⟩) N x) (hk : k ≤ N) (hN : 0 < N) (hc : N ≤ c) : Kd.C (Kd.int .u8) w (if c = k then some ⟨B, off, none⟩ else some ⟨B, off + k, none⟩) (N - k) (x.drop k) := by
  have hl : x.length = N := h.1
  obtain ⟨b, o, e, hat⟩ := atI_of_C h hN
  cases e
  split
  · refine ⟨by rw [List.length_drop]; omega, by have := h.2.1; omega, fun h0 => by omega⟩
  · refine C_of_atI (by rw [List.length_drop]; omega) (fun j v hj => ?_) (by have := h.2.1; omega)
    rw [List.getElem?_drop] at hj
    rw [Nat.add_assoc]
    exact hat (k + j) v hj
theorem C_drew {w : World} {A : Option Addr} {n : Nat} {l : List Int} (h : Kd.C (Kd.int .u8) w A n l) : Kd.C (Kd.int .u8) w.drew A n l := h
theorem C_cut {w : World} {A : Option Addr} {n : Nat} {l : List Int} (h : Kd.C (Kd.int .u8) w A n l) (m : Nat) (hm : m ≤ n) : Kd.C (Kd.int .u8) w A m (l.take m) :=
  Kd.C_of_reads (d := (0 : Int)) (h1 := fun _ => rfl) ((Kd.reads_of_C (enc := Value.int .u8) (d := (0 : Int)) (h1 := fun _ => rfl) h).take_ m hm)
theorem load_row {w : World} {bb oo : Nat} {l : List Int} (h : Kd.C (Kd.int .u8) w (some ⟨bb, oo, none⟩) 64 (l.take 64)) (hl : (l.take 64).length = 64) (W : World) (hW : W = w) : (Instr.loadAt 152 (.pointer (some ⟨bb, oo, none⟩))).run Try.prog W = .ok (.agg (nums .u8 (l.take 64)).toArray) W := by
  subst hW
  obtain ⟨b, off, e, hat⟩ := atI_of_C h (by decide)
  cases e
  refine run_loadAt_mid W bb oo 152 (nums .u8 (l.take 64)) _ (fun j v hj => ?_) Try.underlying152 rfl ?_
  · unfold nums at hj
    rw [List.getElem?_map, Option.map_eq_some_iff] at hj
    obtain ⟨x, hx, rfl⟩ := hj
    exact hat j x hx
  · rw [nums, List.length_map, hl]
    kernel_rfl
/-- whole rows eaten: the register, what is left -/
def eatV (T S : Nat → Int) : Nat → Four → List Int → Four × List Int
  | 0, x, l => (x, l)
  | f + 1, x, l => if 64 ≤ l.length then eatV T S f (withV T S x (row (l.take 64))) (l.drop 64) else (x, l)
theorem eatV_fuel (T S : Nat → Int) : ∀ (f f' : Nat) (x : Four) (l : List Int), l.length ≤ f → l.length ≤ f' → eatV T S f x l = eatV T S f' x l
  | 0, 0, _, _, _, _ => rfl
  | 0, f' + 1, x, l, h, _ => by rw [eatV, eatV, if_neg (by omega)]
  | f + 1, 0, x, l, _, h => by rw [eatV, eatV, if_neg (by omega)]
  | f + 1, f' + 1, x, l, h, h' => by
    rw [eatV, eatV]
    split
    · exact eatV_fuel T S f f' _ _ (by rw [List.length_drop]; omega) (by rw [List.length_drop]; omega)
    · rfl
def lenOf : Value → Nat
  | .slice _ n _ => n
  | _ => 0
set_option maxHeartbeats 4000000 in
set_option maxRecDepth 100000 in
theorem write_calls (T S : Nat → Int) (g : Nat) (r0 r1 r2 r3 n : Int) (A : Option Addr) (lr cr : Nat) (rest : List Int) (B : Option Addr) (lb cb : Nat) (b : List Int) (w : World)
    (hg : w.heap[g]? = some (.cells (hashCells (r0, r1, r2, r3) (.slice A lr cr) n) 161 (0, 0)))
    (hr : Kd.C (Kd.int .u8) w A lr rest) (hrl : rest.length = lr) (hrc : lr ≤ cr) (hlr : lr < 64) (hrg : ∀ ad, A = some ad → 0 < lr → ad.block ≠ g)
    (hb : Kd.C (Kd.int .u8) w B lb b) (hbl : b.length = lb) (hbc : lb ≤ cb) (hlb : lb ≤ 1000000000) (hbg : ∀ ad, B = some ad → 0 < lb → ad.block ≠ g)
    (hT : ∀ j, j < 64 → w.cell? ⟨1, j, none⟩ = some (.int .u32 (T j))) (hS : ∀ j, j < 16 → w.cell? ⟨2, j, none⟩ = some (.int .u8 (S j))) (hS0 : ∀ j, j < 16 → 0 ≤ S j) (hg2 : 3 ≤ g) :
    Calls Try.prog 107 #[.pointer (some ⟨g, 0, none⟩), .slice B lb cb] w fun e w' => e = .returned (.int .i64 0) ∧ ∃ A2 c2, w'.heap[g]? = some (.cells (hashCells (eatV T S (rest ++ b).length (r0, r1, r2, r3) (rest ++ b)).1 (.slice A2 (eatV T S (rest ++ b).length (r0, r1, r2, r3) (rest ++ b)).2.length c2) (wrap64 (n + (lb : Int)))) 161 (0, 0)) ∧
      Kd.C (Kd.int .u8) w' A2 (eatV T S (rest ++ b).length (r0, r1, r2, r3) (rest ++ b)).2.length (eatV T S (rest ++ b).length (r0, r1, r2, r3) (rest ++ b)).2 ∧ (eatV T S (rest ++ b).length (r0, r1, r2, r3) (rest ++ b)).2.length ≤ c2 ∧ (eatV T S (rest ++ b).length (r0, r1, r2, r3) (rest ++ b)).2.length < 64 ∧
      (∀ ad, A2 = some ad → 0 < (eatV T S (rest ++ b).length (r0, r1, r2, r3) (rest ++ b)).2.length → w.heap.size ≤ ad.block) ∧ Near g w w' := by
  obtain ⟨Q0, hQ0⟩ : ∃ Q, Q = eatV T S (rest ++ b).length (r0, r1, r2, r3) (rest ++ b) := ⟨_, rfl⟩
  rw [← hQ0]
  have HQI := Lib.hid hQ0
  clear hQ0
  have hglt := blk_lt hg
  have x0 := blk_cell hg 0
  have x5 := blk_cell hg 5
  have x6 := blk_cell hg 6
  have f6 := blk_frozen hg 6
  simp only [hashCells, List.getElem?_toArray, List.getElem?_cons_succ, List.getElem?_cons_zero] at x0 x5 x6
  have x5w : (w.setCell ⟨g, 6, none⟩ (.int .i64 (wrap64 (n + (lb : Int))))).drew.cell? ⟨g, 5, none⟩ = some (.slice A lr cr) := by
    have h := blk_cell (show (w.setCell ⟨g, 6, none⟩ (.int .i64 (wrap64 (n + (lb : Int))))).drew.heap[g]? = some (.cells (hashCells (r0, r1, r2, r3) (.slice A lr cr) (wrap64 (n + (lb : Int)))) 161 (0, 0)) from blk_put hg 6 _ rfl) 5
    exact h
  have hmk : ∀ W, (Instr.makeSlice 73 (.int .i64 0) (.int .i64 (wrap64 ((lr : Int) + (lb : Int))))).run Try.prog W = .ok (.slice (some ⟨W.heap.size, 0, none⟩) 0 (lr + lb)) (W.alloc (.cells (madeCells #[.int .u8 0] (lr + lb)) 5)) := by
    intro W
    rw [show wrap64 ((lr : Int) + (lb : Int)) = (lr : Int) + (lb : Int) by unfold wrap64; omega]
    obtain ⟨i0, hi, hzz⟩ := Option.map_eq_some_iff.1 info5
    simp only [Prod.mk.injEq] at hzz
    obtain ⟨hz0, hz1, hz2⟩ := hzz
    have h := run_make (P := Try.prog) W 73 5 i0 (.int .u8 0) Try.underlying73 hi hz0 .i64 .i64 0 ((lr : Int) + (lb : Int)) (by omega) (by omega) (by rw [hz2]; omega) (by omega)
    rw [hz1, Nat.mul_one, show ((lr : Int) + (lb : Int)).toNat = lr + lb by omega] at h
    exact h
  go_enter Try.func107, Try.ntmps107
  go_wp2
  refine start_ (n := 17) (S := fun w' => w'.cell? ⟨g, 5, none⟩ = some (.slice A lr cr)) (ds := []) #[false, false, false, false, false, false, false, false, false, false, false, false, false, false, false, false, false] (by kernel_rfl) rfl rfl (x5w) (fun hHeld => ?_)
  generalize hdr : (w.setCell ⟨g, 6, none⟩ (.int .i64 (wrap64 (n + (lb : Int))))).drew = wd at hHeld ⊢
  have HND := Lib.hid (show Near g w wd from hdr ▸ (Near.refl g w).setDrew 6 _)
  have hgd : g < wd.heap.size := Nat.lt_of_lt_of_le hglt HND.out.size
  have HRD := Lib.hid (C_near HND.out hr hrg)
  have HBD := Lib.hid (C_near HND.out hb hbg)
  have HGD := Lib.hid (show wd.heap[g]? = some (.cells (hashCells (r0, r1, r2, r3) (.slice A lr cr) (wrap64 (n + (lb : Int)))) 161 (0, 0)) from (congrArg (fun W => W.heap[g]?) hdr).symm.trans (blk_put hg 6 _ rfl))
  clear hdr
  refine pure_ (i := 0) (N := some 24) (v := ?_) (a' := ?_) #[true, false, false, false, false, false, false, false, false, false, false, false, false, false, false, false, false] rfl rfl (by kernel_rfl) (fun _ _ _ h => h) (Or.inl ⟨by rfl, ?_⟩) ?_ ?_
  rotate_left
  · intro w'
    go_simp
    with_reducible rfl
  rotate_left
  · simp only [Act.put, List.setIfInBounds_toArray, List.set_cons_zero, List.set_cons_succ, i64_w, i32_w]
    rfl
  refine pure_ (i := 1) (N := some 25) (v := ?_) (a' := ?_) #[true, true, false, false, false, false, false, false, false, false, false, false, false, false, false, false, false] rfl rfl (by kernel_rfl) (fun _ _ _ h => h) (Or.inl ⟨by rfl, ?_⟩) ?_ ?_
  rotate_left
  · intro w'
    go_simp
    with_reducible rfl
  rotate_left
  · simp only [Act.put, List.setIfInBounds_toArray, List.set_cons_zero, List.set_cons_succ, i64_w, i32_w]
    rfl
  refine pure_ (i := 2) (N := some 26) (v := ?_) (a' := ?_) #[true, true, true, false, false, false, false, false, false, false, false, false, false, false, false, false, false] rfl rfl (by kernel_rfl) (fun _ _ _ h => h) (Or.inl ⟨by rfl, ?_⟩) ?_ ?_
  rotate_left
  · intro w'
    go_simp
    with_reducible rfl
  rotate_left
  · simp only [Act.put, List.setIfInBounds_toArray, List.set_cons_zero, List.set_cons_succ, i64_w, i32_w]
    rfl
  refine pure_ (i := 5) (N := some 29) (v := ?_) (a' := ?_) #[true, true, true, false, false, true, false, false, false, false, false, false, false, false, false, false, false] rfl rfl (by kernel_rfl) (fun _ _ _ h => h) (Or.inl ⟨by rfl, ?_⟩) ?_ ?_
  rotate_left
  · intro w'
    go_simp
    with_reducible rfl
  rotate_left
  · simp only [Act.put, List.setIfInBounds_toArray, List.set_cons_zero, List.set_cons_succ, i64_w, i32_w]
    rfl
  refine pure_ (i := 6) (N := some 30) (v := ?_) (a' := ?_) #[true, true, true, false, false, true, true, false, false, false, false, false, false, false, false, false, false] rfl rfl (by kernel_rfl) (fun _ _ _ h => h) (Or.inl ⟨by rfl, ?_⟩) ?_ ?_
  rotate_left
  · intro w'
    go_simp
    with_reducible rfl
  rotate_left
  · simp only [Act.put, List.setIfInBounds_toArray, List.set_cons_zero, List.set_cons_succ, i64_w, i32_w]
    rfl
  refine pure_ (i := 9) (N := some 33) (v := ?_) (a' := ?_) #[true, true, true, false, false, true, true, false, false, true, false, false, false, false, false, false, false] rfl rfl (by kernel_rfl) (fun _ _ _ h => h) (Or.inl ⟨by rfl, ?_⟩) ?_ ?_
  rotate_left
  · intro w'
    go_simp
    with_reducible rfl
  rotate_left
  · simp only [Act.put, List.setIfInBounds_toArray, List.set_cons_zero, List.set_cons_succ, i64_w, i32_w]
    rfl
  refine pure_ (i := 10) (N := some 34) (v := ?_) (a' := ?_) #[true, true, true, false, false, true, true, false, false, true, true, false, false, false, false, false, false] rfl rfl (by kernel_rfl) (fun _ _ _ h => h) (Or.inl ⟨by rfl, ?_⟩) ?_ ?_
  rotate_left
  · intro w'
    go_simp
    with_reducible rfl
  rotate_left
  · simp only [Act.put, List.setIfInBounds_toArray, List.set_cons_zero, List.set_cons_succ, i64_w, i32_w]
    rfl
  refine pure_ (i := 11) (N := some 35) (v := ?_) (a' := ?_) #[true, true, true, false, false, true, true, false, false, true, true, true, false, false, false, false, false] rfl rfl (by kernel_rfl) (fun _ _ _ h => h) (Or.inl ⟨by rfl, ?_⟩) ?_ ?_
  rotate_left
  · intro w'
    go_simp
    with_reducible rfl
  rotate_left
  · simp only [Act.put, List.setIfInBounds_toArray, List.set_cons_zero, List.set_cons_succ, i64_w, i32_w]
    rfl
  refine pure_ (i := 14) (N := some 38) (v := ?_) (a' := ?_) #[true, true, true, false, false, true, true, false, false, true, true, true, false, false, true, false, false] rfl rfl (by kernel_rfl) (fun _ _ _ h => h) (Or.inl ⟨by rfl, ?_⟩) ?_ ?_
  rotate_left
  · intro w'
    go_simp
    with_reducible rfl
  rotate_left
  · simp only [Act.put, List.setIfInBounds_toArray, List.set_cons_zero, List.set_cons_succ, i64_w, i32_w]
    rfl
  refine take_ (i := 3) (N := some 27) (v := ?_) (a' := ?_) #[true, true, true, true, false, true, true, false, false, true, true, true, false, false, true, false, false] rfl rfl (by kernel_rfl) (fun _ _ _ h => h) (Or.inl ⟨by rfl, ?_⟩) hHeld ?_ ?_
  rotate_left
  · intro w' s0
    go_simp
    with_reducible rfl
  rotate_left
  · simp only [Act.put, List.setIfInBounds_toArray, List.set_cons_zero, List.set_cons_succ, i64_w, i32_w]
    rfl
  refine pure_ (i := 4) (N := some 28) (v := ?_) (a' := ?_) #[true, true, true, true, true, true, true, false, false, true, true, true, false, false, true, false, false] rfl rfl (by kernel_rfl) (fun _ _ _ h => h) (Or.inl ⟨by rfl, ?_⟩) ?_ ?_
  rotate_left
  · intro w'
    go_simp
    with_reducible rfl
  rotate_left
  · simp only [Act.put, List.setIfInBounds_toArray, List.set_cons_zero, List.set_cons_succ, i64_w, i32_w]
    rfl
  refine pure_ (i := 7) (N := some 31) (v := ?_) (a' := ?_) #[true, true, true, true, true, true, true, true, false, true, true, true, false, false, true, false, false] rfl rfl (by kernel_rfl) (fun _ _ _ h => h) (Or.inl ⟨by rfl, ?_⟩) ?_ ?_
  rotate_left
  · intro w'
    go_simp
    with_reducible rfl
  rotate_left
  · simp only [Act.put, List.setIfInBounds_toArray, List.set_cons_zero, List.set_cons_succ, i64_w, i32_w]
    rfl
  refine take_ (i := 12) (N := some 36) (v := ?_) (a' := ?_) #[true, true, true, true, true, true, true, true, false, true, true, true, true, false, true, false, false] rfl rfl (by kernel_rfl) (fun _ _ _ h => h) (Or.inl ⟨by rfl, ?_⟩) hHeld ?_ ?_
  rotate_left
  · intro w' s0
    go_simp
    with_reducible rfl
  rotate_left
  · simp only [Act.put, List.setIfInBounds_toArray, List.set_cons_zero, List.set_cons_succ, i64_w, i32_w]
    rfl
  refine one_ (i := 8) (N := some 32) #[true, true, true, true, true, true, true, true, true, true, true, true, true, false, true, false, false] rfl rfl (by kernel_rfl) (by decide) (fun K hK => ?_)
  refine event_step (by rfl) (v := .slice (some ⟨wd.heap.size, 0, none⟩) 0 (lr + lb)) (w1 := wd.alloc (.cells (madeCells #[.int .u8 0] (lr + lb)) 5)) ?mk ?_
  case mk => first | (go_simp; done) | (go_simp; rfl)
  have HB8 := Lib.hid ((Below.refl wd.heap.size wd).alloc (Nat.le_refl _) (.cells (madeCells #[.int .u8 0] (lr + lb)) 5))
  have HO8 := Lib.hid (Kd.R_of_own (enc := Value.int .u8) (h1 := fun _ => rfl) (ok := fun _ => True) (made_own wd (lr + lb) (by omega)) (fun _ _ => trivial))
  have hH0 := hHeld
  refine hK.out _ _ ((HB8.out.cell (by exact hgd)).trans hH0) (fun hHeld => ?_)
  clear hK K
  refine norm_ (a' := ?_) ?_ ?_
  rotate_left
  · show Act.put _ (some 32) _ = _
    simp only [Act.put, List.setIfInBounds_toArray, List.set_cons_zero, List.set_cons_succ, i64_w, i32_w]
    rfl
  refine one_ (i := 13) (N := some 37) #[true, true, true, true, true, true, true, true, true, true, true, true, true, true, true, false, false] rfl rfl (by kernel_rfl) (by decide) (fun K hK => ?_)
  refine Kd.R_append_rows_step (Kd.int .u8) (w0 := wd) wd.heap.size (by rfl) (.tmp 32) (.tmp 36) 73 5 (.int .u8 0) 1 rfl Try.underlying73 info5 rfl (by decide) (by omega) _ ([] : List Int) rest A lr cr (fun _ => True) (fun _ => False) rfl rfl ?aO ?aR (fun _ _ h => h) (fun _ h => h.elim) (fun _ _ => trivial) ?aB ?aS ?aL ?_
  case aO => exact HO8.out
  case aR => exact Kd.C_below HRD.out HB8.out
  case aB => exact HB8.out
  case aS => exact HB8.out.size
  case aL => (simp; omega)
  intro v13 w13 ho hb hgr hat
  have HOw13 := Lib.hid ho
  have HBw13 := Lib.hid hb
  clear ho hb hgr hat
  refine hK.out _ _ ((HBw13.out.cell (by exact hgd)).trans hH0) (fun hHeld => ?_)
  clear hK K
  refine norm_ (a' := ?_) ?_ ?_
  rotate_left
  · show Act.put _ (some 37) _ = _
    simp only [Act.put, List.setIfInBounds_toArray, List.set_cons_zero, List.set_cons_succ, i64_w, i32_w]
    rfl
  refine one_ (i := 15) (N := some 39) #[true, true, true, true, true, true, true, true, true, true, true, true, true, true, true, true, false] rfl rfl (by kernel_rfl) (by decide) (fun K hK => ?_)
  refine Kd.R_append_rows_step (Kd.int .u8) (w0 := wd) wd.heap.size (by rfl) (.tmp 37) (.tmp 38) 73 5 (.int .u8 0) 1 rfl Try.underlying73 info5 rfl (by decide) (by omega) _ ([] ++ rest) b B lb cb (fun _ => True) (fun _ => False) rfl rfl ?aO ?aR (fun _ _ h => h) (fun _ h => h.elim) (fun _ _ => trivial) ?aB ?aS ?aL ?_
  case aO => exact HOw13.out
  case aR => exact Kd.C_below HBD.out HBw13.out
  case aB => exact HBw13.out
  case aS => exact HBw13.out.size
  case aL => (simp; omega)
  intro v15 w15 ho hb hgr hat
  have HOw15 := Lib.hid ho
  have HBw15 := Lib.hid hb
  clear ho hb hgr hat
  refine hK.out _ _ ((HBw15.out.cell (by exact hgd)).trans hH0) (fun hHeld => ?_)
  clear hK K
  refine norm_ (a' := ?_) ?_ ?_
  rotate_left
  · show Act.put _ (some 39) _ = _
    simp only [Act.put, List.setIfInBounds_toArray, List.set_cons_zero, List.set_cons_succ, i64_w, i32_w]
    rfl
  refine pure_ (i := 16) (N := some 5) (v := ?_) (a' := ?_) #[true, true, true, true, true, true, true, true, true, true, true, true, true, true, true, true, true] rfl rfl (by kernel_rfl) (fun _ _ _ h => h) (Or.inl ⟨by rfl, ?_⟩) ?_ ?_
  rotate_left
  · intro w'
    go_simp
    with_reducible rfl
  rotate_left
  · simp only [Act.put, List.setIfInBounds_toArray, List.set_cons_zero, List.set_cons_succ, i64_w, i32_w]
    rfl
  refine done_ (by kernel_rfl) ?_

  have hR15 := HOw15.out
  rw [List.nil_append] at hR15
  obtain ⟨A5, c5, rfl, hc5, hC5⟩ := Kd.R_reads hR15
  have hbase := Kd.R_base hR15
  have HW15 := Lib.hid (HND.out.trans (Near.of_below (g := g) HBw15.out))
  have HG15 := Lib.hid ((HBw15.out.block g hgd).trans HGD.out)
  have HC15 := Lib.hid hC5
  have hA5 : ∀ ad, A5 = some ad → 0 < (rest ++ b).length → w.heap.size ≤ ad.block := by
    intro ad he h0
    obtain ⟨bb, oo, e, _⟩ := atI_of_C hC5 h0
    rw [he] at e
    injection e with e
    subst e he
    have := hbase bb rfl
    have := HND.out.size
    show w.heap.size ≤ bb
    omega
  have HA5 := Lib.hid hA5
  obtain ⟨al, hal⟩ : ∃ al, al = rest ++ b := ⟨_, rfl⟩
  rw [← hal] at HC15 HA5 hc5 ⊢
  have hall : al.length = lr + lb := by rw [hal, List.length_append, hrl, hbl]
  have HQ0 := Lib.hid (show Q0 = eatV T S al.length (r0, r1, r2, r3) al by rw [HQI.out, hal])
  clear hR15 hC5 hbase hA5 hal hHeld
  go_wp2
  go_loopw [5] (fun o wr => ∃ (A1 : Option Addr) (c1 : Nat) (l : List Int) (y : Four), o = .slice A1 l.length c1 ∧ l.length ≤ c1 ∧ l.length ≤ al.length ∧ Kd.C (Kd.int .u8) wr A1 l.length l ∧ (∀ ad, A1 = some ad → 0 < l.length → w.heap.size ≤ ad.block) ∧ wr.heap[g]? = some (.cells (hashCells y (.slice A lr cr) (wrap64 (n + (lb : Int)))) 161 (0, 0)) ∧ Near g w wr ∧ Q0 = eatV T S l.length y l) (fun o _ => lenOf o)
  case atStart => exact ⟨A5, c5, al, (r0, r1, r2, r3), rfl, hc5, Nat.le_refl _, HC15.out, HA5.out, HG15.out, HW15.out, HQ0.out⟩
  case round =>
    obtain ⟨A1, c1, l, ⟨y0, y1, y2, y3⟩, rfl, hlc, hla, hC, hA, hG, hN, hQ⟩ := hrel
    have HCR := Lib.hid hC
    have HAR := Lib.hid hA
    have HGR := Lib.hid hG
    have HBR := Lib.hid hN
    have HQR := Lib.hid hQ
    clear hC hA hG hN hQ
    by_cases h64 : 64 ≤ l.length
    · obtain ⟨bb, oo, rfl, _⟩ := atI_of_C HCR.out (by omega)
      have hbb : w.heap.size ≤ bb := HAR.out _ rfl (by omega)
      have hl64 : (l.take 64).length = 64 := by rw [List.length_take]; omega
      have HC64 := Lib.hid (C_cut HCR.out 64 h64)
      have q1 : decide (64 ≤ (l.length : Int)) = true := decide_eq_true (by omega)
      have z1 := blk_cell HGR.out 1
      have z2 := blk_cell HGR.out 2
      have z3 := blk_cell HGR.out 3
      have z4 := blk_cell HGR.out 4
      simp only [hashCells, List.getElem?_toArray, List.getElem?_cons_succ, List.getElem?_cons_zero] at z1 z2 z3 z4
      have f1 := blk_frozen HGR.out 1
      have f2 := blk_frozen HGR.out 2
      have f3 := blk_frozen HGR.out 3
      have f4 := blk_frozen HGR.out 4
      have zl := load_row (C_drew HC64.out) hl64 _ rfl
      have zs : ∀ W, (Instr.sliceAt 73 (.slice (some ⟨bb, oo, none⟩) l.length c1) none (some (.int .i64 64)) none).run Try.prog W = .ok (.slice (some ⟨bb, oo, none⟩) 64 c1) W := by
        intro W
        have hx : ((c1 : Int) < 64) = False := eq_false (by omega)
        go_simp
      have za : ∀ W, (Instr.arrayAt 152 (.slice (some ⟨bb, oo, none⟩) 64 c1)).run Try.prog W = .ok (.pointer (some ⟨bb, oo, none⟩)) W := fun W => run_arrayAt W 152 5 64 _ 64 c1 Try.underlying152 (Nat.le_refl _)
      obtain ⟨v, hv⟩ : ∃ v, v = withV T S (y0, y1, y2, y3) (row (l.take 64)) := ⟨_, rfl⟩
      obtain ⟨v0, v1, v2, v3⟩ := v
      have HV := Lib.hid hv
      have HWI := Lib.hid (fun W (hB : Near g w W) => (show Calls Try.prog 110 #[.agg #[.int .u32 y0, .int .u32 y1, .int .u32 y2, .int .u32 y3], .agg (nums .u8 (l.take 64)).toArray] W fun e w' => e = .returned (.agg #[.int .u32 v0, .int .u32 v1, .int .u32 v2, .int .u32 v3]) ∧ Below W.heap.size W w' from by
        have h := with_calls T S y0 y1 y2 y3 (l.take 64) hl64 W (fun j hj => hB.cell (hT j hj) (by omega)) (fun j hj => hB.cell (hS j hj) (by omega)) hS0
        rw [← hv] at h
        exact h))
      clear hv
      go_wp2
      refine start_ (n := 13) (S := fun w' => w'.cell? ⟨g, 1, none⟩ = some (.int .u32 y0) ∧ w'.cell? ⟨g, 2, none⟩ = some (.int .u32 y1) ∧ w'.cell? ⟨g, 3, none⟩ = some (.int .u32 y2) ∧ w'.cell? ⟨g, 4, none⟩ = some (.int .u32 y3) ∧ w'.frozen? ⟨g, 1, none⟩ = false ∧ w'.frozen? ⟨g, 2, none⟩ = false ∧ w'.frozen? ⟨g, 3, none⟩ = false ∧ w'.frozen? ⟨g, 4, none⟩ = false ∧ (Instr.loadAt 152 (.pointer (some ⟨bb, oo, none⟩))).run Try.prog w' = .ok (.agg (nums .u8 (l.take 64)).toArray) w') (ds := [12]) #[false, false, false, false, false, false, false, false, false, false, false, false, false] (by kernel_rfl) rfl rfl ⟨z1, z2, z3, z4, f1, f2, f3, f4, zl⟩ (fun hHeld => ?_)
      generalize hdr : wr.drew = wq at hHeld ⊢
      have HBQ := Lib.hid (show Near g w wq from hdr ▸ HBR.out.drew)
      have HGQ := Lib.hid (show wq.heap[g]? = some (.cells (hashCells (y0, y1, y2, y3) (.slice A lr cr) (wrap64 (n + (lb : Int)))) 161 (0, 0)) from (congrArg (fun W => W.heap[g]?) hdr).symm.trans HGR.out)
      have HCQ := Lib.hid (show Kd.C (Kd.int .u8) wq (some ⟨bb, oo, none⟩) 64 (l.take 64) from hdr ▸ C_drew HC64.out)
      have HCQL := Lib.hid (show Kd.C (Kd.int .u8) wq (some ⟨bb, oo, none⟩) l.length l from hdr ▸ C_drew HCR.out)
      clear hdr
      refine pure_ (i := 0) (N := some 43) (v := ?_) (a' := ?_) #[true, false, false, false, false, false, false, false, false, false, false, false, false] rfl rfl (by kernel_rfl) (fun _ _ _ h => h) (Or.inl ⟨by rfl, ?_⟩) ?_ ?_
      rotate_left
      · intro w'
        go_simp
        with_reducible rfl
      rotate_left
      · simp only [Act.put, List.setIfInBounds_toArray, List.set_cons_zero, List.set_cons_succ, i64_w, i32_w]
        rfl
      refine pure_ (i := 1) (N := some 44) (v := ?_) (a' := ?_) #[true, true, false, false, false, false, false, false, false, false, false, false, false] rfl rfl (by kernel_rfl) (fun _ _ _ h => h) (Or.inl ⟨by rfl, ?_⟩) ?_ ?_
      rotate_left
      · intro w'
        go_simp
        with_reducible rfl
      rotate_left
      · simp only [Act.put, List.setIfInBounds_toArray, List.set_cons_zero, List.set_cons_succ, i64_w, i32_w]
        rfl
      refine pure_ (i := 2) (N := some 45) (v := ?_) (a' := ?_) #[true, true, true, false, false, false, false, false, false, false, false, false, false] rfl rfl (by kernel_rfl) (fun _ _ _ h => h) (Or.inl ⟨by rfl, ?_⟩) ?_ ?_
      rotate_left
      · intro w'
        go_simp
        with_reducible rfl
      rotate_left
      · simp only [Act.put, List.setIfInBounds_toArray, List.set_cons_zero, List.set_cons_succ, i64_w, i32_w]
        rfl
      refine pure_ (i := 3) (N := some 46) (v := ?_) (a' := ?_) #[true, true, true, true, false, false, false, false, false, false, false, false, false] rfl rfl (by kernel_rfl) (fun _ _ _ h => h) (Or.inl ⟨by rfl, ?_⟩) ?_ ?_
      rotate_left
      · intro w'
        go_simp
        with_reducible rfl
      rotate_left
      · simp only [Act.put, List.setIfInBounds_toArray, List.set_cons_zero, List.set_cons_succ, i64_w, i32_w]
        rfl
      refine pure_ (i := 5) (N := some 48) (v := ?_) (a' := ?_) #[true, true, true, true, false, true, false, false, false, false, false, false, false] rfl rfl (by kernel_rfl) (fun _ _ _ h => h) (Or.inl ⟨by rfl, ?_⟩) ?_ ?_
      rotate_left
      · intro w'
        go_simp
        with_reducible rfl
      rotate_left
      · simp only [Act.put, List.setIfInBounds_toArray, List.set_cons_zero, List.set_cons_succ, i64_w, i32_w]
        rfl
      refine pure_ (i := 6) (N := some 49) (v := ?_) (a' := ?_) #[true, true, true, true, false, true, true, false, false, false, false, false, false] rfl rfl (by kernel_rfl) (fun _ _ _ h => h) (Or.inl ⟨by rfl, ?_⟩) ?_ ?_
      rotate_left
      · intro w'
        go_simp
        with_reducible rfl
      rotate_left
      · simp only [Act.put, List.setIfInBounds_toArray, List.set_cons_zero, List.set_cons_succ, i64_w, i32_w]
        rfl
      refine pure_ (i := 7) (N := some 50) (v := ?_) (a' := ?_) #[true, true, true, true, false, true, true, true, false, false, false, false, false] rfl rfl (by kernel_rfl) (fun _ _ _ h => h) (Or.inl ⟨by rfl, ?_⟩) ?_ ?_
      rotate_left
      · intro w'
        go_simp
        with_reducible rfl
      rotate_left
      · simp only [Act.put, List.setIfInBounds_toArray, List.set_cons_zero, List.set_cons_succ, i64_w, i32_w]
        rfl
      refine take_ (i := 4) (N := some 47) (v := ?_) (a' := ?_) #[true, true, true, true, true, true, true, true, false, false, false, false, false] rfl rfl (by kernel_rfl) (fun _ _ _ h => h) (Or.inl ⟨by rfl, ?_⟩) hHeld ?_ ?_
      rotate_left
      · rintro w' ⟨s0, s1, s2, s3, s4, s5, s6, s7, s8⟩
        go_simp
        with_reducible rfl
      rotate_left
      · simp only [Act.put, List.setIfInBounds_toArray, List.set_cons_zero, List.set_cons_succ, i64_w, i32_w]
        rfl
      refine take_ (i := 8) (N := some 51) (v := ?_) (a' := ?_) #[true, true, true, true, true, true, true, true, true, false, false, false, false] rfl rfl (by kernel_rfl) (fun _ _ _ h => h) (Or.inl ⟨by rfl, ?_⟩) hHeld ?_ ?_
      rotate_left
      · rintro w' ⟨s0, s1, s2, s3, s4, s5, s6, s7, s8⟩
        refine (exec_load (t := 152) (x := .tmp 50) (p := .pointer (some ⟨bb, oo, none⟩)) rfl rfl s8).trans ?_
        with_reducible rfl
      rotate_left
      · simp only [Act.put, List.setIfInBounds_toArray, List.set_cons_zero, List.set_cons_succ, i64_w, i32_w]
        rfl
      refine one_ (i := 9) (N := some 52) #[true, true, true, true, true, true, true, true, true, true, false, false, false] rfl rfl (by kernel_rfl) (by decide) (fun K hK => ?_)
      refine goes_ Try.func110 (by kernel_rfl) rfl #[.agg #[.int .u32 y0, .int .u32 y1, .int .u32 y2, .int .u32 y3], .agg (nums .u8 (l.take 64)).toArray] (by rfl) rfl rfl (by simp only [List.map_toArray, List.map_cons, List.map_nil]; rfl) ?_
      with_reducible refine (HWI.out wq HBQ.out).mono ?_
      rintro e w6 ⟨rfl, hb6⟩
      refine ⟨_, rfl, ?_⟩
      have HB6 := Lib.hid (HBQ.out.trans (Near.of_below (g := g) hb6))
      have HG6 := Lib.hid ((hb6.block g (blk_lt HGQ.out)).trans HGQ.out)
      have HC6 := Lib.hid (Kd.C_below HCQ.out hb6)
      have HC6L := Lib.hid (Kd.C_below HCQL.out hb6)
      clear hb6
      refine hK.out _ _ ⟨blk_cell HG6.out 1, blk_cell HG6.out 2, blk_cell HG6.out 3, blk_cell HG6.out 4, blk_frozen HG6.out 1, blk_frozen HG6.out 2, blk_frozen HG6.out 3, blk_frozen HG6.out 4, load_row HC6.out hl64 _ rfl⟩ (fun hHeld => ?_)
      clear hK K
      refine norm_ (a' := ?_) ?_ ?_
      rotate_left
      · show Act.put _ (some 52) _ = _
        simp only [Act.put, List.setIfInBounds_toArray, List.set_cons_zero, List.set_cons_succ, i64_w, i32_w]
        rfl
      refine pure_ (i := 10) (N := some 53) (v := ?_) (a' := ?_) #[true, true, true, true, true, true, true, true, true, true, true, false, false] rfl rfl (by kernel_rfl) (fun _ _ _ h => h) (Or.inl ⟨by rfl, ?_⟩) ?_ ?_
      rotate_left
      · intro w'
        go_simp
        with_reducible rfl
      rotate_left
      · simp only [Act.put, List.setIfInBounds_toArray, List.set_cons_zero, List.set_cons_succ, i64_w, i32_w]
        rfl
      refine pure_ (i := 11) (N := some 54) (v := ?_) (a' := ?_) #[true, true, true, true, true, true, true, true, true, true, true, true, false] rfl rfl (by kernel_rfl) (fun _ _ _ h => h) (Or.inl ⟨by rfl, ?_⟩) ?_ ?_
      rotate_left
      · intro w'
        go_simp
        with_reducible rfl
      rotate_left
      · simp only [Act.put, List.setIfInBounds_toArray, List.set_cons_zero, List.set_cons_succ, i64_w, i32_w]
        rfl
      refine last_ (i := 12) (N := none) #[true, true, true, true, true, true, true, true, true, true, true, true, true] rfl rfl (by kernel_rfl) (by decide) (fun K hK => ?_)
      refine skip_ (w1 := ?_) (by rfl) rfl ?_ ?_
      rotate_left
      · go_simp
        rfl
      refine hK.out _ _ ?_
      clear hK K
      refine done_ (by kernel_rfl) ?_

      go_wp2
      refine ⟨⟨_, c1 - 64, l.drop 64, (v0, v1, v2, v3), by rw [List.length_drop], by rw [List.length_drop]; omega, by rw [List.length_drop]; omega, ?_, ?_, ?_, (((HB6.out.setCell 1 _).setCell 2 _).setCell 3 _).setCell 4 _, ?_⟩, ?_⟩
      · rw [List.length_drop]
        refine C_near ((((Near.refl g w6).setCell 1 _).setCell 2 _).setCell 3 _ |>.setCell 4 _) (C_tail 64 HC6L.out h64 (by omega) hlc) (fun ad he _ => ?_)
        split at he <;> (cases he; show bb ≠ g; omega)
      · intro ad he _
        split at he <;> (cases he; exact hbb)
      · exact blk_put (blk_put (blk_put (blk_put HG6.out 1 _ rfl) 2 _ rfl) 3 _ rfl) 4 _ rfl
      · rw [HQR.out, HV.out]
        obtain ⟨m, hm⟩ : ∃ m, l.length = m + 1 := ⟨l.length - 1, by omega⟩
        rw [hm, eatV, if_pos h64]
        exact eatV_fuel T S _ _ _ _ (by rw [List.length_drop]; omega) (by rw [List.length_drop]; omega)
      · show l.length - 64 < l.length
        omega
    · have q1 : decide (64 ≤ (l.length : Int)) = false := decide_eq_false (by omega)
      have hq : Q0 = ((y0, y1, y2, y3), l) := by
        rw [HQR.out]
        cases hl : l.length with
        | zero => rfl
        | succ m => rw [eatV, if_neg h64]
      have f5 := blk_frozen HGR.out 5
      have z5 := blk_cell HGR.out 5
      simp only [hashCells, List.getElem?_toArray, List.getElem?_cons_succ, List.getElem?_cons_zero] at z5
      go_wp2_with (at_builtin; refine print_append_row (w0 := wr.alloc (.cells #[] 5)) wr.heap.size rfl (.tmp 58) (.tmp 59) 73 5 .u8 1 rfl Try.underlying73 info5 (by decide) _ ([] : List Int) l _ l.length _ rfl rfl ?ho ?hr ?hb ?hbase ?hl ?_)
      case ho => exact own_lit wr wr.heap.size 5 .u8 [] (Nat.le_refl _) (by simp)
      case hr => exact Kd.reads_of_C (enc := Value.int .u8) (d := (0 : Int)) (h1 := fun _ => rfl) (Kd.C_below HCR.out ((Below.refl wr.heap.size wr).alloc (Nat.le_refl _) _))
      case hb => exact Below.refl _ _
      case hbase => rw [World.size_alloc]; omega
      case hl => simp; omega
      intro v7 w7 ho7 hb7 hg7 hat7
      have HB7 := Lib.hid (((Below.refl wr.heap.size wr).alloc (Nat.le_refl _) (.cells #[] 5)).trans hb7)

      obtain ⟨A7, c7, rfl, hc7, hC7⟩ := Kd.R_reads (Kd.R_of_own (enc := Value.int .u8) (h1 := fun _ => rfl) (ok := fun _ => True) (show w7.ownsRow wr.heap.size 5 1 v7 l.length (nums .u8 l) by simpa using ho7) (fun _ _ => trivial))
      have hb7' := own_base ho7
      have HG7 := Lib.hid ((HB7.out.block g (blk_lt HGR.out)).trans HGR.out)
      have HC7 := Lib.hid hC7
      have hA7 : ∀ ad, A7 = some ad → 0 < l.length → wr.heap.size ≤ ad.block := by
        intro ad he h0
        obtain ⟨b7, o7, e, _⟩ := atI_of_C hC7 h0
        rw [he] at e
        injection e with e
        subst e he
        exact hb7' b7 rfl
      have hsz7 := HBR.out.size
      clear ho7 hb7 hg7 hat7 hC7 z5 f5
      have f5 := blk_frozen HG7.out 5
      have z5 := blk_cell HG7.out 5
      simp only [hashCells, List.getElem?_toArray, List.getElem?_cons_succ, List.getElem?_cons_zero] at z5
      go_wp2
      go_ret
      rw [hq]
      refine ⟨rfl, A7, c7, blk_put HG7.out 5 _ rfl, C_near ((Near.refl g w7).setCell 5 _) HC7.out (fun ad he h0 => ?_), hc7, (by show l.length < 64; omega), fun ad he h0 => ?_, (HBR.out.trans (Near.of_below HB7.out)).setCell 5 _⟩
      · have := hA7 ad he h0
        omega
      · have := hA7 ad he h0
        omega
end Go.Proofs.Yticjpjgfccbhlaa.Hash
