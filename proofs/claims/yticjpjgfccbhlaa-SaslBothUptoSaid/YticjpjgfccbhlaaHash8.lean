/- hash: Mac by contract. -/
import Derived.Test.YticjpjgfccbhlaaHash7
import Derived.Laws.IdiomCopy
namespace Go.Proofs.Yticjpjgfccbhlaa.Hash
open Go.RowKit Go.Proofs.YticjpjgfccbhlaaW.PrintWords Go.Proofs.YticjpjgfccbhlaaW.PrintLast Go.Proofs.YticjpjgfccbhlaaW.PrintMore Go.Proofs.Yticjpjgfccbhlaa.PSaslBoth
attribute [local go_sem] max2_int min2_int max_two min_two max_three min_three max_four min_four
set_option linter.unusedVariables false
set_option linter.unusedSimpArgs false
theorem setCells_mix (b t N : Nat) (D E : Nat → Int) : ∀ (l : List Int) (o : Nat) (W : World), W.heap[b]? = some (.cells (cellsN N (mix D E o)) t (0, 0)) → (∀ (j : Nat) x, l[j]? = some x → D (o + j) = x) → o + l.length ≤ N → (W.setCells b o (nums .u8 l)).heap[b]? = some (.cells (cellsN N (mix D E (o + l.length))) t (0, 0)) ∧ Near b W (W.setCells b o (nums .u8 l))
  | [], o, W, h, _, _ => ⟨h, Near.refl b W⟩
  | x :: l, o, W, h, hx, hl => by
    rw [List.length_cons] at hl
    have e : nums .u8 (x :: l) = .int .u8 x :: nums .u8 l := rfl
    have hD : D o = x := hx 0 x rfl
    have h1 := put_mix (D := D) (E := E) o (by omega) h
    rw [hD] at h1
    rw [e, World.setCells]
    obtain ⟨i1, i2⟩ := setCells_mix b t N D E l (o + 1) _ h1 (fun j y hy => by rw [show o + 1 + j = o + (j + 1) by omega]; exact hx (j + 1) y hy) (by omega)
    rw [show o + 1 + l.length = o + (x :: l).length by rw [List.length_cons]; omega] at i1
    exact ⟨i1, ((Near.refl b W).setCell o _).trans i2⟩
theorem copy_run {W : World} {b5 t N : Nat} {E : Nat → Int} {A : Option Addr} {lk ck : Nat} {key : List Int} (ty : TypeId) (h : W.heap[b5]? = some (.cells (cellsN N E) t (0, 0))) (hC : Kd.C (Kd.int .u8) W A lk key) : ∃ W1, (Builtin.copy_ #[73, 73] ty #[.slice (some ⟨b5, 0, none⟩) N N, .slice A lk ck]).run Try.prog W = .ok (goInt ((min lk N : Nat) : Int)) W1 ∧ W1.heap[b5]? = some (.cells (cellsN N (mix (row key) E (min lk N))) t (0, 0)) ∧ Near b5 W W1 := by
  have hi : (Try.prog.info? 5).map (·.size) = some 1 := by kernel_rfl
  rcases Nat.eq_zero_or_pos (min lk N) with h0 | hp
  · refine ⟨W, ?_, by rw [h0, mix_none]; exact h, Near.refl _ _⟩
    rw [h0]
    exact run_copy_none W 73 73 ty 5 _ A N N lk ck Try.underlying73 hi h0
  · obtain ⟨bb, oo, rfl, hat⟩ := atI_of_C hC (by omega)
    have hkl : key.length = lk := hC.1
    have hlen : (nums .u8 (key.take (min lk N))).length = min lk N := by
      unfold nums
      rw [List.length_map, List.length_take]
      omega
    have hr := run_copy_cells (P := Try.prog) W 73 73 ty 5 b5 0 N N ⟨bb, oo, none⟩ lk ck (nums .u8 (key.take (min lk N))) Try.underlying73 hi hlen
      (fun j v hj => by
        unfold nums at hj
        rw [List.getElem?_map, Option.map_eq_some_iff] at hj
        obtain ⟨x, hx, rfl⟩ := hj
        rw [List.getElem?_take] at hx
        split at hx
        · rw [Addr.add_mid]
          exact hat j x hx
        · cases hx)
      (fun j hj => by
        rw [Nat.zero_add, (blk_cell h j).trans (cellsN_at N E j (by omega))]
        rfl)
      (fun j hj => blk_frozen h _)
      (fun v hv => by
        unfold nums at hv
        obtain ⟨x, _, rfl⟩ := List.mem_map.1 hv
        rfl)
    rw [hlen] at hr
    obtain ⟨i1, i2⟩ := setCells_mix b5 t N (row key) E (key.take (min lk N)) 0 W (by rw [mix_none]; exact h) (fun j x hj => by
      rw [List.getElem?_take] at hj
      split at hj
      · rw [Nat.zero_add]
        unfold row
        rw [List.getD_eq_getElem?_getD, hj]
        rfl
      · cases hj) (by rw [List.length_take]; omega)
    rw [List.length_take, show 0 + min (min lk N) key.length = min lk N by omega] at i1
    exact ⟨_, hr, i1, i2⟩
theorem wpList_copy {P : Program} {ops : Array Oper} {rest : List Oper} {o : Oper} {a : Act} {Q : Exit → Act → World → Prop} {W : World} (hgd : o.guard = none) (s x : Operand) (t t' : TypeId)
    (ho : o.op = .call { callee := .builtin .copy, args := #[s, x], argTypes := #[t, t'] }) (v1 v2 r : Value) (hs : a.eval s = v1) (hx : a.eval x = v2) (w1 : World)
    (hr : (Builtin.copy_ #[t, t'] o.type #[v1, v2]).run P W = .ok r w1) (h : wpList P ops Q rest (a.put o.dst r) w1) : wpList P ops Q (o :: rest) a W := by
  refine wpList_plain hgd fun K hK => ?_
  unfold Oper.wp execOp
  simp only [ho, resolve, invoke, builtin, Sem.run_bind, Sem.run_pure, Result.andThen_ok, List.map_toArray, List.map_cons, List.map_nil, hs, hx, hr]
  exact hK _ _ h
theorem exec_copy {P : Program} {a : Act} {o : Oper} {s x : Operand} {t t' : TypeId} {v1 v2 r : Value} {W W1 : World} (ho : o.op = .call { callee := .builtin .copy, args := #[s, x], argTypes := #[t, t'] }) (hs : a.eval s = v1) (hx : a.eval x = v2) (h : (Builtin.copy_ #[t, t'] o.type #[v1, v2]).run P W = .ok r W1) : (execOp a.eval o).run P W = .ok (.value r) W1 := by
  unfold execOp
  simp only [ho, resolve, invoke, builtin, Sem.run_bind, Sem.run_pure, Result.andThen_ok, List.map_toArray, List.map_cons, List.map_nil, hs, hx, h]
/-- the key's row -/
def keyV (T S : Nat → Int) (key : List Int) : Nat → Int := if 64 < key.length then mix (md5V T S key) (fun _ => 0) 16 else mix (row key) (fun _ => 0) key.length
def padL (K : Nat → Int) (c : Int) : List Int := (List.range 64).map fun j => bits .xor .u8 (K j) c
def innerV (T S : Nat → Int) (key b : List Int) : HV := writeV T S (writeV T S newV (padL (keyV T S key) 54)) b
def macV (T S : Nat → Int) (key b : List Int) : Nat → Int := sumD T S (writeV T S (writeV T S newV (padL (keyV T S key) 92)) ((List.range 16).map (sumD T S (innerV T S key b))))
theorem C_cells {w : World} {b t N : Nat} {D : Nat → Int} (h : w.heap[b]? = some (.cells (cellsN N D) t (0, 0))) (hN : N ≤ 1000) : Kd.C (Kd.int .u8) w (some ⟨b, 0, none⟩) N ((List.range N).map D) := by
  refine C_of_atI (by simp) (fun j x hj => ?_) (by omega)
  rw [List.getElem?_map, Option.map_eq_some_iff] at hj
  obtain ⟨i, hi, rfl⟩ := hj
  have hlt : j < N := by
    have := (List.getElem?_eq_some_iff.1 hi).1
    simpa using this
  rw [List.getElem?_range hlt] at hi
  injection hi with hi
  subst hi
  rw [Nat.zero_add]
  exact (blk_cell h j).trans (cellsN_at N D j hlt)
theorem range_cells {w : World} {b t N : Nat} {D : Nat → Int} (h : w.heap[b]? = some (.cells (cellsN N D) t (0, 0))) : w.rangeAt b 0 ((List.range N).map fun j => Value.int .u8 (D j)) := by
  intro j v hj
  rw [List.getElem?_map, Option.map_eq_some_iff] at hj
  obtain ⟨i, hi, rfl⟩ := hj
  have hlt : j < N := by
    have := (List.getElem?_eq_some_iff.1 hi).1
    simpa using this
  rw [List.getElem?_range hlt] at hi
  injection hi with hi
  subst hi
  rw [Nat.zero_add]
  exact (blk_cell h j).trans (cellsN_at N D j hlt)
theorem index64 (D : Nat → Int) (k : Nat) (hk : k < 64) (W : World) : (Instr.index 152 (.agg (cellsN 64 D)) (.int .i64 (k : Int))).run Try.prog W = .ok (.int .u8 (D k)) W :=
  index_run 152 5 64 Try.underlying152 (fun W => by kernel_rfl) (fun W => by kernel_rfl) _ k hk _ (cellsN_at 64 D k hk) W
set_option maxHeartbeats 4000000 in
set_option maxRecDepth 100000 in
theorem mac_calls {T S : Nat → Int} {A B : Option Addr} {lk ck lb cb : Nat} {key b : List Int} {w : World} (ht : Tabs T S w) (hk : Kd.C (Kd.int .u8) w A lk key) (hkl : key.length = lk) (hkc : lk ≤ ck) (hlk : lk ≤ 1000000000) (hb : Kd.C (Kd.int .u8) w B lb b) (hbl : b.length = lb) (hbc : lb ≤ cb) (hlb : lb ≤ 1000000000) :
    Calls Try.prog 103 #[.slice A lk ck, .slice B lb cb] w fun e w' => e = .returned (.agg (cellsN 16 (macV T S key b))) ∧ Below w.heap.size w w' := by
  obtain ⟨W0, hW0⟩ : ∃ W0, W0 = (w.alloc (.cells (cellsN 16 fun _ => 0) 108)).alloc (.cells (cellsN 64 fun _ => 0) 152) := ⟨_, rfl⟩
  have hsz : W0.heap.size = w.heap.size + 2 := by rw [hW0]; simp
  obtain ⟨b5, hb5⟩ : ∃ b5, b5 = w.heap.size + 1 := ⟨_, rfl⟩
  have HX := Lib.hid (show W0.heap[w.heap.size]? = some (.cells (cellsN 16 fun _ => 0) 108 (0, 0)) by rw [hW0, heap_alloc_old _ _ (by simp)]; exact heap_alloc_new w _)
  have HK := Lib.hid (show W0.heap[b5]? = some (.cells (cellsN 64 fun _ => 0) 152 (0, 0)) by rw [hW0, hb5]; have h := heap_alloc_new (w.alloc (.cells (cellsN 16 fun _ => 0) 108)) (.cells (cellsN 64 fun _ => 0) 152); simpa using h)
  have HBW := Lib.hid (show Below w.heap.size w W0 by rw [hW0]; exact ((Below.refl _ _).alloc (Nat.le_refl _) _).alloc (by simp) _)
  have HSZ := Lib.hid hsz
  have HW0 := Lib.hid (show W0 = (w.alloc (.cells #[.int .u8 0, .int .u8 0, .int .u8 0, .int .u8 0, .int .u8 0, .int .u8 0, .int .u8 0, .int .u8 0, .int .u8 0, .int .u8 0, .int .u8 0, .int .u8 0, .int .u8 0, .int .u8 0, .int .u8 0, .int .u8 0] 108)).alloc (.cells #[.int .u8 0, .int .u8 0, .int .u8 0, .int .u8 0, .int .u8 0, .int .u8 0, .int .u8 0, .int .u8 0, .int .u8 0, .int .u8 0, .int .u8 0, .int .u8 0, .int .u8 0, .int .u8 0, .int .u8 0, .int .u8 0, .int .u8 0, .int .u8 0, .int .u8 0, .int .u8 0, .int .u8 0, .int .u8 0, .int .u8 0, .int .u8 0, .int .u8 0, .int .u8 0, .int .u8 0, .int .u8 0, .int .u8 0, .int .u8 0, .int .u8 0, .int .u8 0, .int .u8 0, .int .u8 0, .int .u8 0, .int .u8 0, .int .u8 0, .int .u8 0, .int .u8 0, .int .u8 0, .int .u8 0, .int .u8 0, .int .u8 0, .int .u8 0, .int .u8 0, .int .u8 0, .int .u8 0, .int .u8 0, .int .u8 0, .int .u8 0, .int .u8 0, .int .u8 0, .int .u8 0, .int .u8 0, .int .u8 0, .int .u8 0, .int .u8 0, .int .u8 0, .int .u8 0, .int .u8 0, .int .u8 0, .int .u8 0, .int .u8 0, .int .u8 0] 152) by rw [hW0]; rfl)
  have HT0 := Lib.hid (ht.below HBW.out ht.size)
  have HCK := Lib.hid (Kd.C_below hk HBW.out)
  have HCB := Lib.hid (Kd.C_below hb HBW.out)
  have HB5E := Lib.hid hb5
  have h2 := ht.size
  have hbw : w.heap.size < b5 := by omega
  clear hW0 hsz hb5
  obtain ⟨W1, hrun, hK1, hN1⟩ := copy_run 3 (ck := ck) HK.out HCK.out
  have HK1 := Lib.hid hK1
  have HN1 := Lib.hid hN1
  have hBl : ∀ ad, B = some ad → 0 < lb → ad.block < w.heap.size := by
    intro ad he h0
    obtain ⟨b7, o7, e, hat⟩ := atI_of_C hb h0
    rw [he] at e
    injection e with e
    subst e
    exact World.block_lt_of_cell? w _ (hat 0 _ (List.getElem?_eq_getElem (by omega)))
  have HBL := Lib.hid hBl
  clear hK1 hN1 hBl
  by_cases h64 : 64 < lk
  · have q1 : decide (64 < (lk : Int)) = true := decide_eq_true (by omega)
    obtain ⟨KD, hKD⟩ : ∃ KD, KD = keyV T S key := ⟨_, rfl⟩
    obtain ⟨D, hD⟩ : ∃ D, D = macV T S key b := ⟨_, rfl⟩
    rw [← hD]
    have HD := Lib.hid hD
    have HKDE := Lib.hid hKD
    obtain ⟨DK, hDK⟩ : ∃ DK, DK = md5V T S key := ⟨_, rfl⟩
    have hkv : KD = mix DK (fun _ => 0) 16 := by
      rw [hKD, hDK]
      unfold keyV
      rw [if_pos (by omega)]
    have HKV := Lib.hid hkv
    have ex := (show W1.heap[b5]? = some (.cells (cellsN 64 (row key)) 152 (0, 0)) by have h := HK1.out; rw [show min lk 64 = 64 by omega, mix_full] at h; exact h)
    have KX1 := Lib.hid ex
    have XX1 := Lib.hid ((HN1.out.block w.heap.size (by have := HSZ.out; omega) (by omega)).trans HX.out)
    have BX1 := Lib.hid (HBW.out.trans (HN1.out.below (B := w.heap.size) (by omega) (by have := HSZ.out; omega)))
    have TX1 := Lib.hid (HT0.out.near HN1.out (by omega))
    have CX1 := Lib.hid (C_near HN1.out HCB.out (fun ad he h0 => by have := HBL.out ad he h0; omega))
    have hAl : ∀ ad, A = some ad → 0 < lk → ad.block < w.heap.size := by
      intro ad he h0
      obtain ⟨b7, o7, e, hat⟩ := atI_of_C hk h0
      rw [he] at e
      injection e with e
      subst e
      exact World.block_lt_of_cell? w _ (hat 0 _ (List.getElem?_eq_getElem (by omega)))
    have CKX := Lib.hid (C_near HN1.out HCK.out (fun ad he h0 => by have := hAl ad he h0; omega))
    have HMD := Lib.hid (show Calls Try.prog 105 #[.slice A lk ck] W1 fun e w' => e = .returned (.agg #[.int .u8 (DK 0), .int .u8 (DK 1), .int .u8 (DK 2), .int .u8 (DK 3), .int .u8 (DK 4), .int .u8 (DK 5), .int .u8 (DK 6), .int .u8 (DK 7), .int .u8 (DK 8), .int .u8 (DK 9), .int .u8 (DK 10), .int .u8 (DK 11), .int .u8 (DK 12), .int .u8 (DK 13), .int .u8 (DK 14), .int .u8 (DK 15)]) ∧ Below W1.heap.size W1 w' from by
      have h := md5_calls TX1.out CKX.out hkl hkc hlk
      rw [← hDK] at h
      exact h)
    have l5 := blk_lt ex
    clear hD hKD hDK hkv ex hAl
    go_enter Try.func103, Try.ntmps103
    go_wp2_with (rw [← HW0.out, ← HB5E.out]; refine wpList_copy rfl (.tmp 15) (.tmp 16) 73 73 rfl (.slice (some ⟨b5, 0, none⟩) 64 64) (.slice A lk ck) (goInt ((min lk 64 : Nat) : Int)) rfl rfl W1 hrun ?_)
    refine HMD.out.mono ?_
    rintro e wM ⟨rfl, hbM⟩
    obtain ⟨WM, hWM⟩ : ∃ WM, WM = wM.alloc (.cells (cellsN 16 DK) 108) := ⟨_, rfl⟩
    obtain ⟨b6, hb6⟩ : ∃ b6, b6 = wM.heap.size := ⟨_, rfl⟩
    have hba : Below wM.heap.size wM WM := by rw [hWM]; exact (Below.refl _ _).alloc (Nat.le_refl _) _
    have hbb : Below W1.heap.size W1 WM := hbM.trans (hba.mono hbM.size)
    have N6 := Lib.hid (show WM.heap[b6]? = some (.cells (cellsN 16 DK) 108 (0, 0)) by rw [hWM, hb6]; exact heap_alloc_new _ _)
    have KM := Lib.hid ((hbb.block b5 l5).trans KX1.out)
    have XM := Lib.hid ((hbb.block w.heap.size (by omega)).trans XX1.out)
    have BM := Lib.hid (BX1.out.trans (hbb.mono BX1.out.size))
    have TM := Lib.hid (TX1.out.below hbb (by omega))
    have CM := Lib.hid (Kd.C_below CX1.out hbb)
    have e65 : b5 < b6 := by have := hbM.size; omega
    have HWM := Lib.hid (show WM = wM.alloc (.cells #[.int .u8 (DK 0), .int .u8 (DK 1), .int .u8 (DK 2), .int .u8 (DK 3), .int .u8 (DK 4), .int .u8 (DK 5), .int .u8 (DK 6), .int .u8 (DK 7), .int .u8 (DK 8), .int .u8 (DK 9), .int .u8 (DK 10), .int .u8 (DK 11), .int .u8 (DK 12), .int .u8 (DK 13), .int .u8 (DK 14), .int .u8 (DK 15)] 108) by rw [hWM]; rfl)
    have HB6E := Lib.hid hb6
    have sM := hbb.size
    clear hbM hWM hb6 hba hbb
    obtain ⟨i1, i2⟩ := setCells_mix b5 152 64 (fun _ => 0) (row key) (List.replicate 64 0) 0 WM (by rw [mix_none]; exact KM.out) (fun j x hj => by
      have := List.mem_of_getElem? hj
      exact ((List.mem_replicate.1 this).2).symm) (by simp)
    rw [show 0 + (List.replicate 64 (0 : Int)).length = 64 by simp, mix_full] at i1
    obtain ⟨W4, hW4⟩ : ∃ W4, W4 = WM.setCells b5 0 (nums .u8 (List.replicate 64 0)) := ⟨_, rfl⟩
    rw [← hW4] at i1 i2
    have HW4 := Lib.hid (show WM.setCells b5 0 (cellsN 64 fun _ => 0).toList = W4 from hW4.symm)
    have K4' := Lib.hid i1
    have M4 := Lib.hid i2
    have N64 := Lib.hid ((i2.block b6 (blk_lt N6.out) (by omega)).trans N6.out)
    have C6 := Lib.hid (C_cells (show W4.drew.heap[b6]? = some (.cells (cellsN 16 DK) 108 (0, 0)) from N64.out) (by decide))
    obtain ⟨W5, hrun5, hK5, hN5⟩ := copy_run 3 (ck := 16) (show W4.drew.heap[b5]? = some (.cells (cellsN 64 fun _ => 0) 152 (0, 0)) from i1) C6.out
    have hth : WM.there b5 0 (cellsN 64 fun _ => (0 : Int)).size := by
      intro j hj
      rw [cellsN_size] at hj
      rw [Nat.zero_add, (blk_cell KM.out j).trans (cellsN_at 64 _ j hj)]
      exact ⟨rfl, blk_frozen KM.out j⟩
    have hall : (cellsN 64 fun _ => (0 : Int)).all (·.oneCell') = true := all_oneCell_toArray (fun v hv => by
      obtain ⟨x, _, rfl⟩ := List.mem_map.1 hv
      rfl)
    have HTH := Lib.hid hth
    have HALL := Lib.hid hall
    obtain ⟨Wk, hWk⟩ : ∃ Wk, Wk = W5 := ⟨_, rfl⟩
    have n5 : Near b5 WM Wk := hWk ▸ (M4.out.drew).trans hN5
    have HKk := Lib.hid (show Wk.heap[b5]? = some (.cells (cellsN 64 KD) 152 (0, 0)) by
      rw [hWk, hK5, HKV.out, show min 16 64 = 16 from rfl]
      congr 2)
    have HXk := Lib.hid ((n5.block w.heap.size (by omega) (by omega)).trans XM.out)
    have HBk := Lib.hid (BM.out.trans (n5.below (B := w.heap.size) (by omega) (by omega)))
    have HTk := Lib.hid (TM.out.near n5 (by omega))
    have HCk := Lib.hid (C_near n5 CM.out (fun ad he h0 => by have := HBL.out ad he h0; omega))
    have HWk := Lib.hid hWk
    clear i1 i2 hW4 hK5 hN5 hth hall hWk n5
    go_wp2_with (rw [← HWM.out, ← HB6E.out]; refine wpList_store_mid rfl 152 (.tmp 5) (.tmp 23) rfl b5 0 (cellsN 64 fun _ => 0) rfl rfl HTH.out (by rw [cellsN_size]; kernel_rfl) HALL.out ?_)
    rw [HW4.out]
    refine start_ (n := 3) (S := fun w' => True) (ds := []) #[false, false, false] (by kernel_rfl) rfl rfl trivial (fun hHeld => ?_)
    refine pure_ (i := 0) (N := some 24) (v := ?_) (a' := ?_) #[true, false, false] rfl rfl (by kernel_rfl) (fun _ _ _ h => h) (Or.inl ⟨by rfl, ?_⟩) ?_ ?_
    rotate_left
    · intro w'
      go_simp
      with_reducible rfl
    rotate_left
    · simp only [Act.put, List.setIfInBounds_toArray, List.set_cons_zero, List.set_cons_succ, i64_w, i32_w]
      rfl
    refine pure_ (i := 1) (N := some 25) (v := ?_) (a' := ?_) #[true, true, false] rfl rfl (by kernel_rfl) (fun _ _ _ h => h) (Or.inl ⟨by rfl, ?_⟩) ?_ ?_
    rotate_left
    · intro w'
      go_simp
      with_reducible rfl
    rotate_left
    · simp only [Act.put, List.setIfInBounds_toArray, List.set_cons_zero, List.set_cons_succ, i64_w, i32_w]
      rfl
    refine one_ (i := 2) (N := some 26) #[true, true, true] rfl rfl (by kernel_rfl) (by decide) (fun K hK => ?_)
    refine event_step (by rfl) (v := goInt ((min 16 64 : Nat) : Int)) (w1 := W5) ?cp ?_
    case cp => exact exec_copy (s := .tmp 24) (x := .tmp 25) (t := 73) (t' := 73) rfl rfl rfl hrun5
    refine hK.out _ _ trivial (fun hHeld => ?_)
    clear hK K
    refine norm_ (a' := ?_) ?_ ?_
    rotate_left
    · show Act.put _ (some 26) _ = _
      simp only [Act.put, List.setIfInBounds_toArray, List.set_cons_zero, List.set_cons_succ, i64_w, i32_w]
      rfl
    refine done_ (by kernel_rfl) ?_

    have hkb : b5 < Wk.heap.size := blk_lt HKk.out
    have hwk : w.heap.size < Wk.heap.size := blk_lt HXk.out
    go_wp2_with fail
    rw [← HWk.out]
    refine (new_at Wk).mono ?_
    rintro e w1 ⟨g1, rfl, hg1, hh1, hb1⟩
    have H11 := Lib.hid hh1
    have T1 := Lib.hid (HTk.out.below hb1 (by omega))
    have C1 := Lib.hid (Kd.C_below HCk.out hb1)
    have X1 := Lib.hid ((hb1.block w.heap.size hwk).trans HXk.out)
    have K1 := Lib.hid ((hb1.block b5 hkb).trans HKk.out)
    have B1 := Lib.hid (HBk.out.trans (hb1.mono HBk.out.size))
    have s1 := hb1.size
    have l1 := hh1.lt
    clear hh1 hb1
    go_wp2_with fail
    refine (new_at w1).mono ?_
    rintro e w2 ⟨g2, rfl, hg2, hh2, hb2⟩
    obtain ⟨W2, hW2⟩ : ∃ W2, W2 = w2.alloc (.cells (cellsN 64 fun _ => 0) 152) := ⟨_, rfl⟩
    obtain ⟨b9, hb9⟩ : ∃ b9, b9 = w2.heap.size := ⟨_, rfl⟩
    have l2 := hh2.lt
    have hba : Below w2.heap.size w2 W2 := by rw [hW2]; exact (Below.refl _ _).alloc (Nat.le_refl _) _
    have H12 := Lib.hid ((H11.out.below hb2).below hba)
    have H22 := Lib.hid (hh2.below hba)
    have hbb : Below w1.heap.size w1 W2 := hb2.trans (hba.mono hb2.size)
    have T2 := Lib.hid (T1.out.below hbb (by omega))
    have C2 := Lib.hid (Kd.C_below C1.out hbb)
    have X2 := Lib.hid ((hbb.block w.heap.size (by omega)).trans X1.out)
    have K2 := Lib.hid ((hbb.block b5 (by omega)).trans K1.out)
    have B2 := Lib.hid (B1.out.trans (hbb.mono B1.out.size))
    have s2 := hb2.size
    have s22 := hba.size
    have N2 := Lib.hid (show W2.heap[b9]? = some (.cells (cellsN 64 fun _ => 0) 152 (0, 0)) by rw [hW2, hb9]; exact heap_alloc_new _ _)
    have HW2 := Lib.hid (show W2 = w2.alloc (.cells #[.int .u8 0, .int .u8 0, .int .u8 0, .int .u8 0, .int .u8 0, .int .u8 0, .int .u8 0, .int .u8 0, .int .u8 0, .int .u8 0, .int .u8 0, .int .u8 0, .int .u8 0, .int .u8 0, .int .u8 0, .int .u8 0, .int .u8 0, .int .u8 0, .int .u8 0, .int .u8 0, .int .u8 0, .int .u8 0, .int .u8 0, .int .u8 0, .int .u8 0, .int .u8 0, .int .u8 0, .int .u8 0, .int .u8 0, .int .u8 0, .int .u8 0, .int .u8 0, .int .u8 0, .int .u8 0, .int .u8 0, .int .u8 0, .int .u8 0, .int .u8 0, .int .u8 0, .int .u8 0, .int .u8 0, .int .u8 0, .int .u8 0, .int .u8 0, .int .u8 0, .int .u8 0, .int .u8 0, .int .u8 0, .int .u8 0, .int .u8 0, .int .u8 0, .int .u8 0, .int .u8 0, .int .u8 0, .int .u8 0, .int .u8 0, .int .u8 0, .int .u8 0, .int .u8 0, .int .u8 0, .int .u8 0, .int .u8 0, .int .u8 0, .int .u8 0] 152) by rw [hW2]; rfl)
    have HB9E := Lib.hid hb9
    have l9 : b9 < W2.heap.size := blk_lt N2.out
    have e92 : g2 < b9 := by rw [hb9]; exact l2
    have e91 : g1 < b9 := by omega
    have e90 : g1 < g2 := by omega
    clear hh2 hb2 hW2 hb9 hba hbb
    obtain ⟨CL, hCL⟩ : ∃ CL : List Value, CL = (List.range 64).map fun j => Value.int .u8 (KD j) := ⟨_, rfl⟩
    have HRC := Lib.hid (fun (W : World) (h : W.heap[b5]? = some (.cells (cellsN 64 KD) 152 (0, 0))) => (show W.rangeAt b5 0 CL from hCL ▸ range_cells h))
    have HCLS := Lib.hid (show (Try.prog.info? 152).map (·.size) = some CL.length from hCL ▸ (by kernel_rfl))
    have HCLI := Lib.hid (fun (k : Nat) (hk : k < 64) (W : World) => (show (Instr.index 152 (.agg CL.toArray) (.int .i64 (k : Int))).run Try.prog W = .ok (.int .u8 (KD k)) W from hCL ▸ index64 KD k hk W))
    clear hCL
    go_wp2_with (rw [← HW2.out, ← HB9E.out]; refine wpList_load_mid rfl 152 (.tmp 5) rfl b5 0 rfl CL _ (HRC.out _ K2.out) Try.underlying152 rfl HCLS.out ?_)
    obtain ⟨XI, hXI⟩ : ∃ XI : Nat → Int, XI = fun j => bits .xor .u8 (KD j) 54 := ⟨_, rfl⟩
    obtain ⟨XO, hXO⟩ : ∃ XO : Nat → Int, XO = fun j => bits .xor .u8 (KD j) 92 := ⟨_, rfl⟩
    have xI := fun j => congrFun hXI j
    have xO := fun j => congrFun hXO j

    have HXI := Lib.hid hXI
    have HXO := Lib.hid hXO
    have HxI := Lib.hid xI
    have HxO := Lib.hid xO
    clear hXI hXO xI xO
    go_loopw [30] (fun v wr => ∃ k : Nat, k ≤ 64 ∧ v = .int .i64 k ∧ wr.heap[b9]? = some (.cells (cellsN 64 (mix XI (fun _ => 0) k)) 152 (0, 0)) ∧ Near b9 W2 wr) (fun v _ => 64 - (intOf v).toNat)
    case atStart => exact ⟨0, by omega, rfl, by rw [mix_none]; exact N2.out, Near.refl _ _⟩
    case round =>
      obtain ⟨k, hk, rfl, g9, gN⟩ := hrel
      have G9 := Lib.hid g9
      have GN := Lib.hid gN
      clear g9 gN
      by_cases hk64 : k < 64
      · have q1 : decide ((k : Int) < 64) = true := decide_eq_true (by omega)
        have q2 : ((k : Int) < 64) = True := eq_true (by omega)
        have zi := fun W => HCLI.out k hk64 W
        have zc := (blk_cell G9.out k).trans (cellsN_at 64 _ k hk64)
        have zf := blk_frozen G9.out k
        have zx := HxI.out k
        go_wp2
        rw [← zx]
        refine ⟨⟨k + 1, by omega, by go_num, ?_, GN.out.setCell k _⟩, by simp [intOf]; omega⟩
        exact put_mix k hk64 G9.out
      · have hk' : k = 64 := by omega
        subst hk'
        rw [mix_full] at G9
        have n3 := GN.out
        have T3 := Lib.hid (T2.out.near n3 (by omega))
        have C3 := Lib.hid (C_near n3 C2.out (fun ad he h0 => by have := HBL.out ad he h0; omega))
        have X3 := Lib.hid ((n3.block w.heap.size (by omega) (by omega)).trans X2.out)
        have K3 := Lib.hid ((n3.block b5 (by omega) (by omega)).trans K2.out)
        have B3 := Lib.hid (B2.out.trans (n3.below (B := w.heap.size) (by omega) (by omega)))
        have s3 := n3.size
        have I3 := Lib.hid (H12.out.near n3 (by omega) (Or.inr rfl))
        have O3 := Lib.hid (H22.out.near n3 (by omega) (Or.inr rfl))
        have CX := Lib.hid (C_cells G9.out (by decide))
        have l3 := blk_lt G9.out
        clear n3
        go_wp2_with fail
        refine (write_at (T := T) (S := S) I3.out T3.out (by omega) CX.out (by simp) (Nat.le_refl _) (by decide) (fun ad he _ => by cases he; show b9 ≠ g1; omega)).mono ?_
        rintro e w4 ⟨rfl, hh4, n4⟩
        have I4 := Lib.hid hh4
        have T4 := Lib.hid (T3.out.near n4 (by omega))
        have C4 := Lib.hid (C_near n4 C3.out (fun ad he h0 => by have := HBL.out ad he h0; omega))
        have X4 := Lib.hid ((n4.block w.heap.size (by omega) (by omega)).trans X3.out)
        have K4 := Lib.hid ((n4.block b5 (by omega) (by omega)).trans K3.out)
        have B4 := Lib.hid (B3.out.trans (n4.below (B := w.heap.size) (by omega) (by omega)))
        have s4 := n4.size
        have O4 := Lib.hid (O3.out.near n4 (by omega) (Or.inr rfl))
        have N4 := Lib.hid ((n4.block b9 l3 (by omega)).trans G9.out)
        clear hh4 n4
        go_wp2_with fail
        refine (write_at (T := T) (S := S) I4.out T4.out (by omega) C4.out hbl hbc hlb (fun ad he h0 => by have := HBL.out ad he h0; omega)).mono ?_
        rintro e w5 ⟨rfl, hh5, n5⟩
        have I5 := Lib.hid hh5
        have T5 := Lib.hid (T4.out.near n5 (by omega))
        have C5 := Lib.hid (C_near n5 C4.out (fun ad he h0 => by have := HBL.out ad he h0; omega))
        have X5 := Lib.hid ((n5.block w.heap.size (by omega) (by omega)).trans X4.out)
        have K5 := Lib.hid ((n5.block b5 (by omega) (by omega)).trans K4.out)
        have B5 := Lib.hid (B4.out.trans (n5.below (B := w.heap.size) (by omega) (by omega)))
        have s5 := n5.size
        have O5 := Lib.hid (O4.out.near n5 (by omega) (Or.inr rfl))
        have N5 := Lib.hid ((n5.block b9 (by omega) (by omega)).trans N4.out)
        clear hh5 n5
        go_wp2_with (refine wpList_load_mid rfl 152 (.tmp 5) rfl b5 0 rfl CL _ (HRC.out _ K5.out) Try.underlying152 rfl HCLS.out ?_)
        go_loopw [46] (fun v wq => ∃ k : Nat, k ≤ 64 ∧ v = .int .i64 k ∧ wq.heap[b9]? = some (.cells (cellsN 64 (mix XO XI k)) 152 (0, 0)) ∧ Near b9 w5 wq) (fun v _ => 64 - (intOf v).toNat)
        case atStart => exact ⟨0, by omega, rfl, by rw [mix_none]; exact N5.out, Near.refl _ _⟩
        case round =>
          obtain ⟨k, hk, rfl, g9, gN⟩ := hrel
          have G9 := Lib.hid g9
          have GN := Lib.hid gN
          clear g9 gN
          by_cases hk64 : k < 64
          · have q1 : decide ((k : Int) < 64) = true := decide_eq_true (by omega)
            have q2 : ((k : Int) < 64) = True := eq_true (by omega)
            have zi := fun W => HCLI.out k hk64 W
            have zc := (blk_cell G9.out k).trans (cellsN_at 64 _ k hk64)
            have zf := blk_frozen G9.out k
            have zx := HxO.out k
            go_wp2
            rw [← zx]
            refine ⟨⟨k + 1, by omega, by go_num, ?_, GN.out.setCell k _⟩, by simp [intOf]; omega⟩
            exact put_mix k hk64 G9.out
          · have hk' : k = 64 := by omega
            subst hk'
            rw [mix_full] at G9
            have n6 := GN.out
            have T6 := Lib.hid (T5.out.near n6 (by omega))
            have C6 := Lib.hid (C_near n6 C5.out (fun ad he h0 => by have := HBL.out ad he h0; omega))
            have X6 := Lib.hid ((n6.block w.heap.size (by omega) (by omega)).trans X5.out)
            have K6 := Lib.hid ((n6.block b5 (by omega) (by omega)).trans K5.out)
            have B6 := Lib.hid (B5.out.trans (n6.below (B := w.heap.size) (by omega) (by omega)))
            have s6 := n6.size
            have I6 := Lib.hid (I5.out.near n6 (by omega) (Or.inl (by omega)))
            have O6 := Lib.hid (O5.out.near n6 (by omega) (Or.inr rfl))
            have CX6 := Lib.hid (C_cells G9.out (by decide))
            have l6 := blk_lt G9.out
            clear n6
            go_wp2_with fail
            refine (write_at (T := T) (S := S) O6.out T6.out (by omega) CX6.out (by simp) (Nat.le_refl _) (by decide) (fun ad he _ => by cases he; show b9 ≠ g2; omega)).mono ?_
            rintro e w7 ⟨rfl, hh7, n7⟩
            have O7 := Lib.hid hh7
            have T7 := Lib.hid (T6.out.near n7 (by omega))
            have C7 := Lib.hid (C_near n7 C6.out (fun ad he h0 => by have := HBL.out ad he h0; omega))
            have X7 := Lib.hid ((n7.block w.heap.size (by omega) (by omega)).trans X6.out)
            have K7 := Lib.hid ((n7.block b5 (by omega) (by omega)).trans K6.out)
            have B7 := Lib.hid (B6.out.trans (n7.below (B := w.heap.size) (by omega) (by omega)))
            have s7 := n7.size
            have I7 := Lib.hid (I6.out.near n7 (by omega) (Or.inl (by omega)))
            clear hh7 n7
            obtain ⟨DI, hDI⟩ : ∃ DI, DI = sumD T S (innerV T S key b) := ⟨_, rfl⟩
            have HDI := Lib.hid hDI
            go_wp2_with fail
            refine (sum16 I7.out T7.out DI (by rw [hDI]; unfold innerV padL; rw [← HKDE.out, HXI.out])).mono ?_
            rintro e w8 ⟨rfl, hb8⟩
            obtain ⟨W8, hW8⟩ : ∃ W8, W8 = w8.alloc (.cells (cellsN 16 DI) 108) := ⟨_, rfl⟩
            obtain ⟨b14, hb14⟩ : ∃ b14, b14 = w8.heap.size := ⟨_, rfl⟩
            have hba : Below w8.heap.size w8 W8 := by rw [hW8]; exact (Below.refl _ _).alloc (Nat.le_refl _) _
            have hbb : Below w7.heap.size w7 W8 := hb8.trans (hba.mono hb8.size)
            have O8 := Lib.hid (O7.out.below hbb)
            have T8 := Lib.hid (T7.out.below hbb (by omega))
            have X8 := Lib.hid ((hbb.block w.heap.size (by omega)).trans X7.out)
            have B8 := Lib.hid (B7.out.trans (hbb.mono B7.out.size))
            have s8 := hbb.size
            have s88 := hb8.size
            have N8 := Lib.hid (show W8.heap[b14]? = some (.cells (cellsN 16 DI) 108 (0, 0)) by rw [hW8, hb14]; exact heap_alloc_new _ _)
            have HW8 := Lib.hid (show W8 = w8.alloc (.cells #[.int .u8 (DI 0), .int .u8 (DI 1), .int .u8 (DI 2), .int .u8 (DI 3), .int .u8 (DI 4), .int .u8 (DI 5), .int .u8 (DI 6), .int .u8 (DI 7), .int .u8 (DI 8), .int .u8 (DI 9), .int .u8 (DI 10), .int .u8 (DI 11), .int .u8 (DI 12), .int .u8 (DI 13), .int .u8 (DI 14), .int .u8 (DI 15)] 108) by rw [hW8]; rfl)
            have HB14 := Lib.hid hb14
            have C8 := Lib.hid (C_cells N8.out (by decide))
            have l7 := O7.out.lt
            have l14 := blk_lt N8.out
            have e14 : g2 < b14 := by omega
            clear hDI hb8 hW8 hb14 hba hbb
            go_wp2_with fail
            rw [← HW8.out, ← HB14.out]
            refine (write_at (T := T) (S := S) O8.out T8.out (by omega) C8.out (by simp) (Nat.le_refl _) (by decide) (fun ad he _ => by cases he; show b14 ≠ g2; omega)).mono ?_
            rintro e w9 ⟨rfl, hh9, n9⟩
            have O9 := Lib.hid hh9
            have T9 := Lib.hid (T8.out.near n9 (by omega))
            have X9 := Lib.hid ((n9.block w.heap.size (by omega) (by omega)).trans X8.out)
            have B9 := Lib.hid (B8.out.trans (n9.below (B := w.heap.size) (by omega) (by omega)))
            have s9 := n9.size
            clear hh9 n9
            go_wp2_with fail
            refine (sum16 O9.out T9.out D (by rw [HD.out]; unfold macV padL; rw [← HKDE.out, HXO.out, HDI.out])).mono ?_
            rintro e wZ ⟨rfl, hbZ⟩
            have HXZ := Lib.hid ((hbZ.block w.heap.size (by omega)).trans X9.out)
            have HBZ := Lib.hid (B9.out.trans (hbZ.mono B9.out.size))
            clear hbZ
            have c0 := (blk_cell HXZ.out 0).trans (cellsN_at 16 _ 0 (by decide))
            have f0 := blk_frozen HXZ.out 0
            have c1 := (blk_cell HXZ.out 1).trans (cellsN_at 16 _ 1 (by decide))
            have f1 := blk_frozen HXZ.out 1
            have c2 := (blk_cell HXZ.out 2).trans (cellsN_at 16 _ 2 (by decide))
            have f2 := blk_frozen HXZ.out 2
            have c3 := (blk_cell HXZ.out 3).trans (cellsN_at 16 _ 3 (by decide))
            have f3 := blk_frozen HXZ.out 3
            have c4 := (blk_cell HXZ.out 4).trans (cellsN_at 16 _ 4 (by decide))
            have f4 := blk_frozen HXZ.out 4
            have c5 := (blk_cell HXZ.out 5).trans (cellsN_at 16 _ 5 (by decide))
            have f5 := blk_frozen HXZ.out 5
            have c6 := (blk_cell HXZ.out 6).trans (cellsN_at 16 _ 6 (by decide))
            have f6 := blk_frozen HXZ.out 6
            have c7 := (blk_cell HXZ.out 7).trans (cellsN_at 16 _ 7 (by decide))
            have f7 := blk_frozen HXZ.out 7
            have c8 := (blk_cell HXZ.out 8).trans (cellsN_at 16 _ 8 (by decide))
            have f8 := blk_frozen HXZ.out 8
            have c9 := (blk_cell HXZ.out 9).trans (cellsN_at 16 _ 9 (by decide))
            have f9 := blk_frozen HXZ.out 9
            have c10 := (blk_cell HXZ.out 10).trans (cellsN_at 16 _ 10 (by decide))
            have f10 := blk_frozen HXZ.out 10
            have c11 := (blk_cell HXZ.out 11).trans (cellsN_at 16 _ 11 (by decide))
            have f11 := blk_frozen HXZ.out 11
            have c12 := (blk_cell HXZ.out 12).trans (cellsN_at 16 _ 12 (by decide))
            have f12 := blk_frozen HXZ.out 12
            have c13 := (blk_cell HXZ.out 13).trans (cellsN_at 16 _ 13 (by decide))
            have f13 := blk_frozen HXZ.out 13
            have c14 := (blk_cell HXZ.out 14).trans (cellsN_at 16 _ 14 (by decide))
            have f14 := blk_frozen HXZ.out 14
            have c15 := (blk_cell HXZ.out 15).trans (cellsN_at 16 _ 15 (by decide))
            have f15 := blk_frozen HXZ.out 15
            go_wp2
            have hp := put_mix 15 (by decide) (put_mix 14 (by decide) (put_mix 13 (by decide) (put_mix 12 (by decide) (put_mix 11 (by decide) (put_mix 10 (by decide) (put_mix 9 (by decide) (put_mix 8 (by decide) (put_mix 7 (by decide) (put_mix 6 (by decide) (put_mix 5 (by decide) (put_mix 4 (by decide) (put_mix 3 (by decide) (put_mix 2 (by decide) (put_mix 1 (by decide) (put_mix 0 (by decide) ((show wZ.heap[w.heap.size]? = some (.cells (cellsN 16 (mix D (fun _ => 0) 0)) 108 (0, 0)) by rw [mix_none]; exact HXZ.out)))))))))))))))))
            rw [mix_full] at hp
            refine bodyPost_ret (results_single rfl (.cell w.heap.size 108 (cellsN 16 D) (0, 0) _ rfl hp Try.underlying108 rfl (by rw [cellsN_size]; kernel_rfl) .nil)) rfl ?_
            exact ⟨rfl, Below.setCell (Below.setCell (Below.setCell (Below.setCell (Below.setCell (Below.setCell (Below.setCell (Below.setCell (Below.setCell (Below.setCell (Below.setCell (Below.setCell (Below.setCell (Below.setCell (Below.setCell (Below.setCell (HBZ.out) (p := ⟨w.heap.size, 0, none⟩) (Nat.le_refl _) (.int .u8 (D 0))) (p := ⟨w.heap.size, 1, none⟩) (Nat.le_refl _) (.int .u8 (D 1))) (p := ⟨w.heap.size, 2, none⟩) (Nat.le_refl _) (.int .u8 (D 2))) (p := ⟨w.heap.size, 3, none⟩) (Nat.le_refl _) (.int .u8 (D 3))) (p := ⟨w.heap.size, 4, none⟩) (Nat.le_refl _) (.int .u8 (D 4))) (p := ⟨w.heap.size, 5, none⟩) (Nat.le_refl _) (.int .u8 (D 5))) (p := ⟨w.heap.size, 6, none⟩) (Nat.le_refl _) (.int .u8 (D 6))) (p := ⟨w.heap.size, 7, none⟩) (Nat.le_refl _) (.int .u8 (D 7))) (p := ⟨w.heap.size, 8, none⟩) (Nat.le_refl _) (.int .u8 (D 8))) (p := ⟨w.heap.size, 9, none⟩) (Nat.le_refl _) (.int .u8 (D 9))) (p := ⟨w.heap.size, 10, none⟩) (Nat.le_refl _) (.int .u8 (D 10))) (p := ⟨w.heap.size, 11, none⟩) (Nat.le_refl _) (.int .u8 (D 11))) (p := ⟨w.heap.size, 12, none⟩) (Nat.le_refl _) (.int .u8 (D 12))) (p := ⟨w.heap.size, 13, none⟩) (Nat.le_refl _) (.int .u8 (D 13))) (p := ⟨w.heap.size, 14, none⟩) (Nat.le_refl _) (.int .u8 (D 14))) (p := ⟨w.heap.size, 15, none⟩) (Nat.le_refl _) (.int .u8 (D 15))⟩
  · have q1 : decide (64 < (lk : Int)) = false := decide_eq_false (by omega)
    obtain ⟨Wk, hWk⟩ : ∃ Wk, Wk = W1 := ⟨_, rfl⟩
    obtain ⟨KD, hKD⟩ : ∃ KD, KD = keyV T S key := ⟨_, rfl⟩
    obtain ⟨D, hD⟩ : ∃ D, D = macV T S key b := ⟨_, rfl⟩
    rw [← hD]
    have HD := Lib.hid hD
    clear hD
    have HKk := Lib.hid (show Wk.heap[b5]? = some (.cells (cellsN 64 KD) 152 (0, 0)) by rw [hWk, hKD]; unfold keyV; rw [if_neg (by omega), hkl]; rw [show min lk 64 = lk by omega] at HK1; exact HK1.out)
    have HXk := Lib.hid (show Wk.heap[w.heap.size]? = some (.cells (cellsN 16 fun _ => 0) 108 (0, 0)) from hWk ▸ (HN1.out.block w.heap.size (by have := HSZ.out; omega) (by omega)).trans HX.out)
    have HBk := Lib.hid (show Below w.heap.size w Wk from hWk ▸ HBW.out.trans (HN1.out.below (B := w.heap.size) (by omega) (by have := HSZ.out; omega)))
    have HTk := Lib.hid (show Tabs T S Wk from hWk ▸ HT0.out.near HN1.out (by omega))
    have HCk := Lib.hid (show Kd.C (Kd.int .u8) Wk B lb b from hWk ▸ C_near HN1.out HCB.out (fun ad he h0 => by have := HBL.out ad he h0; omega))
    have HKDE := Lib.hid hKD
    have HWk := Lib.hid hWk
    clear hKD hWk
    go_enter Try.func103, Try.ntmps103
    have hkb : b5 < Wk.heap.size := blk_lt HKk.out
    have hwk : w.heap.size < Wk.heap.size := blk_lt HXk.out
    go_wp2_with (rw [← HW0.out, ← HB5E.out]; refine wpList_copy rfl (.tmp 15) (.tmp 16) 73 73 rfl (.slice (some ⟨b5, 0, none⟩) 64 64) (.slice A lk ck) (goInt ((min lk 64 : Nat) : Int)) rfl rfl W1 hrun ?_)
    rw [← HWk.out]
    refine (new_at Wk).mono ?_
    rintro e w1 ⟨g1, rfl, hg1, hh1, hb1⟩
    have H11 := Lib.hid hh1
    have T1 := Lib.hid (HTk.out.below hb1 (by omega))
    have C1 := Lib.hid (Kd.C_below HCk.out hb1)
    have X1 := Lib.hid ((hb1.block w.heap.size hwk).trans HXk.out)
    have K1 := Lib.hid ((hb1.block b5 hkb).trans HKk.out)
    have B1 := Lib.hid (HBk.out.trans (hb1.mono HBk.out.size))
    have s1 := hb1.size
    have l1 := hh1.lt
    clear hh1 hb1
    go_wp2_with fail
    refine (new_at w1).mono ?_
    rintro e w2 ⟨g2, rfl, hg2, hh2, hb2⟩
    obtain ⟨W2, hW2⟩ : ∃ W2, W2 = w2.alloc (.cells (cellsN 64 fun _ => 0) 152) := ⟨_, rfl⟩
    obtain ⟨b9, hb9⟩ : ∃ b9, b9 = w2.heap.size := ⟨_, rfl⟩
    have l2 := hh2.lt
    have hba : Below w2.heap.size w2 W2 := by rw [hW2]; exact (Below.refl _ _).alloc (Nat.le_refl _) _
    have H12 := Lib.hid ((H11.out.below hb2).below hba)
    have H22 := Lib.hid (hh2.below hba)
    have hbb : Below w1.heap.size w1 W2 := hb2.trans (hba.mono hb2.size)
    have T2 := Lib.hid (T1.out.below hbb (by omega))
    have C2 := Lib.hid (Kd.C_below C1.out hbb)
    have X2 := Lib.hid ((hbb.block w.heap.size (by omega)).trans X1.out)
    have K2 := Lib.hid ((hbb.block b5 (by omega)).trans K1.out)
    have B2 := Lib.hid (B1.out.trans (hbb.mono B1.out.size))
    have s2 := hb2.size
    have s22 := hba.size
    have N2 := Lib.hid (show W2.heap[b9]? = some (.cells (cellsN 64 fun _ => 0) 152 (0, 0)) by rw [hW2, hb9]; exact heap_alloc_new _ _)
    have HW2 := Lib.hid (show W2 = w2.alloc (.cells #[.int .u8 0, .int .u8 0, .int .u8 0, .int .u8 0, .int .u8 0, .int .u8 0, .int .u8 0, .int .u8 0, .int .u8 0, .int .u8 0, .int .u8 0, .int .u8 0, .int .u8 0, .int .u8 0, .int .u8 0, .int .u8 0, .int .u8 0, .int .u8 0, .int .u8 0, .int .u8 0, .int .u8 0, .int .u8 0, .int .u8 0, .int .u8 0, .int .u8 0, .int .u8 0, .int .u8 0, .int .u8 0, .int .u8 0, .int .u8 0, .int .u8 0, .int .u8 0, .int .u8 0, .int .u8 0, .int .u8 0, .int .u8 0, .int .u8 0, .int .u8 0, .int .u8 0, .int .u8 0, .int .u8 0, .int .u8 0, .int .u8 0, .int .u8 0, .int .u8 0, .int .u8 0, .int .u8 0, .int .u8 0, .int .u8 0, .int .u8 0, .int .u8 0, .int .u8 0, .int .u8 0, .int .u8 0, .int .u8 0, .int .u8 0, .int .u8 0, .int .u8 0, .int .u8 0, .int .u8 0, .int .u8 0, .int .u8 0, .int .u8 0, .int .u8 0] 152) by rw [hW2]; rfl)
    have HB9E := Lib.hid hb9
    have l9 : b9 < W2.heap.size := blk_lt N2.out
    have e92 : g2 < b9 := by rw [hb9]; exact l2
    have e91 : g1 < b9 := by omega
    have e90 : g1 < g2 := by omega
    clear hh2 hb2 hW2 hb9 hba hbb
    obtain ⟨CL, hCL⟩ : ∃ CL : List Value, CL = (List.range 64).map fun j => Value.int .u8 (KD j) := ⟨_, rfl⟩
    have HRC := Lib.hid (fun (W : World) (h : W.heap[b5]? = some (.cells (cellsN 64 KD) 152 (0, 0))) => (show W.rangeAt b5 0 CL from hCL ▸ range_cells h))
    have HCLS := Lib.hid (show (Try.prog.info? 152).map (·.size) = some CL.length from hCL ▸ (by kernel_rfl))
    have HCLI := Lib.hid (fun (k : Nat) (hk : k < 64) (W : World) => (show (Instr.index 152 (.agg CL.toArray) (.int .i64 (k : Int))).run Try.prog W = .ok (.int .u8 (KD k)) W from hCL ▸ index64 KD k hk W))
    clear hCL
    go_wp2_with (rw [← HW2.out, ← HB9E.out]; refine wpList_load_mid rfl 152 (.tmp 5) rfl b5 0 rfl CL _ (HRC.out _ K2.out) Try.underlying152 rfl HCLS.out ?_)
    obtain ⟨XI, hXI⟩ : ∃ XI : Nat → Int, XI = fun j => bits .xor .u8 (KD j) 54 := ⟨_, rfl⟩
    obtain ⟨XO, hXO⟩ : ∃ XO : Nat → Int, XO = fun j => bits .xor .u8 (KD j) 92 := ⟨_, rfl⟩
    have xI := fun j => congrFun hXI j
    have xO := fun j => congrFun hXO j

    have HXI := Lib.hid hXI
    have HXO := Lib.hid hXO
    have HxI := Lib.hid xI
    have HxO := Lib.hid xO
    clear hXI hXO xI xO
    go_loopw [30] (fun v wr => ∃ k : Nat, k ≤ 64 ∧ v = .int .i64 k ∧ wr.heap[b9]? = some (.cells (cellsN 64 (mix XI (fun _ => 0) k)) 152 (0, 0)) ∧ Near b9 W2 wr) (fun v _ => 64 - (intOf v).toNat)
    case atStart => exact ⟨0, by omega, rfl, by rw [mix_none]; exact N2.out, Near.refl _ _⟩
    case round =>
      obtain ⟨k, hk, rfl, g9, gN⟩ := hrel
      have G9 := Lib.hid g9
      have GN := Lib.hid gN
      clear g9 gN
      by_cases hk64 : k < 64
      · have q1 : decide ((k : Int) < 64) = true := decide_eq_true (by omega)
        have q2 : ((k : Int) < 64) = True := eq_true (by omega)
        have zi := fun W => HCLI.out k hk64 W
        have zc := (blk_cell G9.out k).trans (cellsN_at 64 _ k hk64)
        have zf := blk_frozen G9.out k
        have zx := HxI.out k
        go_wp2
        rw [← zx]
        refine ⟨⟨k + 1, by omega, by go_num, ?_, GN.out.setCell k _⟩, by simp [intOf]; omega⟩
        exact put_mix k hk64 G9.out
      · have hk' : k = 64 := by omega
        subst hk'
        rw [mix_full] at G9
        have n3 := GN.out
        have T3 := Lib.hid (T2.out.near n3 (by omega))
        have C3 := Lib.hid (C_near n3 C2.out (fun ad he h0 => by have := HBL.out ad he h0; omega))
        have X3 := Lib.hid ((n3.block w.heap.size (by omega) (by omega)).trans X2.out)
        have K3 := Lib.hid ((n3.block b5 (by omega) (by omega)).trans K2.out)
        have B3 := Lib.hid (B2.out.trans (n3.below (B := w.heap.size) (by omega) (by omega)))
        have s3 := n3.size
        have I3 := Lib.hid (H12.out.near n3 (by omega) (Or.inr rfl))
        have O3 := Lib.hid (H22.out.near n3 (by omega) (Or.inr rfl))
        have CX := Lib.hid (C_cells G9.out (by decide))
        have l3 := blk_lt G9.out
        clear n3
        go_wp2_with fail
        refine (write_at (T := T) (S := S) I3.out T3.out (by omega) CX.out (by simp) (Nat.le_refl _) (by decide) (fun ad he _ => by cases he; show b9 ≠ g1; omega)).mono ?_
        rintro e w4 ⟨rfl, hh4, n4⟩
        have I4 := Lib.hid hh4
        have T4 := Lib.hid (T3.out.near n4 (by omega))
        have C4 := Lib.hid (C_near n4 C3.out (fun ad he h0 => by have := HBL.out ad he h0; omega))
        have X4 := Lib.hid ((n4.block w.heap.size (by omega) (by omega)).trans X3.out)
        have K4 := Lib.hid ((n4.block b5 (by omega) (by omega)).trans K3.out)
        have B4 := Lib.hid (B3.out.trans (n4.below (B := w.heap.size) (by omega) (by omega)))
        have s4 := n4.size
        have O4 := Lib.hid (O3.out.near n4 (by omega) (Or.inr rfl))
        have N4 := Lib.hid ((n4.block b9 l3 (by omega)).trans G9.out)
        clear hh4 n4
        go_wp2_with fail
        refine (write_at (T := T) (S := S) I4.out T4.out (by omega) C4.out hbl hbc hlb (fun ad he h0 => by have := HBL.out ad he h0; omega)).mono ?_
        rintro e w5 ⟨rfl, hh5, n5⟩
        have I5 := Lib.hid hh5
        have T5 := Lib.hid (T4.out.near n5 (by omega))
        have C5 := Lib.hid (C_near n5 C4.out (fun ad he h0 => by have := HBL.out ad he h0; omega))
        have X5 := Lib.hid ((n5.block w.heap.size (by omega) (by omega)).trans X4.out)
        have K5 := Lib.hid ((n5.block b5 (by omega) (by omega)).trans K4.out)
        have B5 := Lib.hid (B4.out.trans (n5.below (B := w.heap.size) (by omega) (by omega)))
        have s5 := n5.size
        have O5 := Lib.hid (O4.out.near n5 (by omega) (Or.inr rfl))
        have N5 := Lib.hid ((n5.block b9 (by omega) (by omega)).trans N4.out)
        clear hh5 n5
        go_wp2_with (refine wpList_load_mid rfl 152 (.tmp 5) rfl b5 0 rfl CL _ (HRC.out _ K5.out) Try.underlying152 rfl HCLS.out ?_)
        go_loopw [46] (fun v wq => ∃ k : Nat, k ≤ 64 ∧ v = .int .i64 k ∧ wq.heap[b9]? = some (.cells (cellsN 64 (mix XO XI k)) 152 (0, 0)) ∧ Near b9 w5 wq) (fun v _ => 64 - (intOf v).toNat)
        case atStart => exact ⟨0, by omega, rfl, by rw [mix_none]; exact N5.out, Near.refl _ _⟩
        case round =>
          obtain ⟨k, hk, rfl, g9, gN⟩ := hrel
          have G9 := Lib.hid g9
          have GN := Lib.hid gN
          clear g9 gN
          by_cases hk64 : k < 64
          · have q1 : decide ((k : Int) < 64) = true := decide_eq_true (by omega)
            have q2 : ((k : Int) < 64) = True := eq_true (by omega)
            have zi := fun W => HCLI.out k hk64 W
            have zc := (blk_cell G9.out k).trans (cellsN_at 64 _ k hk64)
            have zf := blk_frozen G9.out k
            have zx := HxO.out k
            go_wp2
            rw [← zx]
            refine ⟨⟨k + 1, by omega, by go_num, ?_, GN.out.setCell k _⟩, by simp [intOf]; omega⟩
            exact put_mix k hk64 G9.out
          · have hk' : k = 64 := by omega
            subst hk'
            rw [mix_full] at G9
            have n6 := GN.out
            have T6 := Lib.hid (T5.out.near n6 (by omega))
            have C6 := Lib.hid (C_near n6 C5.out (fun ad he h0 => by have := HBL.out ad he h0; omega))
            have X6 := Lib.hid ((n6.block w.heap.size (by omega) (by omega)).trans X5.out)
            have K6 := Lib.hid ((n6.block b5 (by omega) (by omega)).trans K5.out)
            have B6 := Lib.hid (B5.out.trans (n6.below (B := w.heap.size) (by omega) (by omega)))
            have s6 := n6.size
            have I6 := Lib.hid (I5.out.near n6 (by omega) (Or.inl (by omega)))
            have O6 := Lib.hid (O5.out.near n6 (by omega) (Or.inr rfl))
            have CX6 := Lib.hid (C_cells G9.out (by decide))
            have l6 := blk_lt G9.out
            clear n6
            go_wp2_with fail
            refine (write_at (T := T) (S := S) O6.out T6.out (by omega) CX6.out (by simp) (Nat.le_refl _) (by decide) (fun ad he _ => by cases he; show b9 ≠ g2; omega)).mono ?_
            rintro e w7 ⟨rfl, hh7, n7⟩
            have O7 := Lib.hid hh7
            have T7 := Lib.hid (T6.out.near n7 (by omega))
            have C7 := Lib.hid (C_near n7 C6.out (fun ad he h0 => by have := HBL.out ad he h0; omega))
            have X7 := Lib.hid ((n7.block w.heap.size (by omega) (by omega)).trans X6.out)
            have K7 := Lib.hid ((n7.block b5 (by omega) (by omega)).trans K6.out)
            have B7 := Lib.hid (B6.out.trans (n7.below (B := w.heap.size) (by omega) (by omega)))
            have s7 := n7.size
            have I7 := Lib.hid (I6.out.near n7 (by omega) (Or.inl (by omega)))
            clear hh7 n7
            obtain ⟨DI, hDI⟩ : ∃ DI, DI = sumD T S (innerV T S key b) := ⟨_, rfl⟩
            have HDI := Lib.hid hDI
            go_wp2_with fail
            refine (sum16 I7.out T7.out DI (by rw [hDI]; unfold innerV padL; rw [← HKDE.out, HXI.out])).mono ?_
            rintro e w8 ⟨rfl, hb8⟩
            obtain ⟨W8, hW8⟩ : ∃ W8, W8 = w8.alloc (.cells (cellsN 16 DI) 108) := ⟨_, rfl⟩
            obtain ⟨b14, hb14⟩ : ∃ b14, b14 = w8.heap.size := ⟨_, rfl⟩
            have hba : Below w8.heap.size w8 W8 := by rw [hW8]; exact (Below.refl _ _).alloc (Nat.le_refl _) _
            have hbb : Below w7.heap.size w7 W8 := hb8.trans (hba.mono hb8.size)
            have O8 := Lib.hid (O7.out.below hbb)
            have T8 := Lib.hid (T7.out.below hbb (by omega))
            have X8 := Lib.hid ((hbb.block w.heap.size (by omega)).trans X7.out)
            have B8 := Lib.hid (B7.out.trans (hbb.mono B7.out.size))
            have s8 := hbb.size
            have s88 := hb8.size
            have N8 := Lib.hid (show W8.heap[b14]? = some (.cells (cellsN 16 DI) 108 (0, 0)) by rw [hW8, hb14]; exact heap_alloc_new _ _)
            have HW8 := Lib.hid (show W8 = w8.alloc (.cells #[.int .u8 (DI 0), .int .u8 (DI 1), .int .u8 (DI 2), .int .u8 (DI 3), .int .u8 (DI 4), .int .u8 (DI 5), .int .u8 (DI 6), .int .u8 (DI 7), .int .u8 (DI 8), .int .u8 (DI 9), .int .u8 (DI 10), .int .u8 (DI 11), .int .u8 (DI 12), .int .u8 (DI 13), .int .u8 (DI 14), .int .u8 (DI 15)] 108) by rw [hW8]; rfl)
            have HB14 := Lib.hid hb14
            have C8 := Lib.hid (C_cells N8.out (by decide))
            have l7 := O7.out.lt
            have l14 := blk_lt N8.out
            have e14 : g2 < b14 := by omega
            clear hDI hb8 hW8 hb14 hba hbb
            go_wp2_with fail
            rw [← HW8.out, ← HB14.out]
            refine (write_at (T := T) (S := S) O8.out T8.out (by omega) C8.out (by simp) (Nat.le_refl _) (by decide) (fun ad he _ => by cases he; show b14 ≠ g2; omega)).mono ?_
            rintro e w9 ⟨rfl, hh9, n9⟩
            have O9 := Lib.hid hh9
            have T9 := Lib.hid (T8.out.near n9 (by omega))
            have X9 := Lib.hid ((n9.block w.heap.size (by omega) (by omega)).trans X8.out)
            have B9 := Lib.hid (B8.out.trans (n9.below (B := w.heap.size) (by omega) (by omega)))
            have s9 := n9.size
            clear hh9 n9
            go_wp2_with fail
            refine (sum16 O9.out T9.out D (by rw [HD.out]; unfold macV padL; rw [← HKDE.out, HXO.out, HDI.out])).mono ?_
            rintro e wZ ⟨rfl, hbZ⟩
            have HXZ := Lib.hid ((hbZ.block w.heap.size (by omega)).trans X9.out)
            have HBZ := Lib.hid (B9.out.trans (hbZ.mono B9.out.size))
            clear hbZ
            have c0 := (blk_cell HXZ.out 0).trans (cellsN_at 16 _ 0 (by decide))
            have f0 := blk_frozen HXZ.out 0
            have c1 := (blk_cell HXZ.out 1).trans (cellsN_at 16 _ 1 (by decide))
            have f1 := blk_frozen HXZ.out 1
            have c2 := (blk_cell HXZ.out 2).trans (cellsN_at 16 _ 2 (by decide))
            have f2 := blk_frozen HXZ.out 2
            have c3 := (blk_cell HXZ.out 3).trans (cellsN_at 16 _ 3 (by decide))
            have f3 := blk_frozen HXZ.out 3
            have c4 := (blk_cell HXZ.out 4).trans (cellsN_at 16 _ 4 (by decide))
            have f4 := blk_frozen HXZ.out 4
            have c5 := (blk_cell HXZ.out 5).trans (cellsN_at 16 _ 5 (by decide))
            have f5 := blk_frozen HXZ.out 5
            have c6 := (blk_cell HXZ.out 6).trans (cellsN_at 16 _ 6 (by decide))
            have f6 := blk_frozen HXZ.out 6
            have c7 := (blk_cell HXZ.out 7).trans (cellsN_at 16 _ 7 (by decide))
            have f7 := blk_frozen HXZ.out 7
            have c8 := (blk_cell HXZ.out 8).trans (cellsN_at 16 _ 8 (by decide))
            have f8 := blk_frozen HXZ.out 8
            have c9 := (blk_cell HXZ.out 9).trans (cellsN_at 16 _ 9 (by decide))
            have f9 := blk_frozen HXZ.out 9
            have c10 := (blk_cell HXZ.out 10).trans (cellsN_at 16 _ 10 (by decide))
            have f10 := blk_frozen HXZ.out 10
            have c11 := (blk_cell HXZ.out 11).trans (cellsN_at 16 _ 11 (by decide))
            have f11 := blk_frozen HXZ.out 11
            have c12 := (blk_cell HXZ.out 12).trans (cellsN_at 16 _ 12 (by decide))
            have f12 := blk_frozen HXZ.out 12
            have c13 := (blk_cell HXZ.out 13).trans (cellsN_at 16 _ 13 (by decide))
            have f13 := blk_frozen HXZ.out 13
            have c14 := (blk_cell HXZ.out 14).trans (cellsN_at 16 _ 14 (by decide))
            have f14 := blk_frozen HXZ.out 14
            have c15 := (blk_cell HXZ.out 15).trans (cellsN_at 16 _ 15 (by decide))
            have f15 := blk_frozen HXZ.out 15
            go_wp2
            have hp := put_mix 15 (by decide) (put_mix 14 (by decide) (put_mix 13 (by decide) (put_mix 12 (by decide) (put_mix 11 (by decide) (put_mix 10 (by decide) (put_mix 9 (by decide) (put_mix 8 (by decide) (put_mix 7 (by decide) (put_mix 6 (by decide) (put_mix 5 (by decide) (put_mix 4 (by decide) (put_mix 3 (by decide) (put_mix 2 (by decide) (put_mix 1 (by decide) (put_mix 0 (by decide) ((show wZ.heap[w.heap.size]? = some (.cells (cellsN 16 (mix D (fun _ => 0) 0)) 108 (0, 0)) by rw [mix_none]; exact HXZ.out)))))))))))))))))
            rw [mix_full] at hp
            refine bodyPost_ret (results_single rfl (.cell w.heap.size 108 (cellsN 16 D) (0, 0) _ rfl hp Try.underlying108 rfl (by rw [cellsN_size]; kernel_rfl) .nil)) rfl ?_
            exact ⟨rfl, Below.setCell (Below.setCell (Below.setCell (Below.setCell (Below.setCell (Below.setCell (Below.setCell (Below.setCell (Below.setCell (Below.setCell (Below.setCell (Below.setCell (Below.setCell (Below.setCell (Below.setCell (Below.setCell (HBZ.out) (p := ⟨w.heap.size, 0, none⟩) (Nat.le_refl _) (.int .u8 (D 0))) (p := ⟨w.heap.size, 1, none⟩) (Nat.le_refl _) (.int .u8 (D 1))) (p := ⟨w.heap.size, 2, none⟩) (Nat.le_refl _) (.int .u8 (D 2))) (p := ⟨w.heap.size, 3, none⟩) (Nat.le_refl _) (.int .u8 (D 3))) (p := ⟨w.heap.size, 4, none⟩) (Nat.le_refl _) (.int .u8 (D 4))) (p := ⟨w.heap.size, 5, none⟩) (Nat.le_refl _) (.int .u8 (D 5))) (p := ⟨w.heap.size, 6, none⟩) (Nat.le_refl _) (.int .u8 (D 6))) (p := ⟨w.heap.size, 7, none⟩) (Nat.le_refl _) (.int .u8 (D 7))) (p := ⟨w.heap.size, 8, none⟩) (Nat.le_refl _) (.int .u8 (D 8))) (p := ⟨w.heap.size, 9, none⟩) (Nat.le_refl _) (.int .u8 (D 9))) (p := ⟨w.heap.size, 10, none⟩) (Nat.le_refl _) (.int .u8 (D 10))) (p := ⟨w.heap.size, 11, none⟩) (Nat.le_refl _) (.int .u8 (D 11))) (p := ⟨w.heap.size, 12, none⟩) (Nat.le_refl _) (.int .u8 (D 12))) (p := ⟨w.heap.size, 13, none⟩) (Nat.le_refl _) (.int .u8 (D 13))) (p := ⟨w.heap.size, 14, none⟩) (Nat.le_refl _) (.int .u8 (D 14))) (p := ⟨w.heap.size, 15, none⟩) (Nat.le_refl _) (.int .u8 (D 15))⟩
end Go.Proofs.Yticjpjgfccbhlaa.Hash
