/- hash: Tell by contract. (The steps of its region: printed by tools/htell.py.) -/
import Derived.Test.YticjpjgfccbhlaaHash9a
import Derived.Test.YticjpjgfccbhlaaCode
namespace Go.Proofs.Yticjpjgfccbhlaa.Hash
open Go.RowKit Go.Proofs.YticjpjgfccbhlaaW.PrintWords Go.Proofs.YticjpjgfccbhlaaW.PrintLast Go.Proofs.YticjpjgfccbhlaaW.PrintMore Go.Proofs.Yticjpjgfccbhlaa.PSaslBoth
open Go.Proofs.Yticjpjgfccbhlaa.Code (news_lit nums_one own_C str_of)
attribute [local go_sem] max2_int min2_int max_two min_two max_three min_three max_four min_four
set_option linter.unusedVariables false
set_option linter.unusedSimpArgs false
def H16 : ByteArray := ⟨#[48, 49, 50, 51, 52, 53, 54, 55, 56, 57, 97, 98, 99, 100, 101, 102]⟩
/-- a byte's two digits -/
def hex2 (a : Int) : List Int := [bt H16 (a / 16), bt H16 (a % 16)]
def hexV (l : List Int) : List Int := l.flatMap hex2
theorem hexV_more (l : List Int) (k : Nat) (a : Int) (h : l[k]? = some a) : hexV (l.take (k + 1)) = hexV (l.take k) ++ hex2 a := by
  unfold hexV
  rw [List.take_add_one, h, List.flatMap_append]
  simp
theorem hexV_len (l : List Int) : (hexV l).length = 2 * l.length := by
  unfold hexV
  induction l with
  | nil => rfl
  | cons a l ih =>
    rw [List.flatMap_cons, List.length_append, ih]
    simp only [hex2, List.length_cons, List.length_nil]
    omega
def rowL (D : Nat → Int) : List Int := (List.range 16).map D
def tellV (D : Nat → Int) : ByteArray := strOfNums (hexV (rowL D))
theorem rowL_at (D : Nat → Int) (k : Nat) (h : k < 16) : (rowL D)[k]? = some (D k) := by
  unfold rowL
  rw [List.getElem?_map, List.getElem?_range h]
  rfl
theorem rowL_len (D : Nat → Int) : (rowL D).length = 16 := by simp [rowL]
theorem tell_zero (D : Nat → Int) (h : ∀ j, j < 16 → D j = 0) : tellV D = ⟨#[48, 48, 48, 48, 48, 48, 48, 48, 48, 48, 48, 48, 48, 48, 48, 48, 48, 48, 48, 48, 48, 48, 48, 48, 48, 48, 48, 48, 48, 48, 48, 48]⟩ := by
  have e : rowL D = rowL (fun _ => 0) := by
    unfold rowL
    refine List.map_congr_left fun j hj => h j (List.mem_range.1 hj)
  exact (congrArg (fun l => strOfNums (hexV l)) e).trans (by decide +kernel)
theorem index82 (D : Nat → Int) (k : Nat) (hk : k < 16) (W : World) : (Instr.index 108 (.agg (cellsN 16 D)) (.int .i64 (k : Int))).run Try.prog W = .ok (.int .u8 (D k)) W :=
  index_run 108 5 16 Try.underlying108 (fun W => by kernel_rfl) (fun W => by kernel_rfl) _ k hk _ (cellsN_at 16 D k hk) W
set_option maxHeartbeats 4000000 in
set_option maxRecDepth 100000 in
theorem tell_calls (D : Nat → Int) (hD : ∀ j, j < 16 → 0 ≤ D j ∧ D j < 256) (w : World) : Calls Try.prog 102 #[.agg #[.int .u8 (D 0), .int .u8 (D 1), .int .u8 (D 2), .int .u8 (D 3), .int .u8 (D 4), .int .u8 (D 5), .int .u8 (D 6), .int .u8 (D 7), .int .u8 (D 8), .int .u8 (D 9), .int .u8 (D 10), .int .u8 (D 11), .int .u8 (D 12), .int .u8 (D 13), .int .u8 (D 14), .int .u8 (D 15)]] w fun e w' => e = .returned (.string (tellV D)) ∧ Below w.heap.size w w' := by
  obtain ⟨i0, hi, hz0, hz1, hz2⟩ := info_parts info5
  obtain ⟨b, hb, hq0⟩ := equal_run D (fun _ => 0)
  have HZ := Lib.hid (tell_zero D)
  have HDB := Lib.hid hD
  have HBE := Lib.hid hb
  have HIX := Lib.hid (index82 D)
  have hq : ∀ W, (Op.equalIn 10000 108 (.agg #[.int .u8 (D 0), .int .u8 (D 1), .int .u8 (D 2), .int .u8 (D 3), .int .u8 (D 4), .int .u8 (D 5), .int .u8 (D 6), .int .u8 (D 7), .int .u8 (D 8), .int .u8 (D 9), .int .u8 (D 10), .int .u8 (D 11), .int .u8 (D 12), .int .u8 (D 13), .int .u8 (D 14), .int .u8 (D 15)]) (.agg #[.int .u8 0, .int .u8 0, .int .u8 0, .int .u8 0, .int .u8 0, .int .u8 0, .int .u8 0, .int .u8 0, .int .u8 0, .int .u8 0, .int .u8 0, .int .u8 0, .int .u8 0, .int .u8 0, .int .u8 0, .int .u8 0])).run Try.prog W = .ok b W := hq0
  have HIX' : ∀ (k : Nat), k < 16 → ∀ W, (Instr.index 108 (.agg #[.int .u8 (D 0), .int .u8 (D 1), .int .u8 (D 2), .int .u8 (D 3), .int .u8 (D 4), .int .u8 (D 5), .int .u8 (D 6), .int .u8 (D 7), .int .u8 (D 8), .int .u8 (D 9), .int .u8 (D 10), .int .u8 (D 11), .int .u8 (D 12), .int .u8 (D 13), .int .u8 (D 14), .int .u8 (D 15)]) (.int .i64 (k : Int))).run Try.prog W = .ok (.int .u8 (D k)) W := HIX.out
  have HIX2 := Lib.hid HIX'
  clear hD hb HIX HIX' hq0
  cases b with
  | true =>
    have HZ2 := Lib.hid (HZ.out (HBE.out.1 rfl))
    go_enter Try.func102, Try.ntmps102
    go_wp2
    go_ret
    exact ⟨by rw [HZ2.out]; rfl, (Below.refl _ _).alloc (Nat.le_refl _) _⟩
  | false =>
    go_enter Try.func102, Try.ntmps102
    go_wp2_with (at_make; refine wpList_make_own _ rfl _ _ 73 rfl w.heap.size 5 i0 _ 1 Try.underlying73 hi hz0 hz1 _ _ _ 32 rfl rfl (by omega) ?b2 ?b3 (by simp) ?_)
    case b2 => rw [hz2]; omega
    case b3 => unfold maxLen; omega
    intro w0 hown0 hgrow0
    have hB0 : Below w.heap.size w w0 := ((Below.refl w.heap.size w).alloc (Nat.le_refl _) _).grown hgrow0 (by simp) (fun k h => by cases h)
    have HB0 := Lib.hid hB0
    have hbox := (hgrow0.block w.heap.size (by simp) (by simp)).trans (heap_alloc_new w (.cells (cellsN 16 D) 108))
    obtain ⟨CL, hCL⟩ : ∃ CL, CL = (List.range 16).map fun j => Value.int .u8 (D j) := ⟨_, rfl⟩
    have hrc : w0.rangeAt w.heap.size 0 CL := hCL ▸ range_cells hbox
    have hcs : (Try.prog.info? 108).map (·.size) = some CL.length := hCL ▸ (by kernel_rfl)
    have HIX3 := Lib.hid (fun (k : Nat) (hk : k < 16) W => index_run 108 5 16 Try.underlying108 (fun W => by kernel_rfl) (fun W => by kernel_rfl) CL.toArray k hk (.int .u8 (D k)) (by rw [hCL, List.getElem?_toArray, List.getElem?_map, List.getElem?_range hk]; rfl) W)
    have HRC := Lib.hid hrc
    have HCS := Lib.hid hcs
    clear hCL hrc hcs hq hbox
    go_wp2_with (refine wpList_load_mid rfl 108 (.tmp 1) rfl w.heap.size 0 rfl CL _ HRC.out Try.underlying108 rfl HCS.out ?_)
    go_loopw [11, 3] (fun v o wr => ∃ (k : Nat) (d : List Int) (V : Value), k ≤ 16 ∧ v = .int .i64 k ∧ V = o ∧ hexV ((rowL D).take k) = d ∧ wr.ownsRow w.heap.size 5 1 V d.length (nums .u8 d) ∧ Below w.heap.size w wr) (fun v _ _ => 16 - (intOf v).toNat)
    case atStart => exact ⟨0, [], _, by omega, rfl, rfl, rfl, hown0, HB0.out⟩
    case round =>
      obtain ⟨k, d, V, hk, rfl, rfl, hd, hO, hB⟩ := hrel
      have HD := Lib.hid hd
      have HO := Lib.hid hO
      have HB := Lib.hid hB
      have hdl : d.length ≤ 32 := by rw [← hd, hexV_len, List.length_take, rowL_len]; omega
      clear hd hO hB hown0 hgrow0
      by_cases hlt : k < 16
      · have hix := HIX3.out k hlt
        obtain ⟨ha0, ha1⟩ := HDB.out k hlt
        have e2 := u8_and15 (D k) ha0 ha1
        have p0 : (0 ≤ D k / 16) = True := eq_true (by omega)
        have q0 : (D k / 16 < 16) = True := eq_true (by omega)
        have p1 : (0 ≤ D k % 16) = True := eq_true (by omega)
        have q1 : (D k % 16 < 16) = True := eq_true (by omega)
        have z0 := bt_at H16 (D k / 16)
        have z1 := bt_at H16 (D k % 16)
        unfold H16 at z0 z1
        clear ha0 ha1
        go_wp2
        refine start_ (n := 10) (S := fun w' => True) (ds := [7, 8]) #[false, false, false, false, false, false, false, false, false, false] (by kernel_rfl) rfl rfl trivial (fun hHeld => ?_)
        generalize hdr : wr.drew = w2 at hHeld ⊢
        have HO2 := Lib.hid (show w2.ownsRow w.heap.size 5 1 V d.length (nums .u8 d) from hdr ▸ HO.out)
        have HB2 := Lib.hid (show Below w.heap.size w w2 from hdr ▸ below_drew1 HB.out)
        have hsz2 := HB2.out.size
        refine pure_ (i := 0) (N := some 14) (v := ?_) (a' := ?_) #[true, false, false, false, false, false, false, false, false, false] rfl rfl (by kernel_rfl) (fun _ _ _ h => h) (Or.inl ⟨by rfl, ?_⟩) ?_ ?_
        rotate_left
        · intro w'
          go_simp
          with_reducible rfl
        rotate_left
        · simp only [Act.put, List.setIfInBounds_toArray, List.set_cons_zero, List.set_cons_succ, i64_w, i32_w]
          rfl
        refine pure_ (i := 1) (N := some 15) (v := ?_) (a' := ?_) #[true, true, false, false, false, false, false, false, false, false] rfl rfl (by kernel_rfl) (fun _ _ _ h => h) (Or.inl ⟨by rfl, ?_⟩) ?_ ?_
        rotate_left
        · intro w'
          go_simp
          with_reducible rfl
        rotate_left
        · simp only [Act.put, List.setIfInBounds_toArray, List.set_cons_zero, List.set_cons_succ, i64_w, i32_w]
          rfl
        refine pure_ (i := 2) (N := some 16) (v := ?_) (a' := ?_) #[true, true, true, false, false, false, false, false, false, false] rfl rfl (by kernel_rfl) (fun _ _ _ h => h) (Or.inl ⟨by rfl, ?_⟩) ?_ ?_
        rotate_left
        · intro w'
          go_simp
          with_reducible rfl
        rotate_left
        · simp only [Act.put, List.setIfInBounds_toArray, List.set_cons_zero, List.set_cons_succ, i64_w, i32_w]
          rfl
        refine pure_ (i := 4) (N := some 18) (v := ?_) (a' := ?_) #[true, true, true, false, true, false, false, false, false, false] rfl rfl (by kernel_rfl) (fun _ _ _ h => h) (Or.inl ⟨by rfl, ?_⟩) ?_ ?_
        rotate_left
        · intro w'
          go_simp
          with_reducible rfl
        rotate_left
        · simp only [Act.put, List.setIfInBounds_toArray, List.set_cons_zero, List.set_cons_succ, i64_w, i32_w]
          rfl
        refine pure_ (i := 5) (N := some 19) (v := ?_) (a' := ?_) #[true, true, true, false, true, true, false, false, false, false] rfl rfl (by kernel_rfl) (fun _ _ _ h => h) (Or.inl ⟨by rfl, ?_⟩) ?_ ?_
        rotate_left
        · intro w'
          go_simp
          with_reducible rfl
        rotate_left
        · simp only [Act.put, List.setIfInBounds_toArray, List.set_cons_zero, List.set_cons_succ, i64_w, i32_w]
          rfl
        refine take_ (i := 3) (N := some 17) (v := ?_) (a' := ?_) #[true, true, true, true, true, true, false, false, false, false] rfl rfl (by kernel_rfl) (fun _ _ _ h => h) (Or.inl ⟨by rfl, ?_⟩) hHeld ?_ ?_
        rotate_left
        · intro w' _
          go_simp
          with_reducible rfl
        rotate_left
        · simp only [Act.put, List.setIfInBounds_toArray, List.set_cons_zero, List.set_cons_succ, i64_w, i32_w]
          rfl
        refine take_ (i := 6) (N := some 20) (v := ?_) (a' := ?_) #[true, true, true, true, true, true, true, false, false, false] rfl rfl (by kernel_rfl) (fun _ _ _ h => h) (Or.inl ⟨by rfl, ?_⟩) hHeld ?_ ?_
        rotate_left
        · intro w' _
          go_simp
          with_reducible rfl
        rotate_left
        · simp only [Act.put, List.setIfInBounds_toArray, List.set_cons_zero, List.set_cons_succ, i64_w, i32_w]
          rfl
        refine last_ (i := 7) (N := some 21) #[true, true, true, true, true, true, true, true, false, false] rfl rfl (by kernel_rfl) (by decide) (fun K hK => ?_)
        refine value_ (w1 := ?_) (v := ?_) (by rfl) rfl ?_ ?_
        rotate_left 2
        · go_simp
          constructor
          · rfl
          · rfl
        refine hK.out _ _ ?_
        clear hK K
        refine norm_ (a' := ?_) ?_ ?_
        rotate_left
        · show Act.put _ (some 21) _ = _
          simp only [Act.put, List.setIfInBounds_toArray, List.set_cons_zero, List.set_cons_succ, i64_w, i32_w]
          rfl
        refine last_ (i := 8) (N := some 22) #[true, true, true, true, true, true, true, true, true, false] rfl rfl (by kernel_rfl) (by decide) (fun K hK => ?_)
        refine step_append_lies _ (by rfl) (.tmp 14) (.tmp 21) 73 (by rfl) w.heap.size 5 i0 _ 1 1 Try.underlying73 hi hz0 hz1 hz2 rfl (by decide) _ d.length (nums .u8 d) (by rfl) (HO2.out.alloc _) ⟨w2.heap.size, 0, none⟩ 2 2 (nums .u8 (hex2 (D k))) (by rfl) rfl (news_lit _ _ _) (nums_one _) (by decide) (by unfold maxLen; omega) (by omega) (by simp; omega) _ rfl ?_
        intro g cap w4 hown4 hgrow4 hat4 hlt4
        refine hK.out _ _ ?_
        clear hK K
        refine norm_ (a' := ?_) ?_ ?_
        rotate_left
        · show Act.put _ (some 22) _ = _
          simp only [Act.put, List.setIfInBounds_toArray, List.set_cons_zero, List.set_cons_succ, i64_w, i32_w]
          rfl
        refine pure_ (i := 9) (N := some 3) (v := ?_) (a' := ?_) #[true, true, true, true, true, true, true, true, true, true] rfl rfl (by kernel_rfl) (fun _ _ _ h => h) (Or.inl ⟨by rfl, ?_⟩) ?_ ?_
        rotate_left
        · intro w'
          go_simp
          with_reducible rfl
        rotate_left
        · simp only [Act.put, List.setIfInBounds_toArray, List.set_cons_zero, List.set_cons_succ, i64_w, i32_w]
          rfl
        refine done_ (by kernel_rfl) ?_
        have hB4 : Below w.heap.size w w4 := (HB2.out.alloc hsz2 _).grown hgrow4 (by have := hgrow4.size; simp at this; have := hsz2; simp; omega) (fun k hk => own_base HO2.out k hk)
        rw [← nums_append] at hown4
        have HO4 := Lib.hid hown4
        have HB4 := Lib.hid hB4
        clear hown4 hgrow4 hat4 hlt4 hB4 z0 z1 p0 q0 p1 q1 e2 hHeld HO2 HB2 hix
        go_wp2
        go_roundw
        case rel => exact ⟨k + 1, d ++ hex2 (D k), _, by omega, by go_num, rfl, by rw [hexV_more (rowL D) k (D k) (rowL_at D k hlt), HD.out], by rw [List.length_append]; exact HO4.out, HB4.out⟩
        case measure => simp [intOf]; omega
      · obtain rfl : k = 16 := by omega
        obtain ⟨A9, c9, rfl, _, hC9⟩ := own_C rfl HO.out
        have q9 := str_of wr (c := c9) hC9
        have hfin : hexV (rowL D) = d := by rw [← HD.out, List.take_of_length_le (by rw [rowL_len]; omega)]
        have HF := Lib.hid hfin
        clear hC9 hfin
        go_wp2
        go_ret
        exact ⟨by unfold tellV; rw [HF.out]; rfl, HB.out⟩
end Go.Proofs.Yticjpjgfccbhlaa.Hash
