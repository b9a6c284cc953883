/- sasl: the exchange's read, at the lines that wakes hands in. -/
import Derived.Test.YticjpjgfccbhlaaPlain
namespace Go.Proofs.Yticjpjgfccbhlaa.Parts
open Go.RowKit Go.Proofs.YticjpjgfccbhlaaW.PrintWords Go.Proofs.YticjpjgfccbhlaaW.PrintLast Go.Proofs.YticjpjgfccbhlaaW.PrintMore Go.Proofs.Yticjpjgfccbhlaa.PSaslBoth Go.Proofs.Yticjpjgfccbhlaa.Code
attribute [local go_sem] max2_int min2_int max_two min_two max_three min_three max_four min_four
set_option linter.unusedVariables false
set_option linter.unusedSimpArgs false
theorem meth_take (W : World) : (method 283 85 (.agg #[]) "posthorn/sasl.take").run Try.prog W = .ok (117, .agg #[]) W := by kernel_rfl
theorem meth_asks (W : World) : (method 283 86 (.agg #[]) "posthorn/sasl.asks").run Try.prog W = .ok (131, .agg #[]) W := by kernel_rfl
theorem read_yes_un : unV (⟨#[65, 71, 70, 117, 98, 103, 66, 122, 77, 119, 61, 61]⟩ : ByteArray).data.toList = ([0, 97, 110, 110, 0, 115, 51], 0, 0) := by kernel_rfl
theorem read_yes_str : strOfNums [0, 97, 110, 110, 0, 115, 51] = ⟨#[0, 97, 110, 110, 0, 115, 51]⟩ := by kernel_rfl
set_option maxHeartbeats 4000000 in
set_option maxRecDepth 100000 in
theorem read_yes (X g c : Nat) (m : Int) (w : World) (hm : w.cell? ⟨0, 0, none⟩ = some (.int .i64 m)) (hX : w.heap[X]? = some (.cells #[.slice (some ⟨g, 0, none⟩) 1 c, .int .i64 1, .iface 85 (.agg #[]), .string ⟨#[]⟩] 50 (0, 0))) (h0 : w.cell? ⟨g, 0, none⟩ = some (.string ⟨#[97, 110, 110]⟩)) (h1 : w.cell? ⟨g, 1, none⟩ = some (.string ⟨#[115, 51]⟩)) (hc : 1 ≤ c) :
    Calls Try.prog 26 #[.pointer (some ⟨X, 0, none⟩), .string ⟨#[65, 71, 70, 117, 98, 103, 66, 122, 77, 119, 61, 61]⟩] w fun e w' => e = .returned (.int .i64 0) ∧ ∃ wz, Below w.heap.size w wz ∧ w' = (wz.setCell ⟨X, 1, none⟩ (.int .i64 2)).setCell ⟨X, 3, none⟩ (.string ⟨#[97, 110, 110]⟩) := by
  have hu50 := Try.underlying50
  have hu88 := Try.underlying88
  have hg := World.block_lt_of_cell? w _ h0
  have h0lt := World.block_lt_of_cell? w _ hm
  have hXl : X < w.heap.size := (Array.getElem?_eq_some_iff.1 hX).1
  have HUN := Lib.hid (unbase64_calls ⟨#[65, 71, 70, 117, 98, 103, 66, 122, 77, 119, 61, 61]⟩ w (by decide))
  rw [read_yes_un] at HUN
  have HM := Lib.hid hm
  have HX := Lib.hid hX
  have H0 := Lib.hid h0
  have H1 := Lib.hid h1
  clear hm hX h0 h1
  go_enter Try.func26, Try.ntmps26
  go_wp2_with fail
  refine HUN.out.mono ?_
  rintro e w1 ⟨V, d, er, at_, hv, rfl, hO, hb1⟩
  cases hv
  obtain ⟨A1, c1, rfl, _, hC1⟩ := own_C rfl hO
  have hBW1 : Below w.heap.size w (w1.alloc (.cells #[.int .i64 0, .int .i64 0] 88)) := hb1.alloc hb1.size _
  have hXn := (hBW1.block _ hXl).trans HX.out
  have z0 := blk_cell hXn 0
  have z1 := blk_cell hXn 1
  have z2 := blk_cell hXn 2
  have z3 := blk_cell hXn 3
  have zf0 := blk_frozen hXn 0
  have zf1 := blk_frozen hXn 1
  have zf2 := blk_frozen hXn 2
  have zf3 := blk_frozen hXn 3
  simp only [List.getElem?_toArray, List.getElem?_cons_succ, List.getElem?_cons_zero] at z0 z1 z2 z3
  have zc0 := str_of (w1.alloc (.cells #[.int .i64 0, .int .i64 0] 88)) (c := c1) (Kd.C_alloc hC1 _)
  rw [read_yes_str] at zc0
  have zc : (convert 73 9 (.slice A1 7 c1)).run Try.prog (w1.alloc (.cells #[.int .i64 0, .int .i64 0] 88)).drew = .ok (.string ⟨#[0, 97, 110, 110, 0, 115, 51]⟩) (w1.alloc (.cells #[.int .i64 0, .int .i64 0] 88)).drew := by
    have h := str_of (w1.alloc (.cells #[.int .i64 0, .int .i64 0] 88)).drew (c := c1) (Kd.C_below (Kd.C_alloc hC1 _) (below_drew (Below.refl _ _)))
    rw [read_yes_str] at h
    exact h
  clear zc0 hO hb1 hXn hC1
  go_wp2
  refine start_ (n := 22) (S := fun w' => w'.cell? ⟨X, 2, none⟩ = some (.iface 85 (.agg #[])) ∧ w'.cell? ⟨X, 0, none⟩ = some (.slice (some ⟨g, 0, none⟩) 1 c) ∧ (convert 73 9 (.slice A1 7 c1)).run Try.prog w' = .ok (.string ⟨#[0, 97, 110, 110, 0, 115, 51]⟩) w') (ds := [12]) #[false, false, false, false, false, false, false, false, false, false, false, false, false, false, false, false, false, false, false, false, false, false] (by kernel_rfl) rfl rfl ⟨z2, z0, zc⟩ (fun hHeld => ?_)
  generalize hdr : (w1.alloc (.cells #[.int .i64 0, .int .i64 0] 88)).drew = w2 at hHeld ⊢
  have hB2 : Below w.heap.size w w2 := hdr ▸ below_drew1 hBW1
  have HU0 := Lib.hid ((hB2.cell hg).trans H0.out)
  have HU1 := Lib.hid ((hB2.cell hg).trans H1.out)
  have HM2 := Lib.hid ((hB2.cell h0lt).trans HM.out)
  have HB2 := Lib.hid hB2
  clear hB2 hdr z0 z1 z2 z3 zc zf0 zf1 zf2 zf3 hBW1
  refine pure_ (i := 0) (N := some 20) (v := ?_) (a' := ?_) #[true, false, false, false, false, false, false, false, false, false, false, false, false, false, false, false, false, false, false, false, false, false] rfl rfl (by kernel_rfl) (fun _ _ _ h => h) (Or.inl ⟨by rfl, ?_⟩) ?_ ?_
  rotate_left
  · intro w'
    go_simp
    with_reducible rfl
  rotate_left
  · simp only [Act.put, List.setIfInBounds_toArray, List.set_cons_zero, List.set_cons_succ, i64_w, i32_w]
    rfl
  refine pure_ (i := 1) (N := some 21) (v := ?_) (a' := ?_) #[true, true, false, false, false, false, false, false, false, false, false, false, false, false, false, false, false, false, false, false, false, false] rfl rfl (by kernel_rfl) (fun _ _ _ h => h) (Or.inl ⟨by rfl, ?_⟩) ?_ ?_
  rotate_left
  · intro w'
    go_simp
    with_reducible rfl
  rotate_left
  · simp only [Act.put, List.setIfInBounds_toArray, List.set_cons_zero, List.set_cons_succ, i64_w, i32_w]
    rfl
  refine pure_ (i := 2) (N := some 22) (v := ?_) (a' := ?_) #[true, true, true, false, false, false, false, false, false, false, false, false, false, false, false, false, false, false, false, false, false, false] rfl rfl (by kernel_rfl) (fun _ _ _ h => h) (Or.inl ⟨by rfl, ?_⟩) ?_ ?_
  rotate_left
  · intro w'
    go_simp
    with_reducible rfl
  rotate_left
  · simp only [Act.put, List.setIfInBounds_toArray, List.set_cons_zero, List.set_cons_succ, i64_w, i32_w]
    rfl
  refine pure_ (i := 4) (N := some 24) (v := ?_) (a' := ?_) #[true, true, true, false, true, false, false, false, false, false, false, false, false, false, false, false, false, false, false, false, false, false] rfl rfl (by kernel_rfl) (fun _ _ _ h => h) (Or.inl ⟨by rfl, ?_⟩) ?_ ?_
  rotate_left
  · intro w'
    go_simp
    with_reducible rfl
  rotate_left
  · simp only [Act.put, List.setIfInBounds_toArray, List.set_cons_zero, List.set_cons_succ, i64_w, i32_w]
    rfl
  refine pure_ (i := 5) (N := some 25) (v := ?_) (a' := ?_) #[true, true, true, false, true, true, false, false, false, false, false, false, false, false, false, false, false, false, false, false, false, false] rfl rfl (by kernel_rfl) (fun _ _ _ h => h) (Or.inl ⟨by rfl, ?_⟩) ?_ ?_
  rotate_left
  · intro w'
    go_simp
    with_reducible rfl
  rotate_left
  · simp only [Act.put, List.setIfInBounds_toArray, List.set_cons_zero, List.set_cons_succ, i64_w, i32_w]
    rfl
  refine pure_ (i := 6) (N := some 26) (v := ?_) (a' := ?_) #[true, true, true, false, true, true, true, false, false, false, false, false, false, false, false, false, false, false, false, false, false, false] rfl rfl (by kernel_rfl) (fun _ _ _ h => h) (Or.inl ⟨by rfl, ?_⟩) ?_ ?_
  rotate_left
  · intro w'
    go_simp
    with_reducible rfl
  rotate_left
  · simp only [Act.put, List.setIfInBounds_toArray, List.set_cons_zero, List.set_cons_succ, i64_w, i32_w]
    rfl
  refine pure_ (i := 8) (N := some 28) (v := ?_) (a' := ?_) #[true, true, true, false, true, true, true, false, true, false, false, false, false, false, false, false, false, false, false, false, false, false] rfl rfl (by kernel_rfl) (fun _ _ _ h => h) (Or.inl ⟨by rfl, ?_⟩) ?_ ?_
  rotate_left
  · intro w'
    go_simp
    with_reducible rfl
  rotate_left
  · simp only [Act.put, List.setIfInBounds_toArray, List.set_cons_zero, List.set_cons_succ, i64_w, i32_w]
    rfl
  refine take_ (i := 3) (N := some 23) (v := ?_) (a' := ?_) #[true, true, true, true, true, true, true, false, true, false, false, false, false, false, false, false, false, false, false, false, false, false] rfl rfl (by kernel_rfl) (fun _ _ _ h => h) (Or.inl ⟨by rfl, ?_⟩) hHeld ?_ ?_
  rotate_left
  · rintro w' ⟨s0, s1, s2⟩
    go_simp
    with_reducible rfl
  rotate_left
  · simp only [Act.put, List.setIfInBounds_toArray, List.set_cons_zero, List.set_cons_succ, i64_w, i32_w]
    rfl
  refine pure_ (i := 10) (N := some 30) (v := ?_) (a' := ?_) #[true, true, true, true, true, true, true, false, true, false, true, false, false, false, false, false, false, false, false, false, false, false] rfl rfl (by kernel_rfl) (fun _ _ _ h => h) (Or.inl ⟨by rfl, ?_⟩) ?_ ?_
  rotate_left
  · intro w'
    go_simp
    with_reducible rfl
  rotate_left
  · simp only [Act.put, List.setIfInBounds_toArray, List.set_cons_zero, List.set_cons_succ, i64_w, i32_w]
    rfl
  refine pure_ (i := 11) (N := some 31) (v := ?_) (a' := ?_) #[true, true, true, true, true, true, true, false, true, false, true, true, false, false, false, false, false, false, false, false, false, false] rfl rfl (by kernel_rfl) (fun _ _ _ h => h) (Or.inl ⟨by rfl, ?_⟩) ?_ ?_
  rotate_left
  · intro w'
    go_simp
    with_reducible rfl
  rotate_left
  · simp only [Act.put, List.setIfInBounds_toArray, List.set_cons_zero, List.set_cons_succ, i64_w, i32_w]
    rfl
  refine take_ (i := 7) (N := some 27) (v := ?_) (a' := ?_) #[true, true, true, true, true, true, true, true, true, false, true, true, false, false, false, false, false, false, false, false, false, false] rfl rfl (by kernel_rfl) (fun _ _ _ h => h) (Or.inl ⟨by rfl, ?_⟩) hHeld ?_ ?_
  rotate_left
  · rintro w' ⟨s0, s1, s2⟩
    go_simp
    with_reducible rfl
  rotate_left
  · simp only [Act.put, List.setIfInBounds_toArray, List.set_cons_zero, List.set_cons_succ, i64_w, i32_w]
    rfl
  refine take_ (i := 9) (N := some 29) (v := ?_) (a' := ?_) #[true, true, true, true, true, true, true, true, true, true, true, true, false, false, false, false, false, false, false, false, false, false] rfl rfl (by kernel_rfl) (fun _ _ _ h => h) (Or.inl ⟨by rfl, ?_⟩) hHeld ?_ ?_
  rotate_left
  · rintro w' ⟨s0, s1, s2⟩
    go_simp
    with_reducible rfl
  rotate_left
  · simp only [Act.put, List.setIfInBounds_toArray, List.set_cons_zero, List.set_cons_succ, i64_w, i32_w]
    rfl
  refine last_ (i := 12) (N := some 32) #[true, true, true, true, true, true, true, true, true, true, true, true, true, false, false, false, false, false, false, false, false, false] rfl rfl (by kernel_rfl) (by decide) (fun K hK => ?_)
  refine call_ 117 #[.agg #[], .slice (some ⟨g, 0, none⟩) 1 c, .string ⟨#[0, 97, 110, 110, 0, 115, 51]⟩] (by rfl) rfl ?hrun ?_
  case hrun => go_simp; rw [meth_take]; rfl
  with_reducible refine (take_yes g c m w2 HM2.out HU0.out HU1.out hc).mono ?_
  rintro e w3 ⟨rfl, hb3⟩
  refine ⟨_, rfl, ?_⟩
  have HB3 := Lib.hid (HB2.out.trans (hb3.mono HB2.out.size))
  refine hK.out _ _ ?_
  clear hK K
  refine norm_ (a' := ?_) ?_ ?_
  rotate_left
  · show Act.put _ (some 32) _ = _
    simp only [Act.put, List.setIfInBounds_toArray, List.set_cons_zero, List.set_cons_succ, i64_w, i32_w]
    rfl
  refine pure_ (i := 13) (N := some 19) (v := ?_) (a' := ?_) #[true, true, true, true, true, true, true, true, true, true, true, true, true, true, false, false, false, false, false, false, false, false] rfl rfl (by kernel_rfl) (fun _ _ _ h => h) (Or.inl ⟨by rfl, ?_⟩) ?_ ?_
  rotate_left
  · intro w'
    go_simp
    with_reducible rfl
  rotate_left
  · simp only [Act.put, List.setIfInBounds_toArray, List.set_cons_zero, List.set_cons_succ, i64_w, i32_w]
    rfl
  refine pure_ (i := 14) (N := some 33) (v := ?_) (a' := ?_) #[true, true, true, true, true, true, true, true, true, true, true, true, true, true, true, false, false, false, false, false, false, false] rfl rfl (by kernel_rfl) (fun _ _ _ h => h) (Or.inl ⟨by rfl, ?_⟩) ?_ ?_
  rotate_left
  · intro w'
    go_simp
    with_reducible rfl
  rotate_left
  · simp only [Act.put, List.setIfInBounds_toArray, List.set_cons_zero, List.set_cons_succ, i64_w, i32_w]
    rfl
  refine pure_ (i := 15) (N := some 34) (v := ?_) (a' := ?_) #[true, true, true, true, true, true, true, true, true, true, true, true, true, true, true, true, false, false, false, false, false, false] rfl rfl (by kernel_rfl) (fun _ _ _ h => h) (Or.inl ⟨by rfl, ?_⟩) ?_ ?_
  rotate_left
  · intro w'
    go_simp
    with_reducible rfl
  rotate_left
  · simp only [Act.put, List.setIfInBounds_toArray, List.set_cons_zero, List.set_cons_succ, i64_w, i32_w]
    rfl
  refine pure_ (i := 16) (N := some 35) (v := ?_) (a' := ?_) #[true, true, true, true, true, true, true, true, true, true, true, true, true, true, true, true, true, false, false, false, false, false] rfl rfl (by kernel_rfl) (fun _ _ _ h => h) (Or.inl ⟨by rfl, ?_⟩) ?_ ?_
  rotate_left
  · intro w'
    go_simp
    with_reducible rfl
  rotate_left
  · simp only [Act.put, List.setIfInBounds_toArray, List.set_cons_zero, List.set_cons_succ, i64_w, i32_w]
    rfl
  refine pure_ (i := 17) (N := some 36) (v := ?_) (a' := ?_) #[true, true, true, true, true, true, true, true, true, true, true, true, true, true, true, true, true, true, false, false, false, false] rfl rfl (by kernel_rfl) (fun _ _ _ h => h) (Or.inl ⟨by rfl, ?_⟩) ?_ ?_
  rotate_left
  · intro w'
    go_simp
    with_reducible rfl
  rotate_left
  · simp only [Act.put, List.setIfInBounds_toArray, List.set_cons_zero, List.set_cons_succ, i64_w, i32_w]
    rfl
  refine pure_ (i := 18) (N := some 7) (v := ?_) (a' := ?_) #[true, true, true, true, true, true, true, true, true, true, true, true, true, true, true, true, true, true, true, false, false, false] rfl rfl (by kernel_rfl) (fun _ _ _ h => h) (Or.inl ⟨by rfl, ?_⟩) ?_ ?_
  rotate_left
  · intro w'
    go_simp
    with_reducible rfl
  rotate_left
  · simp only [Act.put, List.setIfInBounds_toArray, List.set_cons_zero, List.set_cons_succ, i64_w, i32_w]
    rfl
  refine pure_ (i := 19) (N := some 8) (v := ?_) (a' := ?_) #[true, true, true, true, true, true, true, true, true, true, true, true, true, true, true, true, true, true, true, true, false, false] rfl rfl (by kernel_rfl) (fun _ _ _ h => h) (Or.inl ⟨by rfl, ?_⟩) ?_ ?_
  rotate_left
  · intro w'
    go_simp
    with_reducible rfl
  rotate_left
  · simp only [Act.put, List.setIfInBounds_toArray, List.set_cons_zero, List.set_cons_succ, i64_w, i32_w]
    rfl
  refine pure_ (i := 20) (N := some 9) (v := ?_) (a' := ?_) #[true, true, true, true, true, true, true, true, true, true, true, true, true, true, true, true, true, true, true, true, true, false] rfl rfl (by kernel_rfl) (fun _ _ _ h => h) (Or.inl ⟨by rfl, ?_⟩) ?_ ?_
  rotate_left
  · intro w'
    go_simp
    with_reducible rfl
  rotate_left
  · simp only [Act.put, List.setIfInBounds_toArray, List.set_cons_zero, List.set_cons_succ, i64_w, i32_w]
    rfl
  refine pure_ (i := 21) (N := some 10) (v := ?_) (a' := ?_) #[true, true, true, true, true, true, true, true, true, true, true, true, true, true, true, true, true, true, true, true, true, true] rfl rfl (by kernel_rfl) (fun _ _ _ h => h) (Or.inl ⟨by rfl, ?_⟩) ?_ ?_
  rotate_left
  · intro w'
    go_simp
    with_reducible rfl
  rotate_left
  · simp only [Act.put, List.setIfInBounds_toArray, List.set_cons_zero, List.set_cons_succ, i64_w, i32_w]
    rfl
  refine done_ (by kernel_rfl) ?_

  have hXz := (HB3.out.block _ hXl).trans HX.out
  have y1 := blk_cell hXz 1
  have y3 := blk_cell hXz 3
  have yf1 := blk_frozen hXz 1
  have yf3 := blk_frozen hXz 3
  clear hXz
  go_wp2
  go_ret
  exact ⟨rfl, w3, HB3.out, rfl⟩
theorem read_no_un : unV (⟨#[65, 71, 70, 117, 98, 103, 66, 122, 78, 65, 61, 61]⟩ : ByteArray).data.toList = ([0, 97, 110, 110, 0, 115, 52], 0, 0) := by kernel_rfl
theorem read_no_str : strOfNums [0, 97, 110, 110, 0, 115, 52] = ⟨#[0, 97, 110, 110, 0, 115, 52]⟩ := by kernel_rfl
set_option maxHeartbeats 4000000 in
set_option maxRecDepth 100000 in
theorem read_no (X g c : Nat) (m : Int) (w : World) (hm : w.cell? ⟨0, 0, none⟩ = some (.int .i64 m)) (hX : w.heap[X]? = some (.cells #[.slice (some ⟨g, 0, none⟩) 1 c, .int .i64 1, .iface 85 (.agg #[]), .string ⟨#[]⟩] 50 (0, 0))) (h0 : w.cell? ⟨g, 0, none⟩ = some (.string ⟨#[97, 110, 110]⟩)) (h1 : w.cell? ⟨g, 1, none⟩ = some (.string ⟨#[115, 51]⟩)) (hc : 1 ≤ c) :
    Calls Try.prog 26 #[.pointer (some ⟨X, 0, none⟩), .string ⟨#[65, 71, 70, 117, 98, 103, 66, 122, 78, 65, 61, 61]⟩] w fun e w' => e = .returned (.int .i64 0) ∧ ∃ wz, Below w.heap.size w wz ∧ w' = wz.setCell ⟨X, 1, none⟩ (.int .i64 3) := by
  have hu50 := Try.underlying50
  have hu88 := Try.underlying88
  have hg := World.block_lt_of_cell? w _ h0
  have h0lt := World.block_lt_of_cell? w _ hm
  have hXl : X < w.heap.size := (Array.getElem?_eq_some_iff.1 hX).1
  have HUN := Lib.hid (unbase64_calls ⟨#[65, 71, 70, 117, 98, 103, 66, 122, 78, 65, 61, 61]⟩ w (by decide))
  rw [read_no_un] at HUN
  have HM := Lib.hid hm
  have HX := Lib.hid hX
  have H0 := Lib.hid h0
  have H1 := Lib.hid h1
  clear hm hX h0 h1
  go_enter Try.func26, Try.ntmps26
  go_wp2_with fail
  refine HUN.out.mono ?_
  rintro e w1 ⟨V, d, er, at_, hv, rfl, hO, hb1⟩
  cases hv
  obtain ⟨A1, c1, rfl, _, hC1⟩ := own_C rfl hO
  have hBW1 : Below w.heap.size w (w1.alloc (.cells #[.int .i64 0, .int .i64 0] 88)) := hb1.alloc hb1.size _
  have hXn := (hBW1.block _ hXl).trans HX.out
  have z0 := blk_cell hXn 0
  have z1 := blk_cell hXn 1
  have z2 := blk_cell hXn 2
  have z3 := blk_cell hXn 3
  have zf0 := blk_frozen hXn 0
  have zf1 := blk_frozen hXn 1
  have zf2 := blk_frozen hXn 2
  have zf3 := blk_frozen hXn 3
  simp only [List.getElem?_toArray, List.getElem?_cons_succ, List.getElem?_cons_zero] at z0 z1 z2 z3
  have zc0 := str_of (w1.alloc (.cells #[.int .i64 0, .int .i64 0] 88)) (c := c1) (Kd.C_alloc hC1 _)
  rw [read_no_str] at zc0
  have zc : (convert 73 9 (.slice A1 7 c1)).run Try.prog (w1.alloc (.cells #[.int .i64 0, .int .i64 0] 88)).drew = .ok (.string ⟨#[0, 97, 110, 110, 0, 115, 52]⟩) (w1.alloc (.cells #[.int .i64 0, .int .i64 0] 88)).drew := by
    have h := str_of (w1.alloc (.cells #[.int .i64 0, .int .i64 0] 88)).drew (c := c1) (Kd.C_below (Kd.C_alloc hC1 _) (below_drew (Below.refl _ _)))
    rw [read_no_str] at h
    exact h
  clear zc0 hO hb1 hXn hC1
  go_wp2
  refine start_ (n := 22) (S := fun w' => w'.cell? ⟨X, 2, none⟩ = some (.iface 85 (.agg #[])) ∧ w'.cell? ⟨X, 0, none⟩ = some (.slice (some ⟨g, 0, none⟩) 1 c) ∧ (convert 73 9 (.slice A1 7 c1)).run Try.prog w' = .ok (.string ⟨#[0, 97, 110, 110, 0, 115, 52]⟩) w') (ds := [12]) #[false, false, false, false, false, false, false, false, false, false, false, false, false, false, false, false, false, false, false, false, false, false] (by kernel_rfl) rfl rfl ⟨z2, z0, zc⟩ (fun hHeld => ?_)
  generalize hdr : (w1.alloc (.cells #[.int .i64 0, .int .i64 0] 88)).drew = w2 at hHeld ⊢
  have hB2 : Below w.heap.size w w2 := hdr ▸ below_drew1 hBW1
  have HU0 := Lib.hid ((hB2.cell hg).trans H0.out)
  have HU1 := Lib.hid ((hB2.cell hg).trans H1.out)
  have HM2 := Lib.hid ((hB2.cell h0lt).trans HM.out)
  have HB2 := Lib.hid hB2
  clear hB2 hdr z0 z1 z2 z3 zc zf0 zf1 zf2 zf3 hBW1
  refine pure_ (i := 0) (N := some 20) (v := ?_) (a' := ?_) #[true, false, false, false, false, false, false, false, false, false, false, false, false, false, false, false, false, false, false, false, false, false] rfl rfl (by kernel_rfl) (fun _ _ _ h => h) (Or.inl ⟨by rfl, ?_⟩) ?_ ?_
  rotate_left
  · intro w'
    go_simp
    with_reducible rfl
  rotate_left
  · simp only [Act.put, List.setIfInBounds_toArray, List.set_cons_zero, List.set_cons_succ, i64_w, i32_w]
    rfl
  refine pure_ (i := 1) (N := some 21) (v := ?_) (a' := ?_) #[true, true, false, false, false, false, false, false, false, false, false, false, false, false, false, false, false, false, false, false, false, false] rfl rfl (by kernel_rfl) (fun _ _ _ h => h) (Or.inl ⟨by rfl, ?_⟩) ?_ ?_
  rotate_left
  · intro w'
    go_simp
    with_reducible rfl
  rotate_left
  · simp only [Act.put, List.setIfInBounds_toArray, List.set_cons_zero, List.set_cons_succ, i64_w, i32_w]
    rfl
  refine pure_ (i := 2) (N := some 22) (v := ?_) (a' := ?_) #[true, true, true, false, false, false, false, false, false, false, false, false, false, false, false, false, false, false, false, false, false, false] rfl rfl (by kernel_rfl) (fun _ _ _ h => h) (Or.inl ⟨by rfl, ?_⟩) ?_ ?_
  rotate_left
  · intro w'
    go_simp
    with_reducible rfl
  rotate_left
  · simp only [Act.put, List.setIfInBounds_toArray, List.set_cons_zero, List.set_cons_succ, i64_w, i32_w]
    rfl
  refine pure_ (i := 4) (N := some 24) (v := ?_) (a' := ?_) #[true, true, true, false, true, false, false, false, false, false, false, false, false, false, false, false, false, false, false, false, false, false] rfl rfl (by kernel_rfl) (fun _ _ _ h => h) (Or.inl ⟨by rfl, ?_⟩) ?_ ?_
  rotate_left
  · intro w'
    go_simp
    with_reducible rfl
  rotate_left
  · simp only [Act.put, List.setIfInBounds_toArray, List.set_cons_zero, List.set_cons_succ, i64_w, i32_w]
    rfl
  refine pure_ (i := 5) (N := some 25) (v := ?_) (a' := ?_) #[true, true, true, false, true, true, false, false, false, false, false, false, false, false, false, false, false, false, false, false, false, false] rfl rfl (by kernel_rfl) (fun _ _ _ h => h) (Or.inl ⟨by rfl, ?_⟩) ?_ ?_
  rotate_left
  · intro w'
    go_simp
    with_reducible rfl
  rotate_left
  · simp only [Act.put, List.setIfInBounds_toArray, List.set_cons_zero, List.set_cons_succ, i64_w, i32_w]
    rfl
  refine pure_ (i := 6) (N := some 26) (v := ?_) (a' := ?_) #[true, true, true, false, true, true, true, false, false, false, false, false, false, false, false, false, false, false, false, false, false, false] rfl rfl (by kernel_rfl) (fun _ _ _ h => h) (Or.inl ⟨by rfl, ?_⟩) ?_ ?_
  rotate_left
  · intro w'
    go_simp
    with_reducible rfl
  rotate_left
  · simp only [Act.put, List.setIfInBounds_toArray, List.set_cons_zero, List.set_cons_succ, i64_w, i32_w]
    rfl
  refine pure_ (i := 8) (N := some 28) (v := ?_) (a' := ?_) #[true, true, true, false, true, true, true, false, true, false, false, false, false, false, false, false, false, false, false, false, false, false] rfl rfl (by kernel_rfl) (fun _ _ _ h => h) (Or.inl ⟨by rfl, ?_⟩) ?_ ?_
  rotate_left
  · intro w'
    go_simp
    with_reducible rfl
  rotate_left
  · simp only [Act.put, List.setIfInBounds_toArray, List.set_cons_zero, List.set_cons_succ, i64_w, i32_w]
    rfl
  refine take_ (i := 3) (N := some 23) (v := ?_) (a' := ?_) #[true, true, true, true, true, true, true, false, true, false, false, false, false, false, false, false, false, false, false, false, false, false] rfl rfl (by kernel_rfl) (fun _ _ _ h => h) (Or.inl ⟨by rfl, ?_⟩) hHeld ?_ ?_
  rotate_left
  · rintro w' ⟨s0, s1, s2⟩
    go_simp
    with_reducible rfl
  rotate_left
  · simp only [Act.put, List.setIfInBounds_toArray, List.set_cons_zero, List.set_cons_succ, i64_w, i32_w]
    rfl
  refine pure_ (i := 10) (N := some 30) (v := ?_) (a' := ?_) #[true, true, true, true, true, true, true, false, true, false, true, false, false, false, false, false, false, false, false, false, false, false] rfl rfl (by kernel_rfl) (fun _ _ _ h => h) (Or.inl ⟨by rfl, ?_⟩) ?_ ?_
  rotate_left
  · intro w'
    go_simp
    with_reducible rfl
  rotate_left
  · simp only [Act.put, List.setIfInBounds_toArray, List.set_cons_zero, List.set_cons_succ, i64_w, i32_w]
    rfl
  refine pure_ (i := 11) (N := some 31) (v := ?_) (a' := ?_) #[true, true, true, true, true, true, true, false, true, false, true, true, false, false, false, false, false, false, false, false, false, false] rfl rfl (by kernel_rfl) (fun _ _ _ h => h) (Or.inl ⟨by rfl, ?_⟩) ?_ ?_
  rotate_left
  · intro w'
    go_simp
    with_reducible rfl
  rotate_left
  · simp only [Act.put, List.setIfInBounds_toArray, List.set_cons_zero, List.set_cons_succ, i64_w, i32_w]
    rfl
  refine take_ (i := 7) (N := some 27) (v := ?_) (a' := ?_) #[true, true, true, true, true, true, true, true, true, false, true, true, false, false, false, false, false, false, false, false, false, false] rfl rfl (by kernel_rfl) (fun _ _ _ h => h) (Or.inl ⟨by rfl, ?_⟩) hHeld ?_ ?_
  rotate_left
  · rintro w' ⟨s0, s1, s2⟩
    go_simp
    with_reducible rfl
  rotate_left
  · simp only [Act.put, List.setIfInBounds_toArray, List.set_cons_zero, List.set_cons_succ, i64_w, i32_w]
    rfl
  refine take_ (i := 9) (N := some 29) (v := ?_) (a' := ?_) #[true, true, true, true, true, true, true, true, true, true, true, true, false, false, false, false, false, false, false, false, false, false] rfl rfl (by kernel_rfl) (fun _ _ _ h => h) (Or.inl ⟨by rfl, ?_⟩) hHeld ?_ ?_
  rotate_left
  · rintro w' ⟨s0, s1, s2⟩
    go_simp
    with_reducible rfl
  rotate_left
  · simp only [Act.put, List.setIfInBounds_toArray, List.set_cons_zero, List.set_cons_succ, i64_w, i32_w]
    rfl
  refine last_ (i := 12) (N := some 32) #[true, true, true, true, true, true, true, true, true, true, true, true, true, false, false, false, false, false, false, false, false, false] rfl rfl (by kernel_rfl) (by decide) (fun K hK => ?_)
  refine call_ 117 #[.agg #[], .slice (some ⟨g, 0, none⟩) 1 c, .string ⟨#[0, 97, 110, 110, 0, 115, 52]⟩] (by rfl) rfl ?hrun ?_
  case hrun => go_simp; rw [meth_take]; rfl
  with_reducible refine (take_no g c m w2 HM2.out HU0.out HU1.out hc).mono ?_
  rintro e w3 ⟨rfl, hb3⟩
  refine ⟨_, rfl, ?_⟩
  have HB3 := Lib.hid (HB2.out.trans (hb3.mono HB2.out.size))
  refine hK.out _ _ ?_
  clear hK K
  refine norm_ (a' := ?_) ?_ ?_
  rotate_left
  · show Act.put _ (some 32) _ = _
    simp only [Act.put, List.setIfInBounds_toArray, List.set_cons_zero, List.set_cons_succ, i64_w, i32_w]
    rfl
  refine pure_ (i := 13) (N := some 19) (v := ?_) (a' := ?_) #[true, true, true, true, true, true, true, true, true, true, true, true, true, true, false, false, false, false, false, false, false, false] rfl rfl (by kernel_rfl) (fun _ _ _ h => h) (Or.inl ⟨by rfl, ?_⟩) ?_ ?_
  rotate_left
  · intro w'
    go_simp
    with_reducible rfl
  rotate_left
  · simp only [Act.put, List.setIfInBounds_toArray, List.set_cons_zero, List.set_cons_succ, i64_w, i32_w]
    rfl
  refine pure_ (i := 14) (N := some 33) (v := ?_) (a' := ?_) #[true, true, true, true, true, true, true, true, true, true, true, true, true, true, true, false, false, false, false, false, false, false] rfl rfl (by kernel_rfl) (fun _ _ _ h => h) (Or.inl ⟨by rfl, ?_⟩) ?_ ?_
  rotate_left
  · intro w'
    go_simp
    with_reducible rfl
  rotate_left
  · simp only [Act.put, List.setIfInBounds_toArray, List.set_cons_zero, List.set_cons_succ, i64_w, i32_w]
    rfl
  refine pure_ (i := 15) (N := some 34) (v := ?_) (a' := ?_) #[true, true, true, true, true, true, true, true, true, true, true, true, true, true, true, true, false, false, false, false, false, false] rfl rfl (by kernel_rfl) (fun _ _ _ h => h) (Or.inl ⟨by rfl, ?_⟩) ?_ ?_
  rotate_left
  · intro w'
    go_simp
    with_reducible rfl
  rotate_left
  · simp only [Act.put, List.setIfInBounds_toArray, List.set_cons_zero, List.set_cons_succ, i64_w, i32_w]
    rfl
  refine pure_ (i := 16) (N := some 35) (v := ?_) (a' := ?_) #[true, true, true, true, true, true, true, true, true, true, true, true, true, true, true, true, true, false, false, false, false, false] rfl rfl (by kernel_rfl) (fun _ _ _ h => h) (Or.inl ⟨by rfl, ?_⟩) ?_ ?_
  rotate_left
  · intro w'
    go_simp
    with_reducible rfl
  rotate_left
  · simp only [Act.put, List.setIfInBounds_toArray, List.set_cons_zero, List.set_cons_succ, i64_w, i32_w]
    rfl
  refine pure_ (i := 17) (N := some 36) (v := ?_) (a' := ?_) #[true, true, true, true, true, true, true, true, true, true, true, true, true, true, true, true, true, true, false, false, false, false] rfl rfl (by kernel_rfl) (fun _ _ _ h => h) (Or.inl ⟨by rfl, ?_⟩) ?_ ?_
  rotate_left
  · intro w'
    go_simp
    with_reducible rfl
  rotate_left
  · simp only [Act.put, List.setIfInBounds_toArray, List.set_cons_zero, List.set_cons_succ, i64_w, i32_w]
    rfl
  refine pure_ (i := 18) (N := some 7) (v := ?_) (a' := ?_) #[true, true, true, true, true, true, true, true, true, true, true, true, true, true, true, true, true, true, true, false, false, false] rfl rfl (by kernel_rfl) (fun _ _ _ h => h) (Or.inl ⟨by rfl, ?_⟩) ?_ ?_
  rotate_left
  · intro w'
    go_simp
    with_reducible rfl
  rotate_left
  · simp only [Act.put, List.setIfInBounds_toArray, List.set_cons_zero, List.set_cons_succ, i64_w, i32_w]
    rfl
  refine pure_ (i := 19) (N := some 8) (v := ?_) (a' := ?_) #[true, true, true, true, true, true, true, true, true, true, true, true, true, true, true, true, true, true, true, true, false, false] rfl rfl (by kernel_rfl) (fun _ _ _ h => h) (Or.inl ⟨by rfl, ?_⟩) ?_ ?_
  rotate_left
  · intro w'
    go_simp
    with_reducible rfl
  rotate_left
  · simp only [Act.put, List.setIfInBounds_toArray, List.set_cons_zero, List.set_cons_succ, i64_w, i32_w]
    rfl
  refine pure_ (i := 20) (N := some 9) (v := ?_) (a' := ?_) #[true, true, true, true, true, true, true, true, true, true, true, true, true, true, true, true, true, true, true, true, true, false] rfl rfl (by kernel_rfl) (fun _ _ _ h => h) (Or.inl ⟨by rfl, ?_⟩) ?_ ?_
  rotate_left
  · intro w'
    go_simp
    with_reducible rfl
  rotate_left
  · simp only [Act.put, List.setIfInBounds_toArray, List.set_cons_zero, List.set_cons_succ, i64_w, i32_w]
    rfl
  refine pure_ (i := 21) (N := some 10) (v := ?_) (a' := ?_) #[true, true, true, true, true, true, true, true, true, true, true, true, true, true, true, true, true, true, true, true, true, true] rfl rfl (by kernel_rfl) (fun _ _ _ h => h) (Or.inl ⟨by rfl, ?_⟩) ?_ ?_
  rotate_left
  · intro w'
    go_simp
    with_reducible rfl
  rotate_left
  · simp only [Act.put, List.setIfInBounds_toArray, List.set_cons_zero, List.set_cons_succ, i64_w, i32_w]
    rfl
  refine done_ (by kernel_rfl) ?_

  have hXz := (HB3.out.block _ hXl).trans HX.out
  have y1 := blk_cell hXz 1
  have y3 := blk_cell hXz 3
  have yf1 := blk_frozen hXz 1
  have yf3 := blk_frozen hXz 3
  clear hXz
  go_wp2
  go_ret
  exact ⟨rfl, w3, HB3.out, rfl⟩
end Go.Proofs.Yticjpjgfccbhlaa.Parts
