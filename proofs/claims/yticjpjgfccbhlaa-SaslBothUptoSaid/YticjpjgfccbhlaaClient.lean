/- sasl: the client's Answer by contract, for each step. (The steps of the regions: printed by tools/sclient.py.) -/
import Derived.Test.YticjpjgfccbhlaaMay
namespace Go.Proofs.Yticjpjgfccbhlaa.Sasl
open Go.RowKit Go.Proofs.YticjpjgfccbhlaaW.PrintWords Go.Proofs.YticjpjgfccbhlaaW.PrintLast Go.Proofs.YticjpjgfccbhlaaW.PrintMore Go.Proofs.Yticjpjgfccbhlaa.PSaslBoth Go.Proofs.Yticjpjgfccbhlaa.Hash
open Go.Proofs.Yticjpjgfccbhlaa.Code (unV unbase64_calls own_C str_of)
attribute [local go_sem] max2_int min2_int max_two min_two max_three min_three max_four min_four
set_option linter.unusedVariables false
set_option linter.unusedSimpArgs false
theorem conv_b64_at (t : ByteArray) (ht : t.size ≤ 100000000) (w : World) (k c : Nat) (hk : k = w.heap.size) (hc : c = grownCap w t.size 0 5) : Calls Try.prog 32 #[.slice (some ⟨k, 0, none⟩) t.size c] (Lib.bytesWorld w 5 t) fun e w' => e = .returned (.string (b64S t)) ∧ Below w.heap.size w w' := by
  subst hk hc
  exact conv_b64 t w ht
theorem digest_size (T S : Nat → Int) (s m : ByteArray) : (digestV T S s m).size = 32 := by
  unfold digestV tellV
  rw [strOf_size, hexV_len, rowL_len]
set_option maxHeartbeats 8000000 in
set_option maxRecDepth 100000 in
theorem client_plain (X : Nat) (nm sec t : ByteArray) (b : Bool) (d : List Int) (at0 : Nat) (w : World) (hX : w.heap[X]? = some (.cells #[.string nm, .string sec, (Stp.plain).val, .bool b] 80 (0, 0)))
    (hn : nm.size ≤ 1000) (hs : sec.size ≤ 1000) (ht : t.size ≤ 30000000) (hv : unV t.data.toList = (d, 0, at0)) :
    Calls Try.prog 114 #[.pointer (some ⟨X, 0, none⟩), .string t] w fun e w' => e = .returned (.tuple #[.string (b64S (⟨#[0]⟩ ++ nm ++ ⟨#[0]⟩ ++ sec)), .int .i64 0]) ∧ w'.heap[X]? = some (.cells #[.string nm, .string sec, .nilIface, .bool b] 80 (0, 0)) ∧ Near X w w' := by
  have hu80 := Try.underlying80
  have hu70 := Try.underlying88
  have hXl : X < w.heap.size := blk_lt hX
  have HUN := Lib.hid (unbase64_calls t w (by omega))
  have HBK := Lib.hid (show w.heap[X]? = some (.cells #[.string nm, .string sec, .iface 85 (.agg #[]), .bool b] 80 (0, 0)) from hX)
  have x0 := blk_cell HBK.out 0
  have x1 := blk_cell HBK.out 1
  have x2 := blk_cell HBK.out 2
  simp only [List.getElem?_toArray, List.getElem?_cons_succ, List.getElem?_cons_zero] at x0 x1 x2
  have ta85 : ∀ W, (Instr.typeAssert (.iface 85 (.agg #[])) 48 85 true).run Try.prog W = .ok (.tuple #[.agg #[], .bool true]) W := fun W => by kernel_rfl
  obtain ⟨ans, hans⟩ : ∃ ans, ans = (⟨#[0]⟩ ++ nm ++ ⟨#[0]⟩ ++ sec) := ⟨_, rfl⟩
  have hsz : ans.size ≤ 100000000 := by
    rw [hans]
    try simp only [ByteArray.size_append]
    have e0 : (⟨#[0]⟩ : ByteArray).size = 1 := rfl
    have e1 : (⟨#[32]⟩ : ByteArray).size = 1 := rfl
    omega
  rw [← hans]
  have hans' : ⟨#[0]⟩ ++ nm ++ ⟨#[0]⟩ ++ sec = ans := hans.symm
  clear hX hans
  go_enter Try.func114, Try.ntmps114
  go_wp2_with fail
  refine HUN.out.mono ?_
  rintro e w1 ⟨V, d', er, at_, hv', rfl, hO, hb1⟩
  rw [hv] at hv'
  obtain ⟨rfl, rfl, rfl⟩ : d = d' ∧ 0 = er ∧ at0 = at_ := by simpa using hv'
  obtain ⟨A1, c1, rfl, _, hC1⟩ := own_C rfl hO
  have hBW1 : Below w.heap.size w (w1.alloc (.cells #[.int .i64 0, .int .i64 (at0 : Nat)] 88)) := hb1.alloc hb1.size _
  have dsize : (strOfNums d).size ≤ 100000000 := by
    have h1 := unV_len t.data.toList
    rw [hv, data_length] at h1
    change d.length ≤ 3 * t.size at h1
    have h2 := strOf_size d
    omega
  have hXn := (hBW1.block _ hXl).trans HBK.out
  have z0 := blk_cell hXn 0
  have z1 := blk_cell hXn 1
  have z2 := blk_cell hXn 2
  have z3 := True.intro
  simp only [List.getElem?_toArray, List.getElem?_cons_succ, List.getElem?_cons_zero] at z0 z1 z2
  have hcv := conv_run ans
  have HL := Lib.hid (conv_b64_at ans hsz)
  have k1 : ¬ 9223372036854775807 < 1 + nm.size := by omega
  have k2 : ¬ 9223372036854775807 < 1 + nm.size + 1 := by omega
  have k3 : ¬ 9223372036854775807 < 1 + nm.size + 1 + sec.size := by omega
  have k4 : ¬ 9223372036854775807 < nm.size + 1 := by omega
  have k5 : ¬ 9223372036854775807 < nm.size + 1 + 32 := by omega
  clear hO hb1 hXn hC1 hv hv' x0 x1 x2 hsz
  go_wp2
  refine start_ (n := 18) (S := fun w' => w'.cell? ⟨X, 0, none⟩ = some (.string nm) ∧ w'.cell? ⟨X, 1, none⟩ = some (.string sec)) (ds := [17]) #[false, false, false, false, false, false, false, false, false, false, false, false, false, false, false, false, false, false] (by kernel_rfl) rfl rfl ⟨z0, z1⟩ (fun hHeld => ?_)
  generalize hdr : (w1.alloc (.cells #[.int .i64 0, .int .i64 (at0 : Nat)] 88)).drew = w2 at hHeld ⊢
  have HB2 := Lib.hid (show Below w.heap.size w w2 from hdr ▸ below_drew1 hBW1)
  have zf2 := blk_frozen ((HB2.out.block _ hXl).trans HBK.out) 2
  have zt2 := blk_cell ((HB2.out.block _ hXl).trans HBK.out) 2
  simp only [List.getElem?_toArray, List.getElem?_cons_succ, List.getElem?_cons_zero] at zt2
  clear hdr z0 z1 z2 z3 hBW1
  refine pure_ (i := 0) (N := some 29) (v := ?_) (a' := ?_) #[true, false, false, false, false, false, false, false, false, false, false, false, false, false, false, false, false, false] rfl rfl (by kernel_rfl) (fun _ _ _ h => h) (Or.inl ⟨by rfl, ?_⟩) ?_ ?_
  rotate_left
  · intro w'
    go_simp
    with_reducible rfl
  rotate_left
  · simp only [Act.put, List.setIfInBounds_toArray, List.set_cons_zero, List.set_cons_succ, i64_w, i32_w]
    rfl
  refine pure_ (i := 1) (N := some 30) (v := ?_) (a' := ?_) #[true, true, false, false, false, false, false, false, false, false, false, false, false, false, false, false, false, false] rfl rfl (by kernel_rfl) (fun _ _ _ h => h) (Or.inl ⟨by rfl, ?_⟩) ?_ ?_
  rotate_left
  · intro w'
    go_simp
    with_reducible rfl
  rotate_left
  · simp only [Act.put, List.setIfInBounds_toArray, List.set_cons_zero, List.set_cons_succ, i64_w, i32_w]
    rfl
  refine pure_ (i := 2) (N := some 31) (v := ?_) (a' := ?_) #[true, true, true, false, false, false, false, false, false, false, false, false, false, false, false, false, false, false] rfl rfl (by kernel_rfl) (fun _ _ _ h => h) (Or.inl ⟨by rfl, ?_⟩) ?_ ?_
  rotate_left
  · intro w'
    go_simp
    with_reducible rfl
  rotate_left
  · simp only [Act.put, List.setIfInBounds_toArray, List.set_cons_zero, List.set_cons_succ, i64_w, i32_w]
    rfl
  refine pure_ (i := 3) (N := some 32) (v := ?_) (a' := ?_) #[true, true, true, true, false, false, false, false, false, false, false, false, false, false, false, false, false, false] rfl rfl (by kernel_rfl) (fun _ _ _ h => h) (Or.inl ⟨by rfl, ?_⟩) ?_ ?_
  rotate_left
  · intro w'
    go_simp
    with_reducible rfl
  rotate_left
  · simp only [Act.put, List.setIfInBounds_toArray, List.set_cons_zero, List.set_cons_succ, i64_w, i32_w]
    rfl
  refine pure_ (i := 4) (N := some 33) (v := ?_) (a' := ?_) #[true, true, true, true, true, false, false, false, false, false, false, false, false, false, false, false, false, false] rfl rfl (by kernel_rfl) (fun _ _ _ h => h) (Or.inl ⟨by rfl, ?_⟩) ?_ ?_
  rotate_left
  · intro w'
    go_simp
    with_reducible rfl
  rotate_left
  · simp only [Act.put, List.setIfInBounds_toArray, List.set_cons_zero, List.set_cons_succ, i64_w, i32_w]
    rfl
  refine pure_ (i := 8) (N := some 37) (v := ?_) (a' := ?_) #[true, true, true, true, true, false, false, false, true, false, false, false, false, false, false, false, false, false] rfl rfl (by kernel_rfl) (fun _ _ _ h => h) (Or.inl ⟨by rfl, ?_⟩) ?_ ?_
  rotate_left
  · intro w'
    go_simp
    with_reducible rfl
  rotate_left
  · simp only [Act.put, List.setIfInBounds_toArray, List.set_cons_zero, List.set_cons_succ, i64_w, i32_w]
    rfl
  refine pure_ (i := 9) (N := some 38) (v := ?_) (a' := ?_) #[true, true, true, true, true, false, false, false, true, true, false, false, false, false, false, false, false, false] rfl rfl (by kernel_rfl) (fun _ _ _ h => h) (Or.inl ⟨by rfl, ?_⟩) ?_ ?_
  rotate_left
  · intro w'
    go_simp
    with_reducible rfl
  rotate_left
  · simp only [Act.put, List.setIfInBounds_toArray, List.set_cons_zero, List.set_cons_succ, i64_w, i32_w]
    rfl
  refine pure_ (i := 10) (N := some 39) (v := ?_) (a' := ?_) #[true, true, true, true, true, false, false, false, true, true, true, false, false, false, false, false, false, false] rfl rfl (by kernel_rfl) (fun _ _ _ h => h) (Or.inl ⟨by rfl, ?_⟩) ?_ ?_
  rotate_left
  · intro w'
    go_simp
    with_reducible rfl
  rotate_left
  · simp only [Act.put, List.setIfInBounds_toArray, List.set_cons_zero, List.set_cons_succ, i64_w, i32_w]
    rfl
  refine pure_ (i := 11) (N := some 40) (v := ?_) (a' := ?_) #[true, true, true, true, true, false, false, false, true, true, true, true, false, false, false, false, false, false] rfl rfl (by kernel_rfl) (fun _ _ _ h => h) (Or.inl ⟨by rfl, ?_⟩) ?_ ?_
  rotate_left
  · intro w'
    go_simp
    with_reducible rfl
  rotate_left
  · simp only [Act.put, List.setIfInBounds_toArray, List.set_cons_zero, List.set_cons_succ, i64_w, i32_w]
    rfl
  refine take_ (i := 5) (N := some 34) (v := ?_) (a' := ?_) #[true, true, true, true, true, true, false, false, true, true, true, true, false, false, false, false, false, false] rfl rfl (by kernel_rfl) (fun _ _ _ h => h) (Or.inl ⟨by rfl, ?_⟩) hHeld ?_ ?_
  rotate_left
  · rintro w' ⟨s0, s1⟩
    go_simp
    with_reducible rfl
  rotate_left
  · simp only [Act.put, List.setIfInBounds_toArray, List.set_cons_zero, List.set_cons_succ, i64_w, i32_w]
    rfl
  refine pure_ (i := 6) (N := some 35) (v := ?_) (a' := ?_) #[true, true, true, true, true, true, true, false, true, true, true, true, false, false, false, false, false, false] rfl rfl (by kernel_rfl) (fun _ _ _ h => h) (Or.inl ⟨by rfl, ?_⟩) ?_ ?_
  rotate_left
  · intro w'
    go_simp
    with_reducible rfl
  rotate_left
  · simp only [Act.put, List.setIfInBounds_toArray, List.set_cons_zero, List.set_cons_succ, i64_w, i32_w]
    rfl
  refine pure_ (i := 7) (N := some 36) (v := ?_) (a' := ?_) #[true, true, true, true, true, true, true, true, true, true, true, true, false, false, false, false, false, false] rfl rfl (by kernel_rfl) (fun _ _ _ h => h) (Or.inl ⟨by rfl, ?_⟩) ?_ ?_
  rotate_left
  · intro w'
    go_simp
    with_reducible rfl
  rotate_left
  · simp only [Act.put, List.setIfInBounds_toArray, List.set_cons_zero, List.set_cons_succ, i64_w, i32_w]
    rfl
  refine take_ (i := 12) (N := some 41) (v := ?_) (a' := ?_) #[true, true, true, true, true, true, true, true, true, true, true, true, true, false, false, false, false, false] rfl rfl (by kernel_rfl) (fun _ _ _ h => h) (Or.inl ⟨by rfl, ?_⟩) hHeld ?_ ?_
  rotate_left
  · rintro w' ⟨s0, s1⟩
    go_simp
    with_reducible rfl
  rotate_left
  · simp only [Act.put, List.setIfInBounds_toArray, List.set_cons_zero, List.set_cons_succ, i64_w, i32_w]
    rfl
  refine pure_ (i := 13) (N := some 42) (v := ?_) (a' := ?_) #[true, true, true, true, true, true, true, true, true, true, true, true, true, true, false, false, false, false] rfl rfl (by kernel_rfl) (fun _ _ _ h => h) (Or.inl ⟨by rfl, ?_⟩) ?_ ?_
  rotate_left
  · intro w'
    go_simp
    with_reducible rfl
  rotate_left
  · simp only [Act.put, List.setIfInBounds_toArray, List.set_cons_zero, List.set_cons_succ, i64_w, i32_w]
    rfl
  refine pure_ (i := 14) (N := some 8) (v := ?_) (a' := ?_) #[true, true, true, true, true, true, true, true, true, true, true, true, true, true, true, false, false, false] rfl rfl (by kernel_rfl) (fun _ _ _ h => h) (Or.inl ⟨by rfl, ?_⟩) ?_ ?_
  rotate_left
  · intro w'
    go_simp
    with_reducible rfl
  rotate_left
  · simp only [Act.put, List.setIfInBounds_toArray, List.set_cons_zero, List.set_cons_succ, i64_w, i32_w]
    rfl
  refine pure_ (i := 15) (N := some 43) (v := ?_) (a' := ?_) #[true, true, true, true, true, true, true, true, true, true, true, true, true, true, true, true, false, false] rfl rfl (by kernel_rfl) (fun _ _ _ h => h) (Or.inl ⟨by rfl, ?_⟩) ?_ ?_
  rotate_left
  · intro w'
    go_simp
    with_reducible rfl
  rotate_left
  · simp only [Act.put, List.setIfInBounds_toArray, List.set_cons_zero, List.set_cons_succ, i64_w, i32_w]
    rfl
  refine pure_ (i := 16) (N := some 44) (v := ?_) (a' := ?_) #[true, true, true, true, true, true, true, true, true, true, true, true, true, true, true, true, true, false] rfl rfl (by kernel_rfl) (fun _ _ _ h => h) (Or.inl ⟨by rfl, ?_⟩) ?_ ?_
  rotate_left
  · intro w'
    go_simp
    with_reducible rfl
  rotate_left
  · simp only [Act.put, List.setIfInBounds_toArray, List.set_cons_zero, List.set_cons_succ, i64_w, i32_w]
    rfl
  refine last_ (i := 17) (N := none) #[true, true, true, true, true, true, true, true, true, true, true, true, true, true, true, true, true, true] rfl rfl (by kernel_rfl) (by decide) (fun K hK => ?_)
  refine skip_ (w1 := ?_) (by rfl) rfl ?_ ?_
  rotate_left
  · go_simp
    rfl
  refine hK.out _ _ ?_
  clear hK K
  refine done_ (by kernel_rfl) ?_

  have hXz := (HB2.out.block _ hXl).trans HBK.out
  have HXP := Lib.hid (blk_put hXz 2 (.nilIface) rfl)
  have HNE := Lib.hid ((Near.of_below (g := X) HB2.out).setCell 2 (.nilIface))
  clear hXz
  go_wp2_with fail
  refine (HL.out _ _ _ ?hk rfl).mono ?_
  case hk => simp [World.setCell]
  rintro e w9 ⟨rfl, hb9⟩
  have HN9 := Lib.hid (HNE.out.trans (Near.of_below hb9))
  have HX9 := Lib.hid ((hb9.block _ (blk_lt HXP.out)).trans HXP.out)
  clear hb9 hcv
  go_wp2
  go_ret2
  exact ⟨rfl, HX9.out, HN9.out⟩
set_option maxHeartbeats 8000000 in
set_option maxRecDepth 100000 in
theorem client_login (X : Nat) (nm sec t : ByteArray) (b : Bool) (d : List Int) (at0 : Nat) (w : World) (hX : w.heap[X]? = some (.cells #[.string nm, .string sec, (Stp.login).val, .bool b] 80 (0, 0)))
    (hn : nm.size ≤ 1000) (hs : sec.size ≤ 1000) (ht : t.size ≤ 30000000) (hv : unV t.data.toList = (d, 0, at0)) :
    Calls Try.prog 114 #[.pointer (some ⟨X, 0, none⟩), .string t] w fun e w' => e = .returned (.tuple #[.string (b64S (nm)), .int .i64 0]) ∧ w'.heap[X]? = some (.cells #[.string nm, .string sec, .iface 170 (.agg #[.string nm]), .bool b] 80 (0, 0)) ∧ Near X w w' := by
  have hu80 := Try.underlying80
  have hu70 := Try.underlying88
  have hXl : X < w.heap.size := blk_lt hX
  have HUN := Lib.hid (unbase64_calls t w (by omega))
  have HBK := Lib.hid (show w.heap[X]? = some (.cells #[.string nm, .string sec, .iface 86 (.agg #[]), .bool b] 80 (0, 0)) from hX)
  have x0 := blk_cell HBK.out 0
  have x1 := blk_cell HBK.out 1
  have x2 := blk_cell HBK.out 2
  simp only [List.getElem?_toArray, List.getElem?_cons_succ, List.getElem?_cons_zero] at x0 x1 x2
  have ta85 : ∀ W, (Instr.typeAssert (.iface 86 (.agg #[])) 48 85 true).run Try.prog W = .ok (.tuple #[.agg #[], .bool false]) W := fun W => by kernel_rfl
  have ta86 : ∀ W, (Instr.typeAssert (.iface 86 (.agg #[])) 48 86 true).run Try.prog W = .ok (.tuple #[.agg #[], .bool true]) W := fun W => by kernel_rfl
  obtain ⟨ans, hans⟩ : ∃ ans, ans = (nm) := ⟨_, rfl⟩
  have hsz : ans.size ≤ 100000000 := by
    rw [hans]
    try simp only [ByteArray.size_append]
    have e0 : (⟨#[0]⟩ : ByteArray).size = 1 := rfl
    have e1 : (⟨#[32]⟩ : ByteArray).size = 1 := rfl
    omega
  rw [← hans]
  have hans0 : nm = ans := hans.symm
  clear hX hans
  subst hans0
  go_enter Try.func114, Try.ntmps114
  go_wp2_with fail
  refine HUN.out.mono ?_
  rintro e w1 ⟨V, d', er, at_, hv', rfl, hO, hb1⟩
  rw [hv] at hv'
  obtain ⟨rfl, rfl, rfl⟩ : d = d' ∧ 0 = er ∧ at0 = at_ := by simpa using hv'
  obtain ⟨A1, c1, rfl, _, hC1⟩ := own_C rfl hO
  have hBW1 : Below w.heap.size w (w1.alloc (.cells #[.int .i64 0, .int .i64 (at0 : Nat)] 88)) := hb1.alloc hb1.size _
  have dsize : (strOfNums d).size ≤ 100000000 := by
    have h1 := unV_len t.data.toList
    rw [hv, data_length] at h1
    change d.length ≤ 3 * t.size at h1
    have h2 := strOf_size d
    omega
  have hXn := (hBW1.block _ hXl).trans HBK.out
  have z0 := blk_cell hXn 0
  have z1 := blk_cell hXn 1
  have z2 := blk_cell hXn 2
  have z3 := True.intro
  simp only [List.getElem?_toArray, List.getElem?_cons_succ, List.getElem?_cons_zero] at z0 z1 z2
  have hcv := conv_run nm
  have HL := Lib.hid (conv_b64_at nm hsz)
  have k1 : ¬ 9223372036854775807 < 1 + nm.size := by omega
  have k2 : ¬ 9223372036854775807 < 1 + nm.size + 1 := by omega
  have k3 : ¬ 9223372036854775807 < 1 + nm.size + 1 + sec.size := by omega
  have k4 : ¬ 9223372036854775807 < nm.size + 1 := by omega
  have k5 : ¬ 9223372036854775807 < nm.size + 1 + 32 := by omega
  clear hO hb1 hXn hC1 hv hv' x0 x1 x2 hsz
  go_wp2
  refine start_ (n := 17) (S := fun w' => w'.cell? ⟨X, 0, none⟩ = some (.string nm) ∧ w'.cell? ⟨X, 1, none⟩ = some (.string sec)) (ds := [16]) #[false, false, false, false, false, false, false, false, false, false, false, false, false, false, false, false, false] (by kernel_rfl) rfl rfl ⟨z0, z1⟩ (fun hHeld => ?_)
  generalize hdr : (w1.alloc (.cells #[.int .i64 0, .int .i64 (at0 : Nat)] 88)).drew = w2 at hHeld ⊢
  have HB2 := Lib.hid (show Below w.heap.size w w2 from hdr ▸ below_drew1 hBW1)
  have zf2 := blk_frozen ((HB2.out.block _ hXl).trans HBK.out) 2
  have zt2 := blk_cell ((HB2.out.block _ hXl).trans HBK.out) 2
  simp only [List.getElem?_toArray, List.getElem?_cons_succ, List.getElem?_cons_zero] at zt2
  clear hdr z0 z1 z2 z3 hBW1
  refine pure_ (i := 0) (N := some 48) (v := ?_) (a' := ?_) #[true, false, false, false, false, false, false, false, false, false, false, false, false, false, false, false, false] rfl rfl (by kernel_rfl) (fun _ _ _ h => h) (Or.inl ⟨by rfl, ?_⟩) ?_ ?_
  rotate_left
  · intro w'
    go_simp
    with_reducible rfl
  rotate_left
  · simp only [Act.put, List.setIfInBounds_toArray, List.set_cons_zero, List.set_cons_succ, i64_w, i32_w]
    rfl
  refine pure_ (i := 1) (N := some 49) (v := ?_) (a' := ?_) #[true, true, false, false, false, false, false, false, false, false, false, false, false, false, false, false, false] rfl rfl (by kernel_rfl) (fun _ _ _ h => h) (Or.inl ⟨by rfl, ?_⟩) ?_ ?_
  rotate_left
  · intro w'
    go_simp
    with_reducible rfl
  rotate_left
  · simp only [Act.put, List.setIfInBounds_toArray, List.set_cons_zero, List.set_cons_succ, i64_w, i32_w]
    rfl
  refine pure_ (i := 2) (N := some 50) (v := ?_) (a' := ?_) #[true, true, true, false, false, false, false, false, false, false, false, false, false, false, false, false, false] rfl rfl (by kernel_rfl) (fun _ _ _ h => h) (Or.inl ⟨by rfl, ?_⟩) ?_ ?_
  rotate_left
  · intro w'
    go_simp
    with_reducible rfl
  rotate_left
  · simp only [Act.put, List.setIfInBounds_toArray, List.set_cons_zero, List.set_cons_succ, i64_w, i32_w]
    rfl
  refine pure_ (i := 3) (N := some 51) (v := ?_) (a' := ?_) #[true, true, true, true, false, false, false, false, false, false, false, false, false, false, false, false, false] rfl rfl (by kernel_rfl) (fun _ _ _ h => h) (Or.inl ⟨by rfl, ?_⟩) ?_ ?_
  rotate_left
  · intro w'
    go_simp
    with_reducible rfl
  rotate_left
  · simp only [Act.put, List.setIfInBounds_toArray, List.set_cons_zero, List.set_cons_succ, i64_w, i32_w]
    rfl
  refine pure_ (i := 4) (N := some 52) (v := ?_) (a' := ?_) #[true, true, true, true, true, false, false, false, false, false, false, false, false, false, false, false, false] rfl rfl (by kernel_rfl) (fun _ _ _ h => h) (Or.inl ⟨by rfl, ?_⟩) ?_ ?_
  rotate_left
  · intro w'
    go_simp
    with_reducible rfl
  rotate_left
  · simp only [Act.put, List.setIfInBounds_toArray, List.set_cons_zero, List.set_cons_succ, i64_w, i32_w]
    rfl
  refine pure_ (i := 6) (N := some 54) (v := ?_) (a' := ?_) #[true, true, true, true, true, false, true, false, false, false, false, false, false, false, false, false, false] rfl rfl (by kernel_rfl) (fun _ _ _ h => h) (Or.inl ⟨by rfl, ?_⟩) ?_ ?_
  rotate_left
  · intro w'
    go_simp
    with_reducible rfl
  rotate_left
  · simp only [Act.put, List.setIfInBounds_toArray, List.set_cons_zero, List.set_cons_succ, i64_w, i32_w]
    rfl
  refine pure_ (i := 7) (N := some 55) (v := ?_) (a' := ?_) #[true, true, true, true, true, false, true, true, false, false, false, false, false, false, false, false, false] rfl rfl (by kernel_rfl) (fun _ _ _ h => h) (Or.inl ⟨by rfl, ?_⟩) ?_ ?_
  rotate_left
  · intro w'
    go_simp
    with_reducible rfl
  rotate_left
  · simp only [Act.put, List.setIfInBounds_toArray, List.set_cons_zero, List.set_cons_succ, i64_w, i32_w]
    rfl
  refine pure_ (i := 8) (N := some 56) (v := ?_) (a' := ?_) #[true, true, true, true, true, false, true, true, true, false, false, false, false, false, false, false, false] rfl rfl (by kernel_rfl) (fun _ _ _ h => h) (Or.inl ⟨by rfl, ?_⟩) ?_ ?_
  rotate_left
  · intro w'
    go_simp
    with_reducible rfl
  rotate_left
  · simp only [Act.put, List.setIfInBounds_toArray, List.set_cons_zero, List.set_cons_succ, i64_w, i32_w]
    rfl
  refine pure_ (i := 9) (N := some 57) (v := ?_) (a' := ?_) #[true, true, true, true, true, false, true, true, true, true, false, false, false, false, false, false, false] rfl rfl (by kernel_rfl) (fun _ _ _ h => h) (Or.inl ⟨by rfl, ?_⟩) ?_ ?_
  rotate_left
  · intro w'
    go_simp
    with_reducible rfl
  rotate_left
  · simp only [Act.put, List.setIfInBounds_toArray, List.set_cons_zero, List.set_cons_succ, i64_w, i32_w]
    rfl
  refine take_ (i := 5) (N := some 53) (v := ?_) (a' := ?_) #[true, true, true, true, true, true, true, true, true, true, false, false, false, false, false, false, false] rfl rfl (by kernel_rfl) (fun _ _ _ h => h) (Or.inl ⟨by rfl, ?_⟩) hHeld ?_ ?_
  rotate_left
  · rintro w' ⟨s0, s1⟩
    go_simp
    with_reducible rfl
  rotate_left
  · simp only [Act.put, List.setIfInBounds_toArray, List.set_cons_zero, List.set_cons_succ, i64_w, i32_w]
    rfl
  refine pure_ (i := 13) (N := some 8) (v := ?_) (a' := ?_) #[true, true, true, true, true, true, true, true, true, true, false, false, false, true, false, false, false] rfl rfl (by kernel_rfl) (fun _ _ _ h => h) (Or.inl ⟨by rfl, ?_⟩) ?_ ?_
  rotate_left
  · intro w'
    go_simp
    with_reducible rfl
  rotate_left
  · simp only [Act.put, List.setIfInBounds_toArray, List.set_cons_zero, List.set_cons_succ, i64_w, i32_w]
    rfl
  refine take_ (i := 10) (N := some 58) (v := ?_) (a' := ?_) #[true, true, true, true, true, true, true, true, true, true, true, false, false, true, false, false, false] rfl rfl (by kernel_rfl) (fun _ _ _ h => h) (Or.inl ⟨by rfl, ?_⟩) hHeld ?_ ?_
  rotate_left
  · rintro w' ⟨s0, s1⟩
    go_simp
    with_reducible rfl
  rotate_left
  · simp only [Act.put, List.setIfInBounds_toArray, List.set_cons_zero, List.set_cons_succ, i64_w, i32_w]
    rfl
  refine pure_ (i := 11) (N := some 59) (v := ?_) (a' := ?_) #[true, true, true, true, true, true, true, true, true, true, true, true, false, true, false, false, false] rfl rfl (by kernel_rfl) (fun _ _ _ h => h) (Or.inl ⟨by rfl, ?_⟩) ?_ ?_
  rotate_left
  · intro w'
    go_simp
    with_reducible rfl
  rotate_left
  · simp only [Act.put, List.setIfInBounds_toArray, List.set_cons_zero, List.set_cons_succ, i64_w, i32_w]
    rfl
  refine pure_ (i := 12) (N := some 60) (v := ?_) (a' := ?_) #[true, true, true, true, true, true, true, true, true, true, true, true, true, true, false, false, false] rfl rfl (by kernel_rfl) (fun _ _ _ h => h) (Or.inl ⟨by rfl, ?_⟩) ?_ ?_
  rotate_left
  · intro w'
    go_simp
    with_reducible rfl
  rotate_left
  · simp only [Act.put, List.setIfInBounds_toArray, List.set_cons_zero, List.set_cons_succ, i64_w, i32_w]
    rfl
  refine pure_ (i := 14) (N := some 61) (v := ?_) (a' := ?_) #[true, true, true, true, true, true, true, true, true, true, true, true, true, true, true, false, false] rfl rfl (by kernel_rfl) (fun _ _ _ h => h) (Or.inl ⟨by rfl, ?_⟩) ?_ ?_
  rotate_left
  · intro w'
    go_simp
    with_reducible rfl
  rotate_left
  · simp only [Act.put, List.setIfInBounds_toArray, List.set_cons_zero, List.set_cons_succ, i64_w, i32_w]
    rfl
  refine pure_ (i := 15) (N := some 62) (v := ?_) (a' := ?_) #[true, true, true, true, true, true, true, true, true, true, true, true, true, true, true, true, false] rfl rfl (by kernel_rfl) (fun _ _ _ h => h) (Or.inl ⟨by rfl, ?_⟩) ?_ ?_
  rotate_left
  · intro w'
    go_simp
    with_reducible rfl
  rotate_left
  · simp only [Act.put, List.setIfInBounds_toArray, List.set_cons_zero, List.set_cons_succ, i64_w, i32_w]
    rfl
  refine last_ (i := 16) (N := none) #[true, true, true, true, true, true, true, true, true, true, true, true, true, true, true, true, true] rfl rfl (by kernel_rfl) (by decide) (fun K hK => ?_)
  refine skip_ (w1 := ?_) (by rfl) rfl ?_ ?_
  rotate_left
  · go_simp
    rfl
  refine hK.out _ _ ?_
  clear hK K
  refine done_ (by kernel_rfl) ?_

  have hXz := (HB2.out.block _ hXl).trans HBK.out
  have HXP := Lib.hid (blk_put hXz 2 (.iface 170 (.agg #[.string nm])) rfl)
  have HNE := Lib.hid ((Near.of_below (g := X) HB2.out).setCell 2 (.iface 170 (.agg #[.string nm])))
  clear hXz
  go_wp2_with fail
  refine (HL.out _ _ _ ?hk rfl).mono ?_
  case hk => simp [World.setCell]
  rintro e w9 ⟨rfl, hb9⟩
  have HN9 := Lib.hid (HNE.out.trans (Near.of_below hb9))
  have HX9 := Lib.hid ((hb9.block _ (blk_lt HXP.out)).trans HXP.out)
  clear hb9 hcv
  go_wp2
  go_ret2
  exact ⟨rfl, HX9.out, HN9.out⟩
set_option maxHeartbeats 8000000 in
set_option maxRecDepth 100000 in
theorem client_word (a : ByteArray) (X : Nat) (nm sec t : ByteArray) (b : Bool) (d : List Int) (at0 : Nat) (w : World) (hX : w.heap[X]? = some (.cells #[.string nm, .string sec, ((Stp.word a)).val, .bool b] 80 (0, 0)))
    (hn : nm.size ≤ 1000) (hs : sec.size ≤ 1000) (ht : t.size ≤ 30000000) (hv : unV t.data.toList = (d, 0, at0)) :
    Calls Try.prog 114 #[.pointer (some ⟨X, 0, none⟩), .string t] w fun e w' => e = .returned (.tuple #[.string (b64S (sec)), .int .i64 0]) ∧ w'.heap[X]? = some (.cells #[.string nm, .string sec, .nilIface, .bool b] 80 (0, 0)) ∧ Near X w w' := by
  have hu80 := Try.underlying80
  have hu70 := Try.underlying88
  have hXl : X < w.heap.size := blk_lt hX
  have HUN := Lib.hid (unbase64_calls t w (by omega))
  have HBK := Lib.hid (show w.heap[X]? = some (.cells #[.string nm, .string sec, .iface 170 (.agg #[.string a]), .bool b] 80 (0, 0)) from hX)
  have x0 := blk_cell HBK.out 0
  have x1 := blk_cell HBK.out 1
  have x2 := blk_cell HBK.out 2
  simp only [List.getElem?_toArray, List.getElem?_cons_succ, List.getElem?_cons_zero] at x0 x1 x2
  have ta85 : ∀ W, (Instr.typeAssert (.iface 170 (.agg #[.string a])) 48 85 true).run Try.prog W = .ok (.tuple #[.agg #[], .bool false]) W := fun W => by kernel_rfl
  have ta86 : ∀ W, (Instr.typeAssert (.iface 170 (.agg #[.string a])) 48 86 true).run Try.prog W = .ok (.tuple #[.agg #[], .bool false]) W := fun W => by kernel_rfl
  have ta167 : ∀ W, (Instr.typeAssert (.iface 170 (.agg #[.string a])) 48 170 true).run Try.prog W = .ok (.tuple #[.agg #[.string a], .bool true]) W := fun W => by kernel_rfl
  obtain ⟨ans, hans⟩ : ∃ ans, ans = (sec) := ⟨_, rfl⟩
  have hsz : ans.size ≤ 100000000 := by
    rw [hans]
    try simp only [ByteArray.size_append]
    have e0 : (⟨#[0]⟩ : ByteArray).size = 1 := rfl
    have e1 : (⟨#[32]⟩ : ByteArray).size = 1 := rfl
    omega
  rw [← hans]
  have hans0 : sec = ans := hans.symm
  clear hX hans
  subst hans0
  go_enter Try.func114, Try.ntmps114
  go_wp2_with fail
  refine HUN.out.mono ?_
  rintro e w1 ⟨V, d', er, at_, hv', rfl, hO, hb1⟩
  rw [hv] at hv'
  obtain ⟨rfl, rfl, rfl⟩ : d = d' ∧ 0 = er ∧ at0 = at_ := by simpa using hv'
  obtain ⟨A1, c1, rfl, _, hC1⟩ := own_C rfl hO
  have hBW1 : Below w.heap.size w (w1.alloc (.cells #[.int .i64 0, .int .i64 (at0 : Nat)] 88)) := hb1.alloc hb1.size _
  have dsize : (strOfNums d).size ≤ 100000000 := by
    have h1 := unV_len t.data.toList
    rw [hv, data_length] at h1
    change d.length ≤ 3 * t.size at h1
    have h2 := strOf_size d
    omega
  have hXn := (hBW1.block _ hXl).trans HBK.out
  have z0 := blk_cell hXn 0
  have z1 := blk_cell hXn 1
  have z2 := blk_cell hXn 2
  have z3 := True.intro
  simp only [List.getElem?_toArray, List.getElem?_cons_succ, List.getElem?_cons_zero] at z0 z1 z2
  have hcv := conv_run sec
  have HL := Lib.hid (conv_b64_at sec hsz)
  have k1 : ¬ 9223372036854775807 < 1 + nm.size := by omega
  have k2 : ¬ 9223372036854775807 < 1 + nm.size + 1 := by omega
  have k3 : ¬ 9223372036854775807 < 1 + nm.size + 1 + sec.size := by omega
  have k4 : ¬ 9223372036854775807 < nm.size + 1 := by omega
  have k5 : ¬ 9223372036854775807 < nm.size + 1 + 32 := by omega
  clear hO hb1 hXn hC1 hv hv' x0 x1 x2 hsz
  have HB2 := Lib.hid hBW1
  have zf2 := blk_frozen ((HB2.out.block _ hXl).trans HBK.out) 2
  have zt2 := blk_cell ((HB2.out.block _ hXl).trans HBK.out) 2
  simp only [List.getElem?_toArray, List.getElem?_cons_succ, List.getElem?_cons_zero] at zt2
  clear hBW1
  have hXz := (HB2.out.block _ hXl).trans HBK.out
  have HXP := Lib.hid (blk_put hXz 2 (.nilIface) rfl)
  have HNE := Lib.hid ((Near.of_below (g := X) HB2.out).setCell 2 (.nilIface))
  clear hXz
  go_wp2_with fail
  refine (HL.out _ _ _ ?hk rfl).mono ?_
  case hk => simp [World.setCell]
  rintro e w9 ⟨rfl, hb9⟩
  have HN9 := Lib.hid (HNE.out.trans (Near.of_below hb9))
  have HX9 := Lib.hid ((hb9.block _ (blk_lt HXP.out)).trans HXP.out)
  clear hb9 hcv
  go_wp2
  go_ret2
  exact ⟨rfl, HX9.out, HN9.out⟩
set_option maxHeartbeats 8000000 in
set_option maxRecDepth 100000 in
theorem client_cram {T S : Nat → Int} (a : ByteArray) (X : Nat) (nm sec t : ByteArray) (b : Bool) (d : List Int) (at0 : Nat) (w : World) (he : Tabs T S w) (h2w : 3 ≤ w.heap.size) (hX : w.heap[X]? = some (.cells #[.string nm, .string sec, ((Stp.cram a)).val, .bool b] 80 (0, 0)))
    (hn : nm.size ≤ 1000) (hs : sec.size ≤ 1000) (ht : t.size ≤ 30000000) (hv : unV t.data.toList = (d, 0, at0)) :
    Calls Try.prog 114 #[.pointer (some ⟨X, 0, none⟩), .string t] w fun e w' => e = .returned (.tuple #[.string (b64S (nm ++ ⟨#[32]⟩ ++ digestV T S sec (strOfNums d))), .int .i64 0]) ∧ w'.heap[X]? = some (.cells #[.string nm, .string sec, .nilIface, .bool b] 80 (0, 0)) ∧ Near X w w' := by
  have hu80 := Try.underlying80
  have hu70 := Try.underlying88
  have hXl : X < w.heap.size := blk_lt hX
  have HUN := Lib.hid (unbase64_calls t w (by omega))
  have HBK := Lib.hid (show w.heap[X]? = some (.cells #[.string nm, .string sec, .iface 64 (.agg #[.string a]), .bool b] 80 (0, 0)) from hX)
  have x0 := blk_cell HBK.out 0
  have x1 := blk_cell HBK.out 1
  have x2 := blk_cell HBK.out 2
  simp only [List.getElem?_toArray, List.getElem?_cons_succ, List.getElem?_cons_zero] at x0 x1 x2
  have ta85 : ∀ W, (Instr.typeAssert (.iface 64 (.agg #[.string a])) 48 85 true).run Try.prog W = .ok (.tuple #[.agg #[], .bool false]) W := fun W => by kernel_rfl
  have ta86 : ∀ W, (Instr.typeAssert (.iface 64 (.agg #[.string a])) 48 86 true).run Try.prog W = .ok (.tuple #[.agg #[], .bool false]) W := fun W => by kernel_rfl
  have ta167 : ∀ W, (Instr.typeAssert (.iface 64 (.agg #[.string a])) 48 170 true).run Try.prog W = .ok (.tuple #[.agg #[.string ⟨#[]⟩], .bool false]) W := fun W => by kernel_rfl
  have ta60 : ∀ W, (Instr.typeAssert (.iface 64 (.agg #[.string a])) 48 64 true).run Try.prog W = .ok (.tuple #[.agg #[.string a], .bool true]) W := fun W => by kernel_rfl
  have dsz0 : (strOfNums d).size ≤ 100000000 := by
    have h1 := unV_len t.data.toList
    rw [hv, data_length] at h1
    change d.length ≤ 3 * t.size at h1
    have h2 := strOf_size d
    omega
  obtain ⟨dg, hdg⟩ : ∃ dg, dg = digestV T S sec (strOfNums d) := ⟨_, rfl⟩
  have hdgs : dg.size = 32 := hdg ▸ digest_size T S sec (strOfNums d)
  have HDG := Lib.hid (fun W (hB : Below w.heap.size w W) => hdg ▸ digest_calls2 (T := T) (S := S) sec (strOfNums d) W (he.below (hB.mono (Nat.le_refl _)) h2w) (by omega) dsz0)
  rw [← hdg]
  clear hdg dsz0
  obtain ⟨ans, hans⟩ : ∃ ans, ans = (nm ++ ⟨#[32]⟩ ++ dg) := ⟨_, rfl⟩
  have hsz : ans.size ≤ 100000000 := by
    rw [hans]
    try simp only [ByteArray.size_append]
    have e0 : (⟨#[0]⟩ : ByteArray).size = 1 := rfl
    have e1 : (⟨#[32]⟩ : ByteArray).size = 1 := rfl
    omega
  rw [← hans]
  have hans' : nm ++ ⟨#[32]⟩ ++ dg = ans := hans.symm
  clear hX hans
  go_enter Try.func114, Try.ntmps114
  go_wp2_with fail
  refine HUN.out.mono ?_
  rintro e w1 ⟨V, d', er, at_, hv', rfl, hO, hb1⟩
  rw [hv] at hv'
  obtain ⟨rfl, rfl, rfl⟩ : d = d' ∧ 0 = er ∧ at0 = at_ := by simpa using hv'
  obtain ⟨A1, c1, rfl, _, hC1⟩ := own_C rfl hO
  have hBW1 : Below w.heap.size w (w1.alloc (.cells #[.int .i64 0, .int .i64 (at0 : Nat)] 88)) := hb1.alloc hb1.size _
  have dsize : (strOfNums d).size ≤ 100000000 := by
    have h1 := unV_len t.data.toList
    rw [hv, data_length] at h1
    change d.length ≤ 3 * t.size at h1
    have h2 := strOf_size d
    omega
  have hXn := (hBW1.block _ hXl).trans HBK.out
  have z0 := blk_cell hXn 0
  have z1 := blk_cell hXn 1
  have z2 := blk_cell hXn 2
  have z3 := True.intro
  simp only [List.getElem?_toArray, List.getElem?_cons_succ, List.getElem?_cons_zero] at z0 z1 z2
  have zc : (convert 73 9 (.slice A1 d.length c1)).run Try.prog (w1.alloc (.cells #[.int .i64 0, .int .i64 (at0 : Nat)] 88)).drew = .ok (.string (strOfNums d)) (w1.alloc (.cells #[.int .i64 0, .int .i64 (at0 : Nat)] 88)).drew := str_of (w1.alloc (.cells #[.int .i64 0, .int .i64 (at0 : Nat)] 88)).drew (c := c1) (Kd.C_below (Kd.C_alloc hC1 _) (below_drew (Below.refl _ _)))
  have hC1d := Kd.C_below (Kd.C_alloc hC1 (.cells #[.int .i64 0, .int .i64 (at0 : Nat)] 88)) (below_drew (Below.refl _ _))
  have hcv := conv_run ans
  have HL := Lib.hid (conv_b64_at ans hsz)
  have k1 : ¬ 9223372036854775807 < 1 + nm.size := by omega
  have k2 : ¬ 9223372036854775807 < 1 + nm.size + 1 := by omega
  have k3 : ¬ 9223372036854775807 < 1 + nm.size + 1 + sec.size := by omega
  have k4 : ¬ 9223372036854775807 < nm.size + 1 := by omega
  have k5 : ¬ 9223372036854775807 < nm.size + 1 + 32 := by omega
  clear hO hb1 hXn hC1 hv hv' x0 x1 x2 hsz
  go_wp2
  refine start_ (n := 20) (S := fun w' => w'.cell? ⟨X, 0, none⟩ = some (.string nm) ∧ w'.cell? ⟨X, 1, none⟩ = some (.string sec) ∧ (convert 73 9 (.slice A1 d.length c1)).run Try.prog w' = .ok (.string (strOfNums d)) w') (ds := [19]) #[false, false, false, false, false, false, false, false, false, false, false, false, false, false, false, false, false, false, false, false] (by kernel_rfl) rfl rfl ⟨z0, z1, zc⟩ (fun hHeld => ?_)
  generalize hdr : (w1.alloc (.cells #[.int .i64 0, .int .i64 (at0 : Nat)] 88)).drew = w2 at hHeld ⊢
  have HB2 := Lib.hid (show Below w.heap.size w w2 from hdr ▸ below_drew1 hBW1)
  have zf2 := blk_frozen ((HB2.out.block _ hXl).trans HBK.out) 2
  have zt2 := blk_cell ((HB2.out.block _ hXl).trans HBK.out) 2
  simp only [List.getElem?_toArray, List.getElem?_cons_succ, List.getElem?_cons_zero] at zt2
  have HC2 := Lib.hid (show Kd.C (Kd.int .u8) w2 A1 d.length d from hdr ▸ hC1d)
  clear hdr z0 z1 z2 z3 hBW1 zc zf2 zt2 hC1d
  refine pure_ (i := 0) (N := some 77) (v := ?_) (a' := ?_) #[true, false, false, false, false, false, false, false, false, false, false, false, false, false, false, false, false, false, false, false] rfl rfl (by kernel_rfl) (fun _ _ _ h => h) (Or.inl ⟨by rfl, ?_⟩) ?_ ?_
  rotate_left
  · intro w'
    go_simp
    with_reducible rfl
  rotate_left
  · simp only [Act.put, List.setIfInBounds_toArray, List.set_cons_zero, List.set_cons_succ, i64_w, i32_w]
    rfl
  refine pure_ (i := 1) (N := some 78) (v := ?_) (a' := ?_) #[true, true, false, false, false, false, false, false, false, false, false, false, false, false, false, false, false, false, false, false] rfl rfl (by kernel_rfl) (fun _ _ _ h => h) (Or.inl ⟨by rfl, ?_⟩) ?_ ?_
  rotate_left
  · intro w'
    go_simp
    with_reducible rfl
  rotate_left
  · simp only [Act.put, List.setIfInBounds_toArray, List.set_cons_zero, List.set_cons_succ, i64_w, i32_w]
    rfl
  refine pure_ (i := 2) (N := some 79) (v := ?_) (a' := ?_) #[true, true, true, false, false, false, false, false, false, false, false, false, false, false, false, false, false, false, false, false] rfl rfl (by kernel_rfl) (fun _ _ _ h => h) (Or.inl ⟨by rfl, ?_⟩) ?_ ?_
  rotate_left
  · intro w'
    go_simp
    with_reducible rfl
  rotate_left
  · simp only [Act.put, List.setIfInBounds_toArray, List.set_cons_zero, List.set_cons_succ, i64_w, i32_w]
    rfl
  refine pure_ (i := 3) (N := some 80) (v := ?_) (a' := ?_) #[true, true, true, true, false, false, false, false, false, false, false, false, false, false, false, false, false, false, false, false] rfl rfl (by kernel_rfl) (fun _ _ _ h => h) (Or.inl ⟨by rfl, ?_⟩) ?_ ?_
  rotate_left
  · intro w'
    go_simp
    with_reducible rfl
  rotate_left
  · simp only [Act.put, List.setIfInBounds_toArray, List.set_cons_zero, List.set_cons_succ, i64_w, i32_w]
    rfl
  refine pure_ (i := 4) (N := some 81) (v := ?_) (a' := ?_) #[true, true, true, true, true, false, false, false, false, false, false, false, false, false, false, false, false, false, false, false] rfl rfl (by kernel_rfl) (fun _ _ _ h => h) (Or.inl ⟨by rfl, ?_⟩) ?_ ?_
  rotate_left
  · intro w'
    go_simp
    with_reducible rfl
  rotate_left
  · simp only [Act.put, List.setIfInBounds_toArray, List.set_cons_zero, List.set_cons_succ, i64_w, i32_w]
    rfl
  refine pure_ (i := 7) (N := some 84) (v := ?_) (a' := ?_) #[true, true, true, true, true, false, false, true, false, false, false, false, false, false, false, false, false, false, false, false] rfl rfl (by kernel_rfl) (fun _ _ _ h => h) (Or.inl ⟨by rfl, ?_⟩) ?_ ?_
  rotate_left
  · intro w'
    go_simp
    with_reducible rfl
  rotate_left
  · simp only [Act.put, List.setIfInBounds_toArray, List.set_cons_zero, List.set_cons_succ, i64_w, i32_w]
    rfl
  refine pure_ (i := 8) (N := some 85) (v := ?_) (a' := ?_) #[true, true, true, true, true, false, false, true, true, false, false, false, false, false, false, false, false, false, false, false] rfl rfl (by kernel_rfl) (fun _ _ _ h => h) (Or.inl ⟨by rfl, ?_⟩) ?_ ?_
  rotate_left
  · intro w'
    go_simp
    with_reducible rfl
  rotate_left
  · simp only [Act.put, List.setIfInBounds_toArray, List.set_cons_zero, List.set_cons_succ, i64_w, i32_w]
    rfl
  refine pure_ (i := 9) (N := some 86) (v := ?_) (a' := ?_) #[true, true, true, true, true, false, false, true, true, true, false, false, false, false, false, false, false, false, false, false] rfl rfl (by kernel_rfl) (fun _ _ _ h => h) (Or.inl ⟨by rfl, ?_⟩) ?_ ?_
  rotate_left
  · intro w'
    go_simp
    with_reducible rfl
  rotate_left
  · simp only [Act.put, List.setIfInBounds_toArray, List.set_cons_zero, List.set_cons_succ, i64_w, i32_w]
    rfl
  refine pure_ (i := 10) (N := some 87) (v := ?_) (a' := ?_) #[true, true, true, true, true, false, false, true, true, true, true, false, false, false, false, false, false, false, false, false] rfl rfl (by kernel_rfl) (fun _ _ _ h => h) (Or.inl ⟨by rfl, ?_⟩) ?_ ?_
  rotate_left
  · intro w'
    go_simp
    with_reducible rfl
  rotate_left
  · simp only [Act.put, List.setIfInBounds_toArray, List.set_cons_zero, List.set_cons_succ, i64_w, i32_w]
    rfl
  refine pure_ (i := 12) (N := some 89) (v := ?_) (a' := ?_) #[true, true, true, true, true, false, false, true, true, true, true, false, true, false, false, false, false, false, false, false] rfl rfl (by kernel_rfl) (fun _ _ _ h => h) (Or.inl ⟨by rfl, ?_⟩) ?_ ?_
  rotate_left
  · intro w'
    go_simp
    with_reducible rfl
  rotate_left
  · simp only [Act.put, List.setIfInBounds_toArray, List.set_cons_zero, List.set_cons_succ, i64_w, i32_w]
    rfl
  refine take_ (i := 5) (N := some 82) (v := ?_) (a' := ?_) #[true, true, true, true, true, true, false, true, true, true, true, false, true, false, false, false, false, false, false, false] rfl rfl (by kernel_rfl) (fun _ _ _ h => h) (Or.inl ⟨by rfl, ?_⟩) hHeld ?_ ?_
  rotate_left
  · rintro w' ⟨s0, s1, s2⟩
    go_simp
    with_reducible rfl
  rotate_left
  · simp only [Act.put, List.setIfInBounds_toArray, List.set_cons_zero, List.set_cons_succ, i64_w, i32_w]
    rfl
  refine pure_ (i := 6) (N := some 83) (v := ?_) (a' := ?_) #[true, true, true, true, true, true, true, true, true, true, true, false, true, false, false, false, false, false, false, false] rfl rfl (by kernel_rfl) (fun _ _ _ h => h) (Or.inl ⟨by rfl, ?_⟩) ?_ ?_
  rotate_left
  · intro w'
    go_simp
    with_reducible rfl
  rotate_left
  · simp only [Act.put, List.setIfInBounds_toArray, List.set_cons_zero, List.set_cons_succ, i64_w, i32_w]
    rfl
  refine take_ (i := 11) (N := some 88) (v := ?_) (a' := ?_) #[true, true, true, true, true, true, true, true, true, true, true, true, true, false, false, false, false, false, false, false] rfl rfl (by kernel_rfl) (fun _ _ _ h => h) (Or.inl ⟨by rfl, ?_⟩) hHeld ?_ ?_
  rotate_left
  · rintro w' ⟨s0, s1, s2⟩
    go_simp
    with_reducible rfl
  rotate_left
  · simp only [Act.put, List.setIfInBounds_toArray, List.set_cons_zero, List.set_cons_succ, i64_w, i32_w]
    rfl
  refine take_ (i := 13) (N := some 90) (v := ?_) (a' := ?_) #[true, true, true, true, true, true, true, true, true, true, true, true, true, true, false, false, false, false, false, false] rfl rfl (by kernel_rfl) (fun _ _ _ h => h) (Or.inl ⟨by rfl, ?_⟩) hHeld ?_ ?_
  rotate_left
  · rintro w' ⟨s0, s1, s2⟩
    go_simp
    with_reducible rfl
  rotate_left
  · simp only [Act.put, List.setIfInBounds_toArray, List.set_cons_zero, List.set_cons_succ, i64_w, i32_w]
    rfl
  refine one_ (i := 14) (N := some 91) #[true, true, true, true, true, true, true, true, true, true, true, true, true, true, true, false, false, false, false, false] rfl rfl (by kernel_rfl) (by decide) (fun K hK => ?_)
  refine goes_ Try.func99 (by kernel_rfl) rfl #[.string sec, .string (strOfNums d)] (by rfl) rfl rfl (by simp only [List.map_toArray, List.map_cons, List.map_nil]; rfl) ?_
  with_reducible refine (HDG.out w2 HB2.out).mono ?_
  rintro e w3 ⟨rfl, hb3⟩
  refine ⟨_, rfl, ?_⟩
  have HB3 := Lib.hid (HB2.out.trans (hb3.mono HB2.out.size))
  have zf2 := blk_frozen ((HB3.out.block _ hXl).trans HBK.out) 2
  have zt2 := blk_cell ((HB3.out.block _ hXl).trans HBK.out) 2
  simp only [List.getElem?_toArray, List.getElem?_cons_succ, List.getElem?_cons_zero] at zt2
  refine hK.out _ _ ⟨((hb3.cell (World.block_lt_of_cell? w2 _ hHeld.1)).trans hHeld.1), ((hb3.cell (World.block_lt_of_cell? w2 _ hHeld.2.1)).trans hHeld.2.1), (str_of w3 (c := c1) (Kd.C_below HC2.out hb3))⟩ (fun hHeld => ?_)
  clear hK K
  refine norm_ (a' := ?_) ?_ ?_
  rotate_left
  · show Act.put _ (some 91) _ = _
    simp only [Act.put, List.setIfInBounds_toArray, List.set_cons_zero, List.set_cons_succ, i64_w, i32_w]
    rfl
  refine pure_ (i := 15) (N := some 92) (v := ?_) (a' := ?_) #[true, true, true, true, true, true, true, true, true, true, true, true, true, true, true, true, false, false, false, false] rfl rfl (by kernel_rfl) (fun _ _ _ h => h) (Or.inl ⟨by rfl, ?_⟩) ?_ ?_
  rotate_left
  · intro w'
    go_simp
    with_reducible rfl
  rotate_left
  · simp only [Act.put, List.setIfInBounds_toArray, List.set_cons_zero, List.set_cons_succ, i64_w, i32_w]
    rfl
  refine pure_ (i := 16) (N := some 8) (v := ?_) (a' := ?_) #[true, true, true, true, true, true, true, true, true, true, true, true, true, true, true, true, true, false, false, false] rfl rfl (by kernel_rfl) (fun _ _ _ h => h) (Or.inl ⟨by rfl, ?_⟩) ?_ ?_
  rotate_left
  · intro w'
    go_simp
    with_reducible rfl
  rotate_left
  · simp only [Act.put, List.setIfInBounds_toArray, List.set_cons_zero, List.set_cons_succ, i64_w, i32_w]
    rfl
  refine pure_ (i := 17) (N := some 93) (v := ?_) (a' := ?_) #[true, true, true, true, true, true, true, true, true, true, true, true, true, true, true, true, true, true, false, false] rfl rfl (by kernel_rfl) (fun _ _ _ h => h) (Or.inl ⟨by rfl, ?_⟩) ?_ ?_
  rotate_left
  · intro w'
    go_simp
    with_reducible rfl
  rotate_left
  · simp only [Act.put, List.setIfInBounds_toArray, List.set_cons_zero, List.set_cons_succ, i64_w, i32_w]
    rfl
  refine pure_ (i := 18) (N := some 94) (v := ?_) (a' := ?_) #[true, true, true, true, true, true, true, true, true, true, true, true, true, true, true, true, true, true, true, false] rfl rfl (by kernel_rfl) (fun _ _ _ h => h) (Or.inl ⟨by rfl, ?_⟩) ?_ ?_
  rotate_left
  · intro w'
    go_simp
    with_reducible rfl
  rotate_left
  · simp only [Act.put, List.setIfInBounds_toArray, List.set_cons_zero, List.set_cons_succ, i64_w, i32_w]
    rfl
  refine last_ (i := 19) (N := none) #[true, true, true, true, true, true, true, true, true, true, true, true, true, true, true, true, true, true, true, true] rfl rfl (by kernel_rfl) (by decide) (fun K hK => ?_)
  refine skip_ (w1 := ?_) (by rfl) rfl ?_ ?_
  rotate_left
  · go_simp
    rfl
  refine hK.out _ _ ?_
  clear hK K
  refine done_ (by kernel_rfl) ?_

  have hXz := (HB3.out.block _ hXl).trans HBK.out
  have HXP := Lib.hid (blk_put hXz 2 (.nilIface) rfl)
  have HNE := Lib.hid ((Near.of_below (g := X) HB3.out).setCell 2 (.nilIface))
  clear hXz
  go_wp2_with fail
  refine (HL.out _ _ _ ?hk rfl).mono ?_
  case hk => simp [World.setCell]
  rintro e w9 ⟨rfl, hb9⟩
  have HN9 := Lib.hid (HNE.out.trans (Near.of_below hb9))
  have HX9 := Lib.hid ((hb9.block _ (blk_lt HXP.out)).trans HXP.out)
  clear hb9 hcv
  go_wp2
  go_ret2
  exact ⟨rfl, HX9.out, HN9.out⟩
end Go.Proofs.Yticjpjgfccbhlaa.Sasl
