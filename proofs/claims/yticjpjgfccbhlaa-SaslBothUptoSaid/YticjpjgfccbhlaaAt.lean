/- sasl: an exchange's read and Answer where the users' slice is told; Begin without an answer at once. (Written by tools/sat.py out of Read, Tell, Begin.) -/
import Derived.Test.YticjpjgfccbhlaaWakes
namespace Go.Proofs.Yticjpjgfccbhlaa.Sasl
open Go.RowKit Go.Proofs.YticjpjgfccbhlaaW.PrintWords Go.Proofs.YticjpjgfccbhlaaW.PrintLast Go.Proofs.YticjpjgfccbhlaaW.PrintMore Go.Proofs.Yticjpjgfccbhlaa.PSaslBoth Go.Proofs.Yticjpjgfccbhlaa.Hash
open Go.Proofs.Yticjpjgfccbhlaa.Code (unV unbase64_calls own_C str_of)
attribute [local go_sem] max2_int min2_int max_two min_two max_three min_three max_four min_four
set_option linter.unusedVariables false
set_option linter.unusedSimpArgs false
theorem ExchAt.put1 {w : World} {X : Nat} {x : XS} {A : Option Addr} {n c : Nat} (h : ExchAt w X x A n c) (k : Int) : ExchAt (w.setCell ⟨X, 1, none⟩ (.int .i64 k)) X { x with st := k } A n c :=
  h.put ((Near.refl X w).setCell 1 _) rfl (blk_put h.blk 1 _ rfl)
set_option maxHeartbeats 4000000 in
set_option maxRecDepth 100000 in
theorem read_at {T S : Nat → Int} {B : Nat} (X : Nat) (x : XS) (t : ByteArray) (A : Option Addr) (n c : Nat) (w : World) (he : Env T S B w) (hA : ExchAt w X x A n c) (hx : OkX x) (hBX : B ≤ X) (ht : t.size ≤ 30000000) :
    Calls Try.prog 26 #[.pointer (some ⟨X, 0, none⟩), .string t] w fun e w' => e = .returned (.int .i64 (readV T S x t).2) ∧ ExchAt w' X (readV T S x t).1 A n c ∧ Near X w w' := by
  have hu50 := Try.underlying50
  have hu88 := Try.underlying88
  have hXl : X < w.heap.size := blk_lt hA.blk
  have HA := Lib.hid hA
  have HUN := Lib.hid (unbase64_calls t w (by omega))
  obtain ⟨ty, hty⟩ : ∃ ty, ty = x.nx.ty := ⟨_, rfl⟩
  obtain ⟨recv, hrecv⟩ : ∃ recv, recv = x.nx.recv := ⟨_, rfl⟩
  obtain ⟨fn, hfn⟩ : ∃ fn, fn = x.nx.fn := ⟨_, rfl⟩
  have HMT := Lib.hid (show ∀ W, (method 283 ty recv "posthorn/sasl.take").run Try.prog W = .ok (fn, recv) W from fun W => by rw [hty, hrecv, hfn]; exact meth_take x.nx W)
  have HCF := Lib.hid (show ∀ (v1 v2 : Value) W, ((Result.ok (fn, recv) W).andThen fun (a : Nat × Value) w' => (callFunc a.1 #[a.2, v1, v2]).run Try.prog w') = .ok (Next.enter fn #[recv, v1, v2]) W from fun v1 v2 W => by rw [hfn]; exact call_fn x.nx _ W)
  have hcells : x.cells A n c = #[.slice A n c, .int .i64 x.st, .iface ty recv, .string x.nm] := by unfold XS.cells; rw [x.nx.val_eq, hty, hrecv]
  have HTK := Lib.hid (fun (a : ByteArray) W (ha : a.size ≤ 1000000000) (hB : Below w.heap.size w W) => (show Calls Try.prog fn #[recv, .slice A n c, .string a] W _ by rw [hfn, hrecv]; exact take_calls x.nx A n c x.us a W (he.below (hB.mono he.size)) (Kd.C_below hA.us hB) hA.len hA.cap hx.1 hx.2 ha))
  have HBK := Lib.hid (hcells ▸ hA.blk)
  have HCE := Lib.hid hcells
  clear hA hty hrecv hfn hcells
  go_enter Try.func26, Try.ntmps26
  go_wp2_with fail
  refine HUN.out.mono ?_
  rintro e w1 ⟨V, d, er, at_, hv, rfl, hO, hb1⟩
  obtain ⟨A1, c1, rfl, _, hC1⟩ := own_C rfl hO
  have hBW1 : Below w.heap.size w (w1.alloc (.cells #[.int .i64 0, .int .i64 at_] 88)) := hb1.alloc hb1.size _
  have HAT := Lib.hid (True.intro)
  have dsize : (strOfNums d).size ≤ 1000000000 := by
    have h1 := unV_len t.data.toList
    rw [hv, data_length] at h1
    change d.length ≤ 3 * t.size at h1
    have h2 := strOf_size d
    omega
  by_cases her : er = 0
  · subst her
    have HD := Lib.hid (show (strOfNums d).size ≤ 1000000000 from dsize)
    obtain ⟨r, hr⟩ : ∃ r, r = takeV T S x.us x.nx (strOfNums d) := ⟨_, rfl⟩
    have HTK1 := HTK.out (strOfNums d)
    rw [← hr] at HTK1
    have HRR := Lib.hid (show readT T S x (strOfNums d) = _ by unfold readT; rw [← hr])
    obtain ⟨rn, rnm, rr, re⟩ := r
    obtain ⟨vn, hvn⟩ : ∃ vn, vn = stpO rn := ⟨_, rfl⟩
    have HTK2 := Lib.hid (fun W (hB : Below w.heap.size w W) => (show Calls Try.prog fn #[recv, .slice A n c, .string (strOfNums d)] W fun e w' => e = .returned (.tuple #[vn, .string rnm, .bool rr, .int .i64 re]) ∧ Below W.heap.size W w' from hvn ▸ HTK1 W HD.out hB))
    clear HTK1 hr
    have HVN := Lib.hid hvn
    clear hvn
    have HRV := Lib.hid (show readV T S x t = readT T S x (strOfNums d) by unfold readV; rw [hv]; rfl)
    have hXn := (hBW1.block _ hXl).trans HBK.out
    have z0 := blk_cell hXn 0
    have z1 := blk_cell hXn 1
    have z2 := blk_cell hXn 2
    have z3 := blk_cell hXn 3
    have zf0 := blk_frozen hXn 0
    have zf1 := blk_frozen hXn 1
    have zf2 := blk_frozen hXn 2
    have zf3 := blk_frozen hXn 3
    simp only [List.getElem?_toArray, List.getElem?_cons_succ, List.getElem?_cons_zero] at z0 z1 z2 z3
    have zc : (convert 73 9 (.slice A1 d.length c1)).run Try.prog (w1.alloc (.cells #[.int .i64 0, .int .i64 at_] 88)).drew = .ok (.string (strOfNums d)) (w1.alloc (.cells #[.int .i64 0, .int .i64 at_] 88)).drew := str_of (w1.alloc (.cells #[.int .i64 0, .int .i64 at_] 88)).drew (c := c1) (Kd.C_below (Kd.C_alloc hC1 _) (below_drew (Below.refl _ _)))
    clear hO hb1 hXn hC1 hv
    go_wp2
    refine start_ (n := 22) (S := fun w' => w'.cell? ⟨X, 2, none⟩ = some (.iface ty recv) ∧ w'.cell? ⟨X, 0, none⟩ = some (.slice A n c) ∧ (convert 73 9 (.slice A1 d.length c1)).run Try.prog w' = .ok (.string (strOfNums d)) w') (ds := [12]) #[false, false, false, false, false, false, false, false, false, false, false, false, false, false, false, false, false, false, false, false, false, false] (by kernel_rfl) rfl rfl ⟨z2, z0, zc⟩ (fun hHeld => ?_)
    generalize hdr : (w1.alloc (.cells #[.int .i64 0, .int .i64 at_] 88)).drew = w2 at hHeld ⊢
    have HB2 := Lib.hid (show Below w.heap.size w w2 from hdr ▸ below_drew1 hBW1)
    clear hdr z0 z1 z2 z3 zc zf0 zf1 zf2 zf3 hBW1
    refine pure_ (i := 0) (N := some 20) (v := ?_) (a' := ?_) #[true, false, false, false, false, false, false, false, false, false, false, false, false, false, false, false, false, false, false, false, false, false] rfl rfl (by kernel_rfl) (fun _ _ _ h => h) (Or.inl ⟨by rfl, ?_⟩) ?_ ?_
    rotate_left
    · intro w'
      go_simp
      with_reducible rfl
    rotate_left
    · simp only [Act.put, List.setIfInBounds_toArray, List.set_cons_zero, List.set_cons_succ, i64_w, i32_w]
      rfl
    refine pure_ (i := 1) (N := some 21) (v := ?_) (a' := ?_) #[true, true, false, false, false, false, false, false, false, false, false, false, false, false, false, false, false, false, false, false, false, false] rfl rfl (by kernel_rfl) (fun _ _ _ h => h) (Or.inl ⟨by rfl, ?_⟩) ?_ ?_
    rotate_left
    · intro w'
      go_simp
      with_reducible rfl
    rotate_left
    · simp only [Act.put, List.setIfInBounds_toArray, List.set_cons_zero, List.set_cons_succ, i64_w, i32_w]
      rfl
    refine pure_ (i := 2) (N := some 22) (v := ?_) (a' := ?_) #[true, true, true, false, false, false, false, false, false, false, false, false, false, false, false, false, false, false, false, false, false, false] rfl rfl (by kernel_rfl) (fun _ _ _ h => h) (Or.inl ⟨by rfl, ?_⟩) ?_ ?_
    rotate_left
    · intro w'
      go_simp
      with_reducible rfl
    rotate_left
    · simp only [Act.put, List.setIfInBounds_toArray, List.set_cons_zero, List.set_cons_succ, i64_w, i32_w]
      rfl
    refine pure_ (i := 4) (N := some 24) (v := ?_) (a' := ?_) #[true, true, true, false, true, false, false, false, false, false, false, false, false, false, false, false, false, false, false, false, false, false] rfl rfl (by kernel_rfl) (fun _ _ _ h => h) (Or.inl ⟨by rfl, ?_⟩) ?_ ?_
    rotate_left
    · intro w'
      go_simp
      with_reducible rfl
    rotate_left
    · simp only [Act.put, List.setIfInBounds_toArray, List.set_cons_zero, List.set_cons_succ, i64_w, i32_w]
      rfl
    refine pure_ (i := 5) (N := some 25) (v := ?_) (a' := ?_) #[true, true, true, false, true, true, false, false, false, false, false, false, false, false, false, false, false, false, false, false, false, false] rfl rfl (by kernel_rfl) (fun _ _ _ h => h) (Or.inl ⟨by rfl, ?_⟩) ?_ ?_
    rotate_left
    · intro w'
      go_simp
      with_reducible rfl
    rotate_left
    · simp only [Act.put, List.setIfInBounds_toArray, List.set_cons_zero, List.set_cons_succ, i64_w, i32_w]
      rfl
    refine pure_ (i := 6) (N := some 26) (v := ?_) (a' := ?_) #[true, true, true, false, true, true, true, false, false, false, false, false, false, false, false, false, false, false, false, false, false, false] rfl rfl (by kernel_rfl) (fun _ _ _ h => h) (Or.inl ⟨by rfl, ?_⟩) ?_ ?_
    rotate_left
    · intro w'
      go_simp
      with_reducible rfl
    rotate_left
    · simp only [Act.put, List.setIfInBounds_toArray, List.set_cons_zero, List.set_cons_succ, i64_w, i32_w]
      rfl
    refine pure_ (i := 8) (N := some 28) (v := ?_) (a' := ?_) #[true, true, true, false, true, true, true, false, true, false, false, false, false, false, false, false, false, false, false, false, false, false] rfl rfl (by kernel_rfl) (fun _ _ _ h => h) (Or.inl ⟨by rfl, ?_⟩) ?_ ?_
    rotate_left
    · intro w'
      go_simp
      with_reducible rfl
    rotate_left
    · simp only [Act.put, List.setIfInBounds_toArray, List.set_cons_zero, List.set_cons_succ, i64_w, i32_w]
      rfl
    refine take_ (i := 3) (N := some 23) (v := ?_) (a' := ?_) #[true, true, true, true, true, true, true, false, true, false, false, false, false, false, false, false, false, false, false, false, false, false] rfl rfl (by kernel_rfl) (fun _ _ _ h => h) (Or.inl ⟨by rfl, ?_⟩) hHeld ?_ ?_
    rotate_left
    · rintro w' ⟨s0, s1, s2⟩
      go_simp
      with_reducible rfl
    rotate_left
    · simp only [Act.put, List.setIfInBounds_toArray, List.set_cons_zero, List.set_cons_succ, i64_w, i32_w]
      rfl
    refine pure_ (i := 10) (N := some 30) (v := ?_) (a' := ?_) #[true, true, true, true, true, true, true, false, true, false, true, false, false, false, false, false, false, false, false, false, false, false] rfl rfl (by kernel_rfl) (fun _ _ _ h => h) (Or.inl ⟨by rfl, ?_⟩) ?_ ?_
    rotate_left
    · intro w'
      go_simp
      with_reducible rfl
    rotate_left
    · simp only [Act.put, List.setIfInBounds_toArray, List.set_cons_zero, List.set_cons_succ, i64_w, i32_w]
      rfl
    refine pure_ (i := 11) (N := some 31) (v := ?_) (a' := ?_) #[true, true, true, true, true, true, true, false, true, false, true, true, false, false, false, false, false, false, false, false, false, false] rfl rfl (by kernel_rfl) (fun _ _ _ h => h) (Or.inl ⟨by rfl, ?_⟩) ?_ ?_
    rotate_left
    · intro w'
      go_simp
      with_reducible rfl
    rotate_left
    · simp only [Act.put, List.setIfInBounds_toArray, List.set_cons_zero, List.set_cons_succ, i64_w, i32_w]
      rfl
    refine take_ (i := 7) (N := some 27) (v := ?_) (a' := ?_) #[true, true, true, true, true, true, true, true, true, false, true, true, false, false, false, false, false, false, false, false, false, false] rfl rfl (by kernel_rfl) (fun _ _ _ h => h) (Or.inl ⟨by rfl, ?_⟩) hHeld ?_ ?_
    rotate_left
    · rintro w' ⟨s0, s1, s2⟩
      go_simp
      with_reducible rfl
    rotate_left
    · simp only [Act.put, List.setIfInBounds_toArray, List.set_cons_zero, List.set_cons_succ, i64_w, i32_w]
      rfl
    refine take_ (i := 9) (N := some 29) (v := ?_) (a' := ?_) #[true, true, true, true, true, true, true, true, true, true, true, true, false, false, false, false, false, false, false, false, false, false] rfl rfl (by kernel_rfl) (fun _ _ _ h => h) (Or.inl ⟨by rfl, ?_⟩) hHeld ?_ ?_
    rotate_left
    · rintro w' ⟨s0, s1, s2⟩
      go_simp
      with_reducible rfl
    rotate_left
    · simp only [Act.put, List.setIfInBounds_toArray, List.set_cons_zero, List.set_cons_succ, i64_w, i32_w]
      rfl
    refine last_ (i := 12) (N := some 32) #[true, true, true, true, true, true, true, true, true, true, true, true, true, false, false, false, false, false, false, false, false, false] rfl rfl (by kernel_rfl) (by decide) (fun K hK => ?_)
    refine call_ fn #[recv, .slice A n c, .string (strOfNums d)] (by rfl) rfl ?hrun ?_
    case hrun => go_simp; rw [HMT.out]; exact HCF.out _ _ _
    with_reducible refine (HTK2.out w2 HB2.out).mono ?_
    rintro e w3 ⟨rfl, hb3⟩
    refine ⟨_, rfl, ?_⟩
    have HB3 := Lib.hid (HB2.out.trans (hb3.mono HB2.out.size))
    refine hK.out _ _ ?_
    clear hK K
    refine norm_ (a' := ?_) ?_ ?_
    rotate_left
    · show Act.put _ (some 32) _ = _
      simp only [Act.put, List.setIfInBounds_toArray, List.set_cons_zero, List.set_cons_succ, i64_w, i32_w]
      rfl
    refine pure_ (i := 13) (N := some 19) (v := ?_) (a' := ?_) #[true, true, true, true, true, true, true, true, true, true, true, true, true, true, false, false, false, false, false, false, false, false] rfl rfl (by kernel_rfl) (fun _ _ _ h => h) (Or.inl ⟨by rfl, ?_⟩) ?_ ?_
    rotate_left
    · intro w'
      go_simp
      with_reducible rfl
    rotate_left
    · simp only [Act.put, List.setIfInBounds_toArray, List.set_cons_zero, List.set_cons_succ, i64_w, i32_w]
      rfl
    refine pure_ (i := 14) (N := some 33) (v := ?_) (a' := ?_) #[true, true, true, true, true, true, true, true, true, true, true, true, true, true, true, false, false, false, false, false, false, false] rfl rfl (by kernel_rfl) (fun _ _ _ h => h) (Or.inl ⟨by rfl, ?_⟩) ?_ ?_
    rotate_left
    · intro w'
      go_simp
      with_reducible rfl
    rotate_left
    · simp only [Act.put, List.setIfInBounds_toArray, List.set_cons_zero, List.set_cons_succ, i64_w, i32_w]
      rfl
    refine pure_ (i := 15) (N := some 34) (v := ?_) (a' := ?_) #[true, true, true, true, true, true, true, true, true, true, true, true, true, true, true, true, false, false, false, false, false, false] rfl rfl (by kernel_rfl) (fun _ _ _ h => h) (Or.inl ⟨by rfl, ?_⟩) ?_ ?_
    rotate_left
    · intro w'
      go_simp
      with_reducible rfl
    rotate_left
    · simp only [Act.put, List.setIfInBounds_toArray, List.set_cons_zero, List.set_cons_succ, i64_w, i32_w]
      rfl
    refine pure_ (i := 16) (N := some 35) (v := ?_) (a' := ?_) #[true, true, true, true, true, true, true, true, true, true, true, true, true, true, true, true, true, false, false, false, false, false] rfl rfl (by kernel_rfl) (fun _ _ _ h => h) (Or.inl ⟨by rfl, ?_⟩) ?_ ?_
    rotate_left
    · intro w'
      go_simp
      with_reducible rfl
    rotate_left
    · simp only [Act.put, List.setIfInBounds_toArray, List.set_cons_zero, List.set_cons_succ, i64_w, i32_w]
      rfl
    refine pure_ (i := 17) (N := some 36) (v := ?_) (a' := ?_) #[true, true, true, true, true, true, true, true, true, true, true, true, true, true, true, true, true, true, false, false, false, false] rfl rfl (by kernel_rfl) (fun _ _ _ h => h) (Or.inl ⟨by rfl, ?_⟩) ?_ ?_
    rotate_left
    · intro w'
      go_simp
      with_reducible rfl
    rotate_left
    · simp only [Act.put, List.setIfInBounds_toArray, List.set_cons_zero, List.set_cons_succ, i64_w, i32_w]
      rfl
    refine pure_ (i := 18) (N := some 7) (v := ?_) (a' := ?_) #[true, true, true, true, true, true, true, true, true, true, true, true, true, true, true, true, true, true, true, false, false, false] rfl rfl (by kernel_rfl) (fun _ _ _ h => h) (Or.inl ⟨by rfl, ?_⟩) ?_ ?_
    rotate_left
    · intro w'
      go_simp
      with_reducible rfl
    rotate_left
    · simp only [Act.put, List.setIfInBounds_toArray, List.set_cons_zero, List.set_cons_succ, i64_w, i32_w]
      rfl
    refine pure_ (i := 19) (N := some 8) (v := ?_) (a' := ?_) #[true, true, true, true, true, true, true, true, true, true, true, true, true, true, true, true, true, true, true, true, false, false] rfl rfl (by kernel_rfl) (fun _ _ _ h => h) (Or.inl ⟨by rfl, ?_⟩) ?_ ?_
    rotate_left
    · intro w'
      go_simp
      with_reducible rfl
    rotate_left
    · simp only [Act.put, List.setIfInBounds_toArray, List.set_cons_zero, List.set_cons_succ, i64_w, i32_w]
      rfl
    refine pure_ (i := 20) (N := some 9) (v := ?_) (a' := ?_) #[true, true, true, true, true, true, true, true, true, true, true, true, true, true, true, true, true, true, true, true, true, false] rfl rfl (by kernel_rfl) (fun _ _ _ h => h) (Or.inl ⟨by rfl, ?_⟩) ?_ ?_
    rotate_left
    · intro w'
      go_simp
      with_reducible rfl
    rotate_left
    · simp only [Act.put, List.setIfInBounds_toArray, List.set_cons_zero, List.set_cons_succ, i64_w, i32_w]
      rfl
    refine pure_ (i := 21) (N := some 10) (v := ?_) (a' := ?_) #[true, true, true, true, true, true, true, true, true, true, true, true, true, true, true, true, true, true, true, true, true, true] rfl rfl (by kernel_rfl) (fun _ _ _ h => h) (Or.inl ⟨by rfl, ?_⟩) ?_ ?_
    rotate_left
    · intro w'
      go_simp
      with_reducible rfl
    rotate_left
    · simp only [Act.put, List.setIfInBounds_toArray, List.set_cons_zero, List.set_cons_succ, i64_w, i32_w]
      rfl
    refine done_ (by kernel_rfl) ?_

    have hXz := (HB3.out.block _ hXl).trans HBK.out
    have y1 := blk_cell hXz 1
    have y2 := blk_cell hXz 2
    have y3 := blk_cell hXz 3
    have yf1 := blk_frozen hXz 1
    have yf2 := blk_frozen hXz 2
    have yf3 := blk_frozen hXz 3
    have HXZ := Lib.hid (show w3.heap[X]? = some (.cells (x.cells A n c) 50 (0, 0)) by rw [hXz, HCE.out])
    clear hXz
    by_cases hre : re = 0
    · subst hre
      cases rn with
      | some s =>
        have e1 := HVN.out
        change vn = s.val at e1
        rw [s.val_eq] at e1
        obtain ⟨sty, hsty⟩ : ∃ sty, sty = s.ty := ⟨_, rfl⟩
        obtain ⟨srv, hsrv⟩ : ∃ srv, srv = s.recv := ⟨_, rfl⟩
        rw [← hsty, ← hsrv] at e1
        have HSV := Lib.hid (show (.iface sty srv : Value) = s.val by rw [s.val_eq, hsty, hsrv])
        subst e1
        clear hsty hsrv HVN
        go_wp2
        go_ret
        rw [HSV.out]
        have hy : readV T S x t = ({ x with nx := s }, 0) := by rw [HRV.out, HRR.out]; rfl
        rw [hy]
        exact ⟨rfl, HA.out.put ((Near.of_below HB3.out).setCell 2 s.val) rfl (blk_put HXZ.out 2 s.val rfl), (Near.of_below HB3.out).setCell 2 s.val⟩
      | none =>
        have e1 := HVN.out
        change vn = .nilIface at e1
        subst e1
        clear HVN
        cases rr with
        | true =>
          go_wp2
          go_ret
          have hy : readV T S x t = ({ x with st := 2, nm := rnm }, 0) := by rw [HRV.out, HRR.out]; rfl
          rw [hy]
          exact ⟨rfl, HA.out.put (((Near.of_below HB3.out).setCell 1 (.int .i64 2)).setCell 3 (.string rnm)) rfl (blk_put (blk_put HXZ.out 1 (.int .i64 2) rfl) 3 (.string rnm) rfl), ((Near.of_below HB3.out).setCell 1 (.int .i64 2)).setCell 3 (.string rnm)⟩
        | false =>
          go_wp2
          go_ret
          have hy : readV T S x t = ({ x with st := 3 }, 0) := by rw [HRV.out, HRR.out]; rfl
          rw [hy]
          exact ⟨rfl, HA.out.put ((Near.of_below HB3.out).setCell 1 (.int .i64 3)) rfl (blk_put HXZ.out 1 (.int .i64 3) rfl), (Near.of_below HB3.out).setCell 1 (.int .i64 3)⟩
    · have q : (re != 0) = true := by simp [hre]
      go_wp2
      go_ret
      have hy : readV T S x t = (x, re) := by rw [HRV.out, HRR.out]; exact if_pos hre
      rw [hy]
      exact ⟨rfl, HA.out.below HB3.out, Near.of_below HB3.out⟩
  · have q : (er != 0) = true := by simp [her]
    go_wp2
    go_ret
    have hy : readV T S x t = (x, 221) := by
      unfold readV
      rw [hv]
      exact if_pos her
    rw [hy]
    exact ⟨rfl, HA.out.below (hb1.alloc hb1.size _), Near.of_below (hb1.alloc hb1.size _)⟩
set_option maxHeartbeats 2000000 in
set_option maxRecDepth 100000 in
theorem answer_at {T S : Nat → Int} {B : Nat} {w : World} {X : Nat} {x : XS} {A : Option Addr} {n c : Nat} (t : ByteArray) (he : Env T S B w) (hA : ExchAt w X x A n c) (hx : OkX x) (hBX : B ≤ X) (ht : t.size ≤ 30000000) :
    Calls Try.prog 18 #[.pointer (some ⟨X, 0, none⟩), .string t] w fun e w' => e = .returned (.int .i64 (answerV T S x t).2) ∧ ExchAt w' X (answerV T S x t).1 A n c ∧ Near X w w' := by
  have hu58 := Try.underlying50
  have hX : Exch w X x := ⟨_, _, _, hA⟩
  have HS := Lib.hid (state_calls hX)
  have HX := Lib.hid hA
  have HR := Lib.hid (read_at X x t A n c w he hA hx hBX ht)
  clear hA
  obtain ⟨st, hst⟩ : ∃ st, st = x.st := ⟨_, rfl⟩
  rw [← hst] at HS
  by_cases h0 : st = 0
  · have HV := Lib.hid (show answerV T S x t = (x, 1) from if_pos (by omega))
    subst h0
    go_enter Try.func18, Try.ntmps18
    go_wp2_with (go_at_call 12; refine HS.out.mono ?_; rintro e w1 ⟨rfl, rfl⟩)
    go_ret
    exact ⟨by rw [HV.out]; rfl, by rw [HV.out]; exact HX.out, Near.refl _ _⟩
  by_cases h1 : st = 1
  · subst h1
    by_cases hq : t = starL
    · have HV := Lib.hid (show answerV T S x t = ({ x with st := 4 }, 0) by unfold answerV; rw [if_neg (by omega), if_neg (by omega), if_pos hq])
      have q : (t.toList == [42]) = true := by rw [hq, show starL = ⟨[42].toArray⟩ from rfl, ByteArray.toList_eq]; rfl
      have y1 := hX.cell1
      rw [← hst] at y1
      have yf := hX.frozen1
      clear hq hst hX
      go_enter Try.func18, Try.ntmps18
      go_wp2_with (go_at_call 12; refine HS.out.mono ?_; rintro e w1 ⟨rfl, rfl⟩)
      go_ret
      exact ⟨by rw [HV.out]; rfl, by rw [HV.out]; exact HX.out.put1 4, (Near.refl X _).setCell 1 _⟩
    · have q : (t.toList == [42]) = false := ne_list t [42] hq
      obtain ⟨r, hr⟩ : ∃ r, r = readV T S x t := ⟨_, rfl⟩
      have HV := Lib.hid (show answerV T S x t = if r.2 ≠ 0 then ({ r.1 with st := 3 }, r.2) else r by unfold answerV; rw [if_neg (by omega), if_neg (by omega), if_neg hq, ← hr])
      rw [← hr] at HR
      obtain ⟨rx, re⟩ := r
      clear hq hst hX hr
      by_cases hre : re = 0
      · subst hre
        go_enter Try.func18, Try.ntmps18
        go_wp2_with (first | (go_at_call 12; refine HS.out.mono ?_; rintro e w1 ⟨rfl, rfl⟩) | (go_at_call 26; refine HR.out.mono ?_; rintro e w2 ⟨rfl, hE2, hN2⟩; have HE2 := Lib.hid hE2; have HN2 := Lib.hid hN2; clear hE2 hN2))
        go_ret
        exact ⟨by rw [HV.out]; rfl, by rw [HV.out]; exact HE2.out, HN2.out⟩
      · have q2 : (re != 0) = true := by simp [hre]
        go_enter Try.func18, Try.ntmps18
        go_wp2_with (first | (go_at_call 12; refine HS.out.mono ?_; rintro e w1 ⟨rfl, rfl⟩) | (go_at_call 26; refine HR.out.mono ?_; rintro e w2 ⟨rfl, hE2, hN2⟩; have y1 := Exch.cell1 ⟨_, _, _, hE2⟩; have yf := Exch.frozen1 ⟨_, _, _, hE2⟩; have HE2 := Lib.hid hE2; have HN2 := Lib.hid hN2; clear hE2 hN2))
        go_ret
        exact ⟨by rw [HV.out, if_pos hre]; rfl, by rw [HV.out, if_pos hre]; exact HE2.out.put1 3, HN2.out.setCell 1 _⟩
  · have q0 : (st == 0) = false := by simp [h0]
    have q1 : (st == 1) = false := by simp [h1]
    have HV := Lib.hid (show answerV T S x t = (x, 6) by unfold answerV; rw [if_neg (by omega), if_pos (by omega)])
    clear hst hX h0 h1
    go_enter Try.func18, Try.ntmps18
    go_wp2_with (go_at_call 12; refine HS.out.mono ?_; rintro e w1 ⟨rfl, rfl⟩)
    go_ret
    exact ⟨by rw [HV.out]; rfl, by rw [HV.out]; exact HX.out, Near.refl _ _⟩
set_option maxHeartbeats 4000000 in
set_option maxRecDepth 100000 in
theorem begin_at (A : Option Addr) (n c : Nat) (us : List S40) (m stamp a : ByteArray) (s : Stp) (w : World) (hf : firstV m stamp = some s) (hC : Kd.C k40 w A n us) (hn : us.length = n) (hc : n ≤ c) (hu : OkUs us) (hm : m.size ≤ 3000000000) :
    Calls Try.prog 9 #[.slice A n c, .string m, .string stamp, .string a, .bool false] w fun e w' => (∃ X A' c', e = .returned (.tuple #[.pointer (some ⟨X, 0, none⟩), .int .i64 0]) ∧ w.heap.size ≤ X ∧ ExchAt w' X ⟨us, 1, s, ⟨#[]⟩⟩ A' us.length c' ∧ ∀ ad, A' = some ad → 0 < us.length → w.heap.size ≤ ad.block) ∧ Below w.heap.size w w' := by
  subst hn
  have hu58 := Try.underlying50
  have hu60 := Try.underlying64
  have hul : us.length ≤ 1000000000 := hu.1
  have HC := Lib.hid hC
  have HF := Lib.hid (fun W => hf ▸ first_calls m stamp W hm)
  clear hC
  go_enter Try.func9, Try.ntmps9
  go_wp2_with (at_builtin; refine Kd.R_append_rows k40 (Rr := k40.K w) (w0 := w) w.heap.size rfl (.const (.slice none 0 0)) (.tmp 16) 25 41 _ 32 rfl Try.underlying25 info40 rfl (by decide) (by decide) _ ([] : List S40) us A us.length c (fun _ => True) (fun _ => False) rfl rfl (Kd.R_nil k40 41 w w.heap.size _) HC.out ?hKM (fun _ h => h.elim) (fun _ _ => trivial) (Below.refl _ _) (Nat.le_refl _) (by simp; omega) ?_)
  case hKM =>
    intro x cs h
    obtain rfl := k40_open h
    exact k40_mkM _ _ _ _
  intro v1 w1 hR1 hB1 hgr1 hat1
  have hlow := (Kd.R_bound hR1).1
  obtain ⟨A1, c1, rfl, hc1, hC1⟩ := Kd.R_reads hR1
  have HLOW := Lib.hid (show ∀ ad, A1 = some ad → 0 < us.length → w.heap.size ≤ ad.block from fun ad had _ => (hlow ad.block (by rw [had]; rfl)).2.1)
  clear hlow
  have HB1 := Lib.hid hB1
  have HC1 := Lib.hid hC1
  clear hR1 hgr1 hat1 hB1 hC1
  go_wp2_with fail
  refine (HF.out w1).mono ?_
  rintro e w2 ⟨rfl, hb2⟩
  have HB2 := Lib.hid (HB1.out.trans (hb2.mono HB1.out.size))
  have HC2 := Lib.hid (Kd.C_below HC1.out hb2)
  clear hb2
  obtain ⟨X, hX⟩ : ∃ X, X = w2.heap.size := ⟨_, rfl⟩
  obtain ⟨W3, hW3⟩ : ∃ W3, W3 = w2.alloc (.cells #[.slice A1 us.length c1, .int .i64 1, s.val, .string ⟨#[]⟩] 50) := ⟨_, rfl⟩
  have hB3 : Below w.heap.size w W3 := hW3 ▸ HB2.out.alloc HB2.out.size _
  have hE : ExchAt W3 X ⟨us, 1, s, ⟨#[]⟩⟩ A1 us.length c1 := by
    refine ⟨by rw [hW3, hX]; exact heap_alloc_new w2 _, ?_, rfl, hc1, ?_⟩
    · rw [hW3]; exact Kd.C_below HC2.out ((Below.refl _ _).alloc (Nat.le_refl _) _)
    · intro ad had h0
      obtain ⟨ad2, e2, y0, _⟩ := at_T40 (had ▸ HC2.out) 0 (by omega) (by omega)
      cases e2
      have := World.block_lt_of_cell? w2 _ y0
      rw [add_block] at this
      omega
  have hXl : w.heap.size ≤ X := by have := HB2.out.size; omega
  have HXL := Lib.hid hXl
  have HE := Lib.hid hE
  have HB3 := Lib.hid hB3
  have hval := s.val_eq
  obtain ⟨ty, hty⟩ : ∃ ty, ty = s.ty := ⟨_, rfl⟩
  obtain ⟨recv, hrecv⟩ : ∃ recv, recv = s.recv := ⟨_, rfl⟩
  have hblk : W3.heap[X]? = some (.cells #[.slice A1 us.length c1, .int .i64 1, .iface ty recv, .string ⟨#[]⟩] 50 (0, 0)) := by
    have h := hE.blk
    unfold XS.cells at h
    rw [hval, ← hty, ← hrecv] at h
    exact h
  have hW3' : w2.alloc (.cells #[.slice A1 us.length c1, .int .i64 1, .iface ty recv, .string ⟨#[]⟩] 50) = W3 := by rw [hW3, hval, hty, hrecv]
  have y0 := blk_cell hblk 0
  have y1 := blk_cell hblk 1
  have y2 := blk_cell hblk 2
  have y3 := blk_cell hblk 3
  simp only [List.getElem?_toArray, List.getElem?_cons_succ, List.getElem?_cons_zero] at y0 y1 y2 y3
  have HW3 := Lib.hid hW3'
  have HXE := Lib.hid hX
  have hsv : stpO (some s) = .iface ty recv := by show s.val = _; rw [hval, hty, hrecv]
  rw [hsv]
  clear hf hX hE hB3 hval hW3 hW3' hblk hsv hty hrecv hXl
  go_wp2
  rw [HW3.out, ← HXE.out]
  go_ret2
  exact ⟨⟨X, A1, c1, rfl, HXL.out, HE.out, HLOW.out⟩, HB3.out⟩
end Go.Proofs.Yticjpjgfccbhlaa.Sasl
