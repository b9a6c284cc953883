/- sasl: the exchange as a heap block; its read, by contract. (The steps of the region: printed by tools/sread.py.) -/
import Derived.Test.YticjpjgfccbhlaaTakes
namespace Go.Proofs.Yticjpjgfccbhlaa.Sasl
open Go.RowKit Go.Proofs.YticjpjgfccbhlaaW.PrintWords Go.Proofs.YticjpjgfccbhlaaW.PrintLast Go.Proofs.YticjpjgfccbhlaaW.PrintMore Go.Proofs.Yticjpjgfccbhlaa.PSaslBoth Go.Proofs.Yticjpjgfccbhlaa.Hash
open Go.Proofs.Yticjpjgfccbhlaa.Code (unV unbase64_calls own_C str_of)
attribute [local go_sem] max2_int min2_int max_two min_two max_three min_three max_four min_four
set_option linter.unusedVariables false
set_option linter.unusedSimpArgs false
structure XS where
  us : List S40
  st : Int
  nx : Stp
  nm : ByteArray
def XS.cells (x : XS) (A : Option Addr) (n c : Nat) : Array Value := #[.slice A n c, .int .i64 x.st, x.nx.val, .string x.nm]
structure ExchAt (w : World) (X : Nat) (x : XS) (A : Option Addr) (n c : Nat) : Prop where
  blk : w.heap[X]? = some (.cells (x.cells A n c) 50 (0, 0))
  us : Kd.C k40 w A n x.us
  len : x.us.length = n
  cap : n ≤ c
  apart : ∀ ad, A = some ad → 0 < n → ad.block ≠ X
def Exch (w : World) (X : Nat) (x : XS) : Prop := ∃ A n c, ExchAt w X x A n c
theorem ExchAt.below {w w1 : World} {X : Nat} {x : XS} {A : Option Addr} {n c : Nat} (h : ExchAt w X x A n c) (hb : Below w.heap.size w w1) : ExchAt w1 X x A n c :=
  ⟨(hb.block X (blk_lt h.blk)).trans h.blk, Kd.C_below h.us hb, h.len, h.cap, h.apart⟩
theorem Exch.below {w w1 : World} {X : Nat} {x : XS} (h : Exch w X x) (hb : Below w.heap.size w w1) : Exch w1 X x := by
  obtain ⟨A, n, c, h⟩ := h
  exact ⟨A, n, c, h.below hb⟩
theorem users_near {g : Nat} {w w1 : World} (h : Near g w w1) {A : Option Addr} {n : Nat} {l : List S40} (hr : Kd.C k40 w A n l) (hne : ∀ ad, A = some ad → 0 < n → ad.block ≠ g) : Kd.C k40 w1 A n l :=
  by
  have hk : KeepBut w w1 g none := ⟨h.size, fun i hi hg _ => h.block i hi hg⟩
  refine ⟨hr.1, hr.2.1, fun hn => ?_⟩
  obtain ⟨ad, he, hc⟩ := hr.2.2 hn
  refine ⟨ad, he, fun j p hj => ?_⟩
  obtain ⟨cs, h1, h2, h3⟩ := hc j p hj
  exact ⟨cs, h1, h2, fun i u hu => keep_cell hk (h3 i u hu) (by rw [add_block]; exact hne ad he hn)⟩
theorem ExchAt.near {w w1 : World} {X g : Nat} {x : XS} {A : Option Addr} {n c : Nat} (h : ExchAt w X x A n c) (hb : Near g w w1) (hg : X ≠ g) (hA : ∀ ad, A = some ad → 0 < n → ad.block ≠ g) : ExchAt w1 X x A n c :=
  ⟨(hb.block X (blk_lt h.blk) hg).trans h.blk, users_near hb h.us hA, h.len, h.cap, h.apart⟩
theorem ExchAt.put {w w1 : World} {X : Nat} {x y : XS} {A : Option Addr} {n c : Nat} (h : ExchAt w X x A n c) (hb : Near X w w1) (hu : y.us = x.us) (hy : w1.heap[X]? = some (.cells (y.cells A n c) 50 (0, 0))) : ExchAt w1 X y A n c :=
  ⟨hy, hu ▸ users_near hb h.us h.apart, hu ▸ h.len, h.cap, h.apart⟩
def OkX (x : XS) : Prop := OkUs x.us ∧ OkStp x.nx
/-- a line is read -/
def readT (T S : Nat → Int) (x : XS) (a : ByteArray) : XS × Int :=
  let r := takeV T S x.us x.nx a
  if r.er ≠ 0 then (x, r.er) else match r.next with
    | some s => ({ x with nx := s }, 0)
    | none => if r.right then ({ x with st := 2, nm := r.name }, 0) else ({ x with st := 3 }, 0)
def readV (T S : Nat → Int) (x : XS) (line : ByteArray) : XS × Int :=
  if (unV line.data.toList).2.1 ≠ 0 then (x, 221) else readT T S x (strOfNums (unV line.data.toList).1)
theorem unGo_len : ∀ (r : List UInt8) (i : Nat) (s : Code.St) (d : List Int), Code.Okay s → (Code.unGo r i s d).1.length ≤ d.length + 3 * r.length
  | [], i, s, d, _ => by
    rw [Code.unGo_nil]
    split
    · exact Nat.zero_le _
    · simp
  | c :: r, i, s, d, h => by
    rw [Code.unGo_cons]
    obtain ⟨h1, h2⟩ := Code.okay_take h d c
    split
    · exact Nat.zero_le _
    · have := unGo_len r (i + 1) (Code.takeV s d c.toNat).1 (Code.takeV s d c.toNat).2.1 h1
      rw [List.length_cons]
      omega
theorem unV_len (t : List UInt8) : (unV t).1.length ≤ 3 * t.length := by
  have h := unGo_len t 0 Code.st0 [] ⟨by decide, by decide, by decide⟩
  have e : unV t = Code.unGo t 0 Code.st0 [] := rfl
  rw [e]
  simpa using h
theorem strOf_size (d : List Int) : (strOfNums d).size = d.length := by
  unfold strOfNums
  rw [← data_length]
  simp
theorem val_one (s : Stp) : s.val.oneCell' = true := by cases s <;> rfl
theorem call_fn (s : Stp) (as_ : Array Value) (W : World) : (callFunc s.fn as_).run Try.prog W = .ok (.enter s.fn as_) W := by cases s <;> kernel_rfl
set_option maxHeartbeats 4000000 in
set_option maxRecDepth 100000 in
theorem read_calls {T S : Nat → Int} {B : Nat} (X : Nat) (x : XS) (t : ByteArray) (w : World) (he : Env T S B w) (hX : Exch w X x) (hx : OkX x) (hBX : B ≤ X) (ht : t.size ≤ 30000000) :
    Calls Try.prog 26 #[.pointer (some ⟨X, 0, none⟩), .string t] w fun e w' => e = .returned (.int .i64 (readV T S x t).2) ∧ Exch w' X (readV T S x t).1 ∧ Near X w w' := by
  obtain ⟨A, n, c, hA⟩ := hX
  have hu50 := Try.underlying50
  have hu88 := Try.underlying88
  have hXl : X < w.heap.size := blk_lt hA.blk
  have HA := Lib.hid hA
  have HUN := Lib.hid (unbase64_calls t w (by omega))
  obtain ⟨ty, hty⟩ : ∃ ty, ty = x.nx.ty := ⟨_, rfl⟩
  obtain ⟨recv, hrecv⟩ : ∃ recv, recv = x.nx.recv := ⟨_, rfl⟩
  obtain ⟨fn, hfn⟩ : ∃ fn, fn = x.nx.fn := ⟨_, rfl⟩
  have HMT := Lib.hid (show ∀ W, (method 283 ty recv "posthorn/sasl.take").run Try.prog W = .ok (fn, recv) W from fun W => by rw [hty, hrecv, hfn]; exact meth_take x.nx W)
  have HCF := Lib.hid (show ∀ (v1 v2 : Value) W, ((Result.ok (fn, recv) W).andThen fun (a : Nat × Value) w' => (callFunc a.1 #[a.2, v1, v2]).run Try.prog w') = .ok (Next.enter fn #[recv, v1, v2]) W from fun v1 v2 W => by rw [hfn]; exact call_fn x.nx _ W)
  have hcells : x.cells A n c = #[.slice A n c, .int .i64 x.st, .iface ty recv, .string x.nm] := by unfold XS.cells; rw [x.nx.val_eq, hty, hrecv]
  have HTK := Lib.hid (fun (a : ByteArray) W (ha : a.size ≤ 1000000000) (hB : Below w.heap.size w W) => (show Calls Try.prog fn #[recv, .slice A n c, .string a] W _ by rw [hfn, hrecv]; exact take_calls x.nx A n c x.us a W (he.below (hB.mono he.size)) (Kd.C_below hA.us hB) hA.len hA.cap hx.1 hx.2 ha))
  have HBK := Lib.hid (hcells ▸ hA.blk)
  have HCE := Lib.hid hcells
  clear hA hty hrecv hfn hcells
  go_enter Try.func26, Try.ntmps26
  go_wp2_with fail
  refine HUN.out.mono ?_
  rintro e w1 ⟨V, d, er, at_, hv, rfl, hO, hb1⟩
  obtain ⟨A1, c1, rfl, _, hC1⟩ := own_C rfl hO
  have hBW1 : Below w.heap.size w (w1.alloc (.cells #[.int .i64 0, .int .i64 at_] 88)) := hb1.alloc hb1.size _
  have HAT := Lib.hid (True.intro)
  have dsize : (strOfNums d).size ≤ 1000000000 := by
    have h1 := unV_len t.data.toList
    rw [hv, data_length] at h1
    change d.length ≤ 3 * t.size at h1
    have h2 := strOf_size d
    omega
  by_cases her : er = 0
  · subst her
    have HD := Lib.hid (show (strOfNums d).size ≤ 1000000000 from dsize)
    obtain ⟨r, hr⟩ : ∃ r, r = takeV T S x.us x.nx (strOfNums d) := ⟨_, rfl⟩
    have HTK1 := HTK.out (strOfNums d)
    rw [← hr] at HTK1
    have HRR := Lib.hid (show readT T S x (strOfNums d) = _ by unfold readT; rw [← hr])
    obtain ⟨rn, rnm, rr, re⟩ := r
    obtain ⟨vn, hvn⟩ : ∃ vn, vn = stpO rn := ⟨_, rfl⟩
    have HTK2 := Lib.hid (fun W (hB : Below w.heap.size w W) => (show Calls Try.prog fn #[recv, .slice A n c, .string (strOfNums d)] W fun e w' => e = .returned (.tuple #[vn, .string rnm, .bool rr, .int .i64 re]) ∧ Below W.heap.size W w' from hvn ▸ HTK1 W HD.out hB))
    clear HTK1 hr
    have HVN := Lib.hid hvn
    clear hvn
    have HRV := Lib.hid (show readV T S x t = readT T S x (strOfNums d) by unfold readV; rw [hv]; rfl)
    have hXn := (hBW1.block _ hXl).trans HBK.out
    have z0 := blk_cell hXn 0
    have z1 := blk_cell hXn 1
    have z2 := blk_cell hXn 2
    have z3 := blk_cell hXn 3
    have zf0 := blk_frozen hXn 0
    have zf1 := blk_frozen hXn 1
    have zf2 := blk_frozen hXn 2
    have zf3 := blk_frozen hXn 3
    simp only [List.getElem?_toArray, List.getElem?_cons_succ, List.getElem?_cons_zero] at z0 z1 z2 z3
    have zc : (convert 73 9 (.slice A1 d.length c1)).run Try.prog (w1.alloc (.cells #[.int .i64 0, .int .i64 at_] 88)).drew = .ok (.string (strOfNums d)) (w1.alloc (.cells #[.int .i64 0, .int .i64 at_] 88)).drew := str_of (w1.alloc (.cells #[.int .i64 0, .int .i64 at_] 88)).drew (c := c1) (Kd.C_below (Kd.C_alloc hC1 _) (below_drew (Below.refl _ _)))
    clear hO hb1 hXn hC1 hv
    go_wp2
    refine start_ (n := 22) (S := fun w' => w'.cell? ⟨X, 2, none⟩ = some (.iface ty recv) ∧ w'.cell? ⟨X, 0, none⟩ = some (.slice A n c) ∧ (convert 73 9 (.slice A1 d.length c1)).run Try.prog w' = .ok (.string (strOfNums d)) w') (ds := [12]) #[false, false, false, false, false, false, false, false, false, false, false, false, false, false, false, false, false, false, false, false, false, false] (by kernel_rfl) rfl rfl ⟨z2, z0, zc⟩ (fun hHeld => ?_)
    generalize hdr : (w1.alloc (.cells #[.int .i64 0, .int .i64 at_] 88)).drew = w2 at hHeld ⊢
    have HB2 := Lib.hid (show Below w.heap.size w w2 from hdr ▸ below_drew1 hBW1)
    clear hdr z0 z1 z2 z3 zc zf0 zf1 zf2 zf3 hBW1
    refine pure_ (i := 0) (N := some 20) (v := ?_) (a' := ?_) #[true, false, false, false, false, false, false, false, false, false, false, false, false, false, false, false, false, false, false, false, false, false] rfl rfl (by kernel_rfl) (fun _ _ _ h => h) (Or.inl ⟨by rfl, ?_⟩) ?_ ?_
    rotate_left
    · intro w'
      go_simp
      with_reducible rfl
    rotate_left
    · simp only [Act.put, List.setIfInBounds_toArray, List.set_cons_zero, List.set_cons_succ, i64_w, i32_w]
      rfl
    refine pure_ (i := 1) (N := some 21) (v := ?_) (a' := ?_) #[true, true, false, false, false, false, false, false, false, false, false, false, false, false, false, false, false, false, false, false, false, false] rfl rfl (by kernel_rfl) (fun _ _ _ h => h) (Or.inl ⟨by rfl, ?_⟩) ?_ ?_
    rotate_left
    · intro w'
      go_simp
      with_reducible rfl
    rotate_left
    · simp only [Act.put, List.setIfInBounds_toArray, List.set_cons_zero, List.set_cons_succ, i64_w, i32_w]
      rfl
    refine pure_ (i := 2) (N := some 22) (v := ?_) (a' := ?_) #[true, true, true, false, false, false, false, false, false, false, false, false, false, false, false, false, false, false, false, false, false, false] rfl rfl (by kernel_rfl) (fun _ _ _ h => h) (Or.inl ⟨by rfl, ?_⟩) ?_ ?_
    rotate_left
    · intro w'
      go_simp
      with_reducible rfl
    rotate_left
    · simp only [Act.put, List.setIfInBounds_toArray, List.set_cons_zero, List.set_cons_succ, i64_w, i32_w]
      rfl
    refine pure_ (i := 4) (N := some 24) (v := ?_) (a' := ?_) #[true, true, true, false, true, false, false, false, false, false, false, false, false, false, false, false, false, false, false, false, false, false] rfl rfl (by kernel_rfl) (fun _ _ _ h => h) (Or.inl ⟨by rfl, ?_⟩) ?_ ?_
    rotate_left
    · intro w'
      go_simp
      with_reducible rfl
    rotate_left
    · simp only [Act.put, List.setIfInBounds_toArray, List.set_cons_zero, List.set_cons_succ, i64_w, i32_w]
      rfl
    refine pure_ (i := 5) (N := some 25) (v := ?_) (a' := ?_) #[true, true, true, false, true, true, false, false, false, false, false, false, false, false, false, false, false, false, false, false, false, false] rfl rfl (by kernel_rfl) (fun _ _ _ h => h) (Or.inl ⟨by rfl, ?_⟩) ?_ ?_
    rotate_left
    · intro w'
      go_simp
      with_reducible rfl
    rotate_left
    · simp only [Act.put, List.setIfInBounds_toArray, List.set_cons_zero, List.set_cons_succ, i64_w, i32_w]
      rfl
    refine pure_ (i := 6) (N := some 26) (v := ?_) (a' := ?_) #[true, true, true, false, true, true, true, false, false, false, false, false, false, false, false, false, false, false, false, false, false, false] rfl rfl (by kernel_rfl) (fun _ _ _ h => h) (Or.inl ⟨by rfl, ?_⟩) ?_ ?_
    rotate_left
    · intro w'
      go_simp
      with_reducible rfl
    rotate_left
    · simp only [Act.put, List.setIfInBounds_toArray, List.set_cons_zero, List.set_cons_succ, i64_w, i32_w]
      rfl
    refine pure_ (i := 8) (N := some 28) (v := ?_) (a' := ?_) #[true, true, true, false, true, true, true, false, true, false, false, false, false, false, false, false, false, false, false, false, false, false] rfl rfl (by kernel_rfl) (fun _ _ _ h => h) (Or.inl ⟨by rfl, ?_⟩) ?_ ?_
    rotate_left
    · intro w'
      go_simp
      with_reducible rfl
    rotate_left
    · simp only [Act.put, List.setIfInBounds_toArray, List.set_cons_zero, List.set_cons_succ, i64_w, i32_w]
      rfl
    refine take_ (i := 3) (N := some 23) (v := ?_) (a' := ?_) #[true, true, true, true, true, true, true, false, true, false, false, false, false, false, false, false, false, false, false, false, false, false] rfl rfl (by kernel_rfl) (fun _ _ _ h => h) (Or.inl ⟨by rfl, ?_⟩) hHeld ?_ ?_
    rotate_left
    · rintro w' ⟨s0, s1, s2⟩
      go_simp
      with_reducible rfl
    rotate_left
    · simp only [Act.put, List.setIfInBounds_toArray, List.set_cons_zero, List.set_cons_succ, i64_w, i32_w]
      rfl
    refine pure_ (i := 10) (N := some 30) (v := ?_) (a' := ?_) #[true, true, true, true, true, true, true, false, true, false, true, false, false, false, false, false, false, false, false, false, false, false] rfl rfl (by kernel_rfl) (fun _ _ _ h => h) (Or.inl ⟨by rfl, ?_⟩) ?_ ?_
    rotate_left
    · intro w'
      go_simp
      with_reducible rfl
    rotate_left
    · simp only [Act.put, List.setIfInBounds_toArray, List.set_cons_zero, List.set_cons_succ, i64_w, i32_w]
      rfl
    refine pure_ (i := 11) (N := some 31) (v := ?_) (a' := ?_) #[true, true, true, true, true, true, true, false, true, false, true, true, false, false, false, false, false, false, false, false, false, false] rfl rfl (by kernel_rfl) (fun _ _ _ h => h) (Or.inl ⟨by rfl, ?_⟩) ?_ ?_
    rotate_left
    · intro w'
      go_simp
      with_reducible rfl
    rotate_left
    · simp only [Act.put, List.setIfInBounds_toArray, List.set_cons_zero, List.set_cons_succ, i64_w, i32_w]
      rfl
    refine take_ (i := 7) (N := some 27) (v := ?_) (a' := ?_) #[true, true, true, true, true, true, true, true, true, false, true, true, false, false, false, false, false, false, false, false, false, false] rfl rfl (by kernel_rfl) (fun _ _ _ h => h) (Or.inl ⟨by rfl, ?_⟩) hHeld ?_ ?_
    rotate_left
    · rintro w' ⟨s0, s1, s2⟩
      go_simp
      with_reducible rfl
    rotate_left
    · simp only [Act.put, List.setIfInBounds_toArray, List.set_cons_zero, List.set_cons_succ, i64_w, i32_w]
      rfl
    refine take_ (i := 9) (N := some 29) (v := ?_) (a' := ?_) #[true, true, true, true, true, true, true, true, true, true, true, true, false, false, false, false, false, false, false, false, false, false] rfl rfl (by kernel_rfl) (fun _ _ _ h => h) (Or.inl ⟨by rfl, ?_⟩) hHeld ?_ ?_
    rotate_left
    · rintro w' ⟨s0, s1, s2⟩
      go_simp
      with_reducible rfl
    rotate_left
    · simp only [Act.put, List.setIfInBounds_toArray, List.set_cons_zero, List.set_cons_succ, i64_w, i32_w]
      rfl
    refine last_ (i := 12) (N := some 32) #[true, true, true, true, true, true, true, true, true, true, true, true, true, false, false, false, false, false, false, false, false, false] rfl rfl (by kernel_rfl) (by decide) (fun K hK => ?_)
    refine call_ fn #[recv, .slice A n c, .string (strOfNums d)] (by rfl) rfl ?hrun ?_
    case hrun => go_simp; rw [HMT.out]; exact HCF.out _ _ _
    with_reducible refine (HTK2.out w2 HB2.out).mono ?_
    rintro e w3 ⟨rfl, hb3⟩
    refine ⟨_, rfl, ?_⟩
    have HB3 := Lib.hid (HB2.out.trans (hb3.mono HB2.out.size))
    refine hK.out _ _ ?_
    clear hK K
    refine norm_ (a' := ?_) ?_ ?_
    rotate_left
    · show Act.put _ (some 32) _ = _
      simp only [Act.put, List.setIfInBounds_toArray, List.set_cons_zero, List.set_cons_succ, i64_w, i32_w]
      rfl
    refine pure_ (i := 13) (N := some 19) (v := ?_) (a' := ?_) #[true, true, true, true, true, true, true, true, true, true, true, true, true, true, false, false, false, false, false, false, false, false] rfl rfl (by kernel_rfl) (fun _ _ _ h => h) (Or.inl ⟨by rfl, ?_⟩) ?_ ?_
    rotate_left
    · intro w'
      go_simp
      with_reducible rfl
    rotate_left
    · simp only [Act.put, List.setIfInBounds_toArray, List.set_cons_zero, List.set_cons_succ, i64_w, i32_w]
      rfl
    refine pure_ (i := 14) (N := some 33) (v := ?_) (a' := ?_) #[true, true, true, true, true, true, true, true, true, true, true, true, true, true, true, false, false, false, false, false, false, false] rfl rfl (by kernel_rfl) (fun _ _ _ h => h) (Or.inl ⟨by rfl, ?_⟩) ?_ ?_
    rotate_left
    · intro w'
      go_simp
      with_reducible rfl
    rotate_left
    · simp only [Act.put, List.setIfInBounds_toArray, List.set_cons_zero, List.set_cons_succ, i64_w, i32_w]
      rfl
    refine pure_ (i := 15) (N := some 34) (v := ?_) (a' := ?_) #[true, true, true, true, true, true, true, true, true, true, true, true, true, true, true, true, false, false, false, false, false, false] rfl rfl (by kernel_rfl) (fun _ _ _ h => h) (Or.inl ⟨by rfl, ?_⟩) ?_ ?_
    rotate_left
    · intro w'
      go_simp
      with_reducible rfl
    rotate_left
    · simp only [Act.put, List.setIfInBounds_toArray, List.set_cons_zero, List.set_cons_succ, i64_w, i32_w]
      rfl
    refine pure_ (i := 16) (N := some 35) (v := ?_) (a' := ?_) #[true, true, true, true, true, true, true, true, true, true, true, true, true, true, true, true, true, false, false, false, false, false] rfl rfl (by kernel_rfl) (fun _ _ _ h => h) (Or.inl ⟨by rfl, ?_⟩) ?_ ?_
    rotate_left
    · intro w'
      go_simp
      with_reducible rfl
    rotate_left
    · simp only [Act.put, List.setIfInBounds_toArray, List.set_cons_zero, List.set_cons_succ, i64_w, i32_w]
      rfl
    refine pure_ (i := 17) (N := some 36) (v := ?_) (a' := ?_) #[true, true, true, true, true, true, true, true, true, true, true, true, true, true, true, true, true, true, false, false, false, false] rfl rfl (by kernel_rfl) (fun _ _ _ h => h) (Or.inl ⟨by rfl, ?_⟩) ?_ ?_
    rotate_left
    · intro w'
      go_simp
      with_reducible rfl
    rotate_left
    · simp only [Act.put, List.setIfInBounds_toArray, List.set_cons_zero, List.set_cons_succ, i64_w, i32_w]
      rfl
    refine pure_ (i := 18) (N := some 7) (v := ?_) (a' := ?_) #[true, true, true, true, true, true, true, true, true, true, true, true, true, true, true, true, true, true, true, false, false, false] rfl rfl (by kernel_rfl) (fun _ _ _ h => h) (Or.inl ⟨by rfl, ?_⟩) ?_ ?_
    rotate_left
    · intro w'
      go_simp
      with_reducible rfl
    rotate_left
    · simp only [Act.put, List.setIfInBounds_toArray, List.set_cons_zero, List.set_cons_succ, i64_w, i32_w]
      rfl
    refine pure_ (i := 19) (N := some 8) (v := ?_) (a' := ?_) #[true, true, true, true, true, true, true, true, true, true, true, true, true, true, true, true, true, true, true, true, false, false] rfl rfl (by kernel_rfl) (fun _ _ _ h => h) (Or.inl ⟨by rfl, ?_⟩) ?_ ?_
    rotate_left
    · intro w'
      go_simp
      with_reducible rfl
    rotate_left
    · simp only [Act.put, List.setIfInBounds_toArray, List.set_cons_zero, List.set_cons_succ, i64_w, i32_w]
      rfl
    refine pure_ (i := 20) (N := some 9) (v := ?_) (a' := ?_) #[true, true, true, true, true, true, true, true, true, true, true, true, true, true, true, true, true, true, true, true, true, false] rfl rfl (by kernel_rfl) (fun _ _ _ h => h) (Or.inl ⟨by rfl, ?_⟩) ?_ ?_
    rotate_left
    · intro w'
      go_simp
      with_reducible rfl
    rotate_left
    · simp only [Act.put, List.setIfInBounds_toArray, List.set_cons_zero, List.set_cons_succ, i64_w, i32_w]
      rfl
    refine pure_ (i := 21) (N := some 10) (v := ?_) (a' := ?_) #[true, true, true, true, true, true, true, true, true, true, true, true, true, true, true, true, true, true, true, true, true, true] rfl rfl (by kernel_rfl) (fun _ _ _ h => h) (Or.inl ⟨by rfl, ?_⟩) ?_ ?_
    rotate_left
    · intro w'
      go_simp
      with_reducible rfl
    rotate_left
    · simp only [Act.put, List.setIfInBounds_toArray, List.set_cons_zero, List.set_cons_succ, i64_w, i32_w]
      rfl
    refine done_ (by kernel_rfl) ?_

    have hXz := (HB3.out.block _ hXl).trans HBK.out
    have y1 := blk_cell hXz 1
    have y2 := blk_cell hXz 2
    have y3 := blk_cell hXz 3
    have yf1 := blk_frozen hXz 1
    have yf2 := blk_frozen hXz 2
    have yf3 := blk_frozen hXz 3
    have HXZ := Lib.hid (show w3.heap[X]? = some (.cells (x.cells A n c) 50 (0, 0)) by rw [hXz, HCE.out])
    clear hXz
    by_cases hre : re = 0
    · subst hre
      cases rn with
      | some s =>
        have e1 := HVN.out
        change vn = s.val at e1
        rw [s.val_eq] at e1
        obtain ⟨sty, hsty⟩ : ∃ sty, sty = s.ty := ⟨_, rfl⟩
        obtain ⟨srv, hsrv⟩ : ∃ srv, srv = s.recv := ⟨_, rfl⟩
        rw [← hsty, ← hsrv] at e1
        have HSV := Lib.hid (show (.iface sty srv : Value) = s.val by rw [s.val_eq, hsty, hsrv])
        subst e1
        clear hsty hsrv HVN
        go_wp2
        go_ret
        rw [HSV.out]
        have hy : readV T S x t = ({ x with nx := s }, 0) := by rw [HRV.out, HRR.out]; rfl
        rw [hy]
        exact ⟨rfl, ⟨A, n, c, HA.out.put ((Near.of_below HB3.out).setCell 2 s.val) rfl (blk_put HXZ.out 2 s.val rfl)⟩, (Near.of_below HB3.out).setCell 2 s.val⟩
      | none =>
        have e1 := HVN.out
        change vn = .nilIface at e1
        subst e1
        clear HVN
        cases rr with
        | true =>
          go_wp2
          go_ret
          have hy : readV T S x t = ({ x with st := 2, nm := rnm }, 0) := by rw [HRV.out, HRR.out]; rfl
          rw [hy]
          exact ⟨rfl, ⟨A, n, c, HA.out.put (((Near.of_below HB3.out).setCell 1 (.int .i64 2)).setCell 3 (.string rnm)) rfl (blk_put (blk_put HXZ.out 1 (.int .i64 2) rfl) 3 (.string rnm) rfl)⟩, ((Near.of_below HB3.out).setCell 1 (.int .i64 2)).setCell 3 (.string rnm)⟩
        | false =>
          go_wp2
          go_ret
          have hy : readV T S x t = ({ x with st := 3 }, 0) := by rw [HRV.out, HRR.out]; rfl
          rw [hy]
          exact ⟨rfl, ⟨A, n, c, HA.out.put ((Near.of_below HB3.out).setCell 1 (.int .i64 3)) rfl (blk_put HXZ.out 1 (.int .i64 3) rfl)⟩, (Near.of_below HB3.out).setCell 1 (.int .i64 3)⟩
    · have q : (re != 0) = true := by simp [hre]
      go_wp2
      go_ret
      have hy : readV T S x t = (x, re) := by rw [HRV.out, HRR.out]; exact if_pos hre
      rw [hy]
      exact ⟨rfl, ⟨A, n, c, HA.out.below HB3.out⟩, Near.of_below HB3.out⟩
  · have q : (er != 0) = true := by simp [her]
    go_wp2
    go_ret
    have hy : readV T S x t = (x, 221) := by
      unfold readV
      rw [hv]
      exact if_pos her
    rw [hy]
    exact ⟨rfl, ⟨A, n, c, HA.out.below (hb1.alloc hb1.size _)⟩, Near.of_below (hb1.alloc hb1.size _)⟩
end Go.Proofs.Yticjpjgfccbhlaa.Sasl
