/- sasl: Begin by contract. -/
import Derived.Test.YticjpjgfccbhlaaRead
namespace Go.Proofs.Yticjpjgfccbhlaa.Sasl
open Go.RowKit Go.Proofs.YticjpjgfccbhlaaW.PrintWords Go.Proofs.YticjpjgfccbhlaaW.PrintLast Go.Proofs.YticjpjgfccbhlaaW.PrintMore Go.Proofs.Yticjpjgfccbhlaa.PSaslBoth Go.Proofs.Yticjpjgfccbhlaa.Hash
open Go.Proofs.Yticjpjgfccbhlaa.Code (unV)
attribute [local go_sem] max2_int min2_int max_two min_two max_three min_three max_four min_four
set_option linter.unusedVariables false
set_option linter.unusedSimpArgs false
theorem info40 : (Try.prog.info? 41).map (fun i => (i.zero, i.size, i.bytes)) = some (some (.agg #[.string ⟨#[]⟩, .string ⟨#[]⟩]), 2, 32) := by kernel_rfl
def Stp.isCram : Stp → Bool
  | .cram _ => true
  | _ => false
def eqL : ByteArray := ⟨#[61]⟩
def beginV (T S : Nat → Int) (us : List S40) (m stamp a : ByteArray) (has : Bool) : Option XS × Int :=
  match firstV m stamp with
  | none => (none, 220)
  | some s => if has = false then (some ⟨us, 1, s, ⟨#[]⟩⟩, 0) else if s.isCram = true then (none, 221) else
    if (readV T S ⟨us, 1, s, ⟨#[]⟩⟩ (if a = eqL then ⟨#[]⟩ else a)).2 ≠ 0 then (none, (readV T S ⟨us, 1, s, ⟨#[]⟩⟩ (if a = eqL then ⟨#[]⟩ else a)).2) else (some (readV T S ⟨us, 1, s, ⟨#[]⟩⟩ (if a = eqL then ⟨#[]⟩ else a)).1, 0)
/-- what Begin hands back -/
def Begun (w : World) (r : Option XS × Int) (e : Ending) (w' : World) : Prop :=
  match r with
  | (none, er) => e = .returned (.tuple #[.pointer none, .int .i64 er])
  | (some x, er) => ∃ X, e = .returned (.tuple #[.pointer (some ⟨X, 0, none⟩), .int .i64 er]) ∧ w.heap.size ≤ X ∧ Exch w' X x
theorem assert_not (s : Stp) (h : s.isCram = false) (W : World) : (Instr.typeAssert (.iface s.ty s.recv) 48 64 true).run Try.prog W = .ok (.tuple #[.agg #[.string ⟨#[]⟩], .bool false]) W := by
  cases s with
  | plain => kernel_rfl
  | login => kernel_rfl
  | word n => kernel_rfl
  | cram st => cases h
theorem assert_cram (s : ByteArray) (W : World) : (Instr.typeAssert (.iface (Stp.cram s).ty (Stp.cram s).recv) 48 64 true).run Try.prog W = .ok (.tuple #[.agg #[.string s], .bool true]) W := by kernel_rfl
set_option maxHeartbeats 4000000 in
set_option maxRecDepth 100000 in
theorem begin_calls {T S : Nat → Int} {B : Nat} (A : Option Addr) (n c : Nat) (us : List S40) (m stamp a : ByteArray) (has : Bool) (w : World) (he : Env T S B w) (hC : Kd.C k40 w A n us) (hn : us.length = n) (hc : n ≤ c) (hu : OkUs us) (hm : m.size ≤ 3000000000) (hst : stamp.size ≤ 100000000) (ha : a.size ≤ 30000000) :
    Calls Try.prog 9 #[.slice A n c, .string m, .string stamp, .string a, .bool has] w fun e w' => Begun w (beginV T S us m stamp a has) e w' ∧ Below w.heap.size w w' := by
  subst hn
  have hu58 := Try.underlying50
  have hu60 := Try.underlying64
  have hul : us.length ≤ 1000000000 := hu.1
  have HC := Lib.hid hC
  have HF := Lib.hid (fun W => first_calls m stamp W hm)
  clear hC
  go_enter Try.func9, Try.ntmps9
  go_wp2_with (at_builtin; refine Kd.R_append_rows k40 (Rr := k40.K w) (w0 := w) w.heap.size rfl (.const (.slice none 0 0)) (.tmp 16) 25 41 _ 32 rfl Try.underlying25 info40 rfl (by decide) (by decide) _ ([] : List S40) us A us.length c (fun _ => True) (fun _ => False) rfl rfl (Kd.R_nil k40 41 w w.heap.size _) HC.out ?hKM (fun _ h => h.elim) (fun _ _ => trivial) (Below.refl _ _) (Nat.le_refl _) (by simp; omega) ?_)
  case hKM =>
    intro x cs h
    obtain rfl := k40_open h
    exact k40_mkM _ _ _ _
  intro v1 w1 hR1 hB1 hgr1 hat1
  obtain ⟨A1, c1, rfl, hc1, hC1⟩ := Kd.R_reads hR1
  have HB1 := Lib.hid hB1
  have HC1 := Lib.hid hC1
  clear hR1 hgr1 hat1 hB1 hC1
  go_wp2_with fail
  refine (HF.out w1).mono ?_
  rintro e w2 ⟨rfl, hb2⟩
  have HB2 := Lib.hid (HB1.out.trans (hb2.mono HB1.out.size))
  have HC2 := Lib.hid (Kd.C_below HC1.out hb2)
  clear hb2
  obtain ⟨X, hX⟩ : ∃ X, X = w2.heap.size := ⟨_, rfl⟩
  obtain ⟨f, hf⟩ : ∃ f, f = firstV m stamp := ⟨_, rfl⟩
  rw [← hf]
  cases f with
  | none =>
    have HBV := Lib.hid (show beginV T S us m stamp a has = (none, 220) by unfold beginV; rw [← hf])
    have HBZ := Lib.hid (show Below w.heap.size w (w2.alloc (.cells #[.slice A1 us.length c1, .int .i64 1, .nilIface, .string ⟨#[]⟩] 50)) from HB2.out.alloc HB2.out.size _)
    clear hf hX
    rw [show stpO none = .nilIface from rfl]
    go_wp2
    go_ret2
    exact ⟨by rw [HBV.out]; rfl, HBZ.out⟩
  | some s =>
    obtain ⟨W3, hW3⟩ : ∃ W3, W3 = w2.alloc (.cells #[.slice A1 us.length c1, .int .i64 1, s.val, .string ⟨#[]⟩] 50) := ⟨_, rfl⟩
    have hB3 : Below w.heap.size w W3 := hW3 ▸ HB2.out.alloc HB2.out.size _
    have hE : ExchAt W3 X ⟨us, 1, s, ⟨#[]⟩⟩ A1 us.length c1 := by
      refine ⟨by rw [hW3, hX]; exact heap_alloc_new w2 _, ?_, rfl, hc1, ?_⟩
      · rw [hW3]; exact Kd.C_below HC2.out ((Below.refl _ _).alloc (Nat.le_refl _) _)
      · intro ad had h0
        obtain ⟨ad2, e2, y0, _⟩ := at_T40 (had ▸ HC2.out) 0 (by omega) (by omega)
        cases e2
        have := World.block_lt_of_cell? w2 _ y0
        rw [add_block] at this
        omega
    have hXl : w.heap.size ≤ X := by have := HB2.out.size; omega
    have HXL := Lib.hid hXl
    have HE := Lib.hid hE
    have HB3 := Lib.hid hB3
    have hval := s.val_eq
    obtain ⟨ty, hty⟩ : ∃ ty, ty = s.ty := ⟨_, rfl⟩
    obtain ⟨recv, hrecv⟩ : ∃ recv, recv = s.recv := ⟨_, rfl⟩
    have hblk : W3.heap[X]? = some (.cells #[.slice A1 us.length c1, .int .i64 1, .iface ty recv, .string ⟨#[]⟩] 50 (0, 0)) := by
      have h := hE.blk
      unfold XS.cells at h
      rw [hval, ← hty, ← hrecv] at h
      exact h
    have hW3' : w2.alloc (.cells #[.slice A1 us.length c1, .int .i64 1, .iface ty recv, .string ⟨#[]⟩] 50) = W3 := by rw [hW3, hval, hty, hrecv]
    have y0 := blk_cell hblk 0
    have y1 := blk_cell hblk 1
    have y2 := blk_cell hblk 2
    have y3 := blk_cell hblk 3
    simp only [List.getElem?_toArray, List.getElem?_cons_succ, List.getElem?_cons_zero] at y0 y1 y2 y3
    have HW3 := Lib.hid hW3'
    have HXE := Lib.hid hX
    have hsv : stpO (some s) = .iface ty recv := by show s.val = _; rw [hval, hty, hrecv]
    rw [hsv]
    cases has with
    | false =>
      have HBV := Lib.hid (show beginV T S us m stamp a false = (some ⟨us, 1, s, ⟨#[]⟩⟩, 0) by unfold beginV; rw [← hf]; rfl)
      clear hf hX hE hB3 hval hW3 hW3' hblk hsv hty hrecv hXl
      go_wp2
      rw [HW3.out, ← HXE.out]
      go_ret2
      exact ⟨by rw [HBV.out]; exact ⟨X, rfl, HXL.out, _, _, _, HE.out⟩, HB3.out⟩
    | true =>
      by_cases hcr : s.isCram = true
      · have HBV := Lib.hid (show beginV T S us m stamp a true = (none, 221) by unfold beginV; rw [← hf]; simp only [hcr]; rfl)
        obtain ⟨st, rfl⟩ : ∃ st, s = .cram st := by
          cases s with
          | cram st => exact ⟨st, rfl⟩
          | _ => cases hcr
        have hta : ∀ W, (Instr.typeAssert (.iface ty recv) 48 64 true).run Try.prog W = .ok (.tuple #[.agg #[.string st], .bool true]) W := fun W => by rw [hty, hrecv]; exact assert_cram st W
        have HBZ := Lib.hid (show Below w.heap.size w (W3.alloc (.cells #[.string st] 64)) from HB3.out.alloc HB3.out.size _)
        clear hf hX hE hB3 hval hW3 hW3' hblk hsv hty hrecv hXl
        go_wp2
        go_ret2
        rw [HW3.out]
        exact ⟨by rw [HBV.out]; rfl, HBZ.out⟩
      · have hcr : s.isCram = false := by simpa using hcr
        have okstp : OkStp s := by
          cases s with
          | cram st => cases hcr
          | _ => exact True.intro
        have hta : ∀ W, (Instr.typeAssert (.iface ty recv) 48 64 true).run Try.prog W = .ok (.tuple #[.agg #[.string ⟨#[]⟩], .bool false]) W := fun W => by rw [hty, hrecv]; exact assert_not s hcr W
        obtain ⟨W4, hW4⟩ : ∃ W4, W4 = W3.alloc (.cells #[.string ⟨#[]⟩] 64) := ⟨_, rfl⟩
        have HBZ := Lib.hid (show Below w.heap.size w W4 from hW4 ▸ HB3.out.alloc HB3.out.size _)
        have HEZ := Lib.hid (show Exch W4 X ⟨us, 1, s, ⟨#[]⟩⟩ from ⟨_, _, _, HE.out.below (hW4 ▸ (Below.refl _ _).alloc (Nat.le_refl _) _)⟩)
        have HW4 := Lib.hid (show W3.alloc (.cells #[.string ⟨#[]⟩] 64) = W4 from hW4.symm)
        have HRD := Lib.hid (fun (t : ByteArray) (ht : t.size ≤ 30000000) => read_calls X ⟨us, 1, s, ⟨#[]⟩⟩ t W4 (he.below (HBZ.out.mono he.size)) HEZ.out ⟨hu, okstp⟩ (Nat.le_trans he.size HXL.out) ht)
        clear hX hE hB3 hval hW3 hW3' hblk hsv hty hrecv hXl hW4
        by_cases hq : a = eqL
        · have HBV0 := Lib.hid (show (if a = eqL then (⟨#[]⟩ : ByteArray) else a) = ⟨#[]⟩ from if_pos hq)
          have q0 : (a.toList == [61]) = true := by rw [hq, show eqL = ⟨[61].toArray⟩ from rfl, ByteArray.toList_eq]; rfl
          clear hq
          go_wp2_with fail
          rw [HW3.out, ← HXE.out, HW4.out]
          refine (HRD.out ⟨#[]⟩ (by decide)).mono ?_
          rintro e w5 ⟨rfl, hE5, hN5⟩
          obtain ⟨r, hr⟩ : ∃ r, r = readV T S ⟨us, 1, s, ⟨#[]⟩⟩ ⟨#[]⟩ := ⟨_, rfl⟩
          rw [← hr] at hE5 ⊢
          have HBV := Lib.hid (show beginV T S us m stamp a true = if r.2 ≠ 0 then (none, r.2) else (some r.1, 0) by unfold beginV; rw [← hf]; simp only [hcr, HBV0.out, ← hr]; rfl)
          obtain ⟨rx, re⟩ := r
          have HB5 := Lib.hid (HBZ.out.trans ((show Below w.heap.size W4 w5 from hN5.below HXL.out HBZ.out.size)))
          have HE5 := Lib.hid hE5
          clear hr hE5 hN5
          by_cases hre : re = 0
          · subst hre
            go_wp2
            go_ret2
            exact ⟨by rw [HBV.out]; exact ⟨X, rfl, HXL.out, HE5.out⟩, HB5.out⟩
          · have q : (re != 0) = true := by simp [hre]
            go_wp2
            go_ret2
            exact ⟨by rw [HBV.out, if_pos hre]; rfl, HB5.out⟩
        · have HBV0 := Lib.hid (show (if a = eqL then (⟨#[]⟩ : ByteArray) else a) = a from if_neg hq)
          have q0 : (a.toList == [61]) = false := ne_list a [61] hq
          go_wp2_with fail
          rw [HW3.out, ← HXE.out, HW4.out]
          refine (HRD.out a ha).mono ?_
          rintro e w5 ⟨rfl, hE5, hN5⟩
          obtain ⟨r, hr⟩ : ∃ r, r = readV T S ⟨us, 1, s, ⟨#[]⟩⟩ a := ⟨_, rfl⟩
          rw [← hr] at hE5 ⊢
          have HBV := Lib.hid (show beginV T S us m stamp a true = if r.2 ≠ 0 then (none, r.2) else (some r.1, 0) by unfold beginV; rw [← hf]; simp only [hcr, HBV0.out, ← hr]; rfl)
          obtain ⟨rx, re⟩ := r
          have HB5 := Lib.hid (HBZ.out.trans ((show Below w.heap.size W4 w5 from hN5.below HXL.out HBZ.out.size)))
          have HE5 := Lib.hid hE5
          clear hr hE5 hN5
          by_cases hre : re = 0
          · subst hre
            go_wp2
            go_ret2
            exact ⟨by rw [HBV.out]; exact ⟨X, rfl, HXL.out, HE5.out⟩, HB5.out⟩
          · have q : (re != 0) = true := by simp [hre]
            go_wp2
            go_ret2
            exact ⟨by rw [HBV.out, if_pos hre]; rfl, HB5.out⟩
end Go.Proofs.Yticjpjgfccbhlaa.Sasl
