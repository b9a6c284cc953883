/- sasl: a client and an exchange in talk. (The steps of the region that draws: printed by tools/stalk.py.) -/
import Derived.Test.YticjpjgfccbhlaaAt
import Derived.Test.YticjpjgfccbhlaaLines
import Derived.Deep.LoopGhost
namespace Go.Proofs.Yticjpjgfccbhlaa.Sasl
open Go.RowKit Go.Proofs.YticjpjgfccbhlaaW.PrintWords Go.Proofs.YticjpjgfccbhlaaW.PrintLast Go.Proofs.YticjpjgfccbhlaaW.PrintMore Go.Proofs.Yticjpjgfccbhlaa.PSaslBoth Go.Proofs.Yticjpjgfccbhlaa.Hash
open Go.Proofs.Yticjpjgfccbhlaa.Code (unV)
attribute [local go_sem] max2_int min2_int max_two min_two max_three min_three max_four min_four
set_option linter.unusedVariables false
set_option linter.unusedSimpArgs false
theorem ExchAt.ex {w : World} {X : Nat} {x : XS} {A : Option Addr} {n c : Nat} (h : ExchAt w X x A n c) : Exch w X x := ⟨_, _, _, h⟩
/-- what a client answers, and what is next -/
def clientV (T S : Nat → Int) (nm sec : ByteArray) (s : Stp) (d : ByteArray) : ByteArray × Option Stp :=
  match s with
  | .plain => (⟨#[0]⟩ ++ nm ++ ⟨#[0]⟩ ++ sec, none)
  | .login => (nm, some (.word nm))
  | .word _ => (sec, none)
  | .cram _ => (nm ++ ⟨#[32]⟩ ++ digestV T S sec d, none)
theorem clientV_size (T S : Nat → Int) (nm sec : ByteArray) (s : Stp) (d : ByteArray) : (clientV T S nm sec s d).1.size ≤ nm.size + sec.size + 40 := by
  have e0 : (⟨#[0]⟩ : ByteArray).size = 1 := rfl
  have e1 : (⟨#[32]⟩ : ByteArray).size = 1 := rfl
  cases s <;> simp only [clientV, ByteArray.size_append, digest_size] <;> omega
theorem client_calls {T S : Nat → Int} (s : Stp) (X : Nat) (nm sec t : ByteArray) (b : Bool) (d : List Int) (at0 : Nat) (w : World) (he : Tabs T S w) (h2w : 3 ≤ w.heap.size) (hX : w.heap[X]? = some (.cells #[.string nm, .string sec, stpO (some s), .bool b] 80 (0, 0)))
    (hn : nm.size ≤ 1000) (hs : sec.size ≤ 1000) (ht : t.size ≤ 30000000) (hv : unV t.data.toList = (d, 0, at0)) :
    Calls Try.prog 114 #[.pointer (some ⟨X, 0, none⟩), .string t] w fun e w' => e = .returned (.tuple #[.string (b64S (clientV T S nm sec s (strOfNums d)).1), .int .i64 0]) ∧ w'.heap[X]? = some (.cells #[.string nm, .string sec, stpO (clientV T S nm sec s (strOfNums d)).2, .bool b] 80 (0, 0)) ∧ Near X w w' := by
  cases s with
  | plain => exact client_plain X nm sec t b d at0 w hX hn hs ht hv
  | login => exact client_login X nm sec t b d at0 w hX hn hs ht hv
  | word a => exact client_word a X nm sec t b d at0 w hX hn hs ht hv
  | cram a => exact client_cram a X nm sec t b d at0 w he h2w hX hn hs ht hv
/-- a talk that comes to an end in k rounds -/
inductive Talks (T S : Nat → Int) (nm sec : ByteArray) : XS → Option Stp → Nat → XS → Prop
  | done {x : XS} {o : Option Stp} (h : x.st ≠ 1) : Talks T S nm sec x o 0 x
  | step {x : XS} {s : Stp} {k : Nat} {xf x' : XS} (h : x.st = 1) (hx : OkX x) (ha : x.nx.ask.size ≤ 20000000) (e : answerV T S x (b64S (clientV T S nm sec s x.nx.ask).1) = (x', 0))
      (r : Talks T S nm sec x' (clientV T S nm sec s x.nx.ask).2 k xf) : Talks T S nm sec x (some s) (k + 1) xf
set_option maxHeartbeats 8000000 in
set_option maxRecDepth 100000 in
theorem talk_calls {T S : Nat → Int} {B : Nat} (X KB : Nat) (nm sec : ByteArray) (b : Bool) (x0 xf : XS) (o0 : Option Stp) (k0 : Nat) (A : Option Addr) (n c : Nat) (w : World) (he : Env T S B w) (hX : ExchAt w X x0 A n c)
    (hK : w.heap[KB]? = some (.cells #[.string nm, .string sec, stpO o0, .bool b] 80 (0, 0))) (hne : X ≠ KB) (hAK : ∀ ad, A = some ad → 0 < n → ad.block ≠ KB) (hBX : B ≤ X) (hBK : B ≤ KB) (hn : nm.size ≤ 1000) (hs : sec.size ≤ 1000) (ht : Talks T S nm sec x0 o0 k0 xf) (hk : k0 ≤ 4) :
    Calls Try.prog 24 #[.pointer (some ⟨X, 0, none⟩), .iface 75 (.pointer (some ⟨KB, 0, none⟩))] w fun e w' => e = .returned (.bool true) ∧ ExchAt w' X xf A n c ∧ Below B w w' := by
  have HN := Lib.hid hn
  have HS := Lib.hid hs
  have HAK := Lib.hid hAK
  have HX0 := Lib.hid hX
  have HK0 := Lib.hid hK
  have HT0 := Lib.hid ht
  have HMT := Lib.hid (show ∀ W, (method 283 75 (.pointer (some ⟨KB, 0, none⟩)) "Answer").run Try.prog W = .ok (114, .pointer (some ⟨KB, 0, none⟩)) W from fun W => by kernel_rfl)
  have hna : ∀ W, (nilAhead 283 75 (.pointer (some ⟨KB, 0, none⟩)) "Answer").run Try.prog W = .ok (some false) W := fun W => by kernel_rfl
  clear hn hs hAK hX hK ht
  go_enter Try.func24, Try.ntmps24
  go_wp2
  go_loopg [5, 6, 7] 5 (fun g _ _ i wr => ∃ (j k : Nat) (x : XS) (o : Option Stp), j + g = 5 ∧ i = .int .i64 j ∧ k < g ∧ Talks T S nm sec x o k xf ∧ ExchAt wr X x A n c ∧ wr.heap[KB]? = some (.cells #[.string nm, .string sec, stpO o, .bool b] 80 (0, 0)) ∧ Below B w wr)
  case atStart => exact ⟨0, k0, x0, o0, rfl, rfl, by omega, HT0.out, HX0.out, HK0.out, Below.refl _ _⟩
  case round =>
    obtain ⟨j, k, x, o, hjg, rfl, hkg, htk, hA, hK, hB⟩ := hrel
    have hj : decide ((j : Int) < 5) = true := decide_eq_true (by omega)
    have HA := Lib.hid hA
    have HK := Lib.hid hK
    have HB := Lib.hid hB
    clear hA hK hB
    cases htk with
    | done h =>
      have q : (xf.st != 1) = true := by simp [h]
      clear h
      go_wp2_with (go_at_call 12; refine (state_calls HA.out.ex).mono ?_; rintro e w' ⟨rfl, hw⟩; rw [hw])
      go_ret
      exact ⟨rfl, HA.out, HB.out⟩
    | @step _ s k _ x' h hx hask hav hr =>
      have HOX := Lib.hid hx
      have HASK := Lib.hid hask
      have HANS := Lib.hid hav
      have HR := Lib.hid hr
      have HHX := Lib.hid h
      obtain ⟨xst, hxst⟩ : ∃ xst, xst = x.st := ⟨_, rfl⟩
      obtain ⟨xa, hxa⟩ : ∃ xa, xa = x.nx.ask := ⟨_, rfl⟩
      have HAV := Lib.hid (show askV x = b64S xa by unfold askV; rw [if_pos h, hxa])
      have HLS := Lib.hid (show (b64S xa).size ≤ 30000000 by rw [line_size, hxa]; omega)
      obtain rfl : xst = 1 := hxst.trans h
      have HXST := Lib.hid hxst
      have HXA := Lib.hid hxa
      clear hx hask hav hr h hxst hxa
      go_wp2_with (go_at_call 12; refine (state_calls HA.out.ex).mono ?_; rintro e w' ⟨rfl, hw⟩; rw [hw, ← HXST.out])
      refine start_ (n := 12) (S := fun w' => True) (ds := []) #[false, false, false, false, false, false, false, false, false, false, false, false] (by kernel_rfl) rfl rfl (trivial) (fun hHeld => ?_)
      generalize hdr : wr.drew = w2 at hHeld ⊢
      have HB2 := Lib.hid (show Below B w w2 from hdr ▸ below_drew1 HB.out)
      have HA2 := Lib.hid (show ExchAt w2 X x A n c from hdr ▸ HA.out.below (below_drew1 (Below.refl _ _)))
      have HK2 := Lib.hid (show w2.heap[KB]? = some (.cells #[.string nm, .string sec, stpO (some s), .bool b] 80 (0, 0)) from hdr ▸ HK.out)
      clear hdr
      refine pure_ (i := 0) (N := some 13) (v := ?_) (a' := ?_) #[true, false, false, false, false, false, false, false, false, false, false, false] rfl rfl (by kernel_rfl) (fun _ _ _ h => h) (Or.inl ⟨by rfl, ?_⟩) ?_ ?_
      rotate_left
      · intro w'
        go_simp
        with_reducible rfl
      rotate_left
      · simp only [Act.put, List.setIfInBounds_toArray, List.set_cons_zero, List.set_cons_succ, i64_w, i32_w]
        rfl
      refine pure_ (i := 1) (N := some 14) (v := ?_) (a' := ?_) #[true, true, false, false, false, false, false, false, false, false, false, false] rfl rfl (by kernel_rfl) (fun _ _ _ h => h) (Or.inl ⟨by rfl, ?_⟩) ?_ ?_
      rotate_left
      · intro w'
        go_simp
        with_reducible rfl
      rotate_left
      · simp only [Act.put, List.setIfInBounds_toArray, List.set_cons_zero, List.set_cons_succ, i64_w, i32_w]
        rfl
      refine pure_ (i := 3) (N := some 16) (v := ?_) (a' := ?_) #[true, true, false, true, false, false, false, false, false, false, false, false] rfl rfl (by kernel_rfl) (fun _ _ _ h => h) (Or.inl ⟨by rfl, ?_⟩) ?_ ?_
      rotate_left
      · intro w'
        go_simp
        with_reducible rfl
      rotate_left
      · simp only [Act.put, List.setIfInBounds_toArray, List.set_cons_zero, List.set_cons_succ, i64_w, i32_w]
        rfl
      refine pure_ (i := 4) (N := some 17) (v := ?_) (a' := ?_) #[true, true, false, true, true, false, false, false, false, false, false, false] rfl rfl (by kernel_rfl) (fun _ _ _ h => h) (Or.inl ⟨by rfl, ?_⟩) ?_ ?_
      rotate_left
      · intro w'
        go_simp
        with_reducible rfl
      rotate_left
      · simp only [Act.put, List.setIfInBounds_toArray, List.set_cons_zero, List.set_cons_succ, i64_w, i32_w]
        rfl
      refine pure_ (i := 5) (N := some 18) (v := ?_) (a' := ?_) #[true, true, false, true, true, true, false, false, false, false, false, false] rfl rfl (by kernel_rfl) (fun _ _ _ h => h) (Or.inl ⟨by rfl, ?_⟩) ?_ ?_
      rotate_left
      · intro w'
        go_simp
        with_reducible rfl
      rotate_left
      · simp only [Act.put, List.setIfInBounds_toArray, List.set_cons_zero, List.set_cons_succ, i64_w, i32_w]
        rfl
      refine one_ (i := 2) (N := some 15) #[true, true, true, true, true, true, false, false, false, false, false, false] rfl rfl (by kernel_rfl) (by decide) (fun K hK => ?_)
      refine goes_ Try.func14 (by kernel_rfl) rfl #[.pointer (some ⟨X, 0, none⟩)] (by rfl) rfl rfl (by simp only [List.map_toArray, List.map_cons, List.map_nil]; rfl) ?_
      with_reducible refine (ask_calls (HA2.out.ex) (by have := HASK.out; omega)).mono ?_
      rintro e w3 ⟨rfl, hb3⟩
      refine ⟨_, rfl, ?_⟩
      have HB3 := Lib.hid (HB2.out.trans (hb3.mono (he.below HB2.out).size))
      have HA3 := Lib.hid (HA2.out.below hb3)
      have HK3 := Lib.hid ((hb3.block _ (blk_lt HK2.out)).trans HK2.out)
      rw [HAV.out]
      refine hK.out _ _ (trivial) (fun hHeld => ?_)
      clear hK K
      refine norm_ (a' := ?_) ?_ ?_
      rotate_left
      · show Act.put _ (some 15) _ = _
        simp only [Act.put, List.setIfInBounds_toArray, List.set_cons_zero, List.set_cons_succ, i64_w, i32_w]
        rfl
      refine one_ (i := 6) (N := some 19) #[true, true, true, true, true, true, true, false, false, false, false, false] rfl rfl (by kernel_rfl) (by decide) (fun K hK => ?_)
      refine call_ 114 #[.pointer (some ⟨KB, 0, none⟩), .string (b64S xa)] (by rfl) rfl ?hrun ?_
      case hrun => go_simp; rw [HMT.out]; rfl
      with_reducible refine (client_calls (T := T) (S := S) s KB nm sec (b64S xa) b (bytesOf xa) 0 w3 (he.below HB3.out).tabs (by have := he.two; have := (he.below HB3.out).size; omega) HK3.out HN.out HS.out HLS.out (un_line xa)).mono ?_
      rintro e w4 ⟨rfl, hK4, hN4⟩
      refine ⟨_, rfl, ?_⟩
      refine hK.out _ _ (trivial) (fun hHeld => ?_)
      clear hK K
      refine norm_ (a' := ?_) ?_ ?_
      rotate_left
      · show Act.put _ (some 19) _ = _
        simp only [Act.put, List.setIfInBounds_toArray, List.set_cons_zero, List.set_cons_succ, i64_w, i32_w]
        rfl
      refine pure_ (i := 7) (N := some 12) (v := ?_) (a' := ?_) #[true, true, true, true, true, true, true, true, false, false, false, false] rfl rfl (by kernel_rfl) (fun _ _ _ h => h) (Or.inl ⟨by rfl, ?_⟩) ?_ ?_
      rotate_left
      · intro w'
        go_simp
        with_reducible rfl
      rotate_left
      · simp only [Act.put, List.setIfInBounds_toArray, List.set_cons_zero, List.set_cons_succ, i64_w, i32_w]
        rfl
      refine pure_ (i := 8) (N := some 20) (v := ?_) (a' := ?_) #[true, true, true, true, true, true, true, true, true, false, false, false] rfl rfl (by kernel_rfl) (fun _ _ _ h => h) (Or.inl ⟨by rfl, ?_⟩) ?_ ?_
      rotate_left
      · intro w'
        go_simp
        with_reducible rfl
      rotate_left
      · simp only [Act.put, List.setIfInBounds_toArray, List.set_cons_zero, List.set_cons_succ, i64_w, i32_w]
        rfl
      refine pure_ (i := 9) (N := some 21) (v := ?_) (a' := ?_) #[true, true, true, true, true, true, true, true, true, true, false, false] rfl rfl (by kernel_rfl) (fun _ _ _ h => h) (Or.inl ⟨by rfl, ?_⟩) ?_ ?_
      rotate_left
      · intro w'
        go_simp
        with_reducible rfl
      rotate_left
      · simp only [Act.put, List.setIfInBounds_toArray, List.set_cons_zero, List.set_cons_succ, i64_w, i32_w]
        rfl
      refine pure_ (i := 10) (N := some 5) (v := ?_) (a' := ?_) #[true, true, true, true, true, true, true, true, true, true, true, false] rfl rfl (by kernel_rfl) (fun _ _ _ h => h) (Or.inl ⟨by rfl, ?_⟩) ?_ ?_
      rotate_left
      · intro w'
        go_simp
        with_reducible rfl
      rotate_left
      · simp only [Act.put, List.setIfInBounds_toArray, List.set_cons_zero, List.set_cons_succ, i64_w, i32_w]
        rfl
      refine pure_ (i := 11) (N := some 6) (v := ?_) (a' := ?_) #[true, true, true, true, true, true, true, true, true, true, true, true] rfl rfl (by kernel_rfl) (fun _ _ _ h => h) (Or.inl ⟨by rfl, ?_⟩) ?_ ?_
      rotate_left
      · intro w'
        go_simp
        with_reducible rfl
      rotate_left
      · simp only [Act.put, List.setIfInBounds_toArray, List.set_cons_zero, List.set_cons_succ, i64_w, i32_w]
        rfl
      refine done_ (by kernel_rfl) ?_

      rw [strOf_bytes]
      have HA4 := Lib.hid (HA3.out.near hN4 hne HAK.out)
      have HB4 := Lib.hid (HB3.out.trans (hN4.below hBK (he.below HB3.out).size))
      rw [strOf_bytes] at hK4
      have HK4 := Lib.hid hK4
      have HE4 := Lib.hid (he.below HB4.out)
      have HAN2 := HANS.out
      rw [← HXA.out] at HAN2
      have HR2 := HR.out
      rw [← HXA.out] at HR2
      have HTS := Lib.hid (show (b64S (clientV T S nm sec s xa).1).size ≤ 30000000 by rw [line_size]; have h1 := clientV_size T S nm sec s xa; have h2 := HN.out; have h3 := HS.out; omega)
      obtain ⟨ln, hln⟩ : ∃ ln, ln = b64S (clientV T S nm sec s xa).1 := ⟨_, rfl⟩
      rw [← hln] at HAN2 HTS
      rw [← hln]
      have HANX := Lib.hid HAN2
      have HRX := Lib.hid HR2
      clear HAN2 HR2 hN4 hK4 hb3 hln
      go_wp2_with fail
      refine (answer_at (T := T) (S := S) (B := B) ln HE4.out HA4.out HOX.out hBX HTS.out).mono ?_
      rintro e w5 ⟨rfl, hA5, hN5⟩
      rw [HANX.out] at hA5 ⊢
      have HA5 := Lib.hid hA5
      have HB5 := Lib.hid (HB4.out.trans (hN5.below hBX HE4.out.size))
      have HK5 := Lib.hid ((hN5.block _ (blk_lt HK4.out) (Ne.symm hne)).trans HK4.out)
      clear hA5 hN5
      go_wp2
      go_roundg (gk - 1)
      case measure => omega
      case rel => exact ⟨j + 1, k, x', _, by omega, by first | rfl | (congr 1; unfold wrap64; omega) | (congr 1; omega), by omega, HRX.out, HA5.out, HK5.out, HB5.out⟩
end Go.Proofs.Yticjpjgfccbhlaa.Sasl
