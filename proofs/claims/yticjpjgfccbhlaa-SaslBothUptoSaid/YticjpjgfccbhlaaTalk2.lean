/- sasl (plain seat): a talk turns no block but the exchange's and the client's. (Turned from Talk by tools/stalk2.py.) -/
import Derived.Test.YticjpjgfccbhlaaBothP
import Derived.Deep.LoopGhost
namespace Go.Proofs.Yticjpjgfccbhlaa.Sasl
open Go.RowKit Go.Proofs.YticjpjgfccbhlaaW.PrintWords Go.Proofs.YticjpjgfccbhlaaW.PrintLast Go.Proofs.YticjpjgfccbhlaaW.PrintMore Go.Proofs.Yticjpjgfccbhlaa.PSaslBoth Go.Proofs.Yticjpjgfccbhlaa.Hash
open Go.Proofs.Yticjpjgfccbhlaa.Code (unV)
attribute [local go_sem] max2_int min2_int max_two min_two max_three min_three max_four min_four
set_option linter.unusedVariables false
set_option linter.unusedSimpArgs false
/-- no older block but two is turned -/
structure Near2 (g h : Nat) (w w' : World) : Prop where
  os : w'.os = w.os
  tape : w'.tape = w.tape
  output : w'.output = w.output
  size : w.heap.size ≤ w'.heap.size
  block : ∀ k, k < w.heap.size → k ≠ g → k ≠ h → w'.heap[k]? = w.heap[k]?
theorem Near2.refl (g h : Nat) (w : World) : Near2 g h w w := ⟨rfl, rfl, rfl, Nat.le_refl _, fun _ _ _ _ => rfl⟩
theorem Near2.trans {g h : Nat} {w w1 w2 : World} (a : Near2 g h w w1) (b : Near2 g h w1 w2) : Near2 g h w w2 :=
  ⟨b.os.trans a.os, b.tape.trans a.tape, b.output.trans a.output, Nat.le_trans a.size b.size, fun k hk h1 h2 => (b.block k (Nat.lt_of_lt_of_le hk a.size) h1 h2).trans (a.block k hk h1 h2)⟩
theorem Near2.of_below {g h : Nat} {w w1 : World} (a : Below w.heap.size w w1) : Near2 g h w w1 := ⟨a.os, a.tape, a.output, a.size, fun k hk _ _ => a.block k hk⟩
theorem Near2.of_left {g h : Nat} {w w1 : World} (a : Near g w w1) : Near2 g h w w1 := ⟨a.os, a.tape, a.output, a.size, fun k hk h1 _ => a.block k hk h1⟩
theorem Near2.of_right {g h : Nat} {w w1 : World} (a : Near h w w1) : Near2 g h w w1 := ⟨a.os, a.tape, a.output, a.size, fun k hk _ h2 => a.block k hk h2⟩
theorem Near2.drew {g h : Nat} {w w1 : World} (a : Near2 g h w w1) : Near2 g h w w1.drew := ⟨a.os, a.tape, a.output, a.size, a.block⟩
theorem Near2.below {g h B : Nat} {w w1 : World} (a : Near2 g h w w1) (hg : B ≤ g) (hh : B ≤ h) (hB : B ≤ w.heap.size) : Below B w w1 := ⟨a.os, a.tape, a.output, a.size, fun k hk => a.block k (by omega) (by omega) (by omega)⟩
theorem ExchAt.near2 {w w1 : World} {X g h : Nat} {x : XS} {A : Option Addr} {n c : Nat} (e : ExchAt w X x A n c) (a : Near2 g h w w1) (h1 : X ≠ g) (h2 : X ≠ h) (hA : ∀ ad, A = some ad → 0 < n → ad.block ≠ g ∧ ad.block ≠ h) : ExchAt w1 X x A n c := by
  have hr := e.us
  refine ⟨(a.block X (blk_lt e.blk) h1 h2).trans e.blk, ⟨hr.1, hr.2.1, fun hn => ?_⟩, e.len, e.cap, e.apart⟩
  obtain ⟨ad, he, hc⟩ := hr.2.2 hn
  refine ⟨ad, he, fun j p hj => ?_⟩
  obtain ⟨cs, k1, k2, k3⟩ := hc j p hj
  refine ⟨cs, k1, k2, fun i u hu => ?_⟩
  have hcell := k3 i u hu
  have hlt := World.block_lt_of_cell? w _ hcell
  have hb := a.block _ hlt (by rw [add_block]; exact (hA ad he hn).1) (by rw [add_block]; exact (hA ad he hn).2)
  have e2 : w1.cell? (ad.add (j * k40.sz + i)) = w.cell? (ad.add (j * k40.sz + i)) := by
    simp only [World.cell?, hb]
  exact e2.trans hcell
/-- a talk with an exchange that does not ask -/
theorem talk_over (X : Nat) (K : Value) (x : XS) (w : World) (hX : Exch w X x) (h : x.st ≠ 1) :
    Calls Try.prog 24 #[.pointer (some ⟨X, 0, none⟩), K] w fun e w' => e = .returned (.bool true) ∧ w' = w := by
  have HS := Lib.hid (state_calls hX)
  have q : (x.st != 1) = true := by simp [h]
  have HQ := Lib.hid h
  clear hX h
  go_enter Try.func24, Try.ntmps24
  go_wp2
  go_loopg [5, 6, 7] 5 (fun g _ _ i wr => g = 5 ∧ i = .int .i64 0 ∧ wr = w)
  case atStart => exact ⟨rfl, rfl, rfl⟩
  case round =>
    obtain ⟨rfl, rfl, rfl⟩ := hrel
    go_wp2_with (go_at_call 12; refine HS.out.mono ?_; rintro e w' ⟨rfl, hw⟩; rw [hw])
    go_ret
    exact ⟨rfl, rfl⟩
set_option maxHeartbeats 8000000 in
set_option maxRecDepth 100000 in
theorem talk_near {T S : Nat → Int} {B : Nat} (X KB : Nat) (nm sec : ByteArray) (b : Bool) (x0 xf : XS) (o0 : Option Stp) (k0 : Nat) (A : Option Addr) (n c : Nat) (w : World) (he : Env T S B w) (hX : ExchAt w X x0 A n c)
    (hK : w.heap[KB]? = some (.cells #[.string nm, .string sec, stpO o0, .bool b] 80 (0, 0))) (hne : X ≠ KB) (hAK : ∀ ad, A = some ad → 0 < n → ad.block ≠ KB) (hBX : B ≤ X) (hBK : B ≤ KB) (hn : nm.size ≤ 1000) (hs : sec.size ≤ 1000) (ht : Talks T S nm sec x0 o0 k0 xf) (hk : k0 ≤ 4) :
    Calls Try.prog 24 #[.pointer (some ⟨X, 0, none⟩), .iface 75 (.pointer (some ⟨KB, 0, none⟩))] w fun e w' => e = .returned (.bool true) ∧ ExchAt w' X xf A n c ∧ Near2 X KB w w' := by
  have HN := Lib.hid hn
  have HS := Lib.hid hs
  have HAK := Lib.hid hAK
  have HX0 := Lib.hid hX
  have HK0 := Lib.hid hK
  have HT0 := Lib.hid ht
  have HMT := Lib.hid (show ∀ W, (method 283 75 (.pointer (some ⟨KB, 0, none⟩)) "Answer").run Try.prog W = .ok (114, .pointer (some ⟨KB, 0, none⟩)) W from fun W => by kernel_rfl)
  have hna : ∀ W, (nilAhead 283 75 (.pointer (some ⟨KB, 0, none⟩)) "Answer").run Try.prog W = .ok (some false) W := fun W => by kernel_rfl
  clear hn hs hAK hX hK ht
  go_enter Try.func24, Try.ntmps24
  go_wp2
  go_loopg [5, 6, 7] 5 (fun g _ _ i wr => ∃ (j k : Nat) (x : XS) (o : Option Stp), j + g = 5 ∧ i = .int .i64 j ∧ k < g ∧ Talks T S nm sec x o k xf ∧ ExchAt wr X x A n c ∧ wr.heap[KB]? = some (.cells #[.string nm, .string sec, stpO o, .bool b] 80 (0, 0)) ∧ Near2 X KB w wr)
  case atStart => exact ⟨0, k0, x0, o0, rfl, rfl, by omega, HT0.out, HX0.out, HK0.out, Near2.refl _ _ _⟩
  case round =>
    obtain ⟨j, k, x, o, hjg, rfl, hkg, htk, hA, hK, hB⟩ := hrel
    have hj : decide ((j : Int) < 5) = true := decide_eq_true (by omega)
    have HA := Lib.hid hA
    have HK := Lib.hid hK
    have HB := Lib.hid hB
    clear hA hK hB
    cases htk with
    | done h =>
      have q : (xf.st != 1) = true := by simp [h]
      clear h
      go_wp2_with (go_at_call 12; refine (state_calls HA.out.ex).mono ?_; rintro e w' ⟨rfl, hw⟩; rw [hw])
      go_ret
      exact ⟨rfl, HA.out, HB.out⟩
    | @step _ s k _ x' h hx hask hav hr =>
      have HOX := Lib.hid hx
      have HASK := Lib.hid hask
      have HANS := Lib.hid hav
      have HR := Lib.hid hr
      have HHX := Lib.hid h
      obtain ⟨xst, hxst⟩ : ∃ xst, xst = x.st := ⟨_, rfl⟩
      obtain ⟨xa, hxa⟩ : ∃ xa, xa = x.nx.ask := ⟨_, rfl⟩
      have HAV := Lib.hid (show askV x = b64S xa by unfold askV; rw [if_pos h, hxa])
      have HLS := Lib.hid (show (b64S xa).size ≤ 30000000 by rw [line_size, hxa]; omega)
      obtain rfl : xst = 1 := hxst.trans h
      have HXST := Lib.hid hxst
      have HXA := Lib.hid hxa
      clear hx hask hav hr h hxst hxa
      go_wp2_with (go_at_call 12; refine (state_calls HA.out.ex).mono ?_; rintro e w' ⟨rfl, hw⟩; rw [hw, ← HXST.out])
      refine start_ (n := 12) (S := fun w' => True) (ds := []) #[false, false, false, false, false, false, false, false, false, false, false, false] (by kernel_rfl) rfl rfl (trivial) (fun hHeld => ?_)
      generalize hdr : wr.drew = w2 at hHeld ⊢
      have HB2 := Lib.hid (show Near2 X KB w w2 from hdr ▸ HB.out.drew)
      have HA2 := Lib.hid (show ExchAt w2 X x A n c from hdr ▸ HA.out.below (below_drew1 (Below.refl _ _)))
      have HK2 := Lib.hid (show w2.heap[KB]? = some (.cells #[.string nm, .string sec, stpO (some s), .bool b] 80 (0, 0)) from hdr ▸ HK.out)
      clear hdr
      refine pure_ (i := 0) (N := some 13) (v := ?_) (a' := ?_) #[true, false, false, false, false, false, false, false, false, false, false, false] rfl rfl (by kernel_rfl) (fun _ _ _ h => h) (Or.inl ⟨by rfl, ?_⟩) ?_ ?_
      rotate_left
      · intro w'
        go_simp
        with_reducible rfl
      rotate_left
      · simp only [Act.put, List.setIfInBounds_toArray, List.set_cons_zero, List.set_cons_succ, i64_w, i32_w]
        rfl
      refine pure_ (i := 1) (N := some 14) (v := ?_) (a' := ?_) #[true, true, false, false, false, false, false, false, false, false, false, false] rfl rfl (by kernel_rfl) (fun _ _ _ h => h) (Or.inl ⟨by rfl, ?_⟩) ?_ ?_
      rotate_left
      · intro w'
        go_simp
        with_reducible rfl
      rotate_left
      · simp only [Act.put, List.setIfInBounds_toArray, List.set_cons_zero, List.set_cons_succ, i64_w, i32_w]
        rfl
      refine pure_ (i := 3) (N := some 16) (v := ?_) (a' := ?_) #[true, true, false, true, false, false, false, false, false, false, false, false] rfl rfl (by kernel_rfl) (fun _ _ _ h => h) (Or.inl ⟨by rfl, ?_⟩) ?_ ?_
      rotate_left
      · intro w'
        go_simp
        with_reducible rfl
      rotate_left
      · simp only [Act.put, List.setIfInBounds_toArray, List.set_cons_zero, List.set_cons_succ, i64_w, i32_w]
        rfl
      refine pure_ (i := 4) (N := some 17) (v := ?_) (a' := ?_) #[true, true, false, true, true, false, false, false, false, false, false, false] rfl rfl (by kernel_rfl) (fun _ _ _ h => h) (Or.inl ⟨by rfl, ?_⟩) ?_ ?_
      rotate_left
      · intro w'
        go_simp
        with_reducible rfl
      rotate_left
      · simp only [Act.put, List.setIfInBounds_toArray, List.set_cons_zero, List.set_cons_succ, i64_w, i32_w]
        rfl
      refine pure_ (i := 5) (N := some 18) (v := ?_) (a' := ?_) #[true, true, false, true, true, true, false, false, false, false, false, false] rfl rfl (by kernel_rfl) (fun _ _ _ h => h) (Or.inl ⟨by rfl, ?_⟩) ?_ ?_
      rotate_left
      · intro w'
        go_simp
        with_reducible rfl
      rotate_left
      · simp only [Act.put, List.setIfInBounds_toArray, List.set_cons_zero, List.set_cons_succ, i64_w, i32_w]
        rfl
      refine one_ (i := 2) (N := some 15) #[true, true, true, true, true, true, false, false, false, false, false, false] rfl rfl (by kernel_rfl) (by decide) (fun K hK => ?_)
      refine goes_ Try.func14 (by kernel_rfl) rfl #[.pointer (some ⟨X, 0, none⟩)] (by rfl) rfl rfl (by simp only [List.map_toArray, List.map_cons, List.map_nil]; rfl) ?_
      with_reducible refine (ask_calls (HA2.out.ex) (by have := HASK.out; omega)).mono ?_
      rintro e w3 ⟨rfl, hb3⟩
      refine ⟨_, rfl, ?_⟩
      have HB3 := Lib.hid (HB2.out.trans (Near2.of_below hb3))
      have HA3 := Lib.hid (HA2.out.below hb3)
      have HK3 := Lib.hid ((hb3.block _ (blk_lt HK2.out)).trans HK2.out)
      rw [HAV.out]
      refine hK.out _ _ (trivial) (fun hHeld => ?_)
      clear hK K
      refine norm_ (a' := ?_) ?_ ?_
      rotate_left
      · show Act.put _ (some 15) _ = _
        simp only [Act.put, List.setIfInBounds_toArray, List.set_cons_zero, List.set_cons_succ, i64_w, i32_w]
        rfl
      refine one_ (i := 6) (N := some 19) #[true, true, true, true, true, true, true, false, false, false, false, false] rfl rfl (by kernel_rfl) (by decide) (fun K hK => ?_)
      refine call_ 114 #[.pointer (some ⟨KB, 0, none⟩), .string (b64S xa)] (by rfl) rfl ?hrun ?_
      case hrun => go_simp; rw [HMT.out]; rfl
      with_reducible refine (client_calls (T := T) (S := S) s KB nm sec (b64S xa) b (bytesOf xa) 0 w3 (he.below (HB3.out.below hBX hBK he.size)).tabs (by have := he.two; have := (he.below (HB3.out.below hBX hBK he.size)).size; omega) HK3.out HN.out HS.out HLS.out (un_line xa)).mono ?_
      rintro e w4 ⟨rfl, hK4, hN4⟩
      refine ⟨_, rfl, ?_⟩
      refine hK.out _ _ (trivial) (fun hHeld => ?_)
      clear hK K
      refine norm_ (a' := ?_) ?_ ?_
      rotate_left
      · show Act.put _ (some 19) _ = _
        simp only [Act.put, List.setIfInBounds_toArray, List.set_cons_zero, List.set_cons_succ, i64_w, i32_w]
        rfl
      refine pure_ (i := 7) (N := some 12) (v := ?_) (a' := ?_) #[true, true, true, true, true, true, true, true, false, false, false, false] rfl rfl (by kernel_rfl) (fun _ _ _ h => h) (Or.inl ⟨by rfl, ?_⟩) ?_ ?_
      rotate_left
      · intro w'
        go_simp
        with_reducible rfl
      rotate_left
      · simp only [Act.put, List.setIfInBounds_toArray, List.set_cons_zero, List.set_cons_succ, i64_w, i32_w]
        rfl
      refine pure_ (i := 8) (N := some 20) (v := ?_) (a' := ?_) #[true, true, true, true, true, true, true, true, true, false, false, false] rfl rfl (by kernel_rfl) (fun _ _ _ h => h) (Or.inl ⟨by rfl, ?_⟩) ?_ ?_
      rotate_left
      · intro w'
        go_simp
        with_reducible rfl
      rotate_left
      · simp only [Act.put, List.setIfInBounds_toArray, List.set_cons_zero, List.set_cons_succ, i64_w, i32_w]
        rfl
      refine pure_ (i := 9) (N := some 21) (v := ?_) (a' := ?_) #[true, true, true, true, true, true, true, true, true, true, false, false] rfl rfl (by kernel_rfl) (fun _ _ _ h => h) (Or.inl ⟨by rfl, ?_⟩) ?_ ?_
      rotate_left
      · intro w'
        go_simp
        with_reducible rfl
      rotate_left
      · simp only [Act.put, List.setIfInBounds_toArray, List.set_cons_zero, List.set_cons_succ, i64_w, i32_w]
        rfl
      refine pure_ (i := 10) (N := some 5) (v := ?_) (a' := ?_) #[true, true, true, true, true, true, true, true, true, true, true, false] rfl rfl (by kernel_rfl) (fun _ _ _ h => h) (Or.inl ⟨by rfl, ?_⟩) ?_ ?_
      rotate_left
      · intro w'
        go_simp
        with_reducible rfl
      rotate_left
      · simp only [Act.put, List.setIfInBounds_toArray, List.set_cons_zero, List.set_cons_succ, i64_w, i32_w]
        rfl
      refine pure_ (i := 11) (N := some 6) (v := ?_) (a' := ?_) #[true, true, true, true, true, true, true, true, true, true, true, true] rfl rfl (by kernel_rfl) (fun _ _ _ h => h) (Or.inl ⟨by rfl, ?_⟩) ?_ ?_
      rotate_left
      · intro w'
        go_simp
        with_reducible rfl
      rotate_left
      · simp only [Act.put, List.setIfInBounds_toArray, List.set_cons_zero, List.set_cons_succ, i64_w, i32_w]
        rfl
      refine done_ (by kernel_rfl) ?_

      rw [strOf_bytes]
      have HA4 := Lib.hid (HA3.out.near hN4 hne HAK.out)
      have HB4 := Lib.hid (HB3.out.trans (Near2.of_right hN4))
      rw [strOf_bytes] at hK4
      have HK4 := Lib.hid hK4
      have HE4 := Lib.hid (he.below (HB4.out.below hBX hBK he.size))
      have HAN2 := HANS.out
      rw [← HXA.out] at HAN2
      have HR2 := HR.out
      rw [← HXA.out] at HR2
      have HTS := Lib.hid (show (b64S (clientV T S nm sec s xa).1).size ≤ 30000000 by rw [line_size]; have h1 := clientV_size T S nm sec s xa; have h2 := HN.out; have h3 := HS.out; omega)
      obtain ⟨ln, hln⟩ : ∃ ln, ln = b64S (clientV T S nm sec s xa).1 := ⟨_, rfl⟩
      rw [← hln] at HAN2 HTS
      rw [← hln]
      have HANX := Lib.hid HAN2
      have HRX := Lib.hid HR2
      clear HAN2 HR2 hN4 hK4 hb3 hln
      go_wp2_with fail
      refine (answer_at (T := T) (S := S) (B := B) ln HE4.out HA4.out HOX.out hBX HTS.out).mono ?_
      rintro e w5 ⟨rfl, hA5, hN5⟩
      rw [HANX.out] at hA5 ⊢
      have HA5 := Lib.hid hA5
      have HB5 := Lib.hid (HB4.out.trans (Near2.of_left hN5))
      have HK5 := Lib.hid ((hN5.block _ (blk_lt HK4.out) (Ne.symm hne)).trans HK4.out)
      clear hA5 hN5
      go_wp2
      go_roundg (gk - 1)
      case measure => omega
      case rel => exact ⟨j + 1, k, x', _, by omega, by first | rfl | (congr 1; unfold wrap64; omega) | (congr 1; omega), by omega, HRX.out, HA5.out, HK5.out, HB5.out⟩
end Go.Proofs.Yticjpjgfccbhlaa.Sasl
