/- sasl: line, State, User, Ask, Answer by contract. -/
import Derived.Test.YticjpjgfccbhlaaBegin
namespace Go.Proofs.Yticjpjgfccbhlaa.Sasl
open Go.RowKit Go.Proofs.YticjpjgfccbhlaaW.PrintWords Go.Proofs.YticjpjgfccbhlaaW.PrintLast Go.Proofs.YticjpjgfccbhlaaW.PrintMore Go.Proofs.Yticjpjgfccbhlaa.PSaslBoth Go.Proofs.Yticjpjgfccbhlaa.Hash
open Go.Proofs.Yticjpjgfccbhlaa.Code (unV b64 base64_calls)
attribute [local go_sem] max2_int min2_int max_two min_two max_three min_three max_four min_four
set_option linter.unusedVariables false
set_option linter.unusedSimpArgs false
/-- a text in base64 -/
def b64S (t : ByteArray) : ByteArray := strOfNums (b64 (bytesOf t))
theorem conv_b64 (t : ByteArray) (w : World) (ht : t.size ≤ 100000000) : Calls Try.prog 32 #[.slice (some ⟨w.heap.size, 0, none⟩) t.size (grownCap w t.size 0 5)] (Lib.bytesWorld w 5 t) fun e w' => e = .returned (.string (b64S t)) ∧ Below w.heap.size w w' := by
  refine (base64_calls (some ⟨w.heap.size, 0, none⟩) (grownCap w t.size 0 5) t.size (bytesOf t) (Lib.bytesWorld w 5 t) (bytes_len t) (bytes_C w t (by omega)) (grownCap_ge w t.size 0 5) (by omega) (bytes_range t)).mono ?_
  rintro e w' ⟨rfl, hb⟩
  have h := bytes_below (Below.refl w.heap.size w) (Nat.le_refl _) 5 t
  exact ⟨rfl, h.trans (hb.mono h.size)⟩
theorem conv_run (t : ByteArray) (w : World) : (convert 9 73 (.string t)).run Try.prog w = .ok (.slice (some ⟨w.heap.size, 0, none⟩) t.size (grownCap w t.size 0 5)) (Lib.bytesWorld w 5 t) := Lib.run_convert_string_bytes (P := Try.prog) w 9 73 5 t Try.underlying9 Try.underlying73 Try.underlying5
set_option maxRecDepth 100000 in
theorem line_calls (t : ByteArray) (w : World) (ht : t.size ≤ 100000000) : Calls Try.prog 34 #[.string t] w fun e w' => e = .returned (.string (b64S t)) ∧ Below w.heap.size w w' := by
  have hcv := conv_run t w
  have HL := Lib.hid (conv_b64 t w ht)
  go_enter Try.func34, Try.ntmps34
  go_wp2_with fail
  refine HL.out.mono ?_
  rintro e w1 ⟨rfl, hb1⟩
  have HB1 := Lib.hid hb1
  clear hb1 hcv
  go_wp2
  go_ret
  exact ⟨rfl, HB1.out⟩
theorem Exch.cell1 {w : World} {X : Nat} {x : XS} (h : Exch w X x) : w.cell? ⟨X, 1, none⟩ = some (.int .i64 x.st) := by
  obtain ⟨A, n, c, h⟩ := h
  exact blk_cell h.blk 1
theorem Exch.cell2 {w : World} {X : Nat} {x : XS} (h : Exch w X x) : w.cell? ⟨X, 2, none⟩ = some x.nx.val := by
  obtain ⟨A, n, c, h⟩ := h
  exact blk_cell h.blk 2
theorem Exch.cell3 {w : World} {X : Nat} {x : XS} (h : Exch w X x) : w.cell? ⟨X, 3, none⟩ = some (.string x.nm) := by
  obtain ⟨A, n, c, h⟩ := h
  exact blk_cell h.blk 3
set_option maxRecDepth 100000 in
theorem state_cell (X : Nat) (st : Int) (w : World) (h : w.cell? ⟨X, 1, none⟩ = some (.int .i64 st)) : Calls Try.prog 12 #[.pointer (some ⟨X, 0, none⟩)] w fun e w' => e = .returned (.int .i64 st) ∧ w' = w := by
  have hu58 := Try.underlying50
  go_enter Try.func12, Try.ntmps12
  go_wp2
  go_ret
  exact ⟨rfl, rfl⟩
theorem state_calls {w : World} {X : Nat} {x : XS} (h : Exch w X x) : Calls Try.prog 12 #[.pointer (some ⟨X, 0, none⟩)] w fun e w' => e = .returned (.int .i64 x.st) ∧ w' = w := state_cell X x.st w h.cell1
set_option maxRecDepth 100000 in
theorem state_nil (w : World) : Calls Try.prog 12 #[.pointer none] w fun e w' => e = .returned (.int .i64 0) ∧ w' = w := by
  go_enter Try.func12, Try.ntmps12
  go_wp2
  go_ret
  exact ⟨rfl, rfl⟩
def userV (x : XS) : ByteArray := if x.st = 2 then x.nm else ⟨#[]⟩
set_option maxRecDepth 100000 in
theorem user_calls {w : World} {X : Nat} {x : XS} (hX : Exch w X x) : Calls Try.prog 16 #[.pointer (some ⟨X, 0, none⟩)] w fun e w' => e = .returned (.string (userV x)) ∧ w' = w := by
  have hu58 := Try.underlying50
  have HS := Lib.hid (state_calls hX)
  have h3 := hX.cell3
  obtain ⟨us, st, nx, nm⟩ := x
  simp only at h3 HS
  by_cases hs : st = 2
  · subst hs
    go_enter Try.func16, Try.ntmps16
    go_wp2_with (go_at_call 12; refine HS.out.mono ?_; rintro e w1 ⟨rfl, rfl⟩)
    go_ret
    exact ⟨rfl, rfl⟩
  · have q : (st != 2) = true := by simp [hs]
    have hv : userV ⟨us, st, nx, nm⟩ = ⟨#[]⟩ := if_neg hs
    have HV := Lib.hid hv
    clear hv
    go_enter Try.func16, Try.ntmps16
    go_wp2_with (go_at_call 12; refine HS.out.mono ?_; rintro e w1 ⟨rfl, rfl⟩)
    go_ret
    exact ⟨by rw [HV.out]; rfl, rfl⟩
def askV (x : XS) : ByteArray := if x.st = 1 then b64S x.nx.ask else ⟨#[]⟩
theorem call_fa (s : Stp) (as_ : Array Value) (W : World) : (callFunc s.fa as_).run Try.prog W = .ok (.enter s.fa as_) W := by cases s <;> kernel_rfl
set_option maxHeartbeats 2000000 in
set_option maxRecDepth 100000 in
theorem ask_calls {w : World} {X : Nat} {x : XS} (hX : Exch w X x) (hk : x.nx.ask.size ≤ 100000000) : Calls Try.prog 14 #[.pointer (some ⟨X, 0, none⟩)] w fun e w' => e = .returned (.string (askV x)) ∧ Below w.heap.size w w' := by
  have hu58 := Try.underlying50
  have HS := Lib.hid (state_calls hX)
  have h2 := hX.cell2
  obtain ⟨us, st, nx, nm⟩ := x
  simp only at h2 HS hk
  by_cases hs : st = 1
  · subst hs
    have HV := Lib.hid (show askV ⟨us, 1, nx, nm⟩ = b64S nx.ask from rfl)
    rw [nx.val_eq] at h2
    have hmt := meth_asks nx
    have hcf := call_fa nx
    have HA := Lib.hid (asks_calls nx w)
    obtain ⟨ty, hty⟩ : ∃ ty, ty = nx.ty := ⟨_, rfl⟩
    obtain ⟨recv, hrecv⟩ : ∃ recv, recv = nx.recv := ⟨_, rfl⟩
    obtain ⟨fa, hfa⟩ : ∃ fa, fa = nx.fa := ⟨_, rfl⟩
    obtain ⟨ak, hak⟩ : ∃ ak, ak = nx.ask := ⟨_, rfl⟩
    rw [← hty, ← hrecv] at h2 hmt
    rw [← hfa] at hmt HA hcf
    rw [← hrecv, ← hak] at HA
    rw [← hak] at HV hk
    have hcv := conv_run ak
    have HL := Lib.hid (fun W => conv_b64 ak W hk)
    clear hty hrecv hfa hak hX
    go_enter Try.func14, Try.ntmps14
    go_wp2_with (first | (go_at_call 12; refine HS.out.mono ?_; rintro e w1 ⟨rfl, rfl⟩) | (go_at_call 32; refine (HL.out _).mono ?_; rintro e w3 ⟨rfl, hb3⟩; have HB3 := Lib.hid hb3; clear hb3) | (refine HA.out.mono ?_; rintro e w2 ⟨rfl, hb2⟩; have HB2 := Lib.hid hb2; clear hb2))
    go_ret
    exact ⟨by rw [HV.out]; rfl, HB2.out.trans (HB3.out.mono HB2.out.size)⟩
  · have q : (st != 1) = true := by simp [hs]
    have hv : askV ⟨us, st, nx, nm⟩ = ⟨#[]⟩ := if_neg hs
    have HV := Lib.hid hv
    clear hv
    go_enter Try.func14, Try.ntmps14
    go_wp2_with (go_at_call 12; refine HS.out.mono ?_; rintro e w1 ⟨rfl, rfl⟩)
    go_ret
    exact ⟨by rw [HV.out]; rfl, Below.refl _ _⟩
def starL : ByteArray := ⟨#[42]⟩
/-- a line is answered -/
def answerV (T S : Nat → Int) (x : XS) (t : ByteArray) : XS × Int :=
  if x.st = 0 then (x, 1) else if x.st ≠ 1 then (x, 6) else if t = starL then ({ x with st := 4 }, 0) else
    if (readV T S x t).2 ≠ 0 then ({ (readV T S x t).1 with st := 3 }, (readV T S x t).2) else readV T S x t
theorem Exch.put1 {w : World} {X : Nat} {x : XS} (h : Exch w X x) (k : Int) : Exch (w.setCell ⟨X, 1, none⟩ (.int .i64 k)) X { x with st := k } ∧ Near X w (w.setCell ⟨X, 1, none⟩ (.int .i64 k)) := by
  obtain ⟨A, n, c, h⟩ := h
  exact ⟨⟨A, n, c, h.put ((Near.refl X w).setCell 1 (.int .i64 k)) rfl (blk_put h.blk 1 (.int .i64 k) rfl)⟩, (Near.refl X w).setCell 1 (.int .i64 k)⟩
theorem Exch.frozen1 {w : World} {X : Nat} {x : XS} (h : Exch w X x) : w.frozen? ⟨X, 1, none⟩ = false := by
  obtain ⟨A, n, c, h⟩ := h
  exact blk_frozen h.blk 1
set_option maxHeartbeats 2000000 in
set_option maxRecDepth 100000 in
theorem answer_calls {T S : Nat → Int} {B : Nat} {w : World} {X : Nat} {x : XS} (t : ByteArray) (he : Env T S B w) (hX : Exch w X x) (hx : OkX x) (hBX : B ≤ X) (ht : t.size ≤ 30000000) :
    Calls Try.prog 18 #[.pointer (some ⟨X, 0, none⟩), .string t] w fun e w' => e = .returned (.int .i64 (answerV T S x t).2) ∧ Exch w' X (answerV T S x t).1 ∧ Near X w w' := by
  have hu58 := Try.underlying50
  have HS := Lib.hid (state_calls hX)
  have HX := Lib.hid hX
  have HR := Lib.hid (read_calls X x t w he hX hx hBX ht)
  obtain ⟨st, hst⟩ : ∃ st, st = x.st := ⟨_, rfl⟩
  rw [← hst] at HS
  by_cases h0 : st = 0
  · have HV := Lib.hid (show answerV T S x t = (x, 1) from if_pos (by omega))
    subst h0
    go_enter Try.func18, Try.ntmps18
    go_wp2_with (go_at_call 12; refine HS.out.mono ?_; rintro e w1 ⟨rfl, rfl⟩)
    go_ret
    exact ⟨by rw [HV.out]; rfl, by rw [HV.out]; exact HX.out, Near.refl _ _⟩
  by_cases h1 : st = 1
  · subst h1
    by_cases hq : t = starL
    · have HV := Lib.hid (show answerV T S x t = ({ x with st := 4 }, 0) by unfold answerV; rw [if_neg (by omega), if_neg (by omega), if_pos hq])
      have q : (t.toList == [42]) = true := by rw [hq, show starL = ⟨[42].toArray⟩ from rfl, ByteArray.toList_eq]; rfl
      have y1 := hX.cell1
      rw [← hst] at y1
      have yf := hX.frozen1
      clear hq hst hX
      go_enter Try.func18, Try.ntmps18
      go_wp2_with (go_at_call 12; refine HS.out.mono ?_; rintro e w1 ⟨rfl, rfl⟩)
      go_ret
      exact ⟨by rw [HV.out]; rfl, by rw [HV.out]; exact (HX.out.put1 4).1, (HX.out.put1 4).2⟩
    · have q : (t.toList == [42]) = false := ne_list t [42] hq
      obtain ⟨r, hr⟩ : ∃ r, r = readV T S x t := ⟨_, rfl⟩
      have HV := Lib.hid (show answerV T S x t = if r.2 ≠ 0 then ({ r.1 with st := 3 }, r.2) else r by unfold answerV; rw [if_neg (by omega), if_neg (by omega), if_neg hq, ← hr])
      rw [← hr] at HR
      obtain ⟨rx, re⟩ := r
      clear hq hst hX hr
      by_cases hre : re = 0
      · subst hre
        go_enter Try.func18, Try.ntmps18
        go_wp2_with (first | (go_at_call 12; refine HS.out.mono ?_; rintro e w1 ⟨rfl, rfl⟩) | (go_at_call 26; refine HR.out.mono ?_; rintro e w2 ⟨rfl, hE2, hN2⟩; have HE2 := Lib.hid hE2; have HN2 := Lib.hid hN2; clear hE2 hN2))
        go_ret
        exact ⟨by rw [HV.out]; rfl, by rw [HV.out]; exact HE2.out, HN2.out⟩
      · have q2 : (re != 0) = true := by simp [hre]
        go_enter Try.func18, Try.ntmps18
        go_wp2_with (first | (go_at_call 12; refine HS.out.mono ?_; rintro e w1 ⟨rfl, rfl⟩) | (go_at_call 26; refine HR.out.mono ?_; rintro e w2 ⟨rfl, hE2, hN2⟩; have y1 := hE2.cell1; have yf := hE2.frozen1; have HE2 := Lib.hid hE2; have HN2 := Lib.hid hN2; clear hE2 hN2))
        go_ret
        exact ⟨by rw [HV.out, if_pos hre]; rfl, by rw [HV.out, if_pos hre]; exact (HE2.out.put1 3).1, HN2.out.setCell 1 _⟩
  · have q0 : (st == 0) = false := by simp [h0]
    have q1 : (st == 1) = false := by simp [h1]
    have HV := Lib.hid (show answerV T S x t = (x, 6) by unfold answerV; rw [if_neg (by omega), if_pos (by omega)])
    clear hst hX h0 h1
    go_enter Try.func18, Try.ntmps18
    go_wp2_with (go_at_call 12; refine HS.out.mono ?_; rintro e w1 ⟨rfl, rfl⟩)
    go_ret
    exact ⟨by rw [HV.out]; rfl, by rw [HV.out]; exact HX.out, Near.refl _ _⟩
end Go.Proofs.Yticjpjgfccbhlaa.Sasl
