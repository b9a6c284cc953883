/- Turned from wip/sasl by tools/saslturn.py: Base64 Reader Taker Unbase64. -/
import Derived.Test.YticjpjgfccbhlaaFns
import Derived.Lib.Hide
import Derived.Deep.AppendLies
import Derived.RegionTactic
import Derived.Deep.CutBlock
import Derived.Deep.DeepCutAuto
import Derived.ChangeAlike
/- code.Base64 by contract. -/
namespace Go.Proofs.Yticjpjgfccbhlaa.Code
open Go.RowKit Go.Proofs.YticjpjgfccbhlaaW.PrintWords Go.Proofs.YticjpjgfccbhlaaW.PrintLast Go.Proofs.YticjpjgfccbhlaaW.PrintMore Go.Proofs.Yticjpjgfccbhlaa.PSaslBoth
attribute [local go_sem] max2_int min2_int max_two min_two max_three min_three max_four min_four
set_option linter.unusedVariables false
set_option linter.unusedSimpArgs false
def L64 : ByteArray := ⟨#[65, 66, 67, 68, 69, 70, 71, 72, 73, 74, 75, 76, 77, 78, 79, 80, 81, 82, 83, 84, 85, 86, 87, 88, 89, 90, 97, 98, 99, 100, 101, 102, 103, 104, 105, 106, 107, 108, 109, 110, 111, 112, 113, 114, 115, 116, 117, 118, 119, 120, 121, 122, 48, 49, 50, 51, 52, 53, 54, 55, 56, 57, 43, 47]⟩
/-- the four letters -/
def four (a b c : Int) : List Int := [bt L64 (a / 4), bt L64 (a % 4 * 16 + b / 16), bt L64 (b % 16 * 4 + c / 64), bt L64 (c % 64)]
def b64 : List Int → List Int
  | a :: b :: c :: l => four a b c ++ b64 l
  | [a, b] => [bt L64 (a / 4), bt L64 (a % 4 * 16 + b / 16), bt L64 (b % 16 * 4), 61]
  | [a] => [bt L64 (a / 4), bt L64 (a % 4 * 16), 61, 61]
  | [] => []
def lenOf : Value → Nat
  | .slice _ n _ => n
  | _ => 0
theorem u8_and3 {x : Int} (h₀ : 0 ≤ x) (h₁ : x < 256) : bits .and .u8 x 3 = x % 4 := bits_mask .u8 8 (by decide) wraps_u8 2 (by decide) x h₀ h₁
theorem u8_or4 (x y : Int) (h0 : 0 ≤ x) (h1 : x % 16 = 0) (h2 : x < 256) (h3 : 0 ≤ y) (h4 : y < 16) : bits .or .u8 x y = x + y := bits_join .u8 8 (by decide) wraps_u8 4 x y h0 h1 h2 h3 h4 (by omega)
theorem u8_or2 (x y : Int) (h0 : 0 ≤ x) (h1 : x % 4 = 0) (h2 : x < 256) (h3 : 0 ≤ y) (h4 : y < 4) : bits .or .u8 x y = x + y := bits_join .u8 8 (by decide) wraps_u8 2 x y h0 h1 h2 h3 h4 (by omega)
theorem nums_one (l : List Int) : ∀ u ∈ nums .u8 l, u.oneCell' = true := by
  intro u hu
  simp only [nums, List.mem_map] at hu
  obtain ⟨q, _, rfl⟩ := hu
  rfl
theorem own_drew {w : World} {b e s n : Nat} {v : Value} {xs : List Value} (h : w.ownsRow b e s v n xs) : w.drew.ownsRow b e s v n xs := h
theorem add_at (b off j : Nat) : (⟨b, off, none⟩ : Addr).add j = ⟨b, off + j, none⟩ := by
  unfold Addr.add
  split
  · next h => subst h; rfl
  · rfl
def AtI (w : World) (b off : Nat) (l : List Int) : Prop := ∀ (j : Nat) x, l[j]? = some x → w.cell? ⟨b, off + j, none⟩ = some (.int .u8 x)
theorem atI_of_C {w : World} {A : Option Addr} {n : Nat} {l : List Int} (h : Kd.C (Kd.int .u8) w A n l) (h0 : 0 < n) : ∃ b off, A = some ⟨b, off, none⟩ ∧ AtI w b off l := by
  have hn : l.length = n := h.1
  obtain ⟨ad, rfl, hc⟩ := h.2.2 h0
  have hx : ∀ (j : Nat) x, l[j]? = some x → w.cell? (ad.add j) = some (.int .u8 x) := by
    intro j x hj
    obtain ⟨cs, hl, hk, hu⟩ := hc j x hj
    obtain rfl : cs = [.int .u8 x] := hk
    have := hu 0 _ rfl
    rw [Nat.add_zero] at this
    rwa [show j * (Kd.int .u8).sz = j from Nat.mul_one j] at this
  obtain ⟨b, off, sp⟩ := ad
  have hsp : sp = none := by
    have := hx 0 _ (List.getElem?_eq_getElem (by omega))
    unfold World.cell? at this
    split at this
    · cases sp with
      | none => rfl
      | some k => simp [Addr.add] at this
    · cases this
  subst hsp
  exact ⟨b, off, rfl, fun j x hj => by rw [← add_at]; exact hx j x hj⟩
theorem C_of_atI {w : World} {b off n : Nat} {l : List Int} (hn : l.length = n) (h : AtI w b off l) (hs : n ≤ 9223372036854775807) : Kd.C (Kd.int .u8) w (some ⟨b, off, none⟩) n l := by
  refine ⟨hn, hs, fun _ => ⟨_, rfl, fun j p hj => ?_⟩⟩
  refine ⟨[.int .u8 p], rfl, rfl, fun i u hu => ?_⟩
  match i with
  | 0 =>
    cases hu
    rw [Nat.add_zero, show j * (Kd.int .u8).sz = j from Nat.mul_one j]
    rw [add_at]
    exact h j p hj
  | i + 1 => simp at hu
theorem AtI.drop {w : World} {b off : Nat} {l : List Int} (h : AtI w b off l) (k : Nat) : AtI w b (off + k) (l.drop k) := fun j x hj => by
  rw [List.getElem?_drop] at hj
  rw [Nat.add_assoc]
  exact h (k + j) x hj
def one1 (a : Int) : List Int := [bt L64 (a / 4), bt L64 (a % 4 * 16), 61, 61]
def two2 (a b : Int) : List Int := [bt L64 (a / 4), bt L64 (a % 4 * 16 + b / 16), bt L64 (b % 16 * 4), 61]
theorem str_of (W : World) {A : Option Addr} {n c : Nat} {xs : List Int} (h : Kd.C (Kd.int .u8) W A n xs) : (convert 73 9 (.slice A n c)).run Try.prog W = .ok (.string (strOfNums xs)) W := Kd.C_string Try.underlying73 Try.underlying5 Try.underlying9 h
theorem own_C {w : World} {b n : Nat} {v : Value} {l : List Int} (hn : l.length = n) (h : w.ownsRow b 5 1 v n (nums .u8 l)) : ∃ A c, v = .slice A n c ∧ n ≤ c ∧ Kd.C (Kd.int .u8) w A n l := by
  subst hn
  exact Kd.R_reads (Kd.R_of_own (enc := Value.int .u8) (h1 := fun _ => rfl) (ok := fun _ => True) h (fun _ _ => trivial))
theorem news_lit (W : World) (l : List Int) (t : TypeId) : ∀ j u, (nums .u8 l)[j]? = some u → (W.alloc (.cells (nums .u8 l).toArray t)).cell? ((⟨W.heap.size, 0, none⟩ : Addr).add j) = some u := by
  simpa using World.news_of_block (cs := (nums .u8 l).toArray) (t := t) (fr := (0, 0)) (heap_alloc_new W (.cells (nums .u8 l).toArray t))
theorem nums_append (l m : List Int) : nums .u8 (l ++ m) = nums .u8 l ++ nums .u8 m := by simp [nums]
theorem C_tail {w : World} {B off N c : Nat} {x : List Int} (k : Nat) (h : Kd.C (Kd.int .u8) w (some ⟨B, off, none⟩) N x) (hk : k ≤ N) (hN : 0 < N) (hc : N ≤ c) : Kd.C (Kd.int .u8) w (if c = k then some ⟨B, off, none⟩ else some ⟨B, off + k, none⟩) (N - k) (x.drop k) := by
  have hl : x.length = N := h.1
  obtain ⟨b, o, e, hat⟩ := atI_of_C h hN
  cases e
  split
  · refine ⟨by rw [List.length_drop]; omega, by have := h.2.1; omega, fun h0 => by omega⟩
  · exact C_of_atI (by rw [List.length_drop]; omega) (hat.drop k) (by have := h.2.1; omega)
set_option maxHeartbeats 4000000 in
set_option maxRecDepth 100000 in
theorem base64_calls (A : Option Addr) (c n : Nat) (l : List Int) (w : World) (hn : l.length = n) (hr : Kd.C (Kd.int .u8) w A n l) (hc : n ≤ c) (hl : n ≤ 100000000) (hb : ∀ x ∈ l, 0 ≤ x ∧ x < 256) :
    Calls Try.prog 32 #[.slice A n c] w fun e w' => e = .returned (.string (strOfNums (b64 l))) ∧ Below w.heap.size w w' := by
  obtain ⟨i0, hi, hz0, hz1, hz2⟩ := info_parts info5
  have HR := Lib.hid hr
  have HBY := Lib.hid hb
  clear hr hb
  go_enter Try.func32, Try.ntmps32
  go_wp2_with (at_make; refine wpList_make_own _ rfl _ _ 73 rfl w.heap.size 5 i0 _ 1 Try.underlying73 hi hz0 hz1 _ _ _ ((n + 2) / 3 * 4) rfl rfl (by omega) ?b2 ?b3 (Nat.le_refl _) ?_)
  case b2 => rw [hz2]; omega
  case b3 => unfold maxLen; omega
  intro w0 hown0 hgrow0
  have hB0 : Below w.heap.size w w0 := (Below.refl w.heap.size w).grown hgrow0 (Nat.le_refl _) (fun k h => by cases h)
  go_wp2
  go_loopw [0, 3] (fun v o wr => ∃ (N : Nat) (r d : List Int) (A' : Option Addr) (c' : Nat) (V : Value), v = .slice A' N c' ∧ V = o ∧ N ≤ c' ∧ r.length = N ∧ Kd.C (Kd.int .u8) w A' N r ∧ (∀ x ∈ r, 0 ≤ x ∧ x < 256) ∧ b64 l = d ++ b64 r ∧ d.length + 2 * N ≤ 2 * n ∧ N ≤ n
    ∧ wr.ownsRow w.heap.size 5 1 V d.length (nums .u8 d) ∧ Below w.heap.size w wr) (fun v _ _ => lenOf v)
  case atStart => exact ⟨n, l, [], A, c, _, rfl, rfl, hc, hn, HR.out, HBY.out, rfl, by simp, Nat.le_refl _, hown0, hB0⟩
  case round =>
    obtain ⟨N, r, d, A', c', V, rfl, hoV, hc', hrN, hC, hby, heq, hdn, hNn, hO, hB⟩ := hrel
    subst hoV
    have HEQ := Lib.hid heq
    have HO := Lib.hid hO
    have HB := Lib.hid hB
    clear heq hO hB hown0 hgrow0 hB0
    by_cases hlt : 3 ≤ N
    · obtain ⟨a, b, e, t, rfl⟩ : ∃ a b e t, r = a :: b :: e :: t := by
        match r, hrN, hlt with
        | [], h, h2 => simp at h; omega
        | [_], h, h2 => simp at h; omega
        | [_, _], h, h2 => simp at h; omega
        | a :: b :: e :: t, _, _ => exact ⟨a, b, e, t, rfl⟩
      obtain ⟨B, off, rfl, hat⟩ := atI_of_C hC (by omega)
      have HC := Lib.hid hC
      have y0 : w.cell? ⟨B, off, none⟩ = some (.int .u8 a) := hat 0 a rfl
      have y1 : w.cell? ⟨B, off + 1, none⟩ = some (.int .u8 b) := hat 1 b rfl
      have y2 : w.cell? ⟨B, off + 2, none⟩ = some (.int .u8 e) := hat 2 e rfl
      have hBl := World.block_lt_of_cell? w _ y0
      have x0 := (HB.out.cell hBl).trans y0
      have x1 := (HB.out.cell (World.block_lt_of_cell? w _ y1)).trans y1
      have x2 := (HB.out.cell (World.block_lt_of_cell? w _ y2)).trans y2
      obtain ⟨ha0, ha1⟩ := hby a (by simp)
      obtain ⟨hb0, hb1⟩ := hby b (by simp)
      obtain ⟨he0, he1⟩ := hby e (by simp)
      have HBY2 := Lib.hid (show ∀ x ∈ t, 0 ≤ x ∧ x < 256 from fun x hx => hby x (by simp [hx]))
      clear y0 y1 y2 hat hC hby
      have m0 : (0 < N) = True := eq_true (by omega)
      have m1 : (1 < N) = True := eq_true (by omega)
      have m2 : (2 < N) = True := eq_true (by omega)
      have n0 : ((0 : Int) < (N : Int)) = True := eq_true (by omega)
      have n1 : ((1 : Int) < (N : Int)) = True := eq_true (by omega)
      have n2 : ((2 : Int) < (N : Int)) = True := eq_true (by omega)
      have hlt' : decide ((3 : Int) ≤ (N : Int)) = true := decide_eq_true (by omega)
      have e1 := u8_and3 ha0 ha1
      have e2 := u8_and15 b hb0 hb1
      have e3 := u8_and63 e he0 he1
      have v1 : IntKind.u8.wrap (a % 4 * 16) = a % 4 * 16 := by rw [IntKind.wrap_u8]; omega
      have v2 : IntKind.u8.wrap (b % 16 * 4) = b % 16 * 4 := by rw [IntKind.wrap_u8]; omega
      have o1 : bits .or .u8 (a % 4 * 16) (b / 16) = a % 4 * 16 + b / 16 := u8_or4 _ _ (by omega) (by omega) (by omega) (by omega) (by omega)
      have o2 : bits .or .u8 (b % 16 * 4) (e / 64) = b % 16 * 4 + e / 64 := u8_or2 _ _ (by omega) (by omega) (by omega) (by omega) (by omega)
      have p0 : (0 ≤ a / 4) = True := eq_true (by omega)
      have q0 : (a / 4 < 64) = True := eq_true (by omega)
      have p1 : (0 ≤ a % 4 * 16 + b / 16) = True := eq_true (by omega)
      have q1 : (a % 4 * 16 + b / 16 < 64) = True := eq_true (by omega)
      have p2 : (0 ≤ b % 16 * 4 + e / 64) = True := eq_true (by omega)
      have q2 : (b % 16 * 4 + e / 64 < 64) = True := eq_true (by omega)
      have p3 : (0 ≤ e % 64) = True := eq_true (by omega)
      have q3 : (e % 64 < 64) = True := eq_true (by omega)
      have z0 := bt_at L64 (a / 4)
      have z1 := bt_at L64 (a % 4 * 16 + b / 16)
      have z2 := bt_at L64 (b % 16 * 4 + e / 64)
      have z3 := bt_at L64 (e % 64)
      unfold L64 at z0 z1 z2 z3
      clear ha0 ha1 hb0 hb1 he0 he1
      go_wp2
      refine start_ (n := 36) (S := fun w' => w'.cell? ⟨B, off, none⟩ = some (.int .u8 a) ∧ w'.cell? ⟨B, off + 1, none⟩ = some (.int .u8 b) ∧ w'.cell? ⟨B, off + 2, none⟩ = some (.int .u8 e)) (ds := [33, 34]) #[false, false, false, false, false, false, false, false, false, false, false, false, false, false, false, false, false, false, false, false, false, false, false, false, false, false, false, false, false, false, false, false, false, false, false, false] (by kernel_rfl) rfl rfl ⟨x0, x1, x2⟩ (fun hHeld => ?_)
      generalize hdr : wr.drew = w2 at hHeld ⊢
      have HO2 := Lib.hid (show w2.ownsRow w.heap.size 5 1 V d.length (nums .u8 d) from hdr ▸ HO.out)
      have HB2 := Lib.hid (show Below w.heap.size w w2 from hdr ▸ below_drew1 HB.out)
      have hsz2 := HB2.out.size
      refine pure_ (i := 0) (N := some 15) (v := ?_) (a' := ?_) #[true, false, false, false, false, false, false, false, false, false, false, false, false, false, false, false, false, false, false, false, false, false, false, false, false, false, false, false, false, false, false, false, false, false, false, false] rfl rfl (by kernel_rfl) (fun _ _ _ h => h) (Or.inl ⟨by rfl, ?_⟩) ?_ ?_
      rotate_left
      · intro w'
        go_simp
        with_reducible rfl
      rotate_left
      · simp only [Act.put, List.setIfInBounds_toArray, List.set_cons_zero, List.set_cons_succ, i64_w, i32_w]
        rfl
      refine pure_ (i := 1) (N := some 16) (v := ?_) (a' := ?_) #[true, true, false, false, false, false, false, false, false, false, false, false, false, false, false, false, false, false, false, false, false, false, false, false, false, false, false, false, false, false, false, false, false, false, false, false] rfl rfl (by kernel_rfl) (fun _ _ _ h => h) (Or.inl ⟨by rfl, ?_⟩) ?_ ?_
      rotate_left
      · intro w'
        go_simp
        with_reducible rfl
      rotate_left
      · simp only [Act.put, List.setIfInBounds_toArray, List.set_cons_zero, List.set_cons_succ, i64_w, i32_w]
        rfl
      refine pure_ (i := 2) (N := some 17) (v := ?_) (a' := ?_) #[true, true, true, false, false, false, false, false, false, false, false, false, false, false, false, false, false, false, false, false, false, false, false, false, false, false, false, false, false, false, false, false, false, false, false, false] rfl rfl (by kernel_rfl) (fun _ _ _ h => h) (Or.inl ⟨by rfl, ?_⟩) ?_ ?_
      rotate_left
      · intro w'
        go_simp
        with_reducible rfl
      rotate_left
      · simp only [Act.put, List.setIfInBounds_toArray, List.set_cons_zero, List.set_cons_succ, i64_w, i32_w]
        rfl
      refine pure_ (i := 6) (N := some 21) (v := ?_) (a' := ?_) #[true, true, true, false, false, false, true, false, false, false, false, false, false, false, false, false, false, false, false, false, false, false, false, false, false, false, false, false, false, false, false, false, false, false, false, false] rfl rfl (by kernel_rfl) (fun _ _ _ h => h) (Or.inl ⟨by rfl, ?_⟩) ?_ ?_
      rotate_left
      · intro w'
        go_simp
        with_reducible rfl
      rotate_left
      · simp only [Act.put, List.setIfInBounds_toArray, List.set_cons_zero, List.set_cons_succ, i64_w, i32_w]
        rfl
      refine pure_ (i := 7) (N := some 22) (v := ?_) (a' := ?_) #[true, true, true, false, false, false, true, true, false, false, false, false, false, false, false, false, false, false, false, false, false, false, false, false, false, false, false, false, false, false, false, false, false, false, false, false] rfl rfl (by kernel_rfl) (fun _ _ _ h => h) (Or.inl ⟨by rfl, ?_⟩) ?_ ?_
      rotate_left
      · intro w'
        go_simp
        with_reducible rfl
      rotate_left
      · simp only [Act.put, List.setIfInBounds_toArray, List.set_cons_zero, List.set_cons_succ, i64_w, i32_w]
        rfl
      refine pure_ (i := 11) (N := some 26) (v := ?_) (a' := ?_) #[true, true, true, false, false, false, true, true, false, false, false, true, false, false, false, false, false, false, false, false, false, false, false, false, false, false, false, false, false, false, false, false, false, false, false, false] rfl rfl (by kernel_rfl) (fun _ _ _ h => h) (Or.inl ⟨by rfl, ?_⟩) ?_ ?_
      rotate_left
      · intro w'
        go_simp
        with_reducible rfl
      rotate_left
      · simp only [Act.put, List.setIfInBounds_toArray, List.set_cons_zero, List.set_cons_succ, i64_w, i32_w]
        rfl
      refine pure_ (i := 12) (N := some 27) (v := ?_) (a' := ?_) #[true, true, true, false, false, false, true, true, false, false, false, true, true, false, false, false, false, false, false, false, false, false, false, false, false, false, false, false, false, false, false, false, false, false, false, false] rfl rfl (by kernel_rfl) (fun _ _ _ h => h) (Or.inl ⟨by rfl, ?_⟩) ?_ ?_
      rotate_left
      · intro w'
        go_simp
        with_reducible rfl
      rotate_left
      · simp only [Act.put, List.setIfInBounds_toArray, List.set_cons_zero, List.set_cons_succ, i64_w, i32_w]
        rfl
      refine pure_ (i := 17) (N := some 32) (v := ?_) (a' := ?_) #[true, true, true, false, false, false, true, true, false, false, false, true, true, false, false, false, false, true, false, false, false, false, false, false, false, false, false, false, false, false, false, false, false, false, false, false] rfl rfl (by kernel_rfl) (fun _ _ _ h => h) (Or.inl ⟨by rfl, ?_⟩) ?_ ?_
      rotate_left
      · intro w'
        go_simp
        with_reducible rfl
      rotate_left
      · simp only [Act.put, List.setIfInBounds_toArray, List.set_cons_zero, List.set_cons_succ, i64_w, i32_w]
        rfl
      refine pure_ (i := 18) (N := some 33) (v := ?_) (a' := ?_) #[true, true, true, false, false, false, true, true, false, false, false, true, true, false, false, false, false, true, true, false, false, false, false, false, false, false, false, false, false, false, false, false, false, false, false, false] rfl rfl (by kernel_rfl) (fun _ _ _ h => h) (Or.inl ⟨by rfl, ?_⟩) ?_ ?_
      rotate_left
      · intro w'
        go_simp
        with_reducible rfl
      rotate_left
      · simp only [Act.put, List.setIfInBounds_toArray, List.set_cons_zero, List.set_cons_succ, i64_w, i32_w]
        rfl
      refine pure_ (i := 22) (N := some 37) (v := ?_) (a' := ?_) #[true, true, true, false, false, false, true, true, false, false, false, true, true, false, false, false, false, true, true, false, false, false, true, false, false, false, false, false, false, false, false, false, false, false, false, false] rfl rfl (by kernel_rfl) (fun _ _ _ h => h) (Or.inl ⟨by rfl, ?_⟩) ?_ ?_
      rotate_left
      · intro w'
        go_simp
        with_reducible rfl
      rotate_left
      · simp only [Act.put, List.setIfInBounds_toArray, List.set_cons_zero, List.set_cons_succ, i64_w, i32_w]
        rfl
      refine pure_ (i := 23) (N := some 38) (v := ?_) (a' := ?_) #[true, true, true, false, false, false, true, true, false, false, false, true, true, false, false, false, false, true, true, false, false, false, true, true, false, false, false, false, false, false, false, false, false, false, false, false] rfl rfl (by kernel_rfl) (fun _ _ _ h => h) (Or.inl ⟨by rfl, ?_⟩) ?_ ?_
      rotate_left
      · intro w'
        go_simp
        with_reducible rfl
      rotate_left
      · simp only [Act.put, List.setIfInBounds_toArray, List.set_cons_zero, List.set_cons_succ, i64_w, i32_w]
        rfl
      refine pure_ (i := 28) (N := some 43) (v := ?_) (a' := ?_) #[true, true, true, false, false, false, true, true, false, false, false, true, true, false, false, false, false, true, true, false, false, false, true, true, false, false, false, false, true, false, false, false, false, false, false, false] rfl rfl (by kernel_rfl) (fun _ _ _ h => h) (Or.inl ⟨by rfl, ?_⟩) ?_ ?_
      rotate_left
      · intro w'
        go_simp
        with_reducible rfl
      rotate_left
      · simp only [Act.put, List.setIfInBounds_toArray, List.set_cons_zero, List.set_cons_succ, i64_w, i32_w]
        rfl
      refine pure_ (i := 29) (N := some 44) (v := ?_) (a' := ?_) #[true, true, true, false, false, false, true, true, false, false, false, true, true, false, false, false, false, true, true, false, false, false, true, true, false, false, false, false, true, true, false, false, false, false, false, false] rfl rfl (by kernel_rfl) (fun _ _ _ h => h) (Or.inl ⟨by rfl, ?_⟩) ?_ ?_
      rotate_left
      · intro w'
        go_simp
        with_reducible rfl
      rotate_left
      · simp only [Act.put, List.setIfInBounds_toArray, List.set_cons_zero, List.set_cons_succ, i64_w, i32_w]
        rfl
      refine take_ (i := 3) (N := some 18) (v := ?_) (a' := ?_) #[true, true, true, true, false, false, true, true, false, false, false, true, true, false, false, false, false, true, true, false, false, false, true, true, false, false, false, false, true, true, false, false, false, false, false, false] rfl rfl (by kernel_rfl) (fun _ _ _ h => h) (Or.inl ⟨by rfl, ?_⟩) hHeld ?_ ?_
      rotate_left
      · rintro w' ⟨s0, s1, s2⟩
        go_simp
        with_reducible rfl
      rotate_left
      · simp only [Act.put, List.setIfInBounds_toArray, List.set_cons_zero, List.set_cons_succ, i64_w, i32_w]
        rfl
      refine pure_ (i := 4) (N := some 19) (v := ?_) (a' := ?_) #[true, true, true, true, true, false, true, true, false, false, false, true, true, false, false, false, false, true, true, false, false, false, true, true, false, false, false, false, true, true, false, false, false, false, false, false] rfl rfl (by kernel_rfl) (fun _ _ _ h => h) (Or.inl ⟨by rfl, ?_⟩) ?_ ?_
      rotate_left
      · intro w'
        go_simp
        with_reducible rfl
      rotate_left
      · simp only [Act.put, List.setIfInBounds_toArray, List.set_cons_zero, List.set_cons_succ, i64_w, i32_w]
        rfl
      refine take_ (i := 5) (N := some 20) (v := ?_) (a' := ?_) #[true, true, true, true, true, true, true, true, false, false, false, true, true, false, false, false, false, true, true, false, false, false, true, true, false, false, false, false, true, true, false, false, false, false, false, false] rfl rfl (by kernel_rfl) (fun _ _ _ h => h) (Or.inl ⟨by rfl, ?_⟩) hHeld ?_ ?_
      rotate_left
      · rintro w' ⟨s0, s1, s2⟩
        go_simp
        with_reducible rfl
      rotate_left
      · simp only [Act.put, List.setIfInBounds_toArray, List.set_cons_zero, List.set_cons_succ, i64_w, i32_w]
        rfl
      refine take_ (i := 8) (N := some 23) (v := ?_) (a' := ?_) #[true, true, true, true, true, true, true, true, true, false, false, true, true, false, false, false, false, true, true, false, false, false, true, true, false, false, false, false, true, true, false, false, false, false, false, false] rfl rfl (by kernel_rfl) (fun _ _ _ h => h) (Or.inl ⟨by rfl, ?_⟩) hHeld ?_ ?_
      rotate_left
      · rintro w' ⟨s0, s1, s2⟩
        go_simp
        with_reducible rfl
      rotate_left
      · simp only [Act.put, List.setIfInBounds_toArray, List.set_cons_zero, List.set_cons_succ, i64_w, i32_w]
        rfl
      refine pure_ (i := 9) (N := some 24) (v := ?_) (a' := ?_) #[true, true, true, true, true, true, true, true, true, true, false, true, true, false, false, false, false, true, true, false, false, false, true, true, false, false, false, false, true, true, false, false, false, false, false, false] rfl rfl (by kernel_rfl) (fun _ _ _ h => h) (Or.inl ⟨by rfl, ?_⟩) ?_ ?_
      rotate_left
      · intro w'
        go_simp
        with_reducible rfl
      rotate_left
      · simp only [Act.put, List.setIfInBounds_toArray, List.set_cons_zero, List.set_cons_succ, i64_w, i32_w]
        rfl
      refine pure_ (i := 10) (N := some 25) (v := ?_) (a' := ?_) #[true, true, true, true, true, true, true, true, true, true, true, true, true, false, false, false, false, true, true, false, false, false, true, true, false, false, false, false, true, true, false, false, false, false, false, false] rfl rfl (by kernel_rfl) (fun _ _ _ h => h) (Or.inl ⟨by rfl, ?_⟩) ?_ ?_
      rotate_left
      · intro w'
        go_simp
        with_reducible rfl
      rotate_left
      · simp only [Act.put, List.setIfInBounds_toArray, List.set_cons_zero, List.set_cons_succ, i64_w, i32_w]
        rfl
      refine take_ (i := 13) (N := some 28) (v := ?_) (a' := ?_) #[true, true, true, true, true, true, true, true, true, true, true, true, true, true, false, false, false, true, true, false, false, false, true, true, false, false, false, false, true, true, false, false, false, false, false, false] rfl rfl (by kernel_rfl) (fun _ _ _ h => h) (Or.inl ⟨by rfl, ?_⟩) hHeld ?_ ?_
      rotate_left
      · rintro w' ⟨s0, s1, s2⟩
        go_simp
        with_reducible rfl
      rotate_left
      · simp only [Act.put, List.setIfInBounds_toArray, List.set_cons_zero, List.set_cons_succ, i64_w, i32_w]
        rfl
      refine pure_ (i := 14) (N := some 29) (v := ?_) (a' := ?_) #[true, true, true, true, true, true, true, true, true, true, true, true, true, true, true, false, false, true, true, false, false, false, true, true, false, false, false, false, true, true, false, false, false, false, false, false] rfl rfl (by kernel_rfl) (fun _ _ _ h => h) (Or.inl ⟨by rfl, ?_⟩) ?_ ?_
      rotate_left
      · intro w'
        go_simp
        with_reducible rfl
      rotate_left
      · simp only [Act.put, List.setIfInBounds_toArray, List.set_cons_zero, List.set_cons_succ, i64_w, i32_w]
        rfl
      refine pure_ (i := 15) (N := some 30) (v := ?_) (a' := ?_) #[true, true, true, true, true, true, true, true, true, true, true, true, true, true, true, true, false, true, true, false, false, false, true, true, false, false, false, false, true, true, false, false, false, false, false, false] rfl rfl (by kernel_rfl) (fun _ _ _ h => h) (Or.inl ⟨by rfl, ?_⟩) ?_ ?_
      rotate_left
      · intro w'
        go_simp
        with_reducible rfl
      rotate_left
      · simp only [Act.put, List.setIfInBounds_toArray, List.set_cons_zero, List.set_cons_succ, i64_w, i32_w]
        rfl
      refine take_ (i := 16) (N := some 31) (v := ?_) (a' := ?_) #[true, true, true, true, true, true, true, true, true, true, true, true, true, true, true, true, true, true, true, false, false, false, true, true, false, false, false, false, true, true, false, false, false, false, false, false] rfl rfl (by kernel_rfl) (fun _ _ _ h => h) (Or.inl ⟨by rfl, ?_⟩) hHeld ?_ ?_
      rotate_left
      · rintro w' ⟨s0, s1, s2⟩
        go_simp
        with_reducible rfl
      rotate_left
      · simp only [Act.put, List.setIfInBounds_toArray, List.set_cons_zero, List.set_cons_succ, i64_w, i32_w]
        rfl
      refine take_ (i := 19) (N := some 34) (v := ?_) (a' := ?_) #[true, true, true, true, true, true, true, true, true, true, true, true, true, true, true, true, true, true, true, true, false, false, true, true, false, false, false, false, true, true, false, false, false, false, false, false] rfl rfl (by kernel_rfl) (fun _ _ _ h => h) (Or.inl ⟨by rfl, ?_⟩) hHeld ?_ ?_
      rotate_left
      · rintro w' ⟨s0, s1, s2⟩
        go_simp
        with_reducible rfl
      rotate_left
      · simp only [Act.put, List.setIfInBounds_toArray, List.set_cons_zero, List.set_cons_succ, i64_w, i32_w]
        rfl
      refine pure_ (i := 20) (N := some 35) (v := ?_) (a' := ?_) #[true, true, true, true, true, true, true, true, true, true, true, true, true, true, true, true, true, true, true, true, true, false, true, true, false, false, false, false, true, true, false, false, false, false, false, false] rfl rfl (by kernel_rfl) (fun _ _ _ h => h) (Or.inl ⟨by rfl, ?_⟩) ?_ ?_
      rotate_left
      · intro w'
        go_simp
        with_reducible rfl
      rotate_left
      · simp only [Act.put, List.setIfInBounds_toArray, List.set_cons_zero, List.set_cons_succ, i64_w, i32_w]
        rfl
      refine pure_ (i := 21) (N := some 36) (v := ?_) (a' := ?_) #[true, true, true, true, true, true, true, true, true, true, true, true, true, true, true, true, true, true, true, true, true, true, true, true, false, false, false, false, true, true, false, false, false, false, false, false] rfl rfl (by kernel_rfl) (fun _ _ _ h => h) (Or.inl ⟨by rfl, ?_⟩) ?_ ?_
      rotate_left
      · intro w'
        go_simp
        with_reducible rfl
      rotate_left
      · simp only [Act.put, List.setIfInBounds_toArray, List.set_cons_zero, List.set_cons_succ, i64_w, i32_w]
        rfl
      refine take_ (i := 24) (N := some 39) (v := ?_) (a' := ?_) #[true, true, true, true, true, true, true, true, true, true, true, true, true, true, true, true, true, true, true, true, true, true, true, true, true, false, false, false, true, true, false, false, false, false, false, false] rfl rfl (by kernel_rfl) (fun _ _ _ h => h) (Or.inl ⟨by rfl, ?_⟩) hHeld ?_ ?_
      rotate_left
      · rintro w' ⟨s0, s1, s2⟩
        go_simp
        with_reducible rfl
      rotate_left
      · simp only [Act.put, List.setIfInBounds_toArray, List.set_cons_zero, List.set_cons_succ, i64_w, i32_w]
        rfl
      refine pure_ (i := 25) (N := some 40) (v := ?_) (a' := ?_) #[true, true, true, true, true, true, true, true, true, true, true, true, true, true, true, true, true, true, true, true, true, true, true, true, true, true, false, false, true, true, false, false, false, false, false, false] rfl rfl (by kernel_rfl) (fun _ _ _ h => h) (Or.inl ⟨by rfl, ?_⟩) ?_ ?_
      rotate_left
      · intro w'
        go_simp
        with_reducible rfl
      rotate_left
      · simp only [Act.put, List.setIfInBounds_toArray, List.set_cons_zero, List.set_cons_succ, i64_w, i32_w]
        rfl
      refine pure_ (i := 26) (N := some 41) (v := ?_) (a' := ?_) #[true, true, true, true, true, true, true, true, true, true, true, true, true, true, true, true, true, true, true, true, true, true, true, true, true, true, true, false, true, true, false, false, false, false, false, false] rfl rfl (by kernel_rfl) (fun _ _ _ h => h) (Or.inl ⟨by rfl, ?_⟩) ?_ ?_
      rotate_left
      · intro w'
        go_simp
        with_reducible rfl
      rotate_left
      · simp only [Act.put, List.setIfInBounds_toArray, List.set_cons_zero, List.set_cons_succ, i64_w, i32_w]
        rfl
      refine take_ (i := 27) (N := some 42) (v := ?_) (a' := ?_) #[true, true, true, true, true, true, true, true, true, true, true, true, true, true, true, true, true, true, true, true, true, true, true, true, true, true, true, true, true, true, false, false, false, false, false, false] rfl rfl (by kernel_rfl) (fun _ _ _ h => h) (Or.inl ⟨by rfl, ?_⟩) hHeld ?_ ?_
      rotate_left
      · rintro w' ⟨s0, s1, s2⟩
        go_simp
        with_reducible rfl
      rotate_left
      · simp only [Act.put, List.setIfInBounds_toArray, List.set_cons_zero, List.set_cons_succ, i64_w, i32_w]
        rfl
      refine take_ (i := 30) (N := some 45) (v := ?_) (a' := ?_) #[true, true, true, true, true, true, true, true, true, true, true, true, true, true, true, true, true, true, true, true, true, true, true, true, true, true, true, true, true, true, true, false, false, false, false, false] rfl rfl (by kernel_rfl) (fun _ _ _ h => h) (Or.inl ⟨by rfl, ?_⟩) hHeld ?_ ?_
      rotate_left
      · rintro w' ⟨s0, s1, s2⟩
        go_simp
        with_reducible rfl
      rotate_left
      · simp only [Act.put, List.setIfInBounds_toArray, List.set_cons_zero, List.set_cons_succ, i64_w, i32_w]
        rfl
      refine pure_ (i := 31) (N := some 46) (v := ?_) (a' := ?_) #[true, true, true, true, true, true, true, true, true, true, true, true, true, true, true, true, true, true, true, true, true, true, true, true, true, true, true, true, true, true, true, true, false, false, false, false] rfl rfl (by kernel_rfl) (fun _ _ _ h => h) (Or.inl ⟨by rfl, ?_⟩) ?_ ?_
      rotate_left
      · intro w'
        go_simp
        with_reducible rfl
      rotate_left
      · simp only [Act.put, List.setIfInBounds_toArray, List.set_cons_zero, List.set_cons_succ, i64_w, i32_w]
        rfl
      refine take_ (i := 32) (N := some 47) (v := ?_) (a' := ?_) #[true, true, true, true, true, true, true, true, true, true, true, true, true, true, true, true, true, true, true, true, true, true, true, true, true, true, true, true, true, true, true, true, true, false, false, false] rfl rfl (by kernel_rfl) (fun _ _ _ h => h) (Or.inl ⟨by rfl, ?_⟩) hHeld ?_ ?_
      rotate_left
      · rintro w' ⟨s0, s1, s2⟩
        go_simp
        with_reducible rfl
      rotate_left
      · simp only [Act.put, List.setIfInBounds_toArray, List.set_cons_zero, List.set_cons_succ, i64_w, i32_w]
        rfl
      refine last_ (i := 33) (N := some 48) #[true, true, true, true, true, true, true, true, true, true, true, true, true, true, true, true, true, true, true, true, true, true, true, true, true, true, true, true, true, true, true, true, true, true, false, false] rfl rfl (by kernel_rfl) (by decide) (fun K hK => ?_)
      refine value_ (w1 := ?_) (v := ?_) (by rfl) rfl ?_ ?_
      rotate_left 2
      · go_simp
        constructor
        · rfl
        · rfl
      refine hK.out _ _ ?_
      clear hK K
      refine norm_ (a' := ?_) ?_ ?_
      rotate_left
      · show Act.put _ (some 48) _ = _
        simp only [Act.put, List.setIfInBounds_toArray, List.set_cons_zero, List.set_cons_succ, i64_w, i32_w]
        rfl
      refine last_ (i := 34) (N := some 49) #[true, true, true, true, true, true, true, true, true, true, true, true, true, true, true, true, true, true, true, true, true, true, true, true, true, true, true, true, true, true, true, true, true, true, true, false] rfl rfl (by kernel_rfl) (by decide) (fun K hK => ?_)
      refine step_append_lies _ (by rfl) (.tmp 15) (.tmp 48) 73 (by rfl) w.heap.size 5 i0 _ 1 1 Try.underlying73 hi hz0 hz1 hz2 rfl (by decide) _ d.length (nums .u8 d) (by rfl) (HO2.out.alloc _) ⟨w2.heap.size, 0, none⟩ 4 4 (nums .u8 (four a b e)) (by rfl) rfl (news_lit _ _ _) (nums_one _) (by decide) (by unfold maxLen; omega) (by omega) (by simp; omega) _ rfl ?_
      intro g cap w4 hown4 hgrow4 hat4 hlt4
      refine hK.out _ _ ?_
      clear hK K
      refine norm_ (a' := ?_) ?_ ?_
      rotate_left
      · show Act.put _ (some 49) _ = _
        simp only [Act.put, List.setIfInBounds_toArray, List.set_cons_zero, List.set_cons_succ, i64_w, i32_w]
        rfl
      refine pure_ (i := 35) (N := some 3) (v := ?_) (a' := ?_) #[true, true, true, true, true, true, true, true, true, true, true, true, true, true, true, true, true, true, true, true, true, true, true, true, true, true, true, true, true, true, true, true, true, true, true, true] rfl rfl (by kernel_rfl) (fun _ _ _ h => h) (Or.inl ⟨by rfl, ?_⟩) ?_ ?_
      rotate_left
      · intro w'
        go_simp
        with_reducible rfl
      rotate_left
      · simp only [Act.put, List.setIfInBounds_toArray, List.set_cons_zero, List.set_cons_succ, i64_w, i32_w]
        rfl
      refine done_ (by kernel_rfl) ?_
      have hB4 : Below w.heap.size w w4 := (HB2.out.alloc hsz2 _).grown hgrow4 (by have := hgrow4.size; simp at this; have := hsz2; simp; omega) (fun k hk => own_base HO2.out k hk)
      rw [← nums_append] at hown4
      have HO4 := Lib.hid hown4
      have HB4 := Lib.hid hB4
      clear hown4 hgrow4 hat4 hlt4 hB4 x0 x1 x2 z0 z1 z2 z3 p0 q0 p1 q1 p2 q2 p3 q3 e1 e2 e3 v1 v2 o1 o2 hHeld HO2 HB2
      go_wp2
      go_roundw
      case rel => exact ⟨N - 3, t, d ++ four a b e, _, c' - 3, _, rfl, rfl, by omega, by simp only [List.length_cons] at hrN; omega, C_tail 3 HC.out (by omega) (by omega) hc', HBY2.out, by rw [HEQ.out, List.append_assoc]; rfl, by rw [List.length_append]; show d.length + 4 + _ ≤ _; omega, by omega, by rw [List.length_append]; exact HO4.out, HB4.out⟩
      case measure =>
        show N - 3 < N
        omega
    · have hlt' : decide ((3 : Int) ≤ (N : Int)) = false := decide_eq_false (by omega)
      match r, hrN with
      | [], h =>
        have hN0 : N = 0 := by simpa using h.symm
        subst hN0
        obtain ⟨A9, c9, rfl, _, hC9⟩ := own_C rfl HO.out
        have q9 := str_of wr (c := c9) hC9
        clear hC9 hC hby
        go_wp2
        go_ret
        exact ⟨by rw [HEQ.out]; simp [b64], HB.out⟩
      | [a], h =>
        have hN1 : N = 1 := by simpa using h.symm
        subst hN1
        obtain ⟨B, off, rfl, hat⟩ := atI_of_C hC (by omega)
        have y0 : w.cell? ⟨B, off, none⟩ = some (.int .u8 a) := hat 0 a rfl
        have x0 := (HB.out.cell (World.block_lt_of_cell? w _ y0)).trans y0
        obtain ⟨ha0, ha1⟩ := hby a (by simp)
        clear y0 hat hC hby
        have e1 := u8_and3 ha0 ha1
        have v1 : IntKind.u8.wrap (a % 4 * 16) = a % 4 * 16 := by rw [IntKind.wrap_u8]; omega
        have p0 : (0 ≤ a / 4) = True := eq_true (by omega)
        have q0 : (a / 4 < 64) = True := eq_true (by omega)
        have p1 : (0 ≤ a % 4 * 16) = True := eq_true (by omega)
        have q1 : (a % 4 * 16 < 64) = True := eq_true (by omega)
        have z0 := bt_at L64 (a / 4)
        have z1 := bt_at L64 (a % 4 * 16)
        unfold L64 at z0 z1
        clear ha0 ha1
        go_wp2
        refine start_ (n := 15) (S := fun w' => w'.cell? ⟨B, off, none⟩ = some (.int .u8 a)) (ds := [12, 13]) #[false, false, false, false, false, false, false, false, false, false, false, false, false, false, false] (by kernel_rfl) rfl rfl (x0) (fun hHeld => ?_)
        generalize hdr : wr.drew = w2 at hHeld ⊢
        have HO2 := Lib.hid (show w2.ownsRow w.heap.size 5 1 V d.length (nums .u8 d) from hdr ▸ HO.out)
        have HB2 := Lib.hid (show Below w.heap.size w w2 from hdr ▸ below_drew1 HB.out)
        have hsz2 := HB2.out.size
        refine pure_ (i := 0) (N := some 54) (v := ?_) (a' := ?_) #[true, false, false, false, false, false, false, false, false, false, false, false, false, false, false] rfl rfl (by kernel_rfl) (fun _ _ _ h => h) (Or.inl ⟨by rfl, ?_⟩) ?_ ?_
        rotate_left
        · intro w'
          go_simp
          with_reducible rfl
        rotate_left
        · simp only [Act.put, List.setIfInBounds_toArray, List.set_cons_zero, List.set_cons_succ, i64_w, i32_w]
          rfl
        refine pure_ (i := 1) (N := some 55) (v := ?_) (a' := ?_) #[true, true, false, false, false, false, false, false, false, false, false, false, false, false, false] rfl rfl (by kernel_rfl) (fun _ _ _ h => h) (Or.inl ⟨by rfl, ?_⟩) ?_ ?_
        rotate_left
        · intro w'
          go_simp
          with_reducible rfl
        rotate_left
        · simp only [Act.put, List.setIfInBounds_toArray, List.set_cons_zero, List.set_cons_succ, i64_w, i32_w]
          rfl
        refine pure_ (i := 2) (N := some 56) (v := ?_) (a' := ?_) #[true, true, true, false, false, false, false, false, false, false, false, false, false, false, false] rfl rfl (by kernel_rfl) (fun _ _ _ h => h) (Or.inl ⟨by rfl, ?_⟩) ?_ ?_
        rotate_left
        · intro w'
          go_simp
          with_reducible rfl
        rotate_left
        · simp only [Act.put, List.setIfInBounds_toArray, List.set_cons_zero, List.set_cons_succ, i64_w, i32_w]
          rfl
        refine pure_ (i := 6) (N := some 60) (v := ?_) (a' := ?_) #[true, true, true, false, false, false, true, false, false, false, false, false, false, false, false] rfl rfl (by kernel_rfl) (fun _ _ _ h => h) (Or.inl ⟨by rfl, ?_⟩) ?_ ?_
        rotate_left
        · intro w'
          go_simp
          with_reducible rfl
        rotate_left
        · simp only [Act.put, List.setIfInBounds_toArray, List.set_cons_zero, List.set_cons_succ, i64_w, i32_w]
          rfl
        refine pure_ (i := 7) (N := some 61) (v := ?_) (a' := ?_) #[true, true, true, false, false, false, true, true, false, false, false, false, false, false, false] rfl rfl (by kernel_rfl) (fun _ _ _ h => h) (Or.inl ⟨by rfl, ?_⟩) ?_ ?_
        rotate_left
        · intro w'
          go_simp
          with_reducible rfl
        rotate_left
        · simp only [Act.put, List.setIfInBounds_toArray, List.set_cons_zero, List.set_cons_succ, i64_w, i32_w]
          rfl
        refine take_ (i := 3) (N := some 57) (v := ?_) (a' := ?_) #[true, true, true, true, false, false, true, true, false, false, false, false, false, false, false] rfl rfl (by kernel_rfl) (fun _ _ _ h => h) (Or.inl ⟨by rfl, ?_⟩) hHeld ?_ ?_
        rotate_left
        · intro w' s0
          go_simp
          with_reducible rfl
        rotate_left
        · simp only [Act.put, List.setIfInBounds_toArray, List.set_cons_zero, List.set_cons_succ, i64_w, i32_w]
          rfl
        refine pure_ (i := 4) (N := some 58) (v := ?_) (a' := ?_) #[true, true, true, true, true, false, true, true, false, false, false, false, false, false, false] rfl rfl (by kernel_rfl) (fun _ _ _ h => h) (Or.inl ⟨by rfl, ?_⟩) ?_ ?_
        rotate_left
        · intro w'
          go_simp
          with_reducible rfl
        rotate_left
        · simp only [Act.put, List.setIfInBounds_toArray, List.set_cons_zero, List.set_cons_succ, i64_w, i32_w]
          rfl
        refine take_ (i := 5) (N := some 59) (v := ?_) (a' := ?_) #[true, true, true, true, true, true, true, true, false, false, false, false, false, false, false] rfl rfl (by kernel_rfl) (fun _ _ _ h => h) (Or.inl ⟨by rfl, ?_⟩) hHeld ?_ ?_
        rotate_left
        · intro w' s0
          go_simp
          with_reducible rfl
        rotate_left
        · simp only [Act.put, List.setIfInBounds_toArray, List.set_cons_zero, List.set_cons_succ, i64_w, i32_w]
          rfl
        refine take_ (i := 8) (N := some 62) (v := ?_) (a' := ?_) #[true, true, true, true, true, true, true, true, true, false, false, false, false, false, false] rfl rfl (by kernel_rfl) (fun _ _ _ h => h) (Or.inl ⟨by rfl, ?_⟩) hHeld ?_ ?_
        rotate_left
        · intro w' s0
          go_simp
          with_reducible rfl
        rotate_left
        · simp only [Act.put, List.setIfInBounds_toArray, List.set_cons_zero, List.set_cons_succ, i64_w, i32_w]
          rfl
        refine pure_ (i := 9) (N := some 63) (v := ?_) (a' := ?_) #[true, true, true, true, true, true, true, true, true, true, false, false, false, false, false] rfl rfl (by kernel_rfl) (fun _ _ _ h => h) (Or.inl ⟨by rfl, ?_⟩) ?_ ?_
        rotate_left
        · intro w'
          go_simp
          with_reducible rfl
        rotate_left
        · simp only [Act.put, List.setIfInBounds_toArray, List.set_cons_zero, List.set_cons_succ, i64_w, i32_w]
          rfl
        refine pure_ (i := 10) (N := some 64) (v := ?_) (a' := ?_) #[true, true, true, true, true, true, true, true, true, true, true, false, false, false, false] rfl rfl (by kernel_rfl) (fun _ _ _ h => h) (Or.inl ⟨by rfl, ?_⟩) ?_ ?_
        rotate_left
        · intro w'
          go_simp
          with_reducible rfl
        rotate_left
        · simp only [Act.put, List.setIfInBounds_toArray, List.set_cons_zero, List.set_cons_succ, i64_w, i32_w]
          rfl
        refine take_ (i := 11) (N := some 65) (v := ?_) (a' := ?_) #[true, true, true, true, true, true, true, true, true, true, true, true, false, false, false] rfl rfl (by kernel_rfl) (fun _ _ _ h => h) (Or.inl ⟨by rfl, ?_⟩) hHeld ?_ ?_
        rotate_left
        · intro w' s0
          go_simp
          with_reducible rfl
        rotate_left
        · simp only [Act.put, List.setIfInBounds_toArray, List.set_cons_zero, List.set_cons_succ, i64_w, i32_w]
          rfl
        refine last_ (i := 12) (N := some 66) #[true, true, true, true, true, true, true, true, true, true, true, true, true, false, false] rfl rfl (by kernel_rfl) (by decide) (fun K hK => ?_)
        refine value_ (w1 := ?_) (v := ?_) (by rfl) rfl ?_ ?_
        rotate_left 2
        · go_simp
          constructor
          · rfl
          · rfl
        refine hK.out _ _ ?_
        clear hK K
        refine norm_ (a' := ?_) ?_ ?_
        rotate_left
        · show Act.put _ (some 66) _ = _
          simp only [Act.put, List.setIfInBounds_toArray, List.set_cons_zero, List.set_cons_succ, i64_w, i32_w]
          rfl
        refine last_ (i := 13) (N := some 67) #[true, true, true, true, true, true, true, true, true, true, true, true, true, true, false] rfl rfl (by kernel_rfl) (by decide) (fun K hK => ?_)
        refine step_append_lies _ (by rfl) (.tmp 54) (.tmp 66) 73 (by rfl) w.heap.size 5 i0 _ 1 1 Try.underlying73 hi hz0 hz1 hz2 rfl (by decide) _ d.length (nums .u8 d) (by rfl) (HO2.out.alloc _) ⟨w2.heap.size, 0, none⟩ 4 4 (nums .u8 (one1 a)) (by rfl) rfl (news_lit _ _ _) (nums_one _) (by decide) (by unfold maxLen; omega) (by omega) (by simp; omega) _ rfl ?_
        intro g cap w4 hown4 hgrow4 hat4 hlt4
        refine hK.out _ _ ?_
        clear hK K
        refine norm_ (a' := ?_) ?_ ?_
        rotate_left
        · show Act.put _ (some 67) _ = _
          simp only [Act.put, List.setIfInBounds_toArray, List.set_cons_zero, List.set_cons_succ, i64_w, i32_w]
          rfl
        refine pure_ (i := 14) (N := some 3) (v := ?_) (a' := ?_) #[true, true, true, true, true, true, true, true, true, true, true, true, true, true, true] rfl rfl (by kernel_rfl) (fun _ _ _ h => h) (Or.inl ⟨by rfl, ?_⟩) ?_ ?_
        rotate_left
        · intro w'
          go_simp
          with_reducible rfl
        rotate_left
        · simp only [Act.put, List.setIfInBounds_toArray, List.set_cons_zero, List.set_cons_succ, i64_w, i32_w]
          rfl
        refine done_ (by kernel_rfl) ?_
        have hB4 : Below w.heap.size w w4 := (HB2.out.alloc hsz2 _).grown hgrow4 (by have := hgrow4.size; simp at this; have := hsz2; simp; omega) (fun k hk => own_base HO2.out k hk)
        rw [← nums_append] at hown4
        obtain ⟨A9, c9, hv9, _, hC9⟩ := own_C (l := d ++ one1 a) (by rw [List.length_append]; rfl) hown4
        cases hv9
        have q9 := str_of w4 (c := cap) hC9
        clear hown4 hgrow4 hat4 hlt4 x0 z0 z1 p0 q0 p1 q1 e1 v1 hHeld HO2 HB2 hC9
        go_wp2
        go_ret
        exact ⟨by rw [HEQ.out]; rfl, hB4⟩
      | [a, b], h =>
        have hN1 : N = 2 := by simpa using h.symm
        subst hN1
        obtain ⟨B, off, rfl, hat⟩ := atI_of_C hC (by omega)
        have y0 : w.cell? ⟨B, off, none⟩ = some (.int .u8 a) := hat 0 a rfl
        have y1 : w.cell? ⟨B, off + 1, none⟩ = some (.int .u8 b) := hat 1 b rfl
        have x0 := (HB.out.cell (World.block_lt_of_cell? w _ y0)).trans y0
        have x1 := (HB.out.cell (World.block_lt_of_cell? w _ y1)).trans y1
        obtain ⟨ha0, ha1⟩ := hby a (by simp)
        obtain ⟨hb0, hb1⟩ := hby b (by simp)
        clear y0 y1 hat hC hby
        have e1 := u8_and3 ha0 ha1
        have e2 := u8_and15 b hb0 hb1
        have v1 : IntKind.u8.wrap (a % 4 * 16) = a % 4 * 16 := by rw [IntKind.wrap_u8]; omega
        have v2 : IntKind.u8.wrap (b % 16 * 4) = b % 16 * 4 := by rw [IntKind.wrap_u8]; omega
        have o1 : bits .or .u8 (a % 4 * 16) (b / 16) = a % 4 * 16 + b / 16 := u8_or4 _ _ (by omega) (by omega) (by omega) (by omega) (by omega)
        have p0 : (0 ≤ a / 4) = True := eq_true (by omega)
        have q0 : (a / 4 < 64) = True := eq_true (by omega)
        have p1 : (0 ≤ a % 4 * 16 + b / 16) = True := eq_true (by omega)
        have q1 : (a % 4 * 16 + b / 16 < 64) = True := eq_true (by omega)
        have p2 : (0 ≤ b % 16 * 4) = True := eq_true (by omega)
        have q2 : (b % 16 * 4 < 64) = True := eq_true (by omega)
        have z0 := bt_at L64 (a / 4)
        have z1 := bt_at L64 (a % 4 * 16 + b / 16)
        have z2 := bt_at L64 (b % 16 * 4)
        unfold L64 at z0 z1 z2
        clear ha0 ha1 hb0 hb1
        go_wp2
        refine start_ (n := 26) (S := fun w' => w'.cell? ⟨B, off, none⟩ = some (.int .u8 a) ∧ w'.cell? ⟨B, off + 1, none⟩ = some (.int .u8 b)) (ds := [23, 24]) #[false, false, false, false, false, false, false, false, false, false, false, false, false, false, false, false, false, false, false, false, false, false, false, false, false, false] (by kernel_rfl) rfl rfl ⟨x0, x1⟩ (fun hHeld => ?_)
        generalize hdr : wr.drew = w2 at hHeld ⊢
        have HO2 := Lib.hid (show w2.ownsRow w.heap.size 5 1 V d.length (nums .u8 d) from hdr ▸ HO.out)
        have HB2 := Lib.hid (show Below w.heap.size w w2 from hdr ▸ below_drew1 HB.out)
        have hsz2 := HB2.out.size
        refine pure_ (i := 0) (N := some 70) (v := ?_) (a' := ?_) #[true, false, false, false, false, false, false, false, false, false, false, false, false, false, false, false, false, false, false, false, false, false, false, false, false, false] rfl rfl (by kernel_rfl) (fun _ _ _ h => h) (Or.inl ⟨by rfl, ?_⟩) ?_ ?_
        rotate_left
        · intro w'
          go_simp
          with_reducible rfl
        rotate_left
        · simp only [Act.put, List.setIfInBounds_toArray, List.set_cons_zero, List.set_cons_succ, i64_w, i32_w]
          rfl
        refine pure_ (i := 1) (N := some 71) (v := ?_) (a' := ?_) #[true, true, false, false, false, false, false, false, false, false, false, false, false, false, false, false, false, false, false, false, false, false, false, false, false, false] rfl rfl (by kernel_rfl) (fun _ _ _ h => h) (Or.inl ⟨by rfl, ?_⟩) ?_ ?_
        rotate_left
        · intro w'
          go_simp
          with_reducible rfl
        rotate_left
        · simp only [Act.put, List.setIfInBounds_toArray, List.set_cons_zero, List.set_cons_succ, i64_w, i32_w]
          rfl
        refine pure_ (i := 2) (N := some 72) (v := ?_) (a' := ?_) #[true, true, true, false, false, false, false, false, false, false, false, false, false, false, false, false, false, false, false, false, false, false, false, false, false, false] rfl rfl (by kernel_rfl) (fun _ _ _ h => h) (Or.inl ⟨by rfl, ?_⟩) ?_ ?_
        rotate_left
        · intro w'
          go_simp
          with_reducible rfl
        rotate_left
        · simp only [Act.put, List.setIfInBounds_toArray, List.set_cons_zero, List.set_cons_succ, i64_w, i32_w]
          rfl
        refine pure_ (i := 6) (N := some 76) (v := ?_) (a' := ?_) #[true, true, true, false, false, false, true, false, false, false, false, false, false, false, false, false, false, false, false, false, false, false, false, false, false, false] rfl rfl (by kernel_rfl) (fun _ _ _ h => h) (Or.inl ⟨by rfl, ?_⟩) ?_ ?_
        rotate_left
        · intro w'
          go_simp
          with_reducible rfl
        rotate_left
        · simp only [Act.put, List.setIfInBounds_toArray, List.set_cons_zero, List.set_cons_succ, i64_w, i32_w]
          rfl
        refine pure_ (i := 7) (N := some 77) (v := ?_) (a' := ?_) #[true, true, true, false, false, false, true, true, false, false, false, false, false, false, false, false, false, false, false, false, false, false, false, false, false, false] rfl rfl (by kernel_rfl) (fun _ _ _ h => h) (Or.inl ⟨by rfl, ?_⟩) ?_ ?_
        rotate_left
        · intro w'
          go_simp
          with_reducible rfl
        rotate_left
        · simp only [Act.put, List.setIfInBounds_toArray, List.set_cons_zero, List.set_cons_succ, i64_w, i32_w]
          rfl
        refine pure_ (i := 11) (N := some 81) (v := ?_) (a' := ?_) #[true, true, true, false, false, false, true, true, false, false, false, true, false, false, false, false, false, false, false, false, false, false, false, false, false, false] rfl rfl (by kernel_rfl) (fun _ _ _ h => h) (Or.inl ⟨by rfl, ?_⟩) ?_ ?_
        rotate_left
        · intro w'
          go_simp
          with_reducible rfl
        rotate_left
        · simp only [Act.put, List.setIfInBounds_toArray, List.set_cons_zero, List.set_cons_succ, i64_w, i32_w]
          rfl
        refine pure_ (i := 12) (N := some 82) (v := ?_) (a' := ?_) #[true, true, true, false, false, false, true, true, false, false, false, true, true, false, false, false, false, false, false, false, false, false, false, false, false, false] rfl rfl (by kernel_rfl) (fun _ _ _ h => h) (Or.inl ⟨by rfl, ?_⟩) ?_ ?_
        rotate_left
        · intro w'
          go_simp
          with_reducible rfl
        rotate_left
        · simp only [Act.put, List.setIfInBounds_toArray, List.set_cons_zero, List.set_cons_succ, i64_w, i32_w]
          rfl
        refine pure_ (i := 17) (N := some 87) (v := ?_) (a' := ?_) #[true, true, true, false, false, false, true, true, false, false, false, true, true, false, false, false, false, true, false, false, false, false, false, false, false, false] rfl rfl (by kernel_rfl) (fun _ _ _ h => h) (Or.inl ⟨by rfl, ?_⟩) ?_ ?_
        rotate_left
        · intro w'
          go_simp
          with_reducible rfl
        rotate_left
        · simp only [Act.put, List.setIfInBounds_toArray, List.set_cons_zero, List.set_cons_succ, i64_w, i32_w]
          rfl
        refine pure_ (i := 18) (N := some 88) (v := ?_) (a' := ?_) #[true, true, true, false, false, false, true, true, false, false, false, true, true, false, false, false, false, true, true, false, false, false, false, false, false, false] rfl rfl (by kernel_rfl) (fun _ _ _ h => h) (Or.inl ⟨by rfl, ?_⟩) ?_ ?_
        rotate_left
        · intro w'
          go_simp
          with_reducible rfl
        rotate_left
        · simp only [Act.put, List.setIfInBounds_toArray, List.set_cons_zero, List.set_cons_succ, i64_w, i32_w]
          rfl
        refine take_ (i := 3) (N := some 73) (v := ?_) (a' := ?_) #[true, true, true, true, false, false, true, true, false, false, false, true, true, false, false, false, false, true, true, false, false, false, false, false, false, false] rfl rfl (by kernel_rfl) (fun _ _ _ h => h) (Or.inl ⟨by rfl, ?_⟩) hHeld ?_ ?_
        rotate_left
        · rintro w' ⟨s0, s1⟩
          go_simp
          with_reducible rfl
        rotate_left
        · simp only [Act.put, List.setIfInBounds_toArray, List.set_cons_zero, List.set_cons_succ, i64_w, i32_w]
          rfl
        refine pure_ (i := 4) (N := some 74) (v := ?_) (a' := ?_) #[true, true, true, true, true, false, true, true, false, false, false, true, true, false, false, false, false, true, true, false, false, false, false, false, false, false] rfl rfl (by kernel_rfl) (fun _ _ _ h => h) (Or.inl ⟨by rfl, ?_⟩) ?_ ?_
        rotate_left
        · intro w'
          go_simp
          with_reducible rfl
        rotate_left
        · simp only [Act.put, List.setIfInBounds_toArray, List.set_cons_zero, List.set_cons_succ, i64_w, i32_w]
          rfl
        refine take_ (i := 5) (N := some 75) (v := ?_) (a' := ?_) #[true, true, true, true, true, true, true, true, false, false, false, true, true, false, false, false, false, true, true, false, false, false, false, false, false, false] rfl rfl (by kernel_rfl) (fun _ _ _ h => h) (Or.inl ⟨by rfl, ?_⟩) hHeld ?_ ?_
        rotate_left
        · rintro w' ⟨s0, s1⟩
          go_simp
          with_reducible rfl
        rotate_left
        · simp only [Act.put, List.setIfInBounds_toArray, List.set_cons_zero, List.set_cons_succ, i64_w, i32_w]
          rfl
        refine take_ (i := 8) (N := some 78) (v := ?_) (a' := ?_) #[true, true, true, true, true, true, true, true, true, false, false, true, true, false, false, false, false, true, true, false, false, false, false, false, false, false] rfl rfl (by kernel_rfl) (fun _ _ _ h => h) (Or.inl ⟨by rfl, ?_⟩) hHeld ?_ ?_
        rotate_left
        · rintro w' ⟨s0, s1⟩
          go_simp
          with_reducible rfl
        rotate_left
        · simp only [Act.put, List.setIfInBounds_toArray, List.set_cons_zero, List.set_cons_succ, i64_w, i32_w]
          rfl
        refine pure_ (i := 9) (N := some 79) (v := ?_) (a' := ?_) #[true, true, true, true, true, true, true, true, true, true, false, true, true, false, false, false, false, true, true, false, false, false, false, false, false, false] rfl rfl (by kernel_rfl) (fun _ _ _ h => h) (Or.inl ⟨by rfl, ?_⟩) ?_ ?_
        rotate_left
        · intro w'
          go_simp
          with_reducible rfl
        rotate_left
        · simp only [Act.put, List.setIfInBounds_toArray, List.set_cons_zero, List.set_cons_succ, i64_w, i32_w]
          rfl
        refine pure_ (i := 10) (N := some 80) (v := ?_) (a' := ?_) #[true, true, true, true, true, true, true, true, true, true, true, true, true, false, false, false, false, true, true, false, false, false, false, false, false, false] rfl rfl (by kernel_rfl) (fun _ _ _ h => h) (Or.inl ⟨by rfl, ?_⟩) ?_ ?_
        rotate_left
        · intro w'
          go_simp
          with_reducible rfl
        rotate_left
        · simp only [Act.put, List.setIfInBounds_toArray, List.set_cons_zero, List.set_cons_succ, i64_w, i32_w]
          rfl
        refine take_ (i := 13) (N := some 83) (v := ?_) (a' := ?_) #[true, true, true, true, true, true, true, true, true, true, true, true, true, true, false, false, false, true, true, false, false, false, false, false, false, false] rfl rfl (by kernel_rfl) (fun _ _ _ h => h) (Or.inl ⟨by rfl, ?_⟩) hHeld ?_ ?_
        rotate_left
        · rintro w' ⟨s0, s1⟩
          go_simp
          with_reducible rfl
        rotate_left
        · simp only [Act.put, List.setIfInBounds_toArray, List.set_cons_zero, List.set_cons_succ, i64_w, i32_w]
          rfl
        refine pure_ (i := 14) (N := some 84) (v := ?_) (a' := ?_) #[true, true, true, true, true, true, true, true, true, true, true, true, true, true, true, false, false, true, true, false, false, false, false, false, false, false] rfl rfl (by kernel_rfl) (fun _ _ _ h => h) (Or.inl ⟨by rfl, ?_⟩) ?_ ?_
        rotate_left
        · intro w'
          go_simp
          with_reducible rfl
        rotate_left
        · simp only [Act.put, List.setIfInBounds_toArray, List.set_cons_zero, List.set_cons_succ, i64_w, i32_w]
          rfl
        refine pure_ (i := 15) (N := some 85) (v := ?_) (a' := ?_) #[true, true, true, true, true, true, true, true, true, true, true, true, true, true, true, true, false, true, true, false, false, false, false, false, false, false] rfl rfl (by kernel_rfl) (fun _ _ _ h => h) (Or.inl ⟨by rfl, ?_⟩) ?_ ?_
        rotate_left
        · intro w'
          go_simp
          with_reducible rfl
        rotate_left
        · simp only [Act.put, List.setIfInBounds_toArray, List.set_cons_zero, List.set_cons_succ, i64_w, i32_w]
          rfl
        refine take_ (i := 16) (N := some 86) (v := ?_) (a' := ?_) #[true, true, true, true, true, true, true, true, true, true, true, true, true, true, true, true, true, true, true, false, false, false, false, false, false, false] rfl rfl (by kernel_rfl) (fun _ _ _ h => h) (Or.inl ⟨by rfl, ?_⟩) hHeld ?_ ?_
        rotate_left
        · rintro w' ⟨s0, s1⟩
          go_simp
          with_reducible rfl
        rotate_left
        · simp only [Act.put, List.setIfInBounds_toArray, List.set_cons_zero, List.set_cons_succ, i64_w, i32_w]
          rfl
        refine take_ (i := 19) (N := some 89) (v := ?_) (a' := ?_) #[true, true, true, true, true, true, true, true, true, true, true, true, true, true, true, true, true, true, true, true, false, false, false, false, false, false] rfl rfl (by kernel_rfl) (fun _ _ _ h => h) (Or.inl ⟨by rfl, ?_⟩) hHeld ?_ ?_
        rotate_left
        · rintro w' ⟨s0, s1⟩
          go_simp
          with_reducible rfl
        rotate_left
        · simp only [Act.put, List.setIfInBounds_toArray, List.set_cons_zero, List.set_cons_succ, i64_w, i32_w]
          rfl
        refine pure_ (i := 20) (N := some 90) (v := ?_) (a' := ?_) #[true, true, true, true, true, true, true, true, true, true, true, true, true, true, true, true, true, true, true, true, true, false, false, false, false, false] rfl rfl (by kernel_rfl) (fun _ _ _ h => h) (Or.inl ⟨by rfl, ?_⟩) ?_ ?_
        rotate_left
        · intro w'
          go_simp
          with_reducible rfl
        rotate_left
        · simp only [Act.put, List.setIfInBounds_toArray, List.set_cons_zero, List.set_cons_succ, i64_w, i32_w]
          rfl
        refine pure_ (i := 21) (N := some 91) (v := ?_) (a' := ?_) #[true, true, true, true, true, true, true, true, true, true, true, true, true, true, true, true, true, true, true, true, true, true, false, false, false, false] rfl rfl (by kernel_rfl) (fun _ _ _ h => h) (Or.inl ⟨by rfl, ?_⟩) ?_ ?_
        rotate_left
        · intro w'
          go_simp
          with_reducible rfl
        rotate_left
        · simp only [Act.put, List.setIfInBounds_toArray, List.set_cons_zero, List.set_cons_succ, i64_w, i32_w]
          rfl
        refine take_ (i := 22) (N := some 92) (v := ?_) (a' := ?_) #[true, true, true, true, true, true, true, true, true, true, true, true, true, true, true, true, true, true, true, true, true, true, true, false, false, false] rfl rfl (by kernel_rfl) (fun _ _ _ h => h) (Or.inl ⟨by rfl, ?_⟩) hHeld ?_ ?_
        rotate_left
        · rintro w' ⟨s0, s1⟩
          go_simp
          with_reducible rfl
        rotate_left
        · simp only [Act.put, List.setIfInBounds_toArray, List.set_cons_zero, List.set_cons_succ, i64_w, i32_w]
          rfl
        refine last_ (i := 23) (N := some 93) #[true, true, true, true, true, true, true, true, true, true, true, true, true, true, true, true, true, true, true, true, true, true, true, true, false, false] rfl rfl (by kernel_rfl) (by decide) (fun K hK => ?_)
        refine value_ (w1 := ?_) (v := ?_) (by rfl) rfl ?_ ?_
        rotate_left 2
        · go_simp
          constructor
          · rfl
          · rfl
        refine hK.out _ _ ?_
        clear hK K
        refine norm_ (a' := ?_) ?_ ?_
        rotate_left
        · show Act.put _ (some 93) _ = _
          simp only [Act.put, List.setIfInBounds_toArray, List.set_cons_zero, List.set_cons_succ, i64_w, i32_w]
          rfl
        refine last_ (i := 24) (N := some 94) #[true, true, true, true, true, true, true, true, true, true, true, true, true, true, true, true, true, true, true, true, true, true, true, true, true, false] rfl rfl (by kernel_rfl) (by decide) (fun K hK => ?_)
        refine step_append_lies _ (by rfl) (.tmp 70) (.tmp 93) 73 (by rfl) w.heap.size 5 i0 _ 1 1 Try.underlying73 hi hz0 hz1 hz2 rfl (by decide) _ d.length (nums .u8 d) (by rfl) (HO2.out.alloc _) ⟨w2.heap.size, 0, none⟩ 4 4 (nums .u8 (two2 a b)) (by rfl) rfl (news_lit _ _ _) (nums_one _) (by decide) (by unfold maxLen; omega) (by omega) (by simp; omega) _ rfl ?_
        intro g cap w4 hown4 hgrow4 hat4 hlt4
        refine hK.out _ _ ?_
        clear hK K
        refine norm_ (a' := ?_) ?_ ?_
        rotate_left
        · show Act.put _ (some 94) _ = _
          simp only [Act.put, List.setIfInBounds_toArray, List.set_cons_zero, List.set_cons_succ, i64_w, i32_w]
          rfl
        refine pure_ (i := 25) (N := some 3) (v := ?_) (a' := ?_) #[true, true, true, true, true, true, true, true, true, true, true, true, true, true, true, true, true, true, true, true, true, true, true, true, true, true] rfl rfl (by kernel_rfl) (fun _ _ _ h => h) (Or.inl ⟨by rfl, ?_⟩) ?_ ?_
        rotate_left
        · intro w'
          go_simp
          with_reducible rfl
        rotate_left
        · simp only [Act.put, List.setIfInBounds_toArray, List.set_cons_zero, List.set_cons_succ, i64_w, i32_w]
          rfl
        refine done_ (by kernel_rfl) ?_
        have hB4 : Below w.heap.size w w4 := (HB2.out.alloc hsz2 _).grown hgrow4 (by have := hgrow4.size; simp at this; have := hsz2; simp; omega) (fun k hk => own_base HO2.out k hk)
        rw [← nums_append] at hown4
        obtain ⟨A9, c9, hv9, _, hC9⟩ := own_C (l := d ++ two2 a b) (by rw [List.length_append]; rfl) hown4
        cases hv9
        have q9 := str_of w4 (c := cap) hC9
        clear hown4 hgrow4 hat4 hlt4 x0 x1 z0 z1 z2 p0 q0 p1 q1 p2 q2 e1 e2 v1 v2 o1 hHeld HO2 HB2 hC9
        go_wp2
        go_ret
        exact ⟨by rw [HEQ.out]; rfl, hB4⟩
      | _ :: _ :: _ :: _, h => simp only [List.length_cons] at h; omega
end Go.Proofs.Yticjpjgfccbhlaa.Code

/- code.Reader.next by contract. -/
namespace Go.Proofs.Yticjpjgfccbhlaa.Code
open Go.RowKit Go.Proofs.YticjpjgfccbhlaaW.PrintWords Go.Proofs.YticjpjgfccbhlaaW.PrintLast Go.Proofs.YticjpjgfccbhlaaW.PrintMore Go.Proofs.Yticjpjgfccbhlaa.PSaslBoth
attribute [local go_sem] max2_int min2_int max_two min_two max_three min_three max_four min_four
set_option linter.unusedVariables false
set_option linter.unusedSimpArgs false
/-- does the text go on with this letter: 0, or the error -/
def nextV (q1 q2 : Int) (n : Nat) (over : Bool) (v : Int) : Int :=
  if v = 65 then 40 else if over = true then 41 else if n = 3 ∧ q2 = 64 then (if v ≠ 64 then 41 else 0) else if v ≠ 64 then 0 else if n < 2 then 41 else if n = 2 ∧ q1 % 16 ≠ 0 then 41 else if n = 3 ∧ q2 % 4 ≠ 0 then 41 else 0
def rd8 (w : World) (R : Nat) (q0 q1 q2 q3 : Int) (n : Nat) (over : Bool) : Prop := w.heap[R]? = some (.cells #[.bool true, .int .u8 q0, .int .u8 q1, .int .u8 q2, .int .u8 q3, .int .i64 n, .bool over, .int .i64 0] 104 (0, 0))
set_option maxHeartbeats 2000000 in
set_option maxRecDepth 100000 in
theorem next_calls (R : Nat) (q0 q1 q2 q3 : Int) (n : Nat) (over : Bool) (v : Int) (w : World) (hR : rd8 w R q0 q1 q2 q3 n over) (hn : n ≤ 3) (h1 : 0 ≤ q1 ∧ q1 < 256) (h2 : 0 ≤ q2 ∧ q2 < 256) :
    Calls Try.prog 56 #[.pointer (some ⟨R, 0, none⟩), .int .u8 v] w fun e w' => e = .returned (.int .i64 (nextV q1 q2 n over v)) ∧ Drawn0 w w' := by
  have x1 := blk_cell hR 1
  have x2 := blk_cell hR 2
  have x3 := blk_cell hR 3
  have x4 := blk_cell hR 4
  have x5 := blk_cell hR 5
  have x6 := blk_cell hR 6
  simp only [List.getElem?_toArray, List.getElem?_cons_succ, List.getElem?_cons_zero] at x1 x2 x3 x4 x5 x6
  clear hR
  have a0 : (0 ≤ (n : Int)) = True := eq_true (by omega)
  have a1 : ((n : Int) ≤ 4) = True := eq_true (by omega)
  have b1 := u8_and15 q1 h1.1 h1.2
  have b2 := u8_and3 h2.1 h2.2
  by_cases hv : v = 65
  · subst hv
    go_enter Try.func56, Try.ntmps56
    go_wp2
    go_quiet (fail)
    go_wp2
    go_ret
    exact ⟨by simp [nextV, *], by repeat (first | exact Drawn0.refl _ | apply Drawn0.step)⟩
  · have hv0 : (v == 65) = false := beq_eq_false_iff_ne.2 hv
    cases over
    · by_cases hc : v = 64
      · subst hc
        obtain rfl | rfl | rfl | rfl : n = 0 ∨ n = 1 ∨ n = 2 ∨ n = 3 := by omega
        · go_enter Try.func56, Try.ntmps56
          go_wp2
          go_quiet (fail)
          go_wp2
          go_ret
          exact ⟨by simp [nextV, *], by repeat (first | exact Drawn0.refl _ | apply Drawn0.step)⟩
        · go_enter Try.func56, Try.ntmps56
          go_wp2
          go_quiet (fail)
          go_wp2
          go_ret
          exact ⟨by simp [nextV, *], by repeat (first | exact Drawn0.refl _ | apply Drawn0.step)⟩
        · by_cases hq : q1 % 16 = 0
          · have hq0 : (q1 % 16 == 0) = true := beq_iff_eq.2 hq
            have hq1 : (q1 % 16 != 0) = false := bne_eq_false_iff_eq.2 hq
            go_enter Try.func56, Try.ntmps56
            go_wp2
            go_quiet (fail)
            go_wp2
            go_ret
            exact ⟨by simp [nextV, *], by repeat (first | exact Drawn0.refl _ | apply Drawn0.step)⟩
          · have hq0 : (q1 % 16 == 0) = false := beq_eq_false_iff_ne.2 hq
            have hq1 : (q1 % 16 != 0) = true := bne_iff_ne.2 hq
            go_enter Try.func56, Try.ntmps56
            go_wp2
            go_quiet (fail)
            go_wp2
            go_ret
            exact ⟨by simp [nextV, *], by repeat (first | exact Drawn0.refl _ | apply Drawn0.step)⟩
        · by_cases hp : q2 = 64
          · subst hp
            go_enter Try.func56, Try.ntmps56
            go_wp2
            go_quiet (fail)
            go_wp2
            go_ret
            exact ⟨by simp [nextV, *], by repeat (first | exact Drawn0.refl _ | apply Drawn0.step)⟩
          · have hp0 : (q2 == 64) = false := beq_eq_false_iff_ne.2 hp
            by_cases hq : q2 % 4 = 0
            · have hq0 : (q2 % 4 == 0) = true := beq_iff_eq.2 hq
              have hq1 : (q2 % 4 != 0) = false := bne_eq_false_iff_eq.2 hq
              go_enter Try.func56, Try.ntmps56
              go_wp2
              go_quiet (fail)
              go_wp2
              go_ret
              exact ⟨by simp [nextV, *], by repeat (first | exact Drawn0.refl _ | apply Drawn0.step)⟩
            · have hq0 : (q2 % 4 == 0) = false := beq_eq_false_iff_ne.2 hq
              have hq1 : (q2 % 4 != 0) = true := bne_iff_ne.2 hq
              go_enter Try.func56, Try.ntmps56
              go_wp2
              go_quiet (fail)
              go_wp2
              go_ret
              exact ⟨by simp [nextV, *], by repeat (first | exact Drawn0.refl _ | apply Drawn0.step)⟩
      · have hc0 : (v == 64) = false := beq_eq_false_iff_ne.2 hc
        have hc1 : (v != 64) = true := bne_iff_ne.2 hc
        obtain rfl | rfl | rfl | rfl : n = 0 ∨ n = 1 ∨ n = 2 ∨ n = 3 := by omega
        · go_enter Try.func56, Try.ntmps56
          go_wp2
          go_quiet (fail)
          go_wp2
          go_ret
          exact ⟨by simp [nextV, *], by repeat (first | exact Drawn0.refl _ | apply Drawn0.step)⟩
        · go_enter Try.func56, Try.ntmps56
          go_wp2
          go_quiet (fail)
          go_wp2
          go_ret
          exact ⟨by simp [nextV, *], by repeat (first | exact Drawn0.refl _ | apply Drawn0.step)⟩
        · go_enter Try.func56, Try.ntmps56
          go_wp2
          go_quiet (fail)
          go_wp2
          go_ret
          exact ⟨by simp [nextV, *], by repeat (first | exact Drawn0.refl _ | apply Drawn0.step)⟩
        · by_cases hp : q2 = 64
          · subst hp
            go_enter Try.func56, Try.ntmps56
            go_wp2
            go_quiet (fail)
            go_wp2
            go_ret
            exact ⟨by simp [nextV, *], by repeat (first | exact Drawn0.refl _ | apply Drawn0.step)⟩
          · have hp0 : (q2 == 64) = false := beq_eq_false_iff_ne.2 hp
            go_enter Try.func56, Try.ntmps56
            go_wp2
            go_quiet (fail)
            go_wp2
            go_ret
            exact ⟨by simp [nextV, *], by repeat (first | exact Drawn0.refl _ | apply Drawn0.step)⟩
    · go_enter Try.func56, Try.ntmps56
      go_wp2
      go_quiet (fail)
      go_wp2
      go_ret
      exact ⟨by simp [nextV, *], by repeat (first | exact Drawn0.refl _ | apply Drawn0.step)⟩
end Go.Proofs.Yticjpjgfccbhlaa.Code

/- code.Reader.take by contract. -/
namespace Go.Proofs.Yticjpjgfccbhlaa.Code
open Go.RowKit Go.Proofs.YticjpjgfccbhlaaW.PrintWords Go.Proofs.YticjpjgfccbhlaaW.PrintLast Go.Proofs.YticjpjgfccbhlaaW.PrintMore Go.Proofs.Yticjpjgfccbhlaa.PSaslBoth
attribute [local go_sem] max2_int min2_int max_two min_two max_three min_three max_four min_four
set_option linter.unusedVariables false
set_option linter.unusedSimpArgs false
open Go.Proofs.Yticjpjgfccbhlaa.PSaslBoth (code_value.f code_value.calls)
/-- what a letter says -/
def valV (n : Nat) : Int := if 65 ≤ n ∧ n ≤ 90 then n - 65 else if 97 ≤ n ∧ n ≤ 122 then n - 71 else if 48 ≤ n ∧ n ≤ 57 then n + 4 else if n = 43 then 62 else if n = 47 then 63 else if n = 61 then 64 else 65
theorem val_all : ∀ n : Fin 256, code_value.f 10 ((n.val : Nat) : Int) = some (valV n.val) := by decide +kernel
theorem value_calls (c : UInt8) (w : World) : Calls Try.prog 55 #[.int .u8 (c.toNat : Int)] w fun e w' => e = .returned (.int .u8 (valV c.toNat)) ∧ Drawn0 w w' :=
  code_value.calls 10 _ _ w (val_all ⟨c.toNat, c.toNat_lt⟩)
structure St where
  (q0 q1 q2 q3 : Int) (n : Nat) (over : Bool)
def b0 (q0 q1 : Int) : Int := bits .or .u8 (q0 * 4 % 256) (q1 / 16)
def b1 (q1 q2 : Int) : Int := bits .or .u8 (q1 * 16 % 256) (q2 / 4)
def b2 (q2 q3 : Int) : Int := bits .or .u8 (q2 * 64 % 256) q3
def grp (q0 q1 q2 q3 : Int) : List Int := if q2 = 64 then [b0 q0 q1] else if q3 = 64 then [b0 q0 q1, b1 q1 q2] else [b0 q0 q1, b1 q1 q2, b2 q2 q3]
def put1 (s : St) (v : Int) : St := if s.n = 0 then { s with q0 := v, n := 1 } else if s.n = 1 then { s with q1 := v, n := 2 } else { s with q2 := v, n := 3 }
def takeV (s : St) (d : List Int) (c : Nat) : St × List Int × Int :=
  if nextV s.q1 s.q2 s.n s.over (valV c) ≠ 0 then (s, d, nextV s.q1 s.q2 s.n s.over (valV c))
  else if s.n < 3 then (put1 s (valV c), d, 0)
  else ({ s with q3 := valV c, n := 0, over := valV c == 64 }, d ++ grp s.q0 s.q1 s.q2 (valV c), 0)
def rdS (w : World) (R : Nat) (s : St) : Prop := rd8 w R s.q0 s.q1 s.q2 s.q3 s.n s.over
theorem val_range (c : UInt8) : 0 ≤ valV c.toNat ∧ valV c.toNat ≤ 65 := by
  unfold valV
  repeat' split
  all_goals omega
theorem reads_blk {W : World} {B : Nat} {cs : Array Value} {t : TypeId} (h : W.heap[B]? = some (.cells cs t (0, 0))) (l : List Int) (hc : ∀ (j : Nat) x, l[j]? = some x → cs[j]? = some (.int .u8 x)) (hl : l.length ≤ 100) : ReadsInt W .u8 (some ⟨B, 0, none⟩) l.length l :=
  Kd.reads_of_C (enc := Value.int .u8) (d := (0 : Int)) (h1 := fun _ => rfl) (C_of_atI rfl (fun j x hx => by rw [Nat.zero_add, blk_cell h]; exact hc j x hx) (by omega))
theorem new_at {W : World} {o : Obj} {k : Nat} (h : W.heap.size = k) : (W.alloc o).heap[k]? = some o := h ▸ heap_alloc_new W o
theorem rd_old {W : World} {R : Nat} {q0 q1 q2 q3 : Int} {n : Nat} {ov : Bool} (h : rd8 W R q0 q1 q2 q3 n ov) (o : Obj) : rd8 (W.alloc o) R q0 q1 q2 q3 n ov := (heap_alloc_old W o (Array.getElem?_eq_some_iff.1 h).1).trans h
theorem below_al {w W : World} {o : Obj} (h : Below w.heap.size w W) : Below w.heap.size w (W.alloc o) := h.alloc h.size o
theorem below_st {w W : World} {p : Addr} {u : Value} (hp : w.heap.size ≤ p.block) (h : Below w.heap.size w W) : Below w.heap.size w (W.setCell p u) := h.setCell hp u
theorem rd_set {w : World} {R : Nat} {q0 q1 q2 q3 : Int} {over : Bool} (v : Int) (ov : Bool) (h : w.heap[R]? = some (.cells #[.bool true, .int .u8 q0, .int .u8 q1, .int .u8 q2, .int .u8 q3, .int .i64 3, .bool over, .int .i64 0] 104 (0, 0))) :
    rd8 ((((w.setCell ⟨R, 4, none⟩ (.int .u8 v)).setCell ⟨R, 5, none⟩ (.int .i64 4)).setCell ⟨R, 5, none⟩ (.int .i64 0)).setCell ⟨R, 6, none⟩ (.bool ov)) R q0 q1 q2 v 0 ov :=
  blk_put (blk_put (blk_put (blk_put h 4 (.int .u8 v) rfl) 5 (.int .i64 4) rfl) 5 (.int .i64 0) rfl) 6 (.bool ov) rfl
set_option maxHeartbeats 4000000 in
set_option maxRecDepth 100000 in
theorem take_calls (w0 : World) (R : Nat) (s : St) (d : List Int) (V : Value) (c : UInt8) (w : World) (hR : rdS w R s) (hn : s.n ≤ 3) (h1 : 0 ≤ s.q1 ∧ s.q1 < 256) (h2 : 0 ≤ s.q2 ∧ s.q2 < 256)
    (hO : w.ownsRow w0.heap.size 5 1 V d.length (nums .u8 d)) (hne : ∀ k, V.ownBlock = some k → k ≠ R) (hB : Below w0.heap.size w0 w) (hR0 : w0.heap.size ≤ R) (hd : d.length ≤ 100000000) :
    Calls Try.prog 47 #[.pointer (some ⟨R, 0, none⟩), V, .int .u8 (c.toNat : Int)] w fun e w' => ∃ V' s' d' er, takeV s d c.toNat = (s', d', er) ∧ e = .returned (.tuple #[V', .int .i64 er]) ∧ w'.ownsRow w0.heap.size 5 1 V' d'.length (nums .u8 d') ∧ (∀ k, V'.ownBlock = some k → k ≠ R) ∧ rdS w' R s' ∧ Below w0.heap.size w0 w' := by
  obtain ⟨q0, q1, q2, q3, n, over⟩ := s
  simp only [rdS] at *
  have hV0 := value_calls c w
  have hvr := val_range c
  obtain ⟨v, hv⟩ : ∃ v, valV c.toNat = v := ⟨_, rfl⟩
  rw [hv] at hV0 hvr
  have HV := Lib.hid hV0
  have HVV := Lib.hid hv
  clear hV0 hv
  have HO := Lib.hid hO
  have HB := Lib.hid hB
  have HR := Lib.hid hR
  have HN := Lib.hid (fun nd => next_calls R q0 q1 q2 q3 n over v (w.drewN nd) (blk_drewN hR nd) hn h1 h2)
  clear hO hB hR
  go_enter Try.func47, Try.ntmps47
  go_wp2_with fail
  refine HV.out.mono ?_
  rintro e w1 ⟨rfl, ⟨⟨n1, rfl⟩⟩⟩
  go_wp2_with fail
  refine (HN.out n1).mono ?_
  rintro e w2 ⟨rfl, ⟨⟨n2, rfl⟩⟩⟩
  have hRn : w.heap[R]? = some (.cells #[.bool true, .int .u8 q0, .int .u8 q1, .int .u8 q2, .int .u8 q3, .int .i64 n, .bool over, .int .i64 0] 104 (0, 0)) := HR.out
  have HRN := Lib.hid hRn
  clear hRn
  by_cases he : nextV q1 q2 n over v = 0
  · have he1 : (nextV q1 q2 n over v != 0) = false := bne_eq_false_iff_eq.2 he
    have hRn := HRN.out
    have x0 := blk_cell hRn 0
    have x1 := blk_cell hRn 1
    have x2 := blk_cell hRn 2
    have x3 := blk_cell hRn 3
    have x4 := blk_cell hRn 4
    have x5 := blk_cell hRn 5
    have x6 := blk_cell hRn 6
    have f1 := blk_frozen hRn 1
    have f2 := blk_frozen hRn 2
    have f3 := blk_frozen hRn 3
    have f4 := blk_frozen hRn 4
    have f5 := blk_frozen hRn 5
    have f6 := blk_frozen hRn 6
    simp only [List.getElem?_toArray, List.getElem?_cons_succ, List.getElem?_cons_zero] at x0 x1 x2 x3 x4 x5 x6
    clear hRn
    obtain rfl | rfl | rfl | rfl : n = 0 ∨ n = 1 ∨ n = 2 ∨ n = 3 := by omega
    · go_wp2
      go_region
      go_wp2
      go_ret2
      exact ⟨V, _, d, _, by unfold takeV put1; rw [HVV.out, if_neg (fun e => e he)]; rfl, rfl, own_setCell (own_setCell (show (w.drewN _).ownsRow w0.heap.size 5 1 V d.length (nums .u8 d) from HO.out) (p := ⟨R, 1, none⟩) (fun e => hne R e.symm rfl) _) (p := ⟨R, 5, none⟩) (fun e => hne R e.symm rfl) _, hne, blk_put (blk_put (blk_drewN HRN.out _) 1 (.int .u8 v) rfl) 5 (.int .i64 1) rfl, ((pw_below_drewN HB.out _).setCell (p := ⟨R, 1, none⟩) hR0 _).setCell (p := ⟨R, 5, none⟩) hR0 _⟩
    · go_wp2
      go_region
      go_wp2
      go_ret2
      exact ⟨V, _, d, _, by unfold takeV put1; rw [HVV.out, if_neg (fun e => e he)]; rfl, rfl, own_setCell (own_setCell (show (w.drewN _).ownsRow w0.heap.size 5 1 V d.length (nums .u8 d) from HO.out) (p := ⟨R, 2, none⟩) (fun e => hne R e.symm rfl) _) (p := ⟨R, 5, none⟩) (fun e => hne R e.symm rfl) _, hne, blk_put (blk_put (blk_drewN HRN.out _) 2 (.int .u8 v) rfl) 5 (.int .i64 2) rfl, ((pw_below_drewN HB.out _).setCell (p := ⟨R, 2, none⟩) hR0 _).setCell (p := ⟨R, 5, none⟩) hR0 _⟩
    · go_wp2
      go_region
      go_wp2
      go_ret2
      exact ⟨V, _, d, _, by unfold takeV put1; rw [HVV.out, if_neg (fun e => e he)]; rfl, rfl, own_setCell (own_setCell (show (w.drewN _).ownsRow w0.heap.size 5 1 V d.length (nums .u8 d) from HO.out) (p := ⟨R, 3, none⟩) (fun e => hne R e.symm rfl) _) (p := ⟨R, 5, none⟩) (fun e => hne R e.symm rfl) _, hne, blk_put (blk_put (blk_drewN HRN.out _) 3 (.int .u8 v) rfl) 5 (.int .i64 3) rfl, ((pw_below_drewN HB.out _).setCell (p := ⟨R, 3, none⟩) hR0 _).setCell (p := ⟨R, 5, none⟩) hR0 _⟩
    · by_cases h64 : q2 = 64
      · subst h64
        have hRl : R < w.heap.size := (Array.getElem?_eq_some_iff.1 HRN.out).1
        go_wp2
        go_region
        go_upto_region 24 with fail
        go_wp2_with (at_builtin; refine print_append_row (w0 := w0) w0.heap.size rfl (.tmp 90) (.tmp 92) 73 5 .u8 1 rfl Try.underlying73 info5 (by decide) V d [b0 q0 q1] (some ⟨w.heap.size + 1, 0, none⟩) 1 3 rfl rfl ?ho ?hr ?hb ?hbase ?hl ?_)
        case ho => exact (((own_setCell (own_setCell (own_setCell (own_setCell (show (w.drewN _).ownsRow w0.heap.size 5 1 V d.length (nums .u8 d) from HO.out) (p := ⟨R, 4, none⟩) (fun e => hne R e.symm rfl) _) (p := ⟨R, 5, none⟩) (fun e => hne R e.symm rfl) _) (p := ⟨R, 5, none⟩) (fun e => hne R e.symm rfl) _) (p := ⟨R, 6, none⟩) (fun e => hne R e.symm rfl) _).alloc _).alloc _)
        case hr => exact reads_blk (new_at (by simp)) [b0 q0 q1] (fun j x hx => by match j with | 0 => cases hx; rfl | j + 1 => simp at hx) (by simp)
        case hb => exact (below_al (below_al (below_st hR0 (below_st hR0 (below_st hR0 (below_st hR0 (pw_below_drewN HB.out _)))))))
        case hbase => exact (below_al (below_al (below_st hR0 (below_st hR0 (below_st hR0 (below_st hR0 (pw_below_drewN HB.out _))))))).size
        case hl => omega
        intro v7 w7 ho7 hb7 hg7 hat7
        go_wp2
        go_ret2
        refine ⟨v7, ⟨q0, q1, 64, v, 0, (v == 64)⟩, d ++ [b0 q0 q1], 0, ?_, rfl, (by rw [List.length_append]; exact ho7), ?_, (show rd8 w7 R q0 q1 64 v 0 (v == 64) from (hg7.block R ?_ ?_).trans (rd_old (rd_old (rd_set v (v == 64) (blk_drewN HRN.out _)) _) _)), hb7⟩
        · unfold takeV; rw [HVV.out, if_neg (fun e => e he), if_neg (Nat.lt_irrefl 3)]; simp only [grp, if_true]; done
        · intro k hk
          rcases hat7 with h | ⟨b, h, hb⟩
          · rw [h] at hk; exact hne k hk
          · rw [h] at hk; cases hk; omega
        · first | exact fun e => hne R e.symm rfl | (simp; omega) | omega
        · first | exact fun e => hne R e.symm rfl | (simp; omega) | omega
      · have g64 : (q2 == 64) = false := beq_eq_false_iff_ne.2 h64
        by_cases g3 : v = 64
        · subst g3
          have hRl : R < w.heap.size := (Array.getElem?_eq_some_iff.1 HRN.out).1
          go_wp2
          go_region
          go_upto_region 24 with fail
          go_wp2_with (at_builtin; refine print_append_row (w0 := w0) w0.heap.size rfl (.tmp 90) (.tmp 92) 73 5 .u8 1 rfl Try.underlying73 info5 (by decide) V d [b0 q0 q1, b1 q1 q2] (some ⟨w.heap.size + 1, 0, none⟩) 2 3 rfl rfl ?ho ?hr ?hb ?hbase ?hl ?_)
          case ho => exact (((own_setCell (own_setCell (own_setCell (own_setCell (show (w.drewN _).ownsRow w0.heap.size 5 1 V d.length (nums .u8 d) from HO.out) (p := ⟨R, 4, none⟩) (fun e => hne R e.symm rfl) _) (p := ⟨R, 5, none⟩) (fun e => hne R e.symm rfl) _) (p := ⟨R, 5, none⟩) (fun e => hne R e.symm rfl) _) (p := ⟨R, 6, none⟩) (fun e => hne R e.symm rfl) _).alloc _).alloc _)
          case hr => exact reads_blk (new_at (by simp)) [b0 q0 q1, b1 q1 q2] (fun j x hx => by match j with | 0 => cases hx; rfl | 1 => cases hx; rfl | j + 2 => simp at hx) (by simp)
          case hb => exact (below_al (below_al (below_st hR0 (below_st hR0 (below_st hR0 (below_st hR0 (pw_below_drewN HB.out _)))))))
          case hbase => exact (below_al (below_al (below_st hR0 (below_st hR0 (below_st hR0 (below_st hR0 (pw_below_drewN HB.out _))))))).size
          case hl => omega
          intro v7 w7 ho7 hb7 hg7 hat7
          go_wp2
          go_ret2
          refine ⟨v7, ⟨q0, q1, q2, 64, 0, true⟩, d ++ [b0 q0 q1, b1 q1 q2], 0, ?_, rfl, (by rw [List.length_append]; exact ho7), ?_, (show rd8 w7 R q0 q1 q2 64 0 true from (hg7.block R ?_ ?_).trans (rd_old (rd_old (rd_set 64 true (blk_drewN HRN.out _)) _) _)), hb7⟩
          · unfold takeV; rw [HVV.out, if_neg (fun e => e he), if_neg (Nat.lt_irrefl 3)]; simp only [grp, if_neg h64, if_true]; rfl
          · intro k hk
            rcases hat7 with h | ⟨b, h, hb⟩
            · rw [h] at hk; exact hne k hk
            · rw [h] at hk; cases hk; omega
          · first | exact fun e => hne R e.symm rfl | (simp; omega) | omega
          · first | exact fun e => hne R e.symm rfl | (simp; omega) | omega
        · have g65 : (v == 64) = false := beq_eq_false_iff_ne.2 g3
          have hRl : R < w.heap.size := (Array.getElem?_eq_some_iff.1 HRN.out).1
          go_wp2
          go_region
          go_upto_region 24 with fail
          go_wp2_with (at_builtin; refine print_append_row (w0 := w0) w0.heap.size rfl (.tmp 90) (.tmp 92) 73 5 .u8 1 rfl Try.underlying73 info5 (by decide) V d [b0 q0 q1, b1 q1 q2, b2 q2 v] (some ⟨w.heap.size + 1, 0, none⟩) 3 3 rfl rfl ?ho ?hr ?hb ?hbase ?hl ?_)
          case ho => exact (((own_setCell (own_setCell (own_setCell (own_setCell (show (w.drewN _).ownsRow w0.heap.size 5 1 V d.length (nums .u8 d) from HO.out) (p := ⟨R, 4, none⟩) (fun e => hne R e.symm rfl) _) (p := ⟨R, 5, none⟩) (fun e => hne R e.symm rfl) _) (p := ⟨R, 5, none⟩) (fun e => hne R e.symm rfl) _) (p := ⟨R, 6, none⟩) (fun e => hne R e.symm rfl) _).alloc _).alloc _)
          case hr => exact reads_blk (new_at (by simp)) [b0 q0 q1, b1 q1 q2, b2 q2 v] (fun j x hx => by match j with | 0 => cases hx; rfl | 1 => cases hx; rfl | 2 => cases hx; rfl | j + 3 => simp at hx) (by simp)
          case hb => exact (below_al (below_al (below_st hR0 (below_st hR0 (below_st hR0 (below_st hR0 (pw_below_drewN HB.out _)))))))
          case hbase => exact (below_al (below_al (below_st hR0 (below_st hR0 (below_st hR0 (below_st hR0 (pw_below_drewN HB.out _))))))).size
          case hl => omega
          intro v7 w7 ho7 hb7 hg7 hat7
          go_wp2
          go_ret2
          refine ⟨v7, ⟨q0, q1, q2, v, 0, false⟩, d ++ [b0 q0 q1, b1 q1 q2, b2 q2 v], 0, ?_, rfl, (by rw [List.length_append]; exact ho7), ?_, (show rd8 w7 R q0 q1 q2 v 0 false from (hg7.block R ?_ ?_).trans (rd_old (rd_old (rd_set v false (blk_drewN HRN.out _)) _) _)), hb7⟩
          · unfold takeV; rw [HVV.out, if_neg (fun e => e he), if_neg (Nat.lt_irrefl 3)]; simp only [grp, if_neg h64, if_neg g3]; rw [g65]
          · intro k hk
            rcases hat7 with h | ⟨b, h, hb⟩
            · rw [h] at hk; exact hne k hk
            · rw [h] at hk; cases hk; omega
          · first | exact fun e => hne R e.symm rfl | (simp; omega) | omega
          · first | exact fun e => hne R e.symm rfl | (simp; omega) | omega
  · have he1 : (nextV q1 q2 n over v != 0) = true := bne_iff_ne.2 he
    go_wp2
    go_ret2
    exact ⟨V, _, d, _, by unfold takeV; rw [HVV.out, if_pos he], rfl, HO.out, hne, (show rd8 (w.drewN _) R q0 q1 q2 q3 n over from blk_drewN HRN.out _), pw_below_drewN HB.out _⟩
end Go.Proofs.Yticjpjgfccbhlaa.Code

/- code.Unbase64 by contract. -/
namespace Go.Proofs.Yticjpjgfccbhlaa.Code
open Go.RowKit Go.Proofs.YticjpjgfccbhlaaW.PrintWords Go.Proofs.YticjpjgfccbhlaaW.PrintLast Go.Proofs.YticjpjgfccbhlaaW.PrintMore Go.Proofs.Yticjpjgfccbhlaa.PSaslBoth
attribute [local go_sem] max2_int min2_int max_two min_two max_three min_three max_four min_four
set_option linter.unusedVariables false
set_option linter.unusedSimpArgs false
def unGo : List UInt8 → Nat → St → List Int → List Int × Int × Nat
  | [], i, s, d => if s.n > 0 then ([], 41, i) else (d, 0, 0)
  | c :: r, i, s, d => if (takeV s d c.toNat).2.2 ≠ 0 then ([], (takeV s d c.toNat).2.2, i) else unGo r (i + 1) (takeV s d c.toNat).1 (takeV s d c.toNat).2.1
theorem unGo_cons (c : UInt8) (r : List UInt8) (i : Nat) (s : St) (d : List Int) : unGo (c :: r) i s d = if (takeV s d c.toNat).2.2 ≠ 0 then ([], (takeV s d c.toNat).2.2, i) else unGo r (i + 1) (takeV s d c.toNat).1 (takeV s d c.toNat).2.1 := rfl
theorem unGo_nil (i : Nat) (s : St) (d : List Int) : unGo [] i s d = if s.n > 0 then ([], 41, i) else (d, 0, 0) := rfl
theorem own_low {w : World} {b b' e s n : Nat} {v : Value} {xs : List Value} (h : w.ownsRow b e s v n xs) (hb : b' ≤ b) : w.ownsRow b' e s v n xs := by
  obtain ⟨h1, h2⟩ := h
  refine ⟨h1, ?_⟩
  rcases h2 with h2 | ⟨g, cap, cur, rfl, hg, r⟩
  · exact .inl h2
  · exact .inr ⟨g, cap, cur, rfl, Nat.le_trans hb hg, r⟩
def st0 : St := ⟨0, 0, 0, 0, 0, false⟩
/-- what Unbase64 tells: the bytes, the error, its place -/
def unV (t : List UInt8) : List Int × Int × Nat := unGo t 0 st0 []
def Okay (s : St) : Prop := s.n ≤ 3 ∧ (0 ≤ s.q1 ∧ s.q1 < 256) ∧ (0 ≤ s.q2 ∧ s.q2 < 256)
theorem okay_take {s : St} (h : Okay s) (d : List Int) (c : UInt8) : Okay (takeV s d c.toNat).1 ∧ (takeV s d c.toNat).2.1.length ≤ d.length + 3 := by
  have hr := val_range c
  obtain ⟨h0, h1, h2⟩ := h
  unfold takeV
  split
  · exact ⟨⟨h0, h1, h2⟩, by simp⟩
  · split
    · refine ⟨?_, by simp⟩
      unfold put1
      split
      · exact ⟨by simp, h1, h2⟩
      · split
        · exact ⟨by simp, ⟨hr.1, by simp only; omega⟩, h2⟩
        · exact ⟨by simp, h1, ⟨hr.1, by simp only; omega⟩⟩
    · refine ⟨⟨by simp, h1, h2⟩, ?_⟩
      simp only [List.length_append]
      unfold grp
      split
      · simp
      · split <;> simp
theorem new_calls (w : World) : Calls Try.prog 46 #[] w fun e w' => e = .returned (.pointer (some ⟨w.heap.size, 0, none⟩)) ∧ w' = w.alloc (.cells #[.bool true, .int .u8 0, .int .u8 0, .int .u8 0, .int .u8 0, .int .i64 0, .bool false, .int .i64 0] 104) := by
  go_enter Try.func46, Try.ntmps46
  go_wp2
  go_ret
  exact ⟨rfl, rfl⟩
theorem getD_at (s : ByteArray) (i : Nat) (h : i < s.size) : s.data.toList.getD i 0 = s[i]'h := by
  rw [List.getD_eq_getElem?_getD, List.getElem?_eq_getElem (by rw [data_length]; exact h)]
  rfl
theorem drop_at (s : ByteArray) (i : Nat) (h : i < s.size) : s.data.toList.drop i = s[i]'h :: s.data.toList.drop (i + 1) := by
  rw [List.drop_eq_getElem_cons (by rw [data_length]; exact h), ← getD_at s i h, List.getD_eq_getElem?_getD, List.getElem?_eq_getElem (by rw [data_length]; exact h)]
  rfl
set_option maxHeartbeats 4000000 in
set_option maxRecDepth 100000 in
theorem unbase64_calls (t : ByteArray) (w : World) (ht : t.size ≤ 30000000) :
    Calls Try.prog 38 #[.string t] w fun e w' => ∃ V d er at_, unV t.data.toList = (d, er, at_) ∧ e = .returned (.tuple #[V, .agg #[.int .i64 er, .int .i64 (at_ : Nat)]]) ∧ w'.ownsRow w.heap.size 5 1 V d.length (nums .u8 d) ∧ Below w.heap.size w w' := by
  obtain ⟨i0, hi, hz0, hz1, hz2⟩ := info_parts info5
  have hu88 := Try.underlying88
  have HN := Lib.hid (fun W => new_calls W)
  go_enter Try.func38, Try.ntmps38
  obtain ⟨W0, hW0⟩ : ∃ W0, W0 = w.alloc (.cells #[.int .i64 0, .int .i64 0] 88) := ⟨_, rfl⟩
  have hsz : W0.heap.size = w.heap.size + 1 := by rw [hW0]; simp
  have hbox : W0.heap[w.heap.size]? = some (.cells #[.int .i64 0, .int .i64 0] 88 (0, 0)) := by rw [hW0]; exact heap_alloc_new w _
  have hBw : Below w.heap.size w W0 := by rw [hW0]; exact (Below.refl _ _).alloc (Nat.le_refl _) _
  have HX := Lib.hid hbox
  have HBW := Lib.hid hBw
  have HW0 := Lib.hid hW0
  clear hbox hBw
  go_wp2_with (first | (go_at_call 46; refine (HN.out _).mono ?_; rintro e w1 ⟨rfl, rfl⟩) | (at_make; refine wpList_make_own _ rfl _ _ 73 rfl (w.heap.size + 1) 5 i0 _ 1 Try.underlying73 hi hz0 hz1 _ _ _ (t.size / 4 * 3) rfl rfl (by omega) ?b2 ?b3 (by simp) ?_))
  case b2 => rw [hz2]; omega
  case b3 => unfold maxLen; omega
  intro w1 hown1 hgrow1
  rw [← hW0] at hgrow1
  obtain ⟨R, hR⟩ : ∃ R, R = w.heap.size + 1 := ⟨_, rfl⟩
  have hrd1 : rdS w1 R st0 := by
    have h := (hgrow1.block R (by simp; omega) (by simp)).trans (new_at (by omega))
    exact h
  have hB1 : Below W0.heap.size W0 w1 := ((Below.refl W0.heap.size W0).alloc (Nat.le_refl _) _).grown hgrow1 (by simp) (fun k h => by cases h)
  have hne1 : ∀ j, (Value.slice (some { block := w.heap.size + 1 + 1, off := 0 }) 0 (t.size / 4 * 3)).ownBlock = some j → j ≠ R := fun j hj => by
    have e : w.heap.size + 1 + 1 = j := Option.some.inj hj
    omega
  clear hgrow1 hW0
  go_wp2
  rw [← hR] at hown1 hne1 ⊢
  have hsz2 : W0.heap.size = R := by omega
  replace hown1 : w1.ownsRow W0.heap.size 5 1 (Value.slice (some { block := R + 1, off := 0 }) 0 (t.size / 4 * 3)) 0 [] := by rw [hsz2]; exact hown1
  have hle : W0.heap.size ≤ R := by omega
  have hwR : w.heap.size < W0.heap.size := by omega
  have HRE := Lib.hid hR
  have HSZ := Lib.hid hsz2
  clear hR hsz2 hsz
  go_loopw [16, 5] (fun i o wr => ∃ (k : Nat) (s : St) (d : List Int) (V : Value), k ≤ t.size ∧ i = .int .i64 k ∧ V = o ∧ unV t.data.toList = unGo (t.data.toList.drop k) k s d ∧ rdS wr R s ∧ Okay s ∧ wr.ownsRow W0.heap.size 5 1 V d.length (nums .u8 d) ∧ (∀ j, V.ownBlock = some j → j ≠ R) ∧ Below W0.heap.size W0 wr ∧ d.length ≤ 3 * k) (fun i _ _ => t.size - (intOf i).toNat)
  case atStart => exact ⟨0, st0, [], _, by omega, rfl, rfl, rfl, hrd1, ⟨by decide, by decide, by decide⟩, hown1, hne1, hB1, Nat.le_refl _⟩
  case round =>
    obtain ⟨k, s, d, V, hk, rfl, rfl, hun, hrd, hok, hown, hne, hB, hd⟩ := hrel
    have HUN := Lib.hid hun
    have HRD := Lib.hid hrd
    have HOK := Lib.hid hok
    have HO := Lib.hid hown
    have HNE := Lib.hid hne
    have HB := Lib.hid hB
    clear hun hrd hok hown hne hB hown1 hrd1 hB1 hne1
    by_cases hlt : k < t.size
    · obtain ⟨c, hc⟩ : ∃ c : UInt8, t[k]'hlt = c := ⟨_, rfl⟩
      have hdrop := drop_at t k hlt
      rw [hc] at hdrop
      have HD := Lib.hid hdrop
      clear hdrop
      have hkR : (k : Int) < (t.size : Int) := by omega
      have HTK := Lib.hid (take_calls W0 R s d V c wr HRD.out HOK.out.1 HOK.out.2.1 HOK.out.2.2 HO.out HNE.out HB.out hle (by omega))
      go_wp2_with fail
      refine HTK.out.mono ?_
      rintro e w2 ⟨V', s', d', er, htv, rfl, hown2, hne2, hrd2, hB2⟩
      have HTV := Lib.hid htv
      have HO2 := Lib.hid hown2
      have HNE2 := Lib.hid hne2
      have HRD2 := Lib.hid hrd2
      have HB2 := Lib.hid hB2
      clear htv hown2 hne2 hrd2 hB2 HTK
      by_cases her : er = 0
      · subst her
        go_wp2
        go_roundw
        case rel =>
          refine ⟨k + 1, s', d', V', by omega, by go_num, rfl, ?_, HRD2.out, ?_, HO2.out, HNE2.out, HB2.out, ?_⟩
          · rw [HUN.out, HD.out]
            rw [unGo_cons, HTV.out, if_neg (by simp)]
          · have := (okay_take HOK.out d c).1
            rwa [HTV.out] at this
          · have := (okay_take HOK.out d c).2
            rw [HTV.out] at this
            simp only at this
            omega
        case measure => simp [intOf]; omega
      · have her1 : (er != 0) = true := bne_iff_ne.2 her
        have hb2 := (HB2.out.block _ hwR).trans HX.out
        have b0 := blk_cell hb2 0
        have b1 := blk_cell hb2 1
        have g0 := blk_frozen hb2 0
        have g1 := blk_frozen hb2 1
        have HX2 := Lib.hid hb2
        clear hb2
        go_wp2
        refine bodyPost_ret (results_list (rs := [.tmp 2, .cell 3 88]) rfl (by simp) (.tmp (.cell w.heap.size 88 #[.int .i64 er, .int .i64 k] (0, 0) _ rfl (blk_put (blk_put HX2.out 0 (.int .i64 er) rfl) 1 (.int .i64 k) rfl) Try.underlying88 rfl (by kernel_rfl) .nil))) rfl ?_
        have hbw := HBW.out.trans (HB2.out.mono (Nat.le_of_lt hwR))
        exact ⟨_, [], er, k, by rw [HUN.out, HD.out, unGo_cons, HTV.out]; exact if_pos her, rfl, ⟨rfl, .inl ⟨rfl, rfl⟩⟩, ((hbw.setCell (p := ⟨w.heap.size, 0, none⟩) (Nat.le_refl _) _).setCell (p := ⟨w.heap.size, 1, none⟩) (Nat.le_refl _) _)⟩
    · obtain rfl : k = t.size := by omega
      obtain ⟨q0, q1, q2, q3, n, ov⟩ := s
      have hx5 := blk_cell (show wr.heap[R]? = some (.cells #[.bool true, .int .u8 q0, .int .u8 q1, .int .u8 q2, .int .u8 q3, .int .i64 n, .bool ov, .int .i64 0] 104 (0, 0)) from HRD.out) 5
      simp only [List.getElem?_toArray, List.getElem?_cons_succ, List.getElem?_cons_zero] at hx5
      have hb2 := (HB.out.block _ hwR).trans HX.out
      have b0 := blk_cell hb2 0
      have b1 := blk_cell hb2 1
      have g0 := blk_frozen hb2 0
      have g1 := blk_frozen hb2 1
      have HX2 := Lib.hid hb2
      clear hb2
      by_cases hn0 : 0 < n
      · have hn1 : decide ((0 : Int) < (n : Int)) = true := decide_eq_true (by omega)
        go_wp2
        refine bodyPost_ret (results_list (rs := [.tmp 2, .cell 3 88]) rfl (by simp) (.tmp (.cell w.heap.size 88 #[.int .i64 41, .int .i64 t.size] (0, 0) _ rfl (blk_put (blk_put HX2.out 0 (.int .i64 41) rfl) 1 (.int .i64 t.size) rfl) Try.underlying88 rfl (by kernel_rfl) .nil))) rfl ?_
        have hbw := HBW.out.trans (HB.out.mono (Nat.le_of_lt hwR))
        exact ⟨_, [], 41, t.size, by rw [HUN.out, List.drop_eq_nil_of_le (by rw [data_length]; exact Nat.le_refl _), unGo_nil]; exact if_pos hn0, rfl, ⟨rfl, .inl ⟨rfl, rfl⟩⟩, ((hbw.setCell (p := ⟨w.heap.size, 0, none⟩) (Nat.le_refl _) _).setCell (p := ⟨w.heap.size, 1, none⟩) (Nat.le_refl _) _)⟩
      · have hn1 : decide ((0 : Int) < (n : Int)) = false := decide_eq_false (by omega)
        go_wp2
        refine bodyPost_ret (results_list (rs := [.tmp 2, .cell 3 88]) rfl (by simp) (.tmp (.cell w.heap.size 88 #[.int .i64 0, .int .i64 0] (0, 0) _ rfl (blk_put (blk_put HX2.out 0 (.int .i64 0) rfl) 1 (.int .i64 0) rfl) Try.underlying88 rfl (by kernel_rfl) .nil))) rfl ?_
        have hbw := HBW.out.trans (HB.out.mono (Nat.le_of_lt hwR))
        have hnb : some w.heap.size ≠ V.ownBlock := fun e => by have := own_base HO.out _ e.symm; omega
        exact ⟨_, d, 0, 0, by rw [HUN.out, List.drop_eq_nil_of_le (by rw [data_length]; exact Nat.le_refl _), unGo_nil]; exact if_neg hn0, rfl, own_setCell (own_setCell (own_low HO.out (Nat.le_of_lt hwR)) (p := ⟨w.heap.size, 0, none⟩) hnb _) (p := ⟨w.heap.size, 1, none⟩) hnb _, ((hbw.setCell (p := ⟨w.heap.size, 0, none⟩) (Nat.le_refl _) _).setCell (p := ⟨w.heap.size, 1, none⟩) (Nat.le_refl _) _)⟩
end Go.Proofs.Yticjpjgfccbhlaa.Code

