/- sasl: the law's may, octet.Same and Respond by contract. (The steps of Respond's region: printed by tools/sresp.py.) -/
import Derived.Test.YticjpjgfccbhlaaAny
import Derived.Test.YticjpjgfccbhlaaWakes
namespace Go.Proofs.Yticjpjgfccbhlaa.Sasl
open Go.RowKit Go.Proofs.YticjpjgfccbhlaaW.PrintWords Go.Proofs.YticjpjgfccbhlaaW.PrintLast Go.Proofs.YticjpjgfccbhlaaW.PrintMore Go.Proofs.Yticjpjgfccbhlaa.PSaslBoth Go.Proofs.Yticjpjgfccbhlaa.Hash
attribute [local go_sem] max2_int min2_int max_two min_two max_three min_three max_four min_four
set_option linter.unusedVariables false
set_option linter.unusedSimpArgs false
theorem same_l0 (a b : ByteArray) (hs : a.size = b.size) (hb : a.size ≤ 3000000000) : ∀ (d i : Nat), i ≤ a.size → a.size - i ≤ d → ∃ r, octet_Same.l0 (d + 1) a b (a.size : Int) (i : Int) = some r
  | d, i, hi, hd => by
    unfold octet_Same.l0
    by_cases h : i < a.size
    · rw [if_pos (by omega), if_pos (by omega), if_pos (by omega), bt_byte a i h, upper_f]
      simp only [Option.bind_some]
      rw [if_pos (by omega), bt_byte b i (by omega), upper_f]
      simp only [Option.bind_some]
      split
      · cases d with
        | zero => omega
        | succ d =>
          rw [show wrap64 ((i : Int) + 1) = ((i + 1 : Nat) : Int) by unfold wrap64; omega]
          exact same_l0 a b hs hb d (i + 1) (by omega) (by omega)
      · exact ⟨_, rfl⟩
    · rw [if_neg (by omega)]
      exact ⟨_, rfl⟩
theorem same_calls (a b : ByteArray) (ha : a.size ≤ 3000000000) : ∃ r, ∀ w, Calls Try.prog 36 #[.string a, .string b] w fun e w' => e = .returned (.bool r) ∧ Below w.heap.size w w' := by
  by_cases hs : a.size = b.size
  · obtain ⟨r, hr⟩ := same_l0 a b hs ha a.size 0 (Nat.zero_le _) (Nat.le_refl _)
    refine ⟨r, fun w => (octet_Same.calls (a.size + 1) a b r w ?_).mono ?_⟩
    · unfold octet_Same.f
      rw [if_pos (by omega)]
      exact hr
    · rintro e w' ⟨rfl, hD⟩
      obtain ⟨k, rfl⟩ := hD.out
      exact ⟨rfl, pw_below_drewN (Below.refl _ _) k⟩
  · refine ⟨false, fun w => (octet_Same.calls 0 a b false w ?_).mono ?_⟩
    · unfold octet_Same.f
      rw [if_neg (by omega)]
    · rintro e w' ⟨rfl, hD⟩
      obtain ⟨k, rfl⟩ := hD.out
      exact ⟨rfl, pw_below_drewN (Below.refl _ _) k⟩
def okUser (n s : ByteArray) : Bool := okT n 64 && okT s 256
set_option maxHeartbeats 4000000 in
set_option maxRecDepth 100000 in
theorem respond_none (n s m : ByteArray) (st : Stp) (w : World) (hf : firstV m ⟨#[]⟩ = some st) (hm : m.size ≤ 3000000000) (hn : n.size ≤ 1000000000) (hs : s.size ≤ 1000000000) (hok : okUser n s = false) :
    Calls Try.prog 21 #[.agg #[.string n, .string s], .string m] w fun e w' => e = .returned (.tuple #[.nilIface, .int .i64 2]) ∧ Below w.heap.size w w' := by
  obtain ⟨W0, hW0⟩ : ∃ W0, W0 = w.alloc (.cells #[.string n, .string s] 41) := ⟨_, rfl⟩
  have hb0 : Below w.heap.size w W0 := hW0 ▸ (Below.refl _ _).alloc (Nat.le_refl _) _
  have hblk : W0.heap[w.heap.size]? = some (.cells #[.string n, .string s] 41 (0, 0)) := hW0 ▸ heap_alloc_new w _
  have HF := Lib.hid (fun W => hf ▸ first_calls m ⟨#[]⟩ W hm)
  have HMN := Lib.hid (fun W => may_calls n 64 W hn)
  have HMS := Lib.hid (fun W => may_calls s 256 W hs)
  have HB0 := Lib.hid hb0
  have HW0 := Lib.hid hW0
  have HBK := Lib.hid hblk
  have hval : stpO (some st) = .iface st.ty st.recv := st.val_eq
  obtain ⟨ty, hty⟩ : ∃ ty, ty = st.ty := ⟨_, rfl⟩
  obtain ⟨recv, hrecv⟩ : ∃ recv, recv = st.recv := ⟨_, rfl⟩
  rw [← hty, ← hrecv] at hval
  have HVAL := Lib.hid hval
  clear hb0 hW0 hblk hval hty hrecv
  go_enter Try.func21, Try.ntmps21
  go_wp2_with fail
  rw [← HW0.out]
  refine (HF.out W0).mono ?_
  rintro e w1 ⟨rfl, hb1⟩
  rw [HVAL.out]
  have y0 := blk_cell ((hb1.block _ (blk_lt HBK.out)).trans HBK.out) 0
  have y1 := blk_cell ((hb1.block _ (blk_lt HBK.out)).trans HBK.out) 1
  simp only [List.getElem?_toArray, List.getElem?_cons_succ, List.getElem?_cons_zero] at y0 y1
  have HB1 := Lib.hid (HB0.out.trans (hb1.mono HB0.out.size))
  clear hb1
  cases h1 : okT n 64 with
  | false =>
    have HMN2 := Lib.hid (h1 ▸ HMN.out w1)
    clear h1
    go_wp2_with (go_at_call 35; refine HMN2.out.mono ?_; rintro e w2 ⟨rfl, hb2⟩)
    go_ret2
    exact ⟨rfl, HB1.out.trans (hb2.mono HB1.out.size)⟩
  | true =>
    have h2 : okT s 256 = false := by unfold okUser at hok; rw [h1] at hok; simpa using hok
    have HMN2 := Lib.hid (h1 ▸ HMN.out w1)
    have HMS2 := Lib.hid (fun W => h2 ▸ HMS.out W)
    clear h1 h2
    go_wp2_with fail
    refine HMN2.out.mono ?_
    rintro e w2 ⟨rfl, hb2⟩
    have z1 := (hb2.cell (World.block_lt_of_cell? w1 _ y1)).trans y1
    go_wp2_with fail
    refine (HMS2.out w2).mono ?_
    rintro e w3 ⟨rfl, hb3⟩
    go_wp2
    go_ret2
    exact ⟨rfl, HB1.out.trans ((hb2.trans (hb3.mono hb2.size)).mono HB1.out.size)⟩
set_option maxHeartbeats 4000000 in
set_option maxRecDepth 100000 in
theorem respond_some (n s m : ByteArray) (st : Stp) (w : World) (hf : firstV m ⟨#[]⟩ = some st) (hm : m.size ≤ 3000000000) (hok : okUser n s = true) :
    Calls Try.prog 21 #[.agg #[.string n, .string s], .string m] w fun e w' => (∃ (k : Nat) (b : Bool), w.heap.size ≤ k ∧ e = .returned (.tuple #[.iface 75 (.pointer (some ⟨k, 0, none⟩)), .int .i64 0]) ∧ w'.heap[k]? = some (.cells #[.string n, .string s, st.val, .bool b] 80 (0, 0))) ∧ Below w.heap.size w w' := by
  have h12 : okT n 64 = true ∧ okT s 256 = true := by unfold okUser at hok; simpa using hok
  have h1 := h12.1
  have h2 := h12.2
  have hn : n.size ≤ 1000000000 := by unfold okT at h1; simp at h1; omega
  have hs : s.size ≤ 1000000000 := by unfold okT at h2; simp at h2; omega
  obtain ⟨W0, hW0⟩ : ∃ W0, W0 = w.alloc (.cells #[.string n, .string s] 41) := ⟨_, rfl⟩
  have hb0 : Below w.heap.size w W0 := hW0 ▸ (Below.refl _ _).alloc (Nat.le_refl _) _
  have hblk : W0.heap[w.heap.size]? = some (.cells #[.string n, .string s] 41 (0, 0)) := hW0 ▸ heap_alloc_new w _
  obtain ⟨b, hb⟩ := same_calls m ⟨#[80, 76, 65, 73, 78]⟩ hm
  have HSM := Lib.hid hb
  have HF := Lib.hid (fun W => hf ▸ first_calls m ⟨#[]⟩ W hm)
  have HMN := Lib.hid (fun W => h1 ▸ may_calls n 64 W hn)
  have HMS := Lib.hid (fun W => h2 ▸ may_calls s 256 W hs)
  have HB0 := Lib.hid hb0
  have HW0 := Lib.hid hW0
  have HBK := Lib.hid hblk
  have hval : stpO (some st) = .iface st.ty st.recv := st.val_eq
  obtain ⟨ty, hty⟩ : ∃ ty, ty = st.ty := ⟨_, rfl⟩
  obtain ⟨recv, hrecv⟩ : ∃ recv, recv = st.recv := ⟨_, rfl⟩
  rw [← hty, ← hrecv] at hval
  have HVAL := Lib.hid hval
  have HVAL2 := Lib.hid (show st.val = .iface ty recv from hval)
  clear hb0 hW0 hblk hval hty hrecv hb h1 h2 h12 hn hs hok hf
  have hu80 := Try.underlying80
  go_enter Try.func21, Try.ntmps21
  go_wp2_with fail
  rw [← HW0.out]
  refine (HF.out W0).mono ?_
  rintro e w1 ⟨rfl, hb1⟩
  rw [HVAL.out]
  have y0 := blk_cell ((hb1.block _ (blk_lt HBK.out)).trans HBK.out) 0
  have y1 := blk_cell ((hb1.block _ (blk_lt HBK.out)).trans HBK.out) 1
  simp only [List.getElem?_toArray, List.getElem?_cons_succ, List.getElem?_cons_zero] at y0 y1
  have HB1 := Lib.hid (HB0.out.trans (hb1.mono HB0.out.size))
  clear hb1
  go_wp2_with fail
  refine (HMN.out w1).mono ?_
  rintro e w2 ⟨rfl, hb2⟩
  have z0 := (hb2.cell (World.block_lt_of_cell? w1 _ y0)).trans y0
  have z1 := (hb2.cell (World.block_lt_of_cell? w1 _ y1)).trans y1
  have HB2 := Lib.hid (HB1.out.trans (hb2.mono HB1.out.size))
  clear y0 y1 hb2
  go_wp2_with fail
  refine (HMS.out w2).mono ?_
  rintro e w4 ⟨rfl, hb4⟩
  have v0 := (hb4.cell (World.block_lt_of_cell? w2 _ z0)).trans z0
  have v1 := (hb4.cell (World.block_lt_of_cell? w2 _ z1)).trans z1
  have HB4 := Lib.hid (HB2.out.trans (hb4.mono HB2.out.size))
  clear z0 z1 hb4
  go_wp2
  refine start_ (n := 10) (S := fun w' => w'.cell? ⟨w.heap.size, 0, none⟩ = some (.string n) ∧ w'.cell? ⟨w.heap.size, 1, none⟩ = some (.string s)) (ds := [6]) #[false, false, false, false, false, false, false, false, false, false] (by kernel_rfl) rfl rfl ⟨v0, v1⟩ (fun hHeld => ?_)
  generalize hdr : w4.drew = w5 at hHeld ⊢
  have HB5 := Lib.hid (show Below w.heap.size w w5 from hdr ▸ below_drew1 HB4.out)
  clear hdr v0 v1
  refine pure_ (i := 1) (N := some 22) (v := ?_) (a' := ?_) #[false, true, false, false, false, false, false, false, false, false] rfl rfl (by kernel_rfl) (fun _ _ _ h => h) (Or.inl ⟨by rfl, ?_⟩) ?_ ?_
  rotate_left
  · intro w'
    go_simp
    with_reducible rfl
  rotate_left
  · simp only [Act.put, List.setIfInBounds_toArray, List.set_cons_zero, List.set_cons_succ, i64_w, i32_w]
    rfl
  refine pure_ (i := 3) (N := some 24) (v := ?_) (a' := ?_) #[false, true, false, true, false, false, false, false, false, false] rfl rfl (by kernel_rfl) (fun _ _ _ h => h) (Or.inl ⟨by rfl, ?_⟩) ?_ ?_
  rotate_left
  · intro w'
    go_simp
    with_reducible rfl
  rotate_left
  · simp only [Act.put, List.setIfInBounds_toArray, List.set_cons_zero, List.set_cons_succ, i64_w, i32_w]
    rfl
  refine take_ (i := 0) (N := some 21) (v := ?_) (a' := ?_) #[true, true, false, true, false, false, false, false, false, false] rfl rfl (by kernel_rfl) (fun _ _ _ h => h) (Or.inl ⟨by rfl, ?_⟩) hHeld ?_ ?_
  rotate_left
  · rintro w' ⟨s0, s1⟩
    go_simp
    with_reducible rfl
  rotate_left
  · simp only [Act.put, List.setIfInBounds_toArray, List.set_cons_zero, List.set_cons_succ, i64_w, i32_w]
    rfl
  refine pure_ (i := 2) (N := some 23) (v := ?_) (a' := ?_) #[true, true, true, true, false, false, false, false, false, false] rfl rfl (by kernel_rfl) (fun _ _ _ h => h) (Or.inl ⟨by rfl, ?_⟩) ?_ ?_
  rotate_left
  · intro w'
    go_simp
    with_reducible rfl
  rotate_left
  · simp only [Act.put, List.setIfInBounds_toArray, List.set_cons_zero, List.set_cons_succ, i64_w, i32_w]
    rfl
  refine one_ (i := 4) (N := some 25) #[true, true, true, true, true, false, false, false, false, false] rfl rfl (by kernel_rfl) (by decide) (fun K hK => ?_)
  refine goes_ Try.func36 (by kernel_rfl) rfl #[.string m, .string ⟨#[80, 76, 65, 73, 78]⟩] (by rfl) rfl rfl (by simp only [List.map_toArray, List.map_cons, List.map_nil]; rfl) ?_
  with_reducible refine (HSM.out _).mono ?_
  rintro e w6 ⟨rfl, hb6⟩
  refine ⟨_, rfl, ?_⟩
  refine hK.out _ _ ⟨((hb6.cell (World.block_lt_of_cell? w5 _ hHeld.1)).trans hHeld.1), ((hb6.cell (World.block_lt_of_cell? w5 _ hHeld.2)).trans hHeld.2)⟩ (fun hHeld => ?_)
  clear hK K
  refine norm_ (a' := ?_) ?_ ?_
  rotate_left
  · show Act.put _ (some 25) _ = _
    simp only [Act.put, List.setIfInBounds_toArray, List.set_cons_zero, List.set_cons_succ, i64_w, i32_w]
    rfl
  refine pure_ (i := 5) (N := some 26) (v := ?_) (a' := ?_) #[true, true, true, true, true, true, false, false, false, false] rfl rfl (by kernel_rfl) (fun _ _ _ h => h) (Or.inl ⟨by rfl, ?_⟩) ?_ ?_
  rotate_left
  · intro w'
    go_simp
    with_reducible rfl
  rotate_left
  · simp only [Act.put, List.setIfInBounds_toArray, List.set_cons_zero, List.set_cons_succ, i64_w, i32_w]
    rfl
  refine last_ (i := 6) (N := some 27) #[true, true, true, true, true, true, true, false, false, false] rfl rfl (by kernel_rfl) (by decide) (fun K hK => ?_)
  refine value_ (w1 := ?_) (v := ?_) (by rfl) rfl ?_ ?_
  rotate_left 2
  · go_simp
    constructor
    · rfl
    · rfl
  refine hK.out _ _ ?_
  clear hK K
  refine norm_ (a' := ?_) ?_ ?_
  rotate_left
  · show Act.put _ (some 27) _ = _
    simp only [Act.put, List.setIfInBounds_toArray, List.set_cons_zero, List.set_cons_succ, i64_w, i32_w]
    rfl
  refine pure_ (i := 7) (N := some 28) (v := ?_) (a' := ?_) #[true, true, true, true, true, true, true, true, false, false] rfl rfl (by kernel_rfl) (fun _ _ _ h => h) (Or.inl ⟨by rfl, ?_⟩) ?_ ?_
  rotate_left
  · intro w'
    go_simp
    with_reducible rfl
  rotate_left
  · simp only [Act.put, List.setIfInBounds_toArray, List.set_cons_zero, List.set_cons_succ, i64_w, i32_w]
    rfl
  refine pure_ (i := 8) (N := some 4) (v := ?_) (a' := ?_) #[true, true, true, true, true, true, true, true, true, false] rfl rfl (by kernel_rfl) (fun _ _ _ h => h) (Or.inl ⟨by rfl, ?_⟩) ?_ ?_
  rotate_left
  · intro w'
    go_simp
    with_reducible rfl
  rotate_left
  · simp only [Act.put, List.setIfInBounds_toArray, List.set_cons_zero, List.set_cons_succ, i64_w, i32_w]
    rfl
  refine pure_ (i := 9) (N := some 5) (v := ?_) (a' := ?_) #[true, true, true, true, true, true, true, true, true, true] rfl rfl (by kernel_rfl) (fun _ _ _ h => h) (Or.inl ⟨by rfl, ?_⟩) ?_ ?_
  rotate_left
  · intro w'
    go_simp
    with_reducible rfl
  rotate_left
  · simp only [Act.put, List.setIfInBounds_toArray, List.set_cons_zero, List.set_cons_succ, i64_w, i32_w]
    rfl
  refine done_ (by kernel_rfl) ?_

  have HB6 := Lib.hid (HB5.out.trans (hb6.mono HB5.out.size))
  go_wp2
  go_ret2
  refine ⟨⟨w6.heap.size, b, HB6.out.size, rfl, ?_⟩, HB6.out.alloc HB6.out.size _⟩
  rw [HVAL2.out]
  exact heap_alloc_new w6 _
end Go.Proofs.Yticjpjgfccbhlaa.Sasl
