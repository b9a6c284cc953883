/- SaslStale: the law's walk. (The steps of the regions that draw: printed by tools/sstale.py.) -/
import Derived.Test.YticjpjgfccbhlaaDoorLines
namespace Go.Proofs.YticjpjgfccbhlaaDoor.Sasl
open Go.RowKit Go.Proofs.YticjpjgfccbhlaaDoorW.PrintWords Go.Proofs.YticjpjgfccbhlaaDoorW.PrintLast Go.Proofs.YticjpjgfccbhlaaDoorW.PrintMore Go.Proofs.YticjpjgfccbhlaaDoor.PSaslStale Go.Proofs.YticjpjgfccbhlaaDoor.Hash
attribute [local go_sem] max2_int min2_int max_two min_two max_three min_three max_four min_four
set_option linter.unusedVariables false
set_option linter.unusedSimpArgs false
set_option maxHeartbeats 8000000 in
set_option maxRecDepth 100000 in
theorem stale_not {T S : Nat → Int} {B : Nat} (n s stamp other : ByteArray) (w : World) (he : Env T S B w) (hn : n.size ≤ 3000000) (hs : s.size ≤ 3000000) (hok : okUser n s = false) :
    Calls Tryd.prog 4 #[.agg #[.string n, .string s], .string stamp, .string other] w fun e w' => e = .returned (.bool true) ∧ Below w.heap.size w w' := by
  obtain ⟨W0, hW0⟩ : ∃ W0, W0 = w.alloc (.cells #[.string n, .string s] 40) := ⟨_, rfl⟩
  have hb0 : Below w.heap.size w W0 := hW0 ▸ (Below.refl _ _).alloc (Nat.le_refl _) _
  have HBK := Lib.hid (show W0.heap[w.heap.size]? = some (.cells #[.string n, .string s] 40 (0, 0)) from hW0 ▸ heap_alloc_new w _)
  have hW1 : w.alloc (.cells #[.string n, .string s] 40) = W0 := hW0.symm
  have HWK := Lib.hid (wakes_calls W0 (he.below (hb0.mono he.size)))
  have HRS := Lib.hid (fun W => respond_none n s ⟨#[67, 82, 65, 77, 45, 77, 68, 53]⟩ (.cram ⟨#[]⟩) W (first_cram _) (by decide) (by omega) (by omega) hok)
  have HMY := Lib.hid (fun W => hok ▸ lawMay_calls n s W (by omega) (by omega))
  have HB0 := Lib.hid hb0
  clear hb0 hW0 hok
  go_enter Tryd.func4, Tryd.ntmps4
  go_wp2_with fail
  refine HWK.out.mono ?_
  rintro e w1 ⟨rfl, hb1⟩
  have HB1 := Lib.hid (HB0.out.trans (hb1.mono HB0.out.size))
  have HK1 := Lib.hid ((hb1.block _ (blk_lt HBK.out)).trans HBK.out)
  have y0 := blk_cell HK1.out 0
  have y1 := blk_cell HK1.out 1
  simp only [List.getElem?_toArray, List.getElem?_cons_succ, List.getElem?_cons_zero] at y0 y1
  clear hb1
  go_wp2_with fail
  refine (HRS.out w1).mono ?_
  rintro e w2 ⟨rfl, hb2⟩
  have HB2 := Lib.hid (HB1.out.trans (hb2.mono HB1.out.size))
  have HK2 := Lib.hid ((hb2.block _ (blk_lt HK1.out)).trans HK1.out)
  have z0 := blk_cell HK2.out 0
  have z1 := blk_cell HK2.out 1
  simp only [List.getElem?_toArray, List.getElem?_cons_succ, List.getElem?_cons_zero] at z0 z1
  clear hb2 y0 y1
  go_wp2_with fail
  refine (HMY.out w2).mono ?_
  rintro e w3 ⟨rfl, hb3⟩
  have HB3 := Lib.hid (HB2.out.trans (hb3.mono HB2.out.size))
  clear hb3 z0 z1
  go_wp2
  go_ret
  exact ⟨rfl, HB3.out⟩
set_option maxHeartbeats 16000000 in
set_option maxRecDepth 100000 in
theorem stale_some {T S : Nat → Int} {B : Nat} (n s stamp other : ByteArray) (w : World) (he : Env T S B w) (hst : stamp.size ≤ 3000000) (hot : other.size ≤ 3000000) (hok : okUser n s = true) :
    Calls Tryd.prog 4 #[.agg #[.string n, .string s], .string stamp, .string other] w fun e w' => e = .returned (.bool true) ∧ Below w.heap.size w w' := by
  have h12 : okT n 64 = true ∧ okT s 256 = true := by unfold okUser at hok; simpa using hok
  have hn : n.size ≤ 64 := by have h1 := h12.1; unfold okT at h1; simp at h1; omega
  have hs : s.size ≤ 256 := by have h1 := h12.2; unfold okT at h1; simp at h1; omega
  obtain ⟨W0, hW0⟩ : ∃ W0, W0 = w.alloc (.cells #[.string n, .string s] 40) := ⟨_, rfl⟩
  have hb0 : Below w.heap.size w W0 := hW0 ▸ (Below.refl _ _).alloc (Nat.le_refl _) _
  have HBK := Lib.hid (show W0.heap[w.heap.size]? = some (.cells #[.string n, .string s] 40 (0, 0)) from hW0 ▸ heap_alloc_new w _)
  have hW1 : w.alloc (.cells #[.string n, .string s] 40) = W0 := hW0.symm
  have HWK := Lib.hid (wakes_calls W0 (he.below (hb0.mono he.size)))
  have HRS := Lib.hid (fun W => respond_some n s ⟨#[67, 82, 65, 77, 45, 77, 68, 53]⟩ (.cram ⟨#[]⟩) W (first_cram _) (by decide) hok)
  have HN := Lib.hid (show n.size ≤ 1000 by omega)
  have HS := Lib.hid (show s.size ≤ 1000 by omega)
  have HLS := Lib.hid (show (b64S stamp).size ≤ 30000000 by rw [line_size]; omega)
  have HB0 := Lib.hid hb0
  have hst : stamp.size ≤ 100000000 := by omega
  have hot : other.size ≤ 100000000 := by omega
  clear hb0 hW0 hok h12 hn hs
  go_enter Tryd.func4, Tryd.ntmps4
  go_wp2_with fail
  refine HWK.out.mono ?_
  rintro e w1 ⟨rfl, hb1⟩
  have HB1 := Lib.hid (HB0.out.trans (hb1.mono HB0.out.size))
  have HK1 := Lib.hid ((hb1.block _ (blk_lt HBK.out)).trans HBK.out)
  have y0 := blk_cell HK1.out 0
  have y1 := blk_cell HK1.out 1
  simp only [List.getElem?_toArray, List.getElem?_cons_succ, List.getElem?_cons_zero] at y0 y1
  clear hb1
  go_wp2_with fail
  refine (HRS.out w1).mono ?_
  rintro e w2 ⟨⟨KB, b, hKl, rfl, hK2⟩, hb2⟩
  have HB2 := Lib.hid (HB1.out.trans (hb2.mono HB1.out.size))
  have HU2 := Lib.hid ((hb2.block _ (blk_lt HK1.out)).trans HK1.out)
  have HK2 := Lib.hid hK2
  have HKL := Lib.hid (show w.heap.size ≤ KB ∧ w.heap.size ≠ KB by have h1 := HB1.out.size; have h2 := blk_lt HK1.out; omega)
  have HMT := Lib.hid (show ∀ W, (method 280 75 (.pointer (some ⟨KB, 0, none⟩)) "Answer").run Tryd.prog W = .ok (111, .pointer (some ⟨KB, 0, none⟩)) W from fun W => by kernel_rfl)
  have hna : ∀ W, (nilAhead 280 75 (.pointer (some ⟨KB, 0, none⟩)) "Answer").run Tryd.prog W = .ok (some false) W := fun W => by kernel_rfl
  clear hb2 hK2 y0 y1 hKl
  go_wp2
  refine start_ (n := 12) (S := fun w' => True) (ds := []) #[false, false, false, false, false, false, false, false, false, false, false, false] (by kernel_rfl) rfl rfl (trivial) (fun hHeld => ?_)
  generalize hdr : w2.drew = w3 at hHeld ⊢
  have HU3 := Lib.hid (show w3.heap[w.heap.size]? = some (.cells #[.string n, .string s] 40 (0, 0)) from hdr ▸ HU2.out)
  have HB3 := Lib.hid (show Below w.heap.size w w3 from hdr ▸ below_drew1 HB2.out)
  have HK3 := Lib.hid (show w3.heap[KB]? = some (.cells #[.string n, .string s, (Stp.cram ⟨#[]⟩).val, .bool b] 80 (0, 0)) from hdr ▸ HK2.out)
  clear hdr
  refine pure_ (i := 0) (N := some 30) (v := ?_) (a' := ?_) #[true, false, false, false, false, false, false, false, false, false, false, false] rfl rfl (by kernel_rfl) (fun _ _ _ h => h) (Or.inl ⟨by rfl, ?_⟩) ?_ ?_
  rotate_left
  · intro w'
    go_simp
    with_reducible rfl
  rotate_left
  · simp only [Act.put, List.setIfInBounds_toArray, List.set_cons_zero, List.set_cons_succ, i64_w, i32_w]
    rfl
  refine pure_ (i := 1) (N := some 31) (v := ?_) (a' := ?_) #[true, true, false, false, false, false, false, false, false, false, false, false] rfl rfl (by kernel_rfl) (fun _ _ _ h => h) (Or.inl ⟨by rfl, ?_⟩) ?_ ?_
  rotate_left
  · intro w'
    go_simp
    with_reducible rfl
  rotate_left
  · simp only [Act.put, List.setIfInBounds_toArray, List.set_cons_zero, List.set_cons_succ, i64_w, i32_w]
    rfl
  refine pure_ (i := 3) (N := some 33) (v := ?_) (a' := ?_) #[true, true, false, true, false, false, false, false, false, false, false, false] rfl rfl (by kernel_rfl) (fun _ _ _ h => h) (Or.inl ⟨by rfl, ?_⟩) ?_ ?_
  rotate_left
  · intro w'
    go_simp
    with_reducible rfl
  rotate_left
  · simp only [Act.put, List.setIfInBounds_toArray, List.set_cons_zero, List.set_cons_succ, i64_w, i32_w]
    rfl
  refine pure_ (i := 4) (N := some 34) (v := ?_) (a' := ?_) #[true, true, false, true, true, false, false, false, false, false, false, false] rfl rfl (by kernel_rfl) (fun _ _ _ h => h) (Or.inl ⟨by rfl, ?_⟩) ?_ ?_
  rotate_left
  · intro w'
    go_simp
    with_reducible rfl
  rotate_left
  · simp only [Act.put, List.setIfInBounds_toArray, List.set_cons_zero, List.set_cons_succ, i64_w, i32_w]
    rfl
  refine pure_ (i := 5) (N := some 35) (v := ?_) (a' := ?_) #[true, true, false, true, true, true, false, false, false, false, false, false] rfl rfl (by kernel_rfl) (fun _ _ _ h => h) (Or.inl ⟨by rfl, ?_⟩) ?_ ?_
  rotate_left
  · intro w'
    go_simp
    with_reducible rfl
  rotate_left
  · simp only [Act.put, List.setIfInBounds_toArray, List.set_cons_zero, List.set_cons_succ, i64_w, i32_w]
    rfl
  refine one_ (i := 2) (N := some 32) #[true, true, true, true, true, true, false, false, false, false, false, false] rfl rfl (by kernel_rfl) (by decide) (fun K hK => ?_)
  refine goes_ Tryd.func16 (by kernel_rfl) rfl #[.string stamp] (by rfl) rfl rfl (by simp only [List.map_toArray, List.map_cons, List.map_nil]; rfl) ?_
  with_reducible refine (line_calls stamp _ hst).mono ?_
  rintro e w4 ⟨rfl, hb4⟩
  refine ⟨_, rfl, ?_⟩
  have HB4 := Lib.hid (HB3.out.trans (hb4.mono HB3.out.size))
  have HU4 := Lib.hid ((hb4.block _ (blk_lt HU3.out)).trans HU3.out)
  have HK4 := Lib.hid ((hb4.block _ (blk_lt HK3.out)).trans HK3.out)
  refine hK.out _ _ (trivial) (fun hHeld => ?_)
  clear hK K
  refine norm_ (a' := ?_) ?_ ?_
  rotate_left
  · show Act.put _ (some 32) _ = _
    simp only [Act.put, List.setIfInBounds_toArray, List.set_cons_zero, List.set_cons_succ, i64_w, i32_w]
    rfl
  refine one_ (i := 6) (N := some 36) #[true, true, true, true, true, true, true, false, false, false, false, false] rfl rfl (by kernel_rfl) (by decide) (fun K hK => ?_)
  refine call_ 111 #[.pointer (some ⟨KB, 0, none⟩), .string (b64S stamp)] (by rfl) rfl ?hrun ?_
  case hrun => go_simp; rw [HMT.out]; rfl
  with_reducible refine (client_cram (T := T) (S := S) ⟨#[]⟩ KB n s (b64S stamp) b (bytesOf stamp) 0 w4 (he.below (HB4.out.mono he.size)).tabs (by have := he.two; have := he.size; have := HB4.out.size; omega) HK4.out HN.out HS.out HLS.out (un_line stamp)).mono ?_
  rintro e w5 ⟨rfl, hK5, hN5⟩
  refine ⟨_, rfl, ?_⟩
  refine hK.out _ _ (trivial) (fun hHeld => ?_)
  clear hK K
  refine norm_ (a' := ?_) ?_ ?_
  rotate_left
  · show Act.put _ (some 36) _ = _
    simp only [Act.put, List.setIfInBounds_toArray, List.set_cons_zero, List.set_cons_succ, i64_w, i32_w]
    rfl
  refine pure_ (i := 7) (N := some 29) (v := ?_) (a' := ?_) #[true, true, true, true, true, true, true, true, false, false, false, false] rfl rfl (by kernel_rfl) (fun _ _ _ h => h) (Or.inl ⟨by rfl, ?_⟩) ?_ ?_
  rotate_left
  · intro w'
    go_simp
    with_reducible rfl
  rotate_left
  · simp only [Act.put, List.setIfInBounds_toArray, List.set_cons_zero, List.set_cons_succ, i64_w, i32_w]
    rfl
  refine pure_ (i := 8) (N := some 37) (v := ?_) (a' := ?_) #[true, true, true, true, true, true, true, true, true, false, false, false] rfl rfl (by kernel_rfl) (fun _ _ _ h => h) (Or.inl ⟨by rfl, ?_⟩) ?_ ?_
  rotate_left
  · intro w'
    go_simp
    with_reducible rfl
  rotate_left
  · simp only [Act.put, List.setIfInBounds_toArray, List.set_cons_zero, List.set_cons_succ, i64_w, i32_w]
    rfl
  refine pure_ (i := 9) (N := some 38) (v := ?_) (a' := ?_) #[true, true, true, true, true, true, true, true, true, true, false, false] rfl rfl (by kernel_rfl) (fun _ _ _ h => h) (Or.inl ⟨by rfl, ?_⟩) ?_ ?_
  rotate_left
  · intro w'
    go_simp
    with_reducible rfl
  rotate_left
  · simp only [Act.put, List.setIfInBounds_toArray, List.set_cons_zero, List.set_cons_succ, i64_w, i32_w]
    rfl
  refine pure_ (i := 10) (N := some 9) (v := ?_) (a' := ?_) #[true, true, true, true, true, true, true, true, true, true, true, false] rfl rfl (by kernel_rfl) (fun _ _ _ h => h) (Or.inl ⟨by rfl, ?_⟩) ?_ ?_
  rotate_left
  · intro w'
    go_simp
    with_reducible rfl
  rotate_left
  · simp only [Act.put, List.setIfInBounds_toArray, List.set_cons_zero, List.set_cons_succ, i64_w, i32_w]
    rfl
  refine pure_ (i := 11) (N := some 10) (v := ?_) (a' := ?_) #[true, true, true, true, true, true, true, true, true, true, true, true] rfl rfl (by kernel_rfl) (fun _ _ _ h => h) (Or.inl ⟨by rfl, ?_⟩) ?_ ?_
  rotate_left
  · intro w'
    go_simp
    with_reducible rfl
  rotate_left
  · simp only [Act.put, List.setIfInBounds_toArray, List.set_cons_zero, List.set_cons_succ, i64_w, i32_w]
    rfl
  refine done_ (by kernel_rfl) ?_

  have HB5 := Lib.hid (HB4.out.trans (hN5.below HKL.out.1 HB4.out.size))
  have HU5 := Lib.hid (show w5.heap[w.heap.size]? = some (.cells #[.string n, .string s] 40 (0, 0)) from (hN5.block _ (blk_lt HU4.out) HKL.out.2).trans HU4.out)
  rw [strOf_bytes]
  have y0 := blk_cell HU5.out 0
  have y1 := blk_cell HU5.out 1
  simp only [List.getElem?_toArray, List.getElem?_cons_succ, List.getElem?_cons_zero] at y0 y1
  clear hb4 hN5 hK5
  obtain ⟨l1, hl1⟩ : ∃ l1, l1 = b64S (n ++ ⟨#[32]⟩ ++ digestV T S s stamp) := ⟨_, rfl⟩
  rw [← hl1]
  have HL1 := Lib.hid hl1
  have HL1S := Lib.hid (show l1.size ≤ 30000000 by rw [hl1, line_size, ByteArray.size_append, ByteArray.size_append, digest_size]; have := HN.out; have e1 : (⟨#[32]⟩ : ByteArray).size = 1 := rfl; omega)
  clear hl1
  obtain ⟨W6, hW6⟩ : ∃ W6, w5.alloc (.cells #[.string n, .string s] 40) = W6 := ⟨_, rfl⟩
  have HB6 := Lib.hid (show Below w.heap.size w W6 from hW6 ▸ HB5.out.alloc HB5.out.size _)
  have HU6 := Lib.hid (show W6.heap[w.heap.size]? = some (.cells #[.string n, .string s] 40 (0, 0)) from hW6 ▸ (Below.heap_alloc w5 _ _ (blk_lt HU5.out)).trans HU5.out)
  have HC6 := Lib.hid (users_of_blk (show W6.heap[w5.heap.size]? = some (.cells #[.string n, .string s] 40 (0, 0)) from hW6 ▸ heap_alloc_new w5 _))
  go_wp2_with fail
  refine (begin_calls (T := T) (S := S) (B := B) (some ⟨w5.heap.size, 0, none⟩) 1 1 [⟨n, s⟩] ⟨#[99, 114, 97, 109, 45, 109, 100, 53]⟩ other ⟨#[]⟩ false W6 (he.below (HB6.out.mono he.size)) HC6.out rfl (Nat.le_refl _) ⟨by simp, fun u hu => by rw [List.mem_singleton.1 hu]; have := HS.out; show s.size ≤ _; omega⟩ (by decide) hot (by decide)).mono ?_
  rintro e w7 ⟨hbg, hb7⟩
  have hbv : beginV T S [⟨n, s⟩] ⟨#[99, 114, 97, 109, 45, 109, 100, 53]⟩ other ⟨#[]⟩ false = (some ⟨[⟨n, s⟩], 1, .cram other, ⟨#[]⟩⟩, 0) := by unfold beginV; rw [first_cram_low]; rfl
  rw [hbv] at hbg
  obtain ⟨X, rfl, hXl, hX7⟩ := hbg
  have HB7 := Lib.hid (HB6.out.trans (hb7.mono HB6.out.size))
  have HU7 := Lib.hid ((hb7.block _ (blk_lt HU6.out)).trans HU6.out)
  have HXL := Lib.hid (show w.heap.size ≤ X ∧ w.heap.size ≠ X by have h1 := HB6.out.size; have h2 := blk_lt HU6.out; omega)
  have HX7 := Lib.hid hX7
  clear hb7 hbv hXl hX7 hW6 y0 y1
  obtain ⟨x', hav, hxs⟩ := answer_stale T S n s stamp other
  have HAV := Lib.hid (show answerV T S ⟨[⟨n, s⟩], 1, .cram other, ⟨#[]⟩⟩ l1 = (x', 0) by rw [HL1.out]; exact hav)
  have HXS := Lib.hid hxs
  clear hav hxs
  go_wp2_with fail
  refine (ask_calls HX7.out (by show other.size ≤ _; omega)).mono ?_
  rintro e w7b ⟨rfl, hb7b⟩
  have HB7b := Lib.hid (HB7.out.trans (hb7b.mono HB7.out.size))
  have HX7b := Lib.hid (HX7.out.below hb7b)
  have HU7b := Lib.hid ((hb7b.block _ (blk_lt HU7.out)).trans HU7.out)
  clear hb7b
  rw [show askV ⟨[⟨n, s⟩], 1, .cram other, ⟨#[]⟩⟩ = b64S other from rfl]
  go_wp2_with fail
  refine (line_calls other w7b hot).mono ?_
  rintro e w8 ⟨rfl, hb8⟩
  have HB8 := Lib.hid (HB7b.out.trans (hb8.mono HB7b.out.size))
  have HX8 := Lib.hid (HX7b.out.below hb8)
  have HU8 := Lib.hid ((hb8.block _ (blk_lt HU7b.out)).trans HU7b.out)
  clear hb8
  have hle : ((b64S other).toList == (b64S other).toList) = true := by rw [eq_toList]; exact decide_eq_true rfl
  go_wp2_with fail
  refine (answer_calls (T := T) (S := S) (B := B) l1 (he.below (HB8.out.mono he.size)) HX8.out ⟨⟨by simp, fun u hu => by rw [List.mem_singleton.1 hu]; have := HS.out; show s.size ≤ _; omega⟩, hot⟩ (by have := he.size; have := HXL.out.1; omega) HL1S.out).mono ?_
  rintro e w9 ⟨rfl, hX9, hN9⟩
  rw [HAV.out] at hX9 ⊢
  have HB9 := Lib.hid (HB8.out.trans (hN9.below HXL.out.1 HB8.out.size))
  have HX9 := Lib.hid hX9
  have v1 := blk_cell ((hN9.block _ (blk_lt HU8.out) HXL.out.2).trans HU8.out) 1
  simp only [List.getElem?_toArray, List.getElem?_cons_succ, List.getElem?_cons_zero] at v1
  clear hX9 hN9
  go_wp2
  refine start_ (n := 14) (S := fun w' => w'.cell? ⟨w.heap.size, 1, none⟩ = some (.string s)) (ds := []) #[false, false, false, false, false, false, false, false, false, false, false, false, false, false] (by kernel_rfl) rfl rfl (v1) (fun hHeld => ?_)
  generalize hdr : w9.drew = w10 at hHeld ⊢
  have HB10 := Lib.hid (show Below w.heap.size w w10 from hdr ▸ below_drew1 HB9.out)
  have HX10 := Lib.hid (show Exch w10 X x' from hdr ▸ HX9.out.below (below_drew1 (Below.refl _ _)))
  clear hdr v1
  refine pure_ (i := 0) (N := some 65) (v := ?_) (a' := ?_) #[true, false, false, false, false, false, false, false, false, false, false, false, false, false] rfl rfl (by kernel_rfl) (fun _ _ _ h => h) (Or.inl ⟨by rfl, ?_⟩) ?_ ?_
  rotate_left
  · intro w'
    go_simp
    with_reducible rfl
  rotate_left
  · simp only [Act.put, List.setIfInBounds_toArray, List.set_cons_zero, List.set_cons_succ, i64_w, i32_w]
    rfl
  refine pure_ (i := 3) (N := some 68) (v := ?_) (a' := ?_) #[true, false, false, true, false, false, false, false, false, false, false, false, false, false] rfl rfl (by kernel_rfl) (fun _ _ _ h => h) (Or.inl ⟨by rfl, ?_⟩) ?_ ?_
  rotate_left
  · intro w'
    go_simp
    with_reducible rfl
  rotate_left
  · simp only [Act.put, List.setIfInBounds_toArray, List.set_cons_zero, List.set_cons_succ, i64_w, i32_w]
    rfl
  refine pure_ (i := 5) (N := some 70) (v := ?_) (a' := ?_) #[true, false, false, true, false, true, false, false, false, false, false, false, false, false] rfl rfl (by kernel_rfl) (fun _ _ _ h => h) (Or.inl ⟨by rfl, ?_⟩) ?_ ?_
  rotate_left
  · intro w'
    go_simp
    with_reducible rfl
  rotate_left
  · simp only [Act.put, List.setIfInBounds_toArray, List.set_cons_zero, List.set_cons_succ, i64_w, i32_w]
    rfl
  refine pure_ (i := 7) (N := some 72) (v := ?_) (a' := ?_) #[true, false, false, true, false, true, false, true, false, false, false, false, false, false] rfl rfl (by kernel_rfl) (fun _ _ _ h => h) (Or.inl ⟨by rfl, ?_⟩) ?_ ?_
  rotate_left
  · intro w'
    go_simp
    with_reducible rfl
  rotate_left
  · simp only [Act.put, List.setIfInBounds_toArray, List.set_cons_zero, List.set_cons_succ, i64_w, i32_w]
    rfl
  refine pure_ (i := 9) (N := some 74) (v := ?_) (a' := ?_) #[true, false, false, true, false, true, false, true, false, true, false, false, false, false] rfl rfl (by kernel_rfl) (fun _ _ _ h => h) (Or.inl ⟨by rfl, ?_⟩) ?_ ?_
  rotate_left
  · intro w'
    go_simp
    with_reducible rfl
  rotate_left
  · simp only [Act.put, List.setIfInBounds_toArray, List.set_cons_zero, List.set_cons_succ, i64_w, i32_w]
    rfl
  refine take_ (i := 4) (N := some 69) (v := ?_) (a' := ?_) #[true, false, false, true, true, true, false, true, false, true, false, false, false, false] rfl rfl (by kernel_rfl) (fun _ _ _ h => h) (Or.inl ⟨by rfl, ?_⟩) hHeld ?_ ?_
  rotate_left
  · intro w' s0
    go_simp
    with_reducible rfl
  rotate_left
  · simp only [Act.put, List.setIfInBounds_toArray, List.set_cons_zero, List.set_cons_succ, i64_w, i32_w]
    rfl
  refine take_ (i := 8) (N := some 73) (v := ?_) (a' := ?_) #[true, false, false, true, true, true, false, true, true, true, false, false, false, false] rfl rfl (by kernel_rfl) (fun _ _ _ h => h) (Or.inl ⟨by rfl, ?_⟩) hHeld ?_ ?_
  rotate_left
  · intro w' s0
    go_simp
    with_reducible rfl
  rotate_left
  · simp only [Act.put, List.setIfInBounds_toArray, List.set_cons_zero, List.set_cons_succ, i64_w, i32_w]
    rfl
  refine one_ (i := 1) (N := some 66) #[true, true, false, true, true, true, false, true, true, true, false, false, false, false] rfl rfl (by kernel_rfl) (by decide) (fun K hK => ?_)
  refine goes_ Tryd.func9 (by kernel_rfl) rfl #[.pointer (some ⟨X, 0, none⟩)] (by rfl) rfl rfl (by simp only [List.map_toArray, List.map_cons, List.map_nil]; rfl) ?_
  with_reducible refine (state_calls (HX10.out)).mono ?_
  rintro e w11 ⟨rfl, hw11⟩
  refine ⟨_, rfl, ?_⟩
  obtain rfl : w10 = w11 := hw11.symm
  refine hK.out _ _ (hHeld) (fun hHeld => ?_)
  clear hK K
  refine norm_ (a' := ?_) ?_ ?_
  rotate_left
  · show Act.put _ (some 66) _ = _
    simp only [Act.put, List.setIfInBounds_toArray, List.set_cons_zero, List.set_cons_succ, i64_w, i32_w]
    rfl
  refine pure_ (i := 2) (N := some 67) (v := ?_) (a' := ?_) #[true, true, true, true, true, true, false, true, true, true, false, false, false, false] rfl rfl (by kernel_rfl) (fun _ _ _ h => h) (Or.inl ⟨by rfl, ?_⟩) ?_ ?_
  rotate_left
  · intro w'
    go_simp
    with_reducible rfl
  rotate_left
  · simp only [Act.put, List.setIfInBounds_toArray, List.set_cons_zero, List.set_cons_succ, i64_w, i32_w]
    rfl
  refine one_ (i := 6) (N := some 71) #[true, true, true, true, true, true, true, true, true, true, false, false, false, false] rfl rfl (by kernel_rfl) (by decide) (fun K hK => ?_)
  refine goes_ Tryd.func17 (by kernel_rfl) rfl #[.string s, .string stamp] (by rfl) rfl rfl (by simp only [List.map_toArray, List.map_cons, List.map_nil]; rfl) ?_
  with_reducible refine (show_calls (T := T) (S := S) s stamp w10 (he.below (HB10.out.mono he.size)).tabs (by have := HS.out; omega) (by omega)).mono ?_
  rintro e w12 ⟨rfl, hb12⟩
  refine ⟨_, rfl, ?_⟩
  have HB12 := Lib.hid (HB10.out.trans (hb12.mono HB10.out.size))
  refine hK.out _ _ (((hb12.cell (World.block_lt_of_cell? w10 _ hHeld)).trans hHeld)) (fun hHeld => ?_)
  clear hK K
  refine norm_ (a' := ?_) ?_ ?_
  rotate_left
  · show Act.put _ (some 71) _ = _
    simp only [Act.put, List.setIfInBounds_toArray, List.set_cons_zero, List.set_cons_succ, i64_w, i32_w]
    rfl
  refine one_ (i := 10) (N := some 75) #[true, true, true, true, true, true, true, true, true, true, true, false, false, false] rfl rfl (by kernel_rfl) (by decide) (fun K hK => ?_)
  refine goes_ Tryd.func17 (by kernel_rfl) rfl #[.string s, .string other] (by rfl) rfl rfl (by simp only [List.map_toArray, List.map_cons, List.map_nil]; rfl) ?_
  with_reducible refine (show_calls (T := T) (S := S) s other w12 (he.below (HB12.out.mono he.size)).tabs (by have := HS.out; omega) (by omega)).mono ?_
  rintro e w13 ⟨rfl, hb13⟩
  refine ⟨_, rfl, ?_⟩
  have HB13 := Lib.hid (HB12.out.trans (hb13.mono HB12.out.size))
  refine hK.out _ _ (((hb13.cell (World.block_lt_of_cell? w12 _ hHeld)).trans hHeld)) (fun hHeld => ?_)
  clear hK K
  refine norm_ (a' := ?_) ?_ ?_
  rotate_left
  · show Act.put _ (some 75) _ = _
    simp only [Act.put, List.setIfInBounds_toArray, List.set_cons_zero, List.set_cons_succ, i64_w, i32_w]
    rfl
  refine pure_ (i := 11) (N := some 76) (v := ?_) (a' := ?_) #[true, true, true, true, true, true, true, true, true, true, true, true, false, false] rfl rfl (by kernel_rfl) (fun _ _ _ h => h) (Or.inl ⟨by rfl, ?_⟩) ?_ ?_
  rotate_left
  · intro w'
    go_simp
    with_reducible rfl
  rotate_left
  · simp only [Act.put, List.setIfInBounds_toArray, List.set_cons_zero, List.set_cons_succ, i64_w, i32_w]
    rfl
  refine pure_ (i := 12) (N := some 77) (v := ?_) (a' := ?_) #[true, true, true, true, true, true, true, true, true, true, true, true, true, false] rfl rfl (by kernel_rfl) (fun _ _ _ h => h) (Or.inl ⟨by rfl, ?_⟩) ?_ ?_
  rotate_left
  · intro w'
    go_simp
    with_reducible rfl
  rotate_left
  · simp only [Act.put, List.setIfInBounds_toArray, List.set_cons_zero, List.set_cons_succ, i64_w, i32_w]
    rfl
  refine pure_ (i := 13) (N := some 6) (v := ?_) (a' := ?_) #[true, true, true, true, true, true, true, true, true, true, true, true, true, true] rfl rfl (by kernel_rfl) (fun _ _ _ h => h) (Or.inl ⟨by rfl, ?_⟩) ?_ ?_
  rotate_left
  · intro w'
    go_simp
    with_reducible rfl
  rotate_left
  · simp only [Act.put, List.setIfInBounds_toArray, List.set_cons_zero, List.set_cons_succ, i64_w, i32_w]
    rfl
  refine done_ (by kernel_rfl) ?_

  have HF := Lib.hid (show ((x'.st == 2) == ((digestV T S s stamp).toList == (digestV T S s other).toList)) = true by
    rw [eq_toList, HXS.out]
    by_cases h : digestV T S s stamp = digestV T S s other
    · rw [if_pos h, decide_eq_true h]; rfl
    · rw [if_neg h, decide_eq_false h]; rfl)
  go_wp2
  go_ret
  exact ⟨congrArg (fun v => Ending.returned (.bool v)) HF.out, HB13.out⟩
theorem stale_calls {T S : Nat → Int} {B : Nat} (n s stamp other : ByteArray) (w : World) (he : Env T S B w) (h : n.size + s.size + stamp.size + other.size ≤ 3000000) :
    Calls Tryd.prog 4 #[.agg #[.string n, .string s], .string stamp, .string other] w fun e w' => e = .returned (.bool true) ∧ Below w.heap.size w w' := by
  cases hok : okUser n s with
  | false => exact stale_not n s stamp other w he (by omega) (by omega) hok
  | true => exact stale_some n s stamp other w he (by omega) (by omega) hok
end Go.Proofs.YticjpjgfccbhlaaDoor.Sasl
