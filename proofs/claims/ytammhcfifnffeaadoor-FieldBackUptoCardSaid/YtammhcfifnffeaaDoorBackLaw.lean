/- FieldBack: the walk of the law, over the contracts of its callees. -/
import Derived.Test.YtammhcfifnffeaaDoorBack
import Derived.Test.YtammhcfifnffeaaDoorWakes
import Derived.Test.YtammhcfifnffeaaDoorSame
import Derived.Test.YtammhcfifnffeaaDoorCheckPure
namespace Go.Proofs.YtammhcfifnffeaaDoor.BackLaw
open Go.RowKit Go.Shelf Go.Proofs.YtammhcfifnffeaaDoorW.PrintWords Go.Proofs.YtammhcfifnffeaaDoorW.PrintLast Go.Proofs.YtammhcfifnffeaaDoorW.PrintMore Go.Proofs.YtammhcfifnffeaaDoor.PFieldPrints Go.Proofs.YtammhcfifnffeaaDoor.Octet Go.Proofs.YtammhcfifnffeaaDoor.CheckWalk Go.Proofs.YtammhcfifnffeaaDoor.PrintWalk Go.Proofs.YtammhcfifnffeaaDoor.Hand Go.Proofs.YtammhcfifnffeaaDoor.BytesAny Go.Proofs.YtammhcfifnffeaaDoor.ParseV Go.Proofs.YtammhcfifnffeaaDoor.ParseWalk Go.Proofs.YtammhcfifnffeaaDoor.Wakes Go.Proofs.YtammhcfifnffeaaDoor.Back
open Go.Proofs.YtammhcfifnffeaaDoor.CheckPure (print_f)
attribute [local go_sem] max2_int min2_int max_two min_two max_three min_three max_four min_four
set_option linter.unusedVariables false
set_option linter.unusedSimpArgs false

theorem same_refl2 (l : List S30) (hl : l.length ≤ 1000000000) : ∃ k, posthornlaw16_same.f k l l = some true := by
  unfold posthornlaw16_same.f
  simp only [if_true]
  suffices h : ∀ (d : Nat) (i : Int), 0 ≤ i → (l.length : Int) - i ≤ d → ∀ k, d < k → posthornlaw16_same.l0 k l l (l.length : Int) i = some true by
    exact ⟨l.length + 1, h l.length 0 (by omega) (by omega) _ (by omega)⟩
  intro d
  induction d with
  | zero =>
    intro i h0 hd k hk
    obtain ⟨k, rfl⟩ : ∃ m, k = m + 1 := ⟨k - 1, by omega⟩
    simp only [posthornlaw16_same.l0]
    rw [if_neg (by omega)]
  | succ d ih =>
    intro i h0 hd k hk
    obtain ⟨k, rfl⟩ : ∃ m, k = m + 1 := ⟨k - 1, by omega⟩
    simp only [posthornlaw16_same.l0]
    by_cases h : i < (l.length : Int)
    · rw [if_pos h, if_pos h0, if_pos h, if_pos h, if_neg (by simp)]
      have : wrap64 (i + 1) = i + 1 := by unfold wrap64; omega
      rw [this]
      exact ih _ (by omega) (by omega) _ (by omega)
    · rw [if_neg h]
theorem line_ints (f : S30) : line f = (lineU f).map fun (c : UInt8) => (c.toNat : Int) := by
  unfold line lineU bytesOf
  simp
theorem lines_ints (l : List S30) : l.flatMap line = bytesOf ⟨(l.flatMap lineU).toArray⟩ := by
  unfold bytesOf
  rw [List.map_flatMap]
  congr 1
  funext f
  exact line_ints f
theorem size_lines (l : List UInt8) : (⟨l.toArray⟩ : ByteArray).size = l.length := rfl
theorem firstBad_zero : ∀ (l : List S30), firstBad l = 0 → ∀ f ∈ l, checkF f = 0
  | [], _, f, h => by cases h
  | g :: l, h, f, hf => by
    unfold firstBad at h
    by_cases hg : checkF g = 0
    · rw [if_pos hg] at h
      rcases List.mem_cons.1 hf with rfl | hf
      · exact hg
      · exact firstBad_zero l h f hf
    · rw [if_neg hg] at h
      exact absurd h hg
/-- what Print tells, in bytes -/
theorem printV_cases (l : List S30) : (printV l = (bytesOf ⟨(l.flatMap lineU).toArray⟩, 0) ∧ (∀ f ∈ l, checkF f = 0) ∧ l.length ≤ 4096) ∨ ((printV l).2 ≠ 0 ∧ (printV l).1 = []) := by
  unfold printV
  by_cases h1 : 4096 < l.length
  · rw [if_pos h1]
    exact .inr ⟨by decide, rfl⟩
  · rw [if_neg h1]
    by_cases h2 : firstBad l = 0
    · rw [if_pos h2, lines_ints]
      exact .inl ⟨rfl, firstBad_zero l h2, Nat.le_of_not_lt h1⟩
    · rw [if_neg h2]
      exact .inr ⟨h2, rfl⟩

theorem reads_bytes {W : World} {A : Option Addr} {n : Nat} {xs : List Int} (h : Kd.C (Kd.int .u8) W A n xs) : ReadsInt W .u8 A n xs := Kd.reads_of_C (enc := Value.int .u8) (d := (0 : Int)) (h1 := fun _ => rfl) h
theorem empty_own (b g : Nat) (W : World) (h : b ≤ W.heap.size) (hg : g = W.heap.size) : (W.alloc (.cells #[] 5)).ownsRow b 5 1 (.slice (some ⟨g, 0, none⟩) 0 0) ([] : List Int).length (nums .u8 []) := by
  subst hg
  have := World.ownsRow_lit (base := b) (e := 5) (size := 1) W #[] 0 h (by decide) (by decide)
  simpa [nums] using this
set_option maxHeartbeats 4000000 in
set_option maxRecDepth 100000 in
theorem law_calls (A : Option Addr) (c : Nat) (l : List S30) (B : Option Addr) (d : Nat) (s : ByteArray) (m : Int) (w : World) (hr : Kd.C k30 w A l.length l) (hc : l.length ≤ c) (hrb : Kd.C (Kd.int .u8) w B s.size (bytesOf s)) (hd : s.size ≤ d) (hsz : s.size ≤ 1048576)
    (hS : Small l) (hE : ∀ f ∈ l, f.f0.size + f.f1.size < 4294967290) (hX : (l.flatMap line).length ≤ 1048576) (hll : l.length ≤ 1048576) (hm : w.cell? ⟨0, 0, none⟩ = some (.int .i64 m)) (hT : Laid w) (hU : Lib.Utf8Tabs 1 2 w) :
    Calls Tryd.prog 6 #[.slice A l.length c, .slice B s.size d] w fun e w' => e = .returned (.bool true) ∧ Below w.heap.size w w' := by
  have hu30 := Tryd.underlying30
  have hu39 := Tryd.underlying39
  have h0lt := World.block_lt_of_cell? w _ hm
  obtain ⟨k1, hk1⟩ := print_f l hE hS.all
  obtain ⟨k2, hk2⟩ := same_refl2 l (by omega)
  have K1 := Lib.hid hk1
  have K2 := Lib.hid hk2
  have HR := Lib.hid hr
  have HRB := Lib.hid hrb
  have HS := Lib.hid hS
  have HM := Lib.hid hm
  have HT := Lib.hid hT
  have HU := Lib.hid hU
  clear hk1 hk2 hr hrb hm hT hU hE
  go_enter Tryd.func6, Tryd.ntmps6
  go_wp2_with fail
  refine (wakes_calls m _ HM.out HT.out HU.out).mono ?_
  rintro e w1 ⟨rfl, hb1⟩
  have HB1 := Lib.hid hb1
  have HP := Lib.hid (print_calls A c l m w1 (Kd.C_below HR.out hb1) hc hS ((hb1.cell h0lt).trans HM.out) (HT.out.below HT.out.size hb1))
  clear hb1 hS
  rcases printV_cases l with ⟨hpv, hck, hl4⟩ | ⟨hpe, hpn⟩
  · rw [hpv] at HP K1
    have HCK := Lib.hid hck
    have HL4 := Lib.hid hl4
    have hLl : (l.flatMap lineU).length ≤ 1048576 := by
      rw [lines_ints, bytes_len] at hX
      exact hX
    have HLL := Lib.hid hLl
    clear hpv hck hl4 hX
    obtain ⟨t, ht⟩ : ∃ t : ByteArray, t = ⟨(l.flatMap lineU).toArray⟩ := ⟨_, rfl⟩
    have htl : t.data.toList = l.flatMap lineU := by rw [ht]
    have hts : t.size = (l.flatMap lineU).length := by rw [ht]; rfl
    rw [← ht] at HP K1
    have HTL := Lib.hid htl
    have HTS := Lib.hid hts
    have hbl : (bytesOf t).length = t.size := bytes_len t
    have HBL := Lib.hid hbl
    have htz : t.size ≤ 1048576 := by rw [hts]; exact hLl
    clear ht htl hts hLl hbl
    go_wp2_with fail
    refine HP.out.mono ?_
    rintro e w2 ⟨vb, rfl, hvb, hb2⟩
    have HB2 := Lib.hid (HB1.out.trans (hb2.mono HB1.out.size))
    have HV2 := Lib.hid hvb
    obtain ⟨Ab, cb, rfl, hcb, hCb⟩ := Kd.R_reads hvb
    rw [HBL.out] at hcb hCb ⊢
    have HCB := Lib.hid hCb
    clear hvb hb2 hCb HP
    go_wp2_with fail
    refine (posthornref16_Print.calls k1 A c l _ _ _ (Kd.C_below HR.out HB2.out) hc K1.out).mono ?_
    rintro e w3 ⟨vw, rfl, hvw, hb3⟩
    have HB3 := Lib.hid (HB2.out.trans (hb3.mono HB2.out.size))
    have HCB3 := Lib.hid (Kd.C_below HCB.out hb3)
    obtain ⟨Aw, cw, rfl, hcw, _⟩ := Kd.R_reads hvw
    have HPA := Lib.hid (parse_calls Ab cb t m w3 HCB3.out hcb (by omega) ((HB3.out.cell h0lt).trans HM.out) (HT.out.below HT.out.size HB3.out) (Utf8Tabs_below HU.out HB3.out))
    rw [HTL.out, back_alone l HCK.out HL4.out, ← HTS.out] at HPA
    clear hvw hb3
    go_wp2_with fail
    refine HPA.out.mono ?_
    rintro e w4 ⟨v4, l4, i4, er4, sp4, hv, rfl, ho4, hb4⟩
    cases hv
    obtain ⟨A4, c4, rfl, hc4, hC4⟩ := fields_C ho4
    have hB4 := HB3.out.trans (hb4.mono HB3.out.size)
    have hle4 := hb4.size
    have HB4 := Lib.hid (hB4.alloc hB4.size (.cells #[.int .i64 0, .int .i64 0] 39))
    have hS4 : (w4.alloc (.cells #[.int .i64 0, .int .i64 0] 39)).heap[w4.heap.size]? = some (.cells #[.int .i64 0, .int .i64 0] 39 (0, 0)) := World.alloc_heap_new w4 _
    have s0 := blk_cell hS4 0
    have s1 := blk_cell hS4 1
    have HS4 := Lib.hid hS4
    have HC4 := Lib.hid (Kd.C_alloc hC4 (.cells #[.int .i64 0, .int .i64 0] 39))
    have HCB4 := Lib.hid (Kd.C_alloc (Kd.C_below HCB3.out hb4) (.cells #[.int .i64 0, .int .i64 0] 39))
    clear ho4 hb4 hB4 hS4 hC4 HPA
    have HSAME := Lib.hid (posthornlaw16_same.calls k2 A4 c4 l A c l true _ HC4.out hc4 (Kd.C_below HR.out HB4.out) hc K2.out)
    have i5 : (Tryd.prog.info? 5).map (fun i => (i.zero, i.size, i.bytes)) = some (some (Value.int .u8 0), 1, 1) := by kernel_rfl
    go_wp2_with (first
      | (go_at_call 27; refine HSAME.out.mono ?_; rintro e w5 ⟨rfl, ⟨⟨nd, rfl⟩⟩⟩; clear s0 s1; have hb5 := Lib.hid (pw_below_drewN (Below.refl (w4.alloc (.cells #[.int .i64 0, .int .i64 0] 39)).heap.size (w4.alloc (.cells #[.int .i64 0, .int .i64 0] 39))) nd); have HB5 := Lib.hid (HB4.out.trans (hb5.out.mono HB4.out.size)); have HS5 := Lib.hid ((hb5.out.block _ (Array.getElem?_eq_some_iff.1 HS4.out).1).trans HS4.out); have HCB5 := Lib.hid (Kd.C_below HCB4.out hb5.out); clear hb5)
      | (at_builtin; refine print_append_row (w0 := ((w4.alloc (.cells #[.int .i64 0, .int .i64 0] 39)).drewN nd)) ((w4.alloc (.cells #[.int .i64 0, .int .i64 0] 39)).drewN nd).heap.size rfl (.tmp 61) (.tmp 62) 24 5 .u8 1 rfl Tryd.underlying24 i5 (by decide) _ [] (bytesOf t) Ab t.size cb rfl rfl (empty_own _ _ _ (Nat.le_refl _) (by simp)) (reads_bytes (Kd.C_alloc HCB5.out _)) ((Below.refl _ _).alloc (Nat.le_refl _) _) (((Below.refl _ _).alloc (Nat.le_refl _) _).size) (by simp; omega) ?_; intro v6 w6 ho6 hb6 hg6 _; have HO6 := Lib.hid ho6; have HB6 := Lib.hid hb6; clear ho6 hb6 hg6)
      | (at_builtin; refine print_append_row (w0 := ((w4.alloc (.cells #[.int .i64 0, .int .i64 0] 39)).drewN nd)) ((w4.alloc (.cells #[.int .i64 0, .int .i64 0] 39)).drewN nd).heap.size rfl (.tmp 63) (.tmp 64) 24 5 .u8 1 rfl Tryd.underlying24 i5 (by decide) _ _ [13, 10] (some ⟨w6.heap.size, 0, none⟩) 2 2 rfl rfl (HO6.out.alloc _) (reads_bytes (lit_C w6 ⟨#[13, 10]⟩ #[.int .u8 13, .int .u8 10] rfl (0, 0) (by decide))) (HB6.out.alloc HB6.out.size _) (Nat.le_trans HB6.out.size ((Below.refl _ _).alloc (Nat.le_refl _) _).size) (by rw [List.nil_append, HBL.out]; omega) ?_; intro v7 w7 ho7 hb7 hg7 _; have HO7 := Lib.hid ho7; have HB7 := Lib.hid hb7; clear ho7 hb7 hg7)
      | (at_builtin; refine print_append_row (w0 := ((w4.alloc (.cells #[.int .i64 0, .int .i64 0] 39)).drewN nd)) ((w4.alloc (.cells #[.int .i64 0, .int .i64 0] 39)).drewN nd).heap.size rfl (.tmp 65) (.tmp 66) 24 5 .u8 1 rfl Tryd.underlying24 i5 (by decide) _ _ (bytesOf s) B s.size d rfl rfl HO7.out (reads_bytes (Kd.C_below HRB.out (HB5.out.trans (HB7.out.mono HB5.out.size)))) HB7.out HB7.out.size (by rw [List.nil_append, List.length_append, HBL.out]; simp only [List.length_cons, List.length_nil]; omega) ?_; intro v8 w8 ho8 hb8 hg8 _; have HO8 := Lib.hid ho8; have HB8 := Lib.hid hb8; clear ho8 hb8 hg8))
    have HBw := Lib.hid (HB5.out.trans (HB8.out.mono HB5.out.size))
    have HS8 := Lib.hid ((HB8.out.block _ (Array.getElem?_eq_some_iff.1 HS5.out).1).trans HS5.out)
    obtain ⟨t2, ht2⟩ : ∃ t2 : ByteArray, t2 = ⟨(t.data.toList ++ 13 :: 10 :: s.data.toList).toArray⟩ := ⟨_, rfl⟩
    have hb2 : [] ++ bytesOf t ++ [13, 10] ++ bytesOf s = bytesOf t2 := by
      rw [ht2]
      simp [bytesOf]
    have ht2z : t2.size = t.size + 2 + s.size := by
      rw [ht2]
      show (t.data.toList ++ 13 :: 10 :: s.data.toList).length = _
      rw [List.length_append, List.length_cons, List.length_cons, data_length, data_length]
      omega
    have ht2l : t2.data.toList = l.flatMap lineU ++ 13 :: 10 :: s.data.toList := by rw [ht2, ← HTL.out]
    have ho8 := HO8.out
    rw [hb2] at ho8
    obtain ⟨A8, c8, rfl, hc8, hC8⟩ := Kd.R_reads (Kd.R_of_own (enc := Value.int .u8) (h1 := fun _ => rfl) (ok := fun _ => True) ho8 (fun _ _ => trivial))
    rw [bytes_len] at hc8 hC8 ⊢
    have HPA := Lib.hid (parse_calls A8 c8 t2 m w8 hC8 hc8 (by omega) ((HBw.out.cell h0lt).trans HM.out) (HT.out.below HT.out.size HBw.out) (Utf8Tabs_below HU.out HBw.out))
    rw [ht2l, back_ahead l HCK.out HL4.out, ← HTS.out] at HPA
    clear ht2 hb2 ht2z ht2l ho8 hC8 HO8 HO7 HO6 HB6 HB7
    refine HPA.out.mono ?_
    rintro e w9 ⟨v9, l9, i9, er9, sp9, hv, rfl, ho9, hb9⟩
    cases hv
    obtain ⟨A9, c9, rfl, hc9, hC9⟩ := fields_C ho9
    have HBz := HBw.out.trans (hb9.mono HBw.out.size)
    have HS9 := (hb9.block _ (Array.getElem?_eq_some_iff.1 HS8.out).1).trans HS8.out
    have hlt4 : w4.heap.size < w8.heap.size := (Array.getElem?_eq_some_iff.1 HS8.out).1
    have hw4 : w.heap.size ≤ w4.heap.size := by have := HB3.out.size; have := hle4; omega
    have s0 := blk_cell HS9 0
    have s1 := blk_cell HS9 1
    have f0 := blk_frozen HS9 0
    have f1 := blk_frozen HS9 1
    have hne : some w4.heap.size ≠ (Value.slice A9 l.length c9).ownBlock := fun e => by have := own_base ho9 _ e.symm; omega
    have hoz := own_setCell (own_setCell ho9 (p := ⟨w4.heap.size, 0, none⟩) hne (.int .i64 0)) (p := ⟨w4.heap.size, 1, none⟩) hne (.int .i64 0)
    obtain ⟨A9', c9', hA9, hcz, hCz⟩ := fields_C hoz
    cases hA9
    have hbz := (HBz.setCell (p := ⟨w4.heap.size, 0, none⟩) hw4 (.int .i64 0)).setCell (p := ⟨w4.heap.size, 1, none⟩) hw4 (.int .i64 0)
    have HSAM2 := Lib.hid (posthornlaw16_same.calls k2 A9 c9 l A c l true _ hCz hc9 (Kd.C_below HR.out hbz) hc K2.out)
    have HBZ := Lib.hid hbz
    have hSZ := blk_put (blk_put HS9 0 (.int .i64 0) rfl) 1 (.int .i64 0) rfl
    have z0 := blk_cell hSZ 0
    have z1 := blk_cell hSZ 1
    clear hoz hCz hcz hbz ho9 hb9 hC9 HBz HS9 hne HPA hSZ
    go_wp2_with (go_at_call 27; refine HSAM2.out.mono ?_; rintro e w10 ⟨rfl, ⟨⟨nz, rfl⟩⟩⟩)
    go_ret
    exact ⟨by simp, pw_below_drewN HBZ.out nz⟩
  · generalize hV : printV l = V at *
    obtain ⟨B0, cd⟩ := V
    simp only at hpe hpn HP K1
    subst hpn
    have hcd : (cd != 0) = true := bne_iff_ne.2 hpe
    clear hV hpe hX
    go_wp2_with fail
    refine HP.out.mono ?_
    rintro e w2 ⟨vb, rfl, hvb, hb2⟩
    have HB2 := Lib.hid (HB1.out.trans (hb2.mono HB1.out.size))
    obtain ⟨Ab, cb, rfl, hcb, _⟩ := Kd.R_reads hvb
    clear hvb hb2
    go_wp2_with fail
    refine (posthornref16_Print.calls k1 A c l _ _ _ (Kd.C_below HR.out HB2.out) hc K1.out).mono ?_
    rintro e w3 ⟨vw, rfl, hvw, hb3⟩
    have HB3 := Lib.hid (HB2.out.trans (hb3.mono HB2.out.size))
    clear hvw hb3
    go_wp2
    go_ret
    exact ⟨by simp, HB3.out⟩
end Go.Proofs.YtammhcfifnffeaaDoor.BackLaw
