/- posthornlaw17.WordFit: its walk. -/
import Derived.Test.YtcnhnpkbklakoaaDoorFitPure
namespace Go.Proofs.YtcnhnpkbklakoaaDoor.Word
open Go.RowKit Go.Proofs.YtcnhnpkbklakoaaDoorW.PrintWords Go.Proofs.YtcnhnpkbklakoaaDoorW.PrintLast Go.Proofs.YtcnhnpkbklakoaaDoorW.PrintMore Go.Proofs.YtcnhnpkbklakoaaDoor.PWordEncodes
open Go.Proofs.YtcnhnpkbklakoaaDoor.Code Go.Proofs.YtcnhnpkbklakoaaDoor.Runes Go.Proofs.YtcnhnpkbklakoaaDoor.Pieces
attribute [local go_sem] max2_int min2_int max_two min_two max_three min_three max_four min_four
set_option linter.unusedVariables false
set_option linter.unusedSimpArgs false
theorem pre_calls (x : ByteArray) (h : Lib.hasPrefix x.data.toList P8 = true) (W : World) : Calls Tryd.prog 19 #[.string x, .string ⟨#[61, 63, 85, 84, 70, 45, 56, 63]⟩] W fun e w' => e = .returned (.bool true) ∧ w' = W := by
  have := Tryd.strings_HasPrefix x ⟨#[61, 63, 85, 84, 70, 45, 56, 63]⟩ W
  rwa [show Lib.hasPrefix x.data.toList (⟨#[61, 63, 85, 84, 70, 45, 56, 63]⟩ : ByteArray).data.toList = true from h] at this
theorem suf_calls (x : ByteArray) (h : Lib.hasSuffix x.data.toList [63, 61] = true) (hs : x.size ≤ 75) (W : World) : Calls Tryd.prog 20 #[.string x, .string ⟨#[63, 61]⟩] W fun e w' => e = .returned (.bool true) ∧ w' = W := by
  have := Tryd.strings_HasSuffix x ⟨#[63, 61]⟩ W (by omega)
  rwa [show Lib.hasSuffix x.data.toList (⟨#[63, 61]⟩ : ByteArray).data.toList = true from h] at this
theorem empty_list {t : ByteArray} (h : t.size = 0) : t.toList = [] ∧ t.toList.isEmpty = true := by
  have : t.toList = [] := by
    rw [Lib.toList_data]
    exact List.eq_nil_of_length_eq_zero (by rw [data_length]; exact h)
  exact ⟨this, by rw [this]; rfl⟩
theorem full_list {t : ByteArray} (h : 0 < t.size) : ¬ t.toList = [] ∧ t.toList.isEmpty = false := by
  have : t.toList ≠ [] := by
    rw [Lib.toList_data]
    intro e
    have h2 : t.data.toList.length = 0 := by rw [e]; rfl
    rw [data_length] at h2
    omega
  refine ⟨this, ?_⟩
  cases h' : t.toList with
  | nil => exact absurd h' this
  | cons => rfl
set_option maxHeartbeats 8000000 in
set_option maxRecDepth 100000 in
theorem fit_calls (s : ByteArray) (m : Int) (w : World) (hs : s.size ≤ 1048576) (hm : w.cell? ⟨1, 0, none⟩ = some (.int .i64 m)) (hT : Octet.Laid w) :
    Calls Tryd.prog 8 #[.string s] w fun e w' => e = .returned (.bool true) ∧ Below w.heap.size w w' := by
  have h1lt := World.block_lt_of_cell? w _ hm
  have HM := Lib.hid hm
  have HT := Lib.hid hT
  have HWK := Lib.hid (fun W h k => wakes_calls m W h k)
  obtain ⟨h2, hle⟩ := enc_two s
  obtain ⟨fl, hl0⟩ := enc_fit s false
  obtain ⟨fs, _⟩ := enc_fit s true
  have zl := enc_size s false
  have zs := enc_size s true
  have HE1 := Lib.hid (encode_calls s false w (by omega) hT)
  have HE2 := Lib.hid (fun W h => encode_calls s true W (by omega) h)
  obtain ⟨a, ha⟩ : ∃ a, a = encV s false := ⟨_, rfl⟩
  obtain ⟨b, hb⟩ : ∃ b, b = encV s true := ⟨_, rfl⟩
  rw [← ha] at h2 hle fl hl0 zl HE1
  rw [← hb] at h2 hle fs zs HE2
  obtain ⟨long, er⟩ := a
  obtain ⟨short, er2⟩ := b
  simp only at h2 hle fl hl0 fs zl zs HE1 HE2
  subst h2
  have HF : Hid (∀ (k : Nat) t, [long, short][k]? = some t → FitText t ∧ t.size ≤ 79691852) := Lib.hid (by
    intro k t h
    match k, h with
    | 0, h => cases h; exact ⟨fl, by omega⟩
    | 1, h => cases h; exact ⟨fs, by omega⟩)
  have HL0 := Lib.hid hl0
  have hlex : ¬ long.size < short.size := by omega
  clear hm hT ha hb fl fs hl0 zl zs hle
  go_enter Tryd.func8, Tryd.ntmps8
  go_wp2_with fail
  refine HE1.out.mono ?_
  rintro e w1 ⟨rfl, hb1⟩
  have HB1 := Lib.hid hb1
  clear hb1
  go_wp2_with fail
  refine (HE2.out w1 (HT.out.below HT.out.size HB1.out)).mono ?_
  rintro e w2 ⟨rfl, hb2⟩
  have HB2 := Lib.hid (HB1.out.trans (hb2.mono HB1.out.size))
  clear hb2
  have hz2 : w.heap.size ≤ w2.heap.size := HB2.out.size
  go_wp2
  go_loopw [36] (fun v wr => ∃ k : Nat, k ≤ 2 ∧ v = .int .i64 k ∧ Below (w2.heap.size + 1) (w2.alloc (.cells #[.string long, .string short] 9)) wr) (fun v _ => 2 - (intOf v).toNat)
  case atStart => exact ⟨0, by omega, rfl, Below.refl _ _⟩
  case round =>
    obtain ⟨k, hk, rfl, hB⟩ := hrel
    have hzr : w2.heap.size + 1 ≤ wr.heap.size := by have := hB.size; rw [World.size_alloc] at this; exact this
    have hX := (hB.block w2.heap.size (by omega)).trans (heap_alloc_new w2 _)
    have HBR := Lib.hid hB
    have HB := Lib.hid (((HB2.out.alloc HB2.out.size (.cells #[.string long, .string short] 9)).trans (hB.mono (by omega))))
    clear hB
    by_cases hlt : k < 2
    · obtain ⟨t, ht⟩ : ∃ t, [long, short][k]? = some t := ⟨_, List.getElem?_eq_getElem (by exact hlt)⟩
      obtain ⟨hft, hts⟩ := HF.out k t ht
      have c0 : wr.cell? ⟨w2.heap.size, k, none⟩ = some (.string t) := by
        rw [blk_cell hX k]
        match k, ht with
        | 0, ht => cases ht; rfl
        | 1, ht => cases ht; rfl
      have HFT := Lib.hid hft
      clear hX ht hft
      obtain ⟨wo, rfl⟩ : ∃ wo : World, wo = wr := ⟨_, rfl⟩
      go_wp2
      go_loop [9] (fun v => ∃ j : Nat, j ≤ t.size ∧ v = .int .i64 j) (fun v => t.size - (intOf v).toNat)
      case atStart => exact ⟨0, by omega, rfl⟩
      case round =>
        obtain ⟨j, hj, rfl⟩ := hrel
        by_cases hjl : j < t.size
        · obtain ⟨x, hx⟩ : ∃ x : UInt8, t[j]'hjl = x := ⟨_, rfl⟩
          have hxl : t.data.toList[j]? = some x := by rw [← hx]; exact Lib.data_getElem? t j hjl
          obtain ⟨x0, x1⟩ := HFT.out.shown x (List.mem_of_getElem? hxl)
          have q1 : decide ((x.toNat : Int) < 32) = false := decide_eq_false (by omega)
          have q2 : decide ((126 : Int) < (x.toNat : Int)) = false := decide_eq_false (by omega)
          clear hxl
          go_wp2
          go_round
          case rel => exact ⟨j + 1, by omega, by go_num⟩
          case measure => simp [intOf]; omega
        · obtain rfl : j = t.size := by omega
          rcases HFT.out.words with h0 | ⟨h0, hw⟩
          · obtain ⟨e1, e2⟩ := empty_list h0
            go_wp2
            go_roundw
            case rel => exact ⟨k + 1, by omega, by go_num, HBR.out⟩
            case measure => simp [intOf]; omega
          · obtain ⟨e1, e2⟩ := full_list h0
            have HW := Lib.hid hw
            have HSP := Lib.hid (Tryd.strings_Split t ⟨#[32]⟩ m wo (by omega) ((HB.out.cell h1lt).trans HM.out) (by decide))
            obtain ⟨N, hN⟩ : ∃ N, Lib.countB t ⟨#[32]⟩ + 1 = N := ⟨_, rfl⟩
            obtain ⟨L, hL⟩ : ∃ L, splitC 32 t = L := ⟨_, rfl⟩
            have hLN : L.length = N := by rw [← hL, ← hN]; exact Lib.splitB_all ⟨#[32]⟩ (by decide) 0 _ t rfl
            have hNs : N ≤ 79691853 := by
              have := Lib.countB_le ⟨#[32]⟩ (by decide) _ t (Nat.le_refl _)
              omega
            unfold splitC at hL
            rw [hN, hL] at HSP
            have HWL := Lib.hid (show ∀ x ∈ L, Fit x by rw [← hL]; exact hw)
            have HLN := Lib.hid hLN
            clear hw hN hL hLN h0
            go_wp2_with fail
            refine HSP.out.mono ?_
            rintro e w3 ⟨rfl, hw3⟩
            have HX3 := Lib.hid (show w3.heap[wo.heap.size]? = some (.cells (L.map Value.string).toArray 9 (0, 0)) by rw [hw3]; exact heap_alloc_new wo _)
            have HB3 := Lib.hid (show Below (w2.heap.size + 1) (w2.alloc (.cells #[.string long, .string short] 9)) w3 by rw [hw3]; exact HBR.out.alloc hzr _)
            have hz3 : wo.heap.size < w3.heap.size := by rw [hw3, World.size_alloc]; omega
            have hcc : w3.cell? ⟨w2.heap.size, k, none⟩ = some (.string t) := (HB3.out.cell (by show w2.heap.size < w2.heap.size + 1; omega)).trans ((HBR.out.cell (by show w2.heap.size < w2.heap.size + 1; omega)).symm.trans c0)
            clear hw3 c0
            go_wp2
            go_loopw [61] (fun v wr => ∃ j : Nat, j ≤ N ∧ v = .int .i64 j ∧ Below (wo.heap.size + 1) w3 wr) (fun v _ => N - (intOf v).toNat)
            case atStart => exact ⟨0, by omega, rfl, Below.refl _ _⟩
            case round =>
              obtain ⟨j, hj, rfl, hBI⟩ := hrel
              have hzi := hBI.size
              have HBW := Lib.hid (((HB2.out.alloc HB2.out.size (.cells #[.string long, .string short] 9)).trans (HB3.out.mono (by omega))).trans (hBI.mono (by omega)))
              have HBI := Lib.hid hBI
              have HBO := Lib.hid (HB3.out.trans (hBI.mono (by omega)))
              have hXi := (hBI.block wo.heap.size (by omega)).trans HX3.out
              clear hBI
              by_cases hjn : j < N
              · obtain ⟨x, hx⟩ : ∃ x, L[j]? = some x := ⟨_, List.getElem?_eq_getElem (by have := HLN.out; omega)⟩
                have hfx := HWL.out x (List.mem_of_getElem? hx)
                have z0 : wr.cell? ⟨wo.heap.size, j, none⟩ = some (.string x) := by
                  rw [blk_cell hXi j]
                  simp [hx]
                have hx75 := hfx.small
                have q1 : decide ((75 : Int) < (x.size : Int)) = false := decide_eq_false (by omega)
                have HPRE := Lib.hid (fun W => pre_calls x hfx.pre W)
                have HSUF := Lib.hid (fun W => suf_calls x hfx.suf hfx.small W)
                have HND := Lib.hid (fun W h k => hfx.needs ▸ needs_calls x m W (by omega) h k)
                clear hx hfx hXi
                go_wp2_with fail
                refine (HPRE.out _).mono ?_
                rintro e v1 ⟨rfl, rfl⟩
                go_wp2_with fail
                refine (HSUF.out _).mono ?_
                rintro e v2 ⟨rfl, rfl⟩
                go_wp2_with fail
                refine (HND.out _ ((HBW.out.cell h1lt).trans HM.out) (HT.out.below HT.out.size HBW.out)).mono ?_
                rintro e v3 ⟨rfl, hb3⟩
                have HB4 := Lib.hid (HBI.out.trans (hb3.mono (by omega)))
                clear hb3
                go_wp2
                go_roundw
                case rel => exact ⟨j + 1, by omega, by go_num, HB4.out⟩
                case measure => simp [intOf]; omega
              · obtain rfl : j = N := by omega
                clear hXi
                go_wp2
                go_roundw
                case rel => exact ⟨k + 1, by omega, by go_num, HBO.out⟩
                case measure => simp [intOf]; omega
    · obtain rfl : k = 2 := by omega
      clear hX
      by_cases h0 : long.size = 0
      · obtain ⟨e1, e2⟩ := empty_list h0
        rcases HL0.out.1 h0 with he | he
        · have q1 : (er == 0) = false := beq_eq_false_iff_ne.2 he
          have q2 : (er != 0) = true := bne_iff_ne.2 he
          go_wp2_with fail
          refine (HWK.out _ ((HB.out.cell h1lt).trans HM.out) (HT.out.below HT.out.size HB.out)).mono ?_
          rintro e w4 ⟨rfl, hb4⟩
          have HB4 := Lib.hid (HB.out.trans (hb4.mono HB.out.size))
          clear hb4
          go_wp2
          go_ret
          exact ⟨rfl, HB4.out⟩
        · obtain ⟨e3, e4⟩ := empty_list he
          by_cases her : er = 0
          · subst her
            go_wp2_with fail
            refine (HWK.out _ ((HB.out.cell h1lt).trans HM.out) (HT.out.below HT.out.size HB.out)).mono ?_
            rintro e w4 ⟨rfl, hb4⟩
            have HB4 := Lib.hid (HB.out.trans (hb4.mono HB.out.size))
            clear hb4
            go_wp2
            go_ret
            exact ⟨rfl, HB4.out⟩
          · have q1 : (er == 0) = false := beq_eq_false_iff_ne.2 her
            have q2 : (er != 0) = true := bne_iff_ne.2 her
            go_wp2_with fail
            refine (HWK.out _ ((HB.out.cell h1lt).trans HM.out) (HT.out.below HT.out.size HB.out)).mono ?_
            rintro e w4 ⟨rfl, hb4⟩
            have HB4 := Lib.hid (HB.out.trans (hb4.mono HB.out.size))
            clear hb4
            go_wp2
            go_ret
            exact ⟨rfl, HB4.out⟩
      · obtain ⟨e1, e2⟩ := full_list (Nat.pos_of_ne_zero h0)
        have her : er = 0 := Decidable.byContradiction (fun h => h0 (HL0.out.2 (Or.inl h)))
        have hs0 : 0 < s.size := Nat.pos_of_ne_zero (fun h => h0 (HL0.out.2 (Or.inr h)))
        obtain ⟨e3, e4⟩ := full_list hs0
        subst her
        go_wp2_with fail
        refine (HWK.out _ ((HB.out.cell h1lt).trans HM.out) (HT.out.below HT.out.size HB.out)).mono ?_
        rintro e w4 ⟨rfl, hb4⟩
        have HB4 := Lib.hid (HB.out.trans (hb4.mono HB.out.size))
        clear hb4
        go_wp2
        go_ret
        exact ⟨rfl, HB4.out⟩
end Go.Proofs.YtcnhnpkbklakoaaDoor.Word
