/- word.Decode by contract. -/
import Derived.Test.YtcnhnpkbklakoaaDoorDecParts
namespace Go.Proofs.YtcnhnpkbklakoaaDoor.Word
open Go.RowKit Go.Proofs.YtcnhnpkbklakoaaDoorW.PrintWords Go.Proofs.YtcnhnpkbklakoaaDoorW.PrintLast Go.Proofs.YtcnhnpkbklakoaaDoorW.PrintMore Go.Proofs.YtcnhnpkbklakoaaDoor.PWordEncodes
open Go.Proofs.YtcnhnpkbklakoaaDoor.Code Go.Proofs.YtcnhnpkbklakoaaDoor.Runes Go.Proofs.YtcnhnpkbklakoaaDoor.Pieces Go.Proofs.YtcnhnpkbklakoaaDoor.Unhex
attribute [local go_sem] max2_int min2_int max_two min_two max_three min_three max_four min_four
set_option linter.unusedVariables false
set_option linter.unusedSimpArgs false
theorem own_ne_blk {w : World} {b e z n g t : Nat} {v : Value} {xs : List Value} {cs : Array Value} (h : w.ownsRow b e z v n xs) (hg : w.heap[g]? = some (.cells cs t (0, 0))) (hne : e ≠ t) : some g ≠ v.ownBlock := by
  intro he
  rcases h.2 with ⟨rfl, _⟩ | ⟨g', cap, cur, rfl, _, hh, _⟩
  · simp [Value.ownBlock] at he
  · have : g' = g := by simpa [Value.ownBlock] using he.symm
    subst this
    have := hh.symm.trans hg
    simp only [Option.some.injEq, Obj.cells.injEq] at this
    exact hne this.2.1
set_option maxHeartbeats 16000000 in
set_option maxRecDepth 100000 in
theorem wdecode_calls (s : ByteArray) (m : Int) (w : World) (hs : s.size ≤ 1000000000) (hm : w.cell? ⟨1, 0, none⟩ = some (.int .i64 m)) (hT : Octet.Laid w) :
    Calls Tryd.prog 11 #[.string s] w fun e w' => e = .returned (.tuple #[.string (wdecV s).1, .agg #[.int .i64 (wdecV s).2.1, .int .i64 (wdecV s).2.2]]) ∧ Below w.heap.size w w' := by
  have hu25 := Tryd.underlying25
  have hu42 := Tryd.underlying42
  have h1lt := World.block_lt_of_cell? w _ hm
  obtain ⟨W0, hW0⟩ : ∃ W0, W0 = w.alloc (.cells #[.int .i64 0, .int .i64 0] 25) := ⟨_, rfl⟩
  have hsz : W0.heap.size = w.heap.size + 1 := by rw [hW0]; simp
  have hbox : W0.heap[w.heap.size]? = some (.cells #[.int .i64 0, .int .i64 0] 25 (0, 0)) := by rw [hW0]; exact heap_alloc_new w _
  have hBw : Below w.heap.size w W0 := by rw [hW0]; exact (Below.refl _ _).alloc (Nat.le_refl _) _
  have HX := Lib.hid hbox
  have HBW := Lib.hid hBw
  have HSZ := Lib.hid hsz
  have HM := Lib.hid ((hBw.cell h1lt).trans hm)
  have HT := Lib.hid (hT.below hT.size hBw)
  obtain ⟨R, hR⟩ : ∃ R, R = wdecV s := ⟨_, rfl⟩
  rw [← hR]
  obtain ⟨r0, r1, r2⟩ := R
  have HR := Lib.hid (show (r0, r1, r2) = decGo s s.size 0 [] false from hR)
  have HW0 := Lib.hid hW0
  clear hbox hBw hsz hm hT hR hW0
  go_enter Tryd.func11, Tryd.ntmps11
  go_wp2
  rw [← HW0.out]
  go_loopw [4, 5, 6] (fun o l v wr => ∃ (k d : Nat) (out : List Int) (last : Bool), k ≤ s.size ∧ v = .int .i64 k ∧ l = .bool last ∧ s.size - k ≤ d ∧ (r0, r1, r2) = decGo s d k out last ∧ wr.ownsRow (w.heap.size + 1) 5 1 o out.length (nums .u8 out) ∧ Below (w.heap.size + 1) W0 wr ∧ out.length ≤ 12 * k) (fun _ _ v _ => s.size - (intOf v).toNat)
  case atStart => exact ⟨0, s.size, [], false, by omega, rfl, rfl, by omega, HR.out, own_nil _ _ _ _, Below.refl _ _, by simp⟩
  case round =>
    obtain ⟨k, d, out, last, hk, rfl, rfl, hd, hg, hO, hB, hlen⟩ := hrel
    have HGG := Lib.hid hg
    have HO := Lib.hid hO
    have HB := Lib.hid hB
    have HLEN := Lib.hid hlen
    have hz : w.heap.size + 1 ≤ wr.heap.size := by have := hB.size; have := HSZ.out; omega
    clear hg hO hB hlen
    by_cases hlk : k < s.size
    · obtain ⟨d, rfl⟩ : ∃ d', d = d' + 1 := ⟨d - 1, by omega⟩
      have hla := at_le s k hk
      have hmo := eAt_more s k hlk
      have hgo := HGG.out
      rw [decGo, if_pos hlk] at hgo
      obtain ⟨W, hW⟩ : ∃ W, W = wAt s k := ⟨_, rfl⟩
      obtain ⟨E, hE⟩ : ∃ E, E = eAt s k := ⟨_, rfl⟩
      rw [← hW, ← hE] at hla
      rw [← hE] at hmo
      rw [← hW, ← hE] at hgo
      have HR1 := Lib.hid (show Calls Tryd.prog 22 #[.string s, .int .i64 (k : Int), .bool true] wr fun e w' => e = .returned (.int .i64 (W : Nat)) ∧ Drawn0 wr w' from hW ▸ row_calls s k true wr hk (by omega))
      have HR2 := Lib.hid (fun w2 => (show Calls Tryd.prog 22 #[.string s, .int .i64 (W : Int), .bool false] w2 fun e w' => e = .returned (.int .i64 (E : Nat)) ∧ Drawn0 w2 w' by rw [hE, eAt, ← hW]; exact row_calls s W false w2 (by omega) (by omega)))
      have hsl := fun W' => slice_str s W E hla.2.1 hla.2.2 W'
      have hsg := fun W' => slice_str s k W hla.1 (by omega) W'
      obtain ⟨x, hx⟩ : ∃ x, x = s.extract W E := ⟨_, rfl⟩
      obtain ⟨G, hG⟩ : ∃ G, G = s.extract k W := ⟨_, rfl⟩
      rw [← hx] at hsl hgo
      rw [← hG] at hsg hgo
      have hxs : x.size ≤ E - W := by rw [hx, ByteArray.size_extract]; omega
      have hGs : G.size ≤ W - k := by rw [hG, ByteArray.size_extract]; omega
      obtain ⟨C, hC⟩ : ∃ C, C = cutV x := ⟨_, rfl⟩
      have hCx := cut_calls x m
      rw [← hC] at hgo hCx
      obtain ⟨c0, c1, c2, c3⟩ := C
      have HCT := Lib.hid hCx
      have HG := Lib.hid hgo
      have HCV := Lib.hid hC
      have hla1 := hla.1
      have hla2 := hla.2.1
      have hla3 := hla.2.2
      clear hW hE hx hG hgo hC hCx hla
      go_wp2_with fail
      refine HR1.out.mono ?_
      rintro e w2 ⟨rfl, hd2⟩
      have HB2 := Lib.hid (HB.out.trans ((drawn_below hd2).mono hz))
      have HO2 := Lib.hid (pw_own_below HO.out (drawn_below hd2))
      have hz2 : w.heap.size + 1 ≤ w2.heap.size := by have := (drawn_below hd2).size; omega
      clear hd2
      go_wp2_with fail
      refine (HR2.out _).mono ?_
      rintro e w3 ⟨rfl, hd3⟩
      have hb3 := drawn_below hd3
      have hb3z := hb3.size
      rw [World.size_alloc] at hb3z
      have H73 := Lib.hid ((hb3.block w2.heap.size (by rw [World.size_alloc]; omega)).trans (heap_alloc_new w2 (.cells #[.int .i64 W] 3)))
      have HB3 := Lib.hid ((HB2.out.alloc hz2 (.cells #[.int .i64 W] 3)).trans (hb3.mono (by rw [World.size_alloc]; omega)))
      have HO3 := Lib.hid (pw_own_below (HO2.out.alloc (.cells #[.int .i64 W] 3)) hb3)
      have hz3 : w.heap.size + 1 ≤ w3.heap.size := by omega
      have hb7 : w2.heap.size < w3.heap.size := by omega
      obtain ⟨b7, hb7e⟩ : ∃ b7, b7 = w2.heap.size := ⟨_, rfl⟩
      rw [← hb7e] at H73 hb7 ⊢
      have x7 := blk_cell H73.out 0
      clear hd3 hb3 hb3z hb7e
      go_wp2_with fail
      refine (HCT.out w3 (by omega) ((HB3.out.cell (by have h : 1 < w.heap.size := h1lt; show 1 < w.heap.size + 1; omega)).trans HM.out)).mono ?_
      rintro e w4 ⟨rfl, hb4⟩
      clear x7
      have hb4z := hb4.size
      have HB4a := Lib.hid ((HB3.out.trans (hb4.mono hz3)).alloc (by omega) (.cells #[.string c0, .string c1, .string c2] 42))
      have HO4a := Lib.hid ((pw_own_below HO3.out hb4).alloc (.cells #[.string c0, .string c1, .string c2] 42))
      have H74a := Lib.hid ((heap_alloc_old w4 (.cells #[.string c0, .string c1, .string c2] 42) (show b7 < w4.heap.size by omega)).trans ((hb4.block b7 hb7).trans H73.out))
      have H10a := Lib.hid (heap_alloc_new w4 (.cells #[.string c0, .string c1, .string c2] 42))
      have hz4 : w.heap.size + 1 ≤ w4.heap.size := by omega
      have hb74 : b7 < w4.heap.size := by omega
      clear hb4 hb4z
      cases c3
      · have HF := Lib.hid (show (r0, r1, r2) = decGo s d E ((out ++ bytesOf G) ++ bytesOf x) false from HG.out)
        have x7 := blk_cell H74a.out 0
        have HZ : Hid (w.heap.size + 1 ≤ (w4.alloc (.cells #[.string c0, .string c1, .string c2] 42)).heap.size) := Lib.hid (by rw [World.size_alloc]; omega)
        go_wp2_with (at_builtin; refine print_append_str (w0 := w4.alloc (.cells #[.string c0, .string c1, .string c2] 42)) (w.heap.size + 1) rfl (.tmp 47) (.tmp 48) 39 9 5 rfl Tryd.underlying39 Tryd.underlying9 info5 _ (out) (G) rfl rfl ?ho ?hb ?hbase ?hl ?_)
        case ho => (first | exact HO4a.out | (have h := HO4a.out; rw [← List.length_append] at h; exact h))
        case hb => exact Below.refl _ _
        case hbase => exact HZ.out
        case hl => have := HLEN.out; (try rw [List.length_append, bytesOf_length]); omega
        intro v7 w7 ho7 hb7' hg7
        have HO7 := Lib.hid ho7
        have HB7 := Lib.hid (HB4a.out.trans hb7')
        have h77 := (hg7.block b7 (by rw [World.size_alloc]; omega) (own_ne_blk HO4a.out H74a.out (by decide))).trans H74a.out
        have x7' := blk_cell h77 0
        have HZ7 := Lib.hid (show w.heap.size + 1 ≤ w7.heap.size by have := HB7.out.size; have := HSZ.out; omega)
        clear ho7 hb7' hg7 x7 h77
        have HZ := HZ7
        go_wp2_with (at_builtin; refine print_append_str (w0 := w7) (w.heap.size + 1) rfl (.tmp 50) (.tmp 54) 39 9 5 rfl Tryd.underlying39 Tryd.underlying9 info5 _ (out ++ bytesOf G) (x) rfl rfl ?ho ?hb ?hbase ?hl ?_)
        case ho => (first | exact HO7.out | (have h := HO7.out; rw [← List.length_append] at h; exact h))
        case hb => exact Below.refl _ _
        case hbase => exact HZ.out
        case hl => have := HLEN.out; (try rw [List.length_append, bytesOf_length]); omega
        intro v8 w8 ho8 hb8 hg8
        have HO8 := Lib.hid ho8
        have HB8 := Lib.hid (HB7.out.trans hb8)
        clear ho8 hb8 hg8 x7'
        go_wp2
        go_roundw
        case rel => exact ⟨E, d, (out ++ bytesOf G) ++ bytesOf x, false, by omega, by go_num, rfl, by omega, HF.out, (by simpa using HO8.out), HB8.out, by have := HLEN.out; rw [List.length_append, List.length_append, bytesOf_length, bytesOf_length]; omega⟩
        case measure => simp [intOf]; omega
      · obtain ⟨hc0s, hc2s, c, rfl, hcc⟩ := cutV_props x c0 c1 c2 HCV.out
        have hg := HG.out
        simp only [if_false, Bool.true_eq_false] at hg
        obtain ⟨M, hM⟩ : ∃ M, M = meansV c0 [] := ⟨_, rfl⟩
        obtain ⟨BV, hBV⟩ : ∃ BV, BV = bytesV ⟨#[c]⟩ c2 := ⟨_, rfl⟩
        rw [← hM, ← hBV] at hg
        obtain ⟨bl, bw⟩ := BV
        obtain ⟨M2, hM2⟩ : ∃ M2, M2 = meansV c0 (u8s bl) := ⟨_, rfl⟩
        simp only at hg
        rw [← hM2] at hg
        obtain ⟨m0, m1, m2⟩ := M
        obtain ⟨t0, t1, t2⟩ := M2
        simp only at hg
        obtain ⟨hbl, hbn, hbw⟩ := bytesV_props ⟨#[c]⟩ c2
        rw [← hBV] at hbl hbn hbw
        simp only at hbl hbn hbw
        have ht0 : t0.size ≤ 4 * bl.length := by
          have := meansV_size c0 (u8s bl)
          rw [← hM2, u8s_length] at this
          exact this
        have HGO := Lib.hid hg
        have HMM := Lib.hid hM
        have HM2 := Lib.hid hM2
        have HBV := Lib.hid hBV
        have HBL := Lib.hid hbl
        have HBWR := Lib.hid hbw
        have HC := Lib.hid hcc
        clear hg hM hM2 hBV hbl hbw hcc HG HCV
        obtain ⟨WC, hWC⟩ : ∃ WC, WC = w4.alloc (.cells #[.string c0, .string ⟨#[c]⟩, .string c2] 42) := ⟨_, rfl⟩
        obtain ⟨b10, hb10⟩ : ∃ b10, b10 = w4.heap.size := ⟨_, rfl⟩
        have hzc : w.heap.size + 1 ≤ WC.heap.size := by rw [hWC, World.size_alloc]; omega
        have hb7c : b7 < WC.heap.size := by rw [hWC, World.size_alloc]; omega
        have hb10c : b10 < WC.heap.size := by rw [hWC, hb10, World.size_alloc]; omega
        rw [← hWC] at HB4a HO4a H74a H10a
        rw [← hb10] at H10a
        have HWC := Lib.hid hWC
        have HB10 := Lib.hid hb10
        clear hWC hb10
        go_wp2_with fail
        rw [← HWC.out]
        refine (means_calls c0 none 0 0 [] m rfl WC (Kd.C_nil _ _) (Nat.le_refl _) (by omega) (by omega) ((HB4a.out.cell (by have h : 1 < w.heap.size := h1lt; show 1 < w.heap.size + 1; omega)).trans HM.out) (HT.out.below (by have := HT.out.size; omega) HB4a.out)).mono ?_
        rintro e w5 ⟨rfl, hb5⟩
        rw [← HMM.out, ← HB10.out]
        have hz5 : w.heap.size + 1 ≤ w5.heap.size := by have := hb5.size; omega
        have HB5 := Lib.hid (HB4a.out.trans (hb5.mono hzc))
        have HO5 := Lib.hid (pw_own_below HO4a.out hb5)
        have H75 := Lib.hid ((hb5.block b7 hb7c).trans H74a.out)
        have H105 := Lib.hid ((hb5.block b10 hb10c).trans H10a.out)
        have y0 := blk_cell H105.out 0
        have y1 := blk_cell H105.out 1
        have y2 := blk_cell H105.out 2
        have x7 := blk_cell H75.out 0
        have hb75 : b7 < w5.heap.size := by have := hb5.size; omega
        have hb105 : b10 < w5.heap.size := by have := hb5.size; omega
        clear hb5
        cases m1
        · have hg := HGO.out
          simp only [if_true] at hg
          cases hg
          go_wp2_with fail
          refine (badc_calls 171 2 W b7 w5 H75.out (by omega) (by omega)).mono ?_
          rintro e w6 ⟨rfl, hb6⟩
          have HB6 := Lib.hid (HB5.out.trans (hb6.mono hz5))
          clear hb6 y0 y1 y2 x7
          have hX6 := (HB6.out.block w.heap.size (by omega)).trans HX.out
          have e0 := blk_cell hX6 0
          have e1 := blk_cell hX6 1
          have f0 := blk_frozen hX6 0
          have f1 := blk_frozen hX6 1
          have HX6 := Lib.hid hX6
          clear hX6
          go_wp2
          refine bodyPost_ret (results_list (rs := [.tmp 2, .cell 3 25]) rfl (by simp) (.tmp (.cell w.heap.size 25 #[.int .i64 (171), .int .i64 ((W : Int) + 2)] (0, 0) _ rfl (blk_put (blk_put HX6.out 0 (.int .i64 (171)) rfl) 1 (.int .i64 ((W : Int) + 2)) rfl) Tryd.underlying25 rfl (by kernel_rfl) .nil))) rfl ?_
          exact ⟨rfl, ((HBW.out.trans (HB6.out.mono (by omega))).setCell (p := ⟨w.heap.size, 0, none⟩) (Nat.le_refl _) _).setCell (p := ⟨w.heap.size, 1, none⟩) (Nat.le_refl _) _⟩
        · have hg := HGO.out
          simp only [if_false, Bool.true_eq_false] at hg
          have HG2 := Lib.hid hg
          clear hg
          go_wp2_with fail
          refine (bytes_calls c0 c2 c HC.out w5 (by omega) (HT.out.below (by have := HT.out.size; omega) HB5.out)).mono ?_
          rintro e w6 ⟨V, rfl, ho6, hb6⟩
          rw [← HBV.out] at ho6 ⊢
          obtain ⟨A, cp, rfl, hcp, hC6⟩ := own_C rfl ho6
          have hz6 : w.heap.size + 1 ≤ w6.heap.size := by have := hb6.size; omega
          have HB6 := Lib.hid (HB5.out.trans (hb6.mono hz5))
          have HO6 := Lib.hid (pw_own_below HO5.out hb6)
          have H76 := Lib.hid ((hb6.block b7 hb75).trans H75.out)
          have H106 := Lib.hid ((hb6.block b10 hb105).trans H105.out)
          have HC6 := Lib.hid (show Kd.C (Kd.int .u8) w6 A bl.length ((u8s bl).map fun (x : UInt8) => (x.toNat : Int)) by
            have := natsOf_u8s HBL.out
            unfold natsOf at this
            rw [this]
            exact hC6)
          have hb76 : b7 < w6.heap.size := by have := hb6.size; omega
          have hb106 : b10 < w6.heap.size := by have := hb6.size; omega
          clear y0 y1 y2 x7 ho6 hb6 hC6
          have y0 := blk_cell H106.out 0
          have x7 := blk_cell H76.out 0
          by_cases hw : 0 ≤ bw
          · have hg := HG2.out
            rw [if_pos hw] at hg
            have hbw2 : bw ≤ c2.size := by rcases HBWR.out with h | h <;> omega
            cases hg
            go_wp2_with fail
            refine (badc_calls 170 ((c0.size : Int) + 5 + bw) W b7 w6 H76.out (by omega) (by omega)).mono ?_
            rintro e w7 ⟨rfl, hb7'⟩
            have HB6 := Lib.hid (HB6.out.trans (hb7'.mono hz6))
            clear hb7' y0 x7
            have hX6 := (HB6.out.block w.heap.size (by omega)).trans HX.out
            have e0 := blk_cell hX6 0
            have e1 := blk_cell hX6 1
            have f0 := blk_frozen hX6 0
            have f1 := blk_frozen hX6 1
            have HX6 := Lib.hid hX6
            clear hX6
            go_wp2
            refine bodyPost_ret (results_list (rs := [.tmp 2, .cell 3 25]) rfl (by simp) (.tmp (.cell w.heap.size 25 #[.int .i64 (170), .int .i64 ((W : Int) + ((c0.size : Int) + 5 + bw))] (0, 0) _ rfl (blk_put (blk_put HX6.out 0 (.int .i64 (170)) rfl) 1 (.int .i64 ((W : Int) + ((c0.size : Int) + 5 + bw))) rfl) Tryd.underlying25 rfl (by kernel_rfl) .nil))) rfl ?_
            exact ⟨rfl, ((HBW.out.trans (HB6.out.mono (by omega))).setCell (p := ⟨w.heap.size, 0, none⟩) (Nat.le_refl _) _).setCell (p := ⟨w.heap.size, 1, none⟩) (Nat.le_refl _) _⟩
          · have hg := HG2.out
            rw [if_neg hw] at hg
            have hwb : bw < 0 := by omega
            have HG3 := Lib.hid hg
            clear hg
            go_wp2_with fail
            refine (means_calls c0 A cp bl.length (u8s bl) m (u8s_length bl) w6 HC6.out hcp (by omega) (by omega) ((HB6.out.cell (by have h : 1 < w.heap.size := h1lt; show 1 < w.heap.size + 1; omega)).trans HM.out) (HT.out.below (by have := HT.out.size; omega) HB6.out)).mono ?_
            rintro e w7 ⟨rfl, hb7'⟩
            rw [← HM2.out]
            have hz7 : w.heap.size + 1 ≤ w7.heap.size := by have := hb7'.size; omega
            have HB7 := Lib.hid (HB6.out.trans (hb7'.mono hz6))
            have HO7 := Lib.hid (pw_own_below HO6.out hb7')
            have H77 := Lib.hid ((hb7'.block b7 hb76).trans H76.out)
            clear hb7' y0 x7
            have x7 := blk_cell H77.out 0
            cases t2
            · have hg := HG3.out
              simp only [if_true] at hg
              cases hg
              go_wp2_with fail
              refine (badc_calls 170 ((c0.size : Int) + 5) W b7 w7 H77.out (by omega) (by omega)).mono ?_
              rintro e w8 ⟨rfl, hb8⟩
              have HB6 := Lib.hid (HB7.out.trans (hb8.mono hz7))
              clear hb8 x7
              have hX6 := (HB6.out.block w.heap.size (by omega)).trans HX.out
              have e0 := blk_cell hX6 0
              have e1 := blk_cell hX6 1
              have f0 := blk_frozen hX6 0
              have f1 := blk_frozen hX6 1
              have HX6 := Lib.hid hX6
              clear hX6
              go_wp2
              refine bodyPost_ret (results_list (rs := [.tmp 2, .cell 3 25]) rfl (by simp) (.tmp (.cell w.heap.size 25 #[.int .i64 (170), .int .i64 ((W : Int) + ((c0.size : Int) + 5))] (0, 0) _ rfl (blk_put (blk_put HX6.out 0 (.int .i64 (170)) rfl) 1 (.int .i64 ((W : Int) + ((c0.size : Int) + 5))) rfl) Tryd.underlying25 rfl (by kernel_rfl) .nil))) rfl ?_
              exact ⟨rfl, ((HBW.out.trans (HB6.out.mono (by omega))).setCell (p := ⟨w.heap.size, 0, none⟩) (Nat.le_refl _) _).setCell (p := ⟨w.heap.size, 1, none⟩) (Nat.le_refl _) _⟩
            · have HZ := Lib.hid hz7
              cases last
              · have HF := Lib.hid (show (r0, r1, r2) = decGo s d E ((out ++ bytesOf G) ++ bytesOf t0) true from HG3.out)
                go_wp2_with (at_builtin; refine print_append_str (w0 := w7) (w.heap.size + 1) rfl (.tmp 105) (.tmp 106) 39 9 5 rfl Tryd.underlying39 Tryd.underlying9 info5 _ (out) (G) rfl rfl ?ho ?hb ?hbase ?hl ?_)
                case ho => (first | exact HO7.out | (have h := HO7.out; rw [← List.length_append] at h; exact h))
                case hb => exact Below.refl _ _
                case hbase => exact HZ.out
                case hl => have := HLEN.out; (try rw [List.length_append, bytesOf_length]); omega
                intro v8 w8 ho8 hb8 hg8
                have HO8 := Lib.hid ho8
                have HB8 := Lib.hid (HB7.out.trans hb8)
                have HZ := Lib.hid (show w.heap.size + 1 ≤ w8.heap.size by have := HB8.out.size; have := HSZ.out; omega)
                clear ho8 hb8 hg8 x7
                go_wp2_with (at_builtin; refine print_append_str (w0 := w8) (w.heap.size + 1) rfl (.tmp 108) (.tmp 109) 39 9 5 rfl Tryd.underlying39 Tryd.underlying9 info5 _ (out ++ bytesOf G) (t0) rfl rfl ?ho ?hb ?hbase ?hl ?_)
                case ho => (first | exact HO8.out | (have h := HO8.out; rw [← List.length_append] at h; exact h))
                case hb => exact Below.refl _ _
                case hbase => exact HZ.out
                case hl => have := HLEN.out; (try rw [List.length_append, bytesOf_length]); omega
                intro v9 w9 ho9 hb9 hg9
                have HO9 := Lib.hid ho9
                have HB9 := Lib.hid (HB8.out.trans hb9)
                clear ho9 hb9 hg9
                go_wp2
                go_roundw
                case rel => exact ⟨E, d, (out ++ bytesOf G) ++ bytesOf t0, true, by omega, by go_num, rfl, by omega, HF.out, (by simpa using HO9.out), HB9.out, by have := HLEN.out; rw [List.length_append, List.length_append, bytesOf_length, bytesOf_length]; omega⟩
                case measure => simp [intOf]; omega
              · have HF := Lib.hid (show (r0, r1, r2) = decGo s d E (out ++ bytesOf t0) true from HG3.out)
                go_wp2_with (at_builtin; refine print_append_str (w0 := w7) (w.heap.size + 1) rfl (.tmp 108) (.tmp 109) 39 9 5 rfl Tryd.underlying39 Tryd.underlying9 info5 _ (out) (t0) rfl rfl ?ho ?hb ?hbase ?hl ?_)
                case ho => (first | exact HO7.out | (have h := HO7.out; rw [← List.length_append] at h; exact h))
                case hb => exact Below.refl _ _
                case hbase => exact HZ.out
                case hl => have := HLEN.out; (try rw [List.length_append, bytesOf_length]); omega
                intro v8 w8 ho8 hb8 hg8
                have HO8 := Lib.hid ho8
                have HB8 := Lib.hid (HB7.out.trans hb8)
                clear ho8 hb8 hg8 x7
                go_wp2
                go_roundw
                case rel => exact ⟨E, d, out ++ bytesOf t0, true, by omega, by go_num, rfl, by omega, HF.out, (by simpa using HO8.out), HB8.out, by have := HLEN.out; rw [List.length_append, bytesOf_length]; omega⟩
                case measure => simp [intOf]; omega
    · have hfin : (r0, r1, r2) = (strOfNums out, (0 : Int), (0 : Int)) := by rw [HGG.out, decGo_end _ _ _ _ _ hlk]
      cases hfin
      obtain ⟨A9, c9, rfl, _, hC9⟩ := own_C rfl HO.out
      have q9 := str_of wr (c := c9) hC9
      have hX6 := (HB.out.block w.heap.size (by omega)).trans HX.out
      have e0 := blk_cell hX6 0
      have e1 := blk_cell hX6 1
      have f0 := blk_frozen hX6 0
      have f1 := blk_frozen hX6 1
      have HX6 := Lib.hid hX6
      clear hX6 hC9
      go_wp2
      refine bodyPost_ret (results_list (rs := [.tmp 2, .cell 3 25]) rfl (by simp) (.tmp (.cell w.heap.size 25 #[.int .i64 0, .int .i64 0] (0, 0) _ rfl (blk_put (blk_put HX6.out 0 (.int .i64 0) rfl) 1 (.int .i64 0) rfl) Tryd.underlying25 rfl (by kernel_rfl) .nil))) rfl ?_
      exact ⟨rfl, ((HBW.out.trans (HB.out.mono (by omega))).setCell (p := ⟨w.heap.size, 0, none⟩) (Nat.le_refl _) _).setCell (p := ⟨w.heap.size, 1, none⟩) (Nat.le_refl _) _⟩
end Go.Proofs.YtcnhnpkbklakoaaDoor.Word
