/- hash: Md5 by contract. -/
import Derived.Test.YticjpjgfccbhlaaHash6
namespace Go.Proofs.Yticjpjgfccbhlaa.Hash
open Go.RowKit Go.Proofs.YticjpjgfccbhlaaW.PrintWords Go.Proofs.YticjpjgfccbhlaaW.PrintLast Go.Proofs.YticjpjgfccbhlaaW.PrintMore Go.Proofs.Yticjpjgfccbhlaa.PSaslBoth
attribute [local go_sem] max2_int min2_int max_two min_two max_three min_three max_four min_four
set_option linter.unusedVariables false
set_option linter.unusedSimpArgs false
theorem sum16 {T S : Nat → Int} {g lo : Nat} {h : HV} {w : World} (hh : HashAt w g lo h) (ht : Tabs T S w) (D : Nat → Int) (hD : sumD T S h = D) :
    Calls Try.prog 108 #[.pointer (some ⟨g, 0, none⟩)] w fun e w' => e = .returned (.agg #[.int .u8 (D 0), .int .u8 (D 1), .int .u8 (D 2), .int .u8 (D 3), .int .u8 (D 4), .int .u8 (D 5), .int .u8 (D 6), .int .u8 (D 7), .int .u8 (D 8), .int .u8 (D 9), .int .u8 (D 10), .int .u8 (D 11), .int .u8 (D 12), .int .u8 (D 13), .int .u8 (D 14), .int .u8 (D 15)]) ∧ Below w.heap.size w w' := by
  have h := sum_at hh ht
  rw [hD] at h
  exact h
set_option maxHeartbeats 4000000 in
set_option maxRecDepth 100000 in
theorem md5_calls {T S : Nat → Int} {B : Option Addr} {lb cb : Nat} {b : List Int} {w : World} (ht : Tabs T S w) (hb : Kd.C (Kd.int .u8) w B lb b) (hbl : b.length = lb) (hbc : lb ≤ cb) (hlb : lb ≤ 1000000000) :
    Calls Try.prog 105 #[.slice B lb cb] w fun e w' => e = .returned (.agg (cellsN 16 (md5V T S b))) ∧ Below w.heap.size w w' := by
  obtain ⟨W0, hW0⟩ : ∃ W0, W0 = w.alloc (.cells (cellsN 16 fun _ => 0) 108) := ⟨_, rfl⟩
  have hsz : W0.heap.size = w.heap.size + 1 := by rw [hW0]; simp
  have HX := Lib.hid (show W0.heap[w.heap.size]? = some (.cells (cellsN 16 fun _ => 0) 108 (0, 0)) by rw [hW0]; exact heap_alloc_new w _)
  have HBW := Lib.hid (show Below w.heap.size w W0 by rw [hW0]; exact (Below.refl _ _).alloc (Nat.le_refl _) _)
  have HSZ := Lib.hid hsz
  have HW0 := Lib.hid (show W0 = w.alloc (.cells #[.int .u8 0, .int .u8 0, .int .u8 0, .int .u8 0, .int .u8 0, .int .u8 0, .int .u8 0, .int .u8 0, .int .u8 0, .int .u8 0, .int .u8 0, .int .u8 0, .int .u8 0, .int .u8 0, .int .u8 0, .int .u8 0] 108) by rw [hW0]; rfl)
  have HT0 := Lib.hid (ht.below HBW.out ht.size)
  have HC0 := Lib.hid (Kd.C_below hb HBW.out)
  have hBl : ∀ ad, B = some ad → 0 < lb → ad.block < w.heap.size := by
    intro ad he h0
    obtain ⟨b7, o7, e, hat⟩ := atI_of_C hb h0
    rw [he] at e
    injection e with e
    subst e
    exact World.block_lt_of_cell? w _ (hat 0 _ (List.getElem?_eq_getElem (by omega)))
  have HBL := Lib.hid hBl
  have h2 := ht.size
  obtain ⟨D, hD⟩ : ∃ D, D = md5V T S b := ⟨_, rfl⟩
  rw [← hD]
  have HD := Lib.hid hD
  clear hW0 hsz hBl hD
  go_enter Try.func105, Try.ntmps105
  go_wp2_with fail
  rw [← HW0.out]
  refine (new_at W0).mono ?_
  rintro e w1 ⟨g, rfl, hg, hh1, hb1⟩
  have HH1 := Lib.hid hh1
  have HB1 := Lib.hid hb1
  have HT1 := Lib.hid (HT0.out.below hb1 (by have := HSZ.out; omega))
  have HC1 := Lib.hid (Kd.C_below HC0.out hb1)
  have HX1 := Lib.hid ((hb1.block w.heap.size (by have := HSZ.out; omega)).trans HX.out)
  have hgw : w.heap.size < g := by have := HSZ.out; omega
  have hz1 := hb1.size
  clear hh1 hb1
  go_wp2_with fail
  refine (write_at HH1.out HT1.out (by omega) HC1.out hbl hbc hlb (fun ad he h0 => by have := HBL.out ad he h0; omega)).mono ?_
  rintro e w2 ⟨rfl, hh2, hn2⟩
  have HH2 := Lib.hid hh2
  have HT2 := Lib.hid (HT1.out.near hn2 (by omega))
  have HX2 := Lib.hid ((hn2.block w.heap.size (by have := HSZ.out; omega) (by omega)).trans HX1.out)
  have HB2 := Lib.hid (HBW.out.trans ((HB1.out.mono (by have := HSZ.out; omega)).trans (hn2.below (B := w.heap.size) (by omega) (by have := HSZ.out; omega))))
  have hz2 := hn2.size
  clear hh2 hn2
  go_wp2_with fail
  refine (sum16 HH2.out HT2.out D HD.out.symm).mono ?_
  rintro e w3 ⟨rfl, hb3⟩
  have HX3 := Lib.hid ((hb3.block w.heap.size (by have := HSZ.out; omega)).trans HX2.out)
  have HB3 := Lib.hid (HB2.out.trans (hb3.mono HB2.out.size))
  clear hb3
  have c0 := (blk_cell HX3.out 0).trans (cellsN_at 16 _ 0 (by decide))
  have f0 := blk_frozen HX3.out 0
  have c1 := (blk_cell HX3.out 1).trans (cellsN_at 16 _ 1 (by decide))
  have f1 := blk_frozen HX3.out 1
  have c2 := (blk_cell HX3.out 2).trans (cellsN_at 16 _ 2 (by decide))
  have f2 := blk_frozen HX3.out 2
  have c3 := (blk_cell HX3.out 3).trans (cellsN_at 16 _ 3 (by decide))
  have f3 := blk_frozen HX3.out 3
  have c4 := (blk_cell HX3.out 4).trans (cellsN_at 16 _ 4 (by decide))
  have f4 := blk_frozen HX3.out 4
  have c5 := (blk_cell HX3.out 5).trans (cellsN_at 16 _ 5 (by decide))
  have f5 := blk_frozen HX3.out 5
  have c6 := (blk_cell HX3.out 6).trans (cellsN_at 16 _ 6 (by decide))
  have f6 := blk_frozen HX3.out 6
  have c7 := (blk_cell HX3.out 7).trans (cellsN_at 16 _ 7 (by decide))
  have f7 := blk_frozen HX3.out 7
  have c8 := (blk_cell HX3.out 8).trans (cellsN_at 16 _ 8 (by decide))
  have f8 := blk_frozen HX3.out 8
  have c9 := (blk_cell HX3.out 9).trans (cellsN_at 16 _ 9 (by decide))
  have f9 := blk_frozen HX3.out 9
  have c10 := (blk_cell HX3.out 10).trans (cellsN_at 16 _ 10 (by decide))
  have f10 := blk_frozen HX3.out 10
  have c11 := (blk_cell HX3.out 11).trans (cellsN_at 16 _ 11 (by decide))
  have f11 := blk_frozen HX3.out 11
  have c12 := (blk_cell HX3.out 12).trans (cellsN_at 16 _ 12 (by decide))
  have f12 := blk_frozen HX3.out 12
  have c13 := (blk_cell HX3.out 13).trans (cellsN_at 16 _ 13 (by decide))
  have f13 := blk_frozen HX3.out 13
  have c14 := (blk_cell HX3.out 14).trans (cellsN_at 16 _ 14 (by decide))
  have f14 := blk_frozen HX3.out 14
  have c15 := (blk_cell HX3.out 15).trans (cellsN_at 16 _ 15 (by decide))
  have f15 := blk_frozen HX3.out 15
  go_wp2
  have hp := put_mix 15 (by decide) (put_mix 14 (by decide) (put_mix 13 (by decide) (put_mix 12 (by decide) (put_mix 11 (by decide) (put_mix 10 (by decide) (put_mix 9 (by decide) (put_mix 8 (by decide) (put_mix 7 (by decide) (put_mix 6 (by decide) (put_mix 5 (by decide) (put_mix 4 (by decide) (put_mix 3 (by decide) (put_mix 2 (by decide) (put_mix 1 (by decide) (put_mix 0 (by decide) ((show w3.heap[w.heap.size]? = some (.cells (cellsN 16 (mix D (fun _ => 0) 0)) 108 (0, 0)) by rw [mix_none]; exact HX3.out)))))))))))))))))
  rw [mix_full] at hp
  refine bodyPost_ret (results_single rfl (.cell w.heap.size 108 (cellsN 16 D) (0, 0) _ rfl hp Try.underlying108 rfl (by rw [cellsN_size]; kernel_rfl) .nil)) rfl ?_
  exact ⟨rfl, Below.setCell (Below.setCell (Below.setCell (Below.setCell (Below.setCell (Below.setCell (Below.setCell (Below.setCell (Below.setCell (Below.setCell (Below.setCell (Below.setCell (Below.setCell (Below.setCell (Below.setCell (Below.setCell (HB3.out) (p := ⟨w.heap.size, 0, none⟩) (Nat.le_refl _) (.int .u8 (D 0))) (p := ⟨w.heap.size, 1, none⟩) (Nat.le_refl _) (.int .u8 (D 1))) (p := ⟨w.heap.size, 2, none⟩) (Nat.le_refl _) (.int .u8 (D 2))) (p := ⟨w.heap.size, 3, none⟩) (Nat.le_refl _) (.int .u8 (D 3))) (p := ⟨w.heap.size, 4, none⟩) (Nat.le_refl _) (.int .u8 (D 4))) (p := ⟨w.heap.size, 5, none⟩) (Nat.le_refl _) (.int .u8 (D 5))) (p := ⟨w.heap.size, 6, none⟩) (Nat.le_refl _) (.int .u8 (D 6))) (p := ⟨w.heap.size, 7, none⟩) (Nat.le_refl _) (.int .u8 (D 7))) (p := ⟨w.heap.size, 8, none⟩) (Nat.le_refl _) (.int .u8 (D 8))) (p := ⟨w.heap.size, 9, none⟩) (Nat.le_refl _) (.int .u8 (D 9))) (p := ⟨w.heap.size, 10, none⟩) (Nat.le_refl _) (.int .u8 (D 10))) (p := ⟨w.heap.size, 11, none⟩) (Nat.le_refl _) (.int .u8 (D 11))) (p := ⟨w.heap.size, 12, none⟩) (Nat.le_refl _) (.int .u8 (D 12))) (p := ⟨w.heap.size, 13, none⟩) (Nat.le_refl _) (.int .u8 (D 13))) (p := ⟨w.heap.size, 14, none⟩) (Nat.le_refl _) (.int .u8 (D 14))) (p := ⟨w.heap.size, 15, none⟩) (Nat.le_refl _) (.int .u8 (D 15))⟩
end Go.Proofs.Yticjpjgfccbhlaa.Hash
