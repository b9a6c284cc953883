/- code.Unbase64 by contract. -/
import Derived.Test.YtcnhnpkbklakoaaDoorTaker
namespace Go.Proofs.YtcnhnpkbklakoaaDoor.Code
open Go.RowKit Go.Proofs.YtcnhnpkbklakoaaDoorW.PrintWords Go.Proofs.YtcnhnpkbklakoaaDoorW.PrintLast Go.Proofs.YtcnhnpkbklakoaaDoorW.PrintMore Go.Proofs.YtcnhnpkbklakoaaDoor.PWordEncodes
attribute [local go_sem] max2_int min2_int max_two min_two max_three min_three max_four min_four
set_option linter.unusedVariables false
set_option linter.unusedSimpArgs false
def unGo : List UInt8 → Nat → St → List Int → List Int × Int × Nat
  | [], i, s, d => if s.n > 0 then ([], 41, i) else (d, 0, 0)
  | c :: r, i, s, d => if (takeV s d c.toNat).2.2 ≠ 0 then ([], (takeV s d c.toNat).2.2, i) else unGo r (i + 1) (takeV s d c.toNat).1 (takeV s d c.toNat).2.1
theorem unGo_cons (c : UInt8) (r : List UInt8) (i : Nat) (s : St) (d : List Int) : unGo (c :: r) i s d = if (takeV s d c.toNat).2.2 ≠ 0 then ([], (takeV s d c.toNat).2.2, i) else unGo r (i + 1) (takeV s d c.toNat).1 (takeV s d c.toNat).2.1 := rfl
theorem unGo_nil (i : Nat) (s : St) (d : List Int) : unGo [] i s d = if s.n > 0 then ([], 41, i) else (d, 0, 0) := rfl
theorem own_low {w : World} {b b' e s n : Nat} {v : Value} {xs : List Value} (h : w.ownsRow b e s v n xs) (hb : b' ≤ b) : w.ownsRow b' e s v n xs := by
  obtain ⟨h1, h2⟩ := h
  refine ⟨h1, ?_⟩
  rcases h2 with h2 | ⟨g, cap, cur, rfl, hg, r⟩
  · exact .inl h2
  · exact .inr ⟨g, cap, cur, rfl, Nat.le_trans hb hg, r⟩
def st0 : St := ⟨0, 0, 0, 0, 0, false⟩
/-- what Unbase64 tells: the bytes, the error, its place -/
def unV (t : List UInt8) : List Int × Int × Nat := unGo t 0 st0 []
def Okay (s : St) : Prop := s.n ≤ 3 ∧ (0 ≤ s.q1 ∧ s.q1 < 256) ∧ (0 ≤ s.q2 ∧ s.q2 < 256)
theorem okay_take {s : St} (h : Okay s) (d : List Int) (c : UInt8) : Okay (takeV s d c.toNat).1 ∧ (takeV s d c.toNat).2.1.length ≤ d.length + 3 := by
  have hr := val_range c
  obtain ⟨h0, h1, h2⟩ := h
  unfold takeV
  split
  · exact ⟨⟨h0, h1, h2⟩, by simp⟩
  · split
    · refine ⟨?_, by simp⟩
      unfold put1
      split
      · exact ⟨by simp, h1, h2⟩
      · split
        · exact ⟨by simp, ⟨hr.1, by simp only; omega⟩, h2⟩
        · exact ⟨by simp, h1, ⟨hr.1, by simp only; omega⟩⟩
    · refine ⟨⟨by simp, h1, h2⟩, ?_⟩
      simp only [List.length_append]
      unfold grp
      split
      · simp
      · split <;> simp
theorem new_calls (w : World) : Calls Tryd.prog 76 #[] w fun e w' => e = .returned (.pointer (some ⟨w.heap.size, 0, none⟩)) ∧ w' = w.alloc (.cells #[.bool true, .int .u8 0, .int .u8 0, .int .u8 0, .int .u8 0, .int .i64 0, .bool false, .int .i64 0] 105) := by
  go_enter Tryd.func76, Tryd.ntmps76
  go_wp2
  go_ret
  exact ⟨rfl, rfl⟩
theorem getD_at (s : ByteArray) (i : Nat) (h : i < s.size) : s.data.toList.getD i 0 = s[i]'h := by
  rw [List.getD_eq_getElem?_getD, List.getElem?_eq_getElem (by rw [data_length]; exact h)]
  rfl
theorem drop_at (s : ByteArray) (i : Nat) (h : i < s.size) : s.data.toList.drop i = s[i]'h :: s.data.toList.drop (i + 1) := by
  rw [List.drop_eq_getElem_cons (by rw [data_length]; exact h), ← getD_at s i h, List.getD_eq_getElem?_getD, List.getElem?_eq_getElem (by rw [data_length]; exact h)]
  rfl
set_option maxHeartbeats 4000000 in
set_option maxRecDepth 100000 in
theorem unbase64_calls (t : ByteArray) (w : World) (ht : t.size ≤ 3000000000) :
    Calls Tryd.prog 50 #[.string t] w fun e w' => ∃ V d er at_, unV t.data.toList = (d, er, at_) ∧ e = .returned (.tuple #[V, .agg #[.int .i64 er, .int .i64 (at_ : Nat)]]) ∧ w'.ownsRow w.heap.size 5 1 V d.length (nums .u8 d) ∧ Below w.heap.size w w' := by
  obtain ⟨i0, hi, hz0, hz1, hz2⟩ := info_parts info5
  have hu88 := Tryd.underlying25
  have HN := Lib.hid (fun W => new_calls W)
  go_enter Tryd.func50, Tryd.ntmps50
  obtain ⟨W0, hW0⟩ : ∃ W0, W0 = w.alloc (.cells #[.int .i64 0, .int .i64 0] 25) := ⟨_, rfl⟩
  have hsz : W0.heap.size = w.heap.size + 1 := by rw [hW0]; simp
  have hbox : W0.heap[w.heap.size]? = some (.cells #[.int .i64 0, .int .i64 0] 25 (0, 0)) := by rw [hW0]; exact heap_alloc_new w _
  have hBw : Below w.heap.size w W0 := by rw [hW0]; exact (Below.refl _ _).alloc (Nat.le_refl _) _
  have HX := Lib.hid hbox
  have HBW := Lib.hid hBw
  have HW0 := Lib.hid hW0
  clear hbox hBw
  go_wp2_with (first | (go_at_call 76; refine (HN.out _).mono ?_; rintro e w1 ⟨rfl, rfl⟩) | (at_make; refine wpList_make_own _ rfl _ _ 39 rfl (w.heap.size + 1) 5 i0 _ 1 Tryd.underlying39 hi hz0 hz1 _ _ _ (t.size / 4 * 3) rfl rfl (by omega) ?b2 ?b3 (by simp) ?_))
  case b2 => rw [hz2]; omega
  case b3 => unfold maxLen; omega
  intro w1 hown1 hgrow1
  rw [← hW0] at hgrow1
  obtain ⟨R, hR⟩ : ∃ R, R = w.heap.size + 1 := ⟨_, rfl⟩
  have hrd1 : rdS w1 R st0 := by
    have h := (hgrow1.block R (by simp; omega) (by simp)).trans (new_at (by omega))
    exact h
  have hB1 : Below W0.heap.size W0 w1 := ((Below.refl W0.heap.size W0).alloc (Nat.le_refl _) _).grown hgrow1 (by simp) (fun k h => by cases h)
  have hne1 : ∀ j, (Value.slice (some { block := w.heap.size + 1 + 1, off := 0 }) 0 (t.size / 4 * 3)).ownBlock = some j → j ≠ R := fun j hj => by
    have e : w.heap.size + 1 + 1 = j := Option.some.inj hj
    omega
  clear hgrow1 hW0
  go_wp2
  rw [← hR] at hown1 hne1 ⊢
  have hsz2 : W0.heap.size = R := by omega
  replace hown1 : w1.ownsRow W0.heap.size 5 1 (Value.slice (some { block := R + 1, off := 0 }) 0 (t.size / 4 * 3)) 0 [] := by rw [hsz2]; exact hown1
  have hle : W0.heap.size ≤ R := by omega
  have hwR : w.heap.size < W0.heap.size := by omega
  have HRE := Lib.hid hR
  have HSZ := Lib.hid hsz2
  clear hR hsz2 hsz
  go_loopw [16, 5] (fun i o wr => ∃ (k : Nat) (s : St) (d : List Int) (V : Value), k ≤ t.size ∧ i = .int .i64 k ∧ V = o ∧ unV t.data.toList = unGo (t.data.toList.drop k) k s d ∧ rdS wr R s ∧ Okay s ∧ wr.ownsRow W0.heap.size 5 1 V d.length (nums .u8 d) ∧ (∀ j, V.ownBlock = some j → j ≠ R) ∧ Below W0.heap.size W0 wr ∧ d.length ≤ 3 * k) (fun i _ _ => t.size - (intOf i).toNat)
  case atStart => exact ⟨0, st0, [], _, by omega, rfl, rfl, rfl, hrd1, ⟨by decide, by decide, by decide⟩, hown1, hne1, hB1, Nat.le_refl _⟩
  case round =>
    obtain ⟨k, s, d, V, hk, rfl, rfl, hun, hrd, hok, hown, hne, hB, hd⟩ := hrel
    have HUN := Lib.hid hun
    have HRD := Lib.hid hrd
    have HOK := Lib.hid hok
    have HO := Lib.hid hown
    have HNE := Lib.hid hne
    have HB := Lib.hid hB
    clear hun hrd hok hown hne hB hown1 hrd1 hB1 hne1
    by_cases hlt : k < t.size
    · obtain ⟨c, hc⟩ : ∃ c : UInt8, t[k]'hlt = c := ⟨_, rfl⟩
      have hdrop := drop_at t k hlt
      rw [hc] at hdrop
      have HD := Lib.hid hdrop
      clear hdrop
      have hkR : (k : Int) < (t.size : Int) := by omega
      have HTK := Lib.hid (take_calls W0 R s d V c wr HRD.out HOK.out.1 HOK.out.2.1 HOK.out.2.2 HO.out HNE.out HB.out hle (by omega))
      go_wp2_with fail
      refine HTK.out.mono ?_
      rintro e w2 ⟨V', s', d', er, htv, rfl, hown2, hne2, hrd2, hB2⟩
      have HTV := Lib.hid htv
      have HO2 := Lib.hid hown2
      have HNE2 := Lib.hid hne2
      have HRD2 := Lib.hid hrd2
      have HB2 := Lib.hid hB2
      clear htv hown2 hne2 hrd2 hB2 HTK
      by_cases her : er = 0
      · subst her
        go_wp2
        go_roundw
        case rel =>
          refine ⟨k + 1, s', d', V', by omega, by go_num, rfl, ?_, HRD2.out, ?_, HO2.out, HNE2.out, HB2.out, ?_⟩
          · rw [HUN.out, HD.out]
            rw [unGo_cons, HTV.out, if_neg (by simp)]
          · have := (okay_take HOK.out d c).1
            rwa [HTV.out] at this
          · have := (okay_take HOK.out d c).2
            rw [HTV.out] at this
            simp only at this
            omega
        case measure => simp [intOf]; omega
      · have her1 : (er != 0) = true := bne_iff_ne.2 her
        have hb2 := (HB2.out.block _ hwR).trans HX.out
        have b0 := blk_cell hb2 0
        have b1 := blk_cell hb2 1
        have g0 := blk_frozen hb2 0
        have g1 := blk_frozen hb2 1
        have HX2 := Lib.hid hb2
        clear hb2
        go_wp2
        refine bodyPost_ret (results_list (rs := [.tmp 2, .cell 3 25]) rfl (by simp) (.tmp (.cell w.heap.size 25 #[.int .i64 er, .int .i64 k] (0, 0) _ rfl (blk_put (blk_put HX2.out 0 (.int .i64 er) rfl) 1 (.int .i64 k) rfl) Tryd.underlying25 rfl (by kernel_rfl) .nil))) rfl ?_
        have hbw := HBW.out.trans (HB2.out.mono (Nat.le_of_lt hwR))
        exact ⟨_, [], er, k, by rw [HUN.out, HD.out, unGo_cons, HTV.out]; exact if_pos her, rfl, ⟨rfl, .inl ⟨rfl, rfl⟩⟩, ((hbw.setCell (p := ⟨w.heap.size, 0, none⟩) (Nat.le_refl _) _).setCell (p := ⟨w.heap.size, 1, none⟩) (Nat.le_refl _) _)⟩
    · obtain rfl : k = t.size := by omega
      obtain ⟨q0, q1, q2, q3, n, ov⟩ := s
      have hx5 := blk_cell (show wr.heap[R]? = some (.cells #[.bool true, .int .u8 q0, .int .u8 q1, .int .u8 q2, .int .u8 q3, .int .i64 n, .bool ov, .int .i64 0] 105 (0, 0)) from HRD.out) 5
      simp only [List.getElem?_toArray, List.getElem?_cons_succ, List.getElem?_cons_zero] at hx5
      have hb2 := (HB.out.block _ hwR).trans HX.out
      have b0 := blk_cell hb2 0
      have b1 := blk_cell hb2 1
      have g0 := blk_frozen hb2 0
      have g1 := blk_frozen hb2 1
      have HX2 := Lib.hid hb2
      clear hb2
      by_cases hn0 : 0 < n
      · have hn1 : decide ((0 : Int) < (n : Int)) = true := decide_eq_true (by omega)
        go_wp2
        refine bodyPost_ret (results_list (rs := [.tmp 2, .cell 3 25]) rfl (by simp) (.tmp (.cell w.heap.size 25 #[.int .i64 41, .int .i64 t.size] (0, 0) _ rfl (blk_put (blk_put HX2.out 0 (.int .i64 41) rfl) 1 (.int .i64 t.size) rfl) Tryd.underlying25 rfl (by kernel_rfl) .nil))) rfl ?_
        have hbw := HBW.out.trans (HB.out.mono (Nat.le_of_lt hwR))
        exact ⟨_, [], 41, t.size, by rw [HUN.out, List.drop_eq_nil_of_le (by rw [data_length]; exact Nat.le_refl _), unGo_nil]; exact if_pos hn0, rfl, ⟨rfl, .inl ⟨rfl, rfl⟩⟩, ((hbw.setCell (p := ⟨w.heap.size, 0, none⟩) (Nat.le_refl _) _).setCell (p := ⟨w.heap.size, 1, none⟩) (Nat.le_refl _) _)⟩
      · have hn1 : decide ((0 : Int) < (n : Int)) = false := decide_eq_false (by omega)
        go_wp2
        refine bodyPost_ret (results_list (rs := [.tmp 2, .cell 3 25]) rfl (by simp) (.tmp (.cell w.heap.size 25 #[.int .i64 0, .int .i64 0] (0, 0) _ rfl (blk_put (blk_put HX2.out 0 (.int .i64 0) rfl) 1 (.int .i64 0) rfl) Tryd.underlying25 rfl (by kernel_rfl) .nil))) rfl ?_
        have hbw := HBW.out.trans (HB.out.mono (Nat.le_of_lt hwR))
        have hnb : some w.heap.size ≠ V.ownBlock := fun e => by have := own_base HO.out _ e.symm; omega
        exact ⟨_, d, 0, 0, by rw [HUN.out, List.drop_eq_nil_of_le (by rw [data_length]; exact Nat.le_refl _), unGo_nil]; exact if_neg hn0, rfl, own_setCell (own_setCell (own_low HO.out (Nat.le_of_lt hwR)) (p := ⟨w.heap.size, 0, none⟩) hnb _) (p := ⟨w.heap.size, 1, none⟩) hnb _, ((hbw.setCell (p := ⟨w.heap.size, 0, none⟩) (Nat.le_refl _) _).setCell (p := ⟨w.heap.size, 1, none⟩) (Nat.le_refl _) _)⟩
end Go.Proofs.YtcnhnpkbklakoaaDoor.Code
