/- posthornref22.Begin: its error, by contract. (Written by tools/srefbegin.py.) -/
import Derived.Test.YticjpjgfccbhlaaDoorRefE
namespace Go.Proofs.YticjpjgfccbhlaaDoor.Sasl
open Go.RowKit Go.Proofs.YticjpjgfccbhlaaDoorW.PrintWords Go.Proofs.YticjpjgfccbhlaaDoorW.PrintLast Go.Proofs.YticjpjgfccbhlaaDoorW.PrintMore Go.Proofs.YticjpjgfccbhlaaDoor.PSaslStale Go.Proofs.YticjpjgfccbhlaaDoor.Hash
open Go.Proofs.YticjpjgfccbhlaaDoor.Code (unV)
attribute [local go_sem] max2_int min2_int max_two min_two max_three min_three max_four min_four
set_option linter.unusedVariables false
set_option linter.unusedSimpArgs false
theorem info9r : (Tryd.prog.info? 9).map (fun i => (i.zero, i.size, i.bytes)) = some (some (.string ⟨#[]⟩), 1, 16) := by kernel_rfl
set_option maxHeartbeats 8000000 in
set_option maxRecDepth 100000 in
theorem ref_begin_calls (A : Option Addr) (n c : Nat) (us : List S40) (m stamp a : ByteArray) (has : Bool) (w : World) (hC : Kd.C k40 w A n us) (hn : us.length = n) (hc : n ≤ c) (hul : us.length ≤ 1000000000) (hm : m.size ≤ 3000000000) (ha : a.size ≤ 30000000) :
    Calls Tryd.prog 8 #[.slice A n c, .string m, .string stamp, .string a, .bool has] w fun e w' => (∃ v, e = .returned (.tuple #[v, .int .i64 (wantV m a has)])) ∧ Below w.heap.size w w' := by
  subst hn
  have hu64 := Tryd.underlying64
  obtain ⟨kp, hkp⟩ := place_f m hm
  have HPL := Lib.hid (fun W => posthornref22_Place.calls kp m (placeV m) W hkp)
  have HC := Lib.hid hC
  clear hC hkp
  go_enter Tryd.func8, Tryd.ntmps8
  go_wp2_with fail
  refine (HPL.out w).mono ?_
  rintro e w1 ⟨rfl, hb1⟩
  have HB1 := Lib.hid hb1
  have HC1 := Lib.hid (Kd.C_below HC.out hb1)
  clear hb1
  by_cases hp : placeV m < 0
  · have q0 : decide (placeV m < 0) = true := decide_eq_true hp
    have HW := Lib.hid (show wantV m a has = 220 by unfold wantV; rw [if_pos hp])
    clear hp
    go_wp2
    go_ret2
    exact ⟨⟨_, by rw [HW.out]; rfl⟩, HB1.out⟩
  · have q0 : decide (placeV m < 0) = false := decide_eq_false hp
    have HP := Lib.hid hp
    clear hp
    obtain ⟨W2, hW2⟩ : ∃ W2, w1.alloc (.cells #[.slice none 0 0, .int .i64 (placeV m), .string stamp, .slice none 0 0, .int .i64 0] 64) = W2 := ⟨_, rfl⟩
    have HB2 := Lib.hid (show Below w.heap.size w W2 from hW2 ▸ HB1.out.alloc HB1.out.size _)
    have HX2 := Lib.hid (show W2.heap[w1.heap.size]? = some (.cells #[.slice none 0 0, .int .i64 (placeV m), .string stamp, .slice none 0 0, .int .i64 0] 64 (0, 0)) from hW2 ▸ heap_alloc_new w1 _)
    have HC2 := Lib.hid (Kd.C_below HC.out HB2.out)
    have HXL := Lib.hid (show w.heap.size ≤ w1.heap.size from HB1.out.size)
    have x0 := blk_cell HX2.out 0
    simp only [List.getElem?_toArray, List.getElem?_cons_succ, List.getElem?_cons_zero] at x0
    go_wp2_with (at_builtin; refine Kd.R_append_rows k40 (Rr := k40.K W2) (w0 := W2) (W := W2) W2.heap.size rfl (.tmp 28) (.tmp 29) 22 40 _ 32 rfl Tryd.underlying22 info40 rfl (by decide) (by decide) _ ([] : List S40) us A us.length c (fun _ => True) (fun _ => False) rfl rfl (Kd.R_nil k40 40 W2 W2.heap.size _) HC2.out ?hKM (fun _ h => h.elim) (fun _ _ => trivial) (Below.refl _ _) (Nat.le_refl _) (by simp; omega) ?_)
    case hKM =>
      intro x cs h
      obtain rfl := k40_open h
      exact k40_mkM _ _ _ _
    intro v1 w3 hR1 hB3 hgr1 hat1
    obtain ⟨A1, c1, rfl, hc1, hC1⟩ := Kd.R_reads hR1
    have hX3 := (hB3.block _ (blk_lt HX2.out)).trans HX2.out
    have zf0 := blk_frozen hX3 0
    have zt0 := blk_cell hX3 0
    simp only [List.getElem?_toArray, List.getElem?_cons_succ, List.getElem?_cons_zero] at zt0
    obtain ⟨W4, hW4⟩ : ∃ W4, w3.setCell ⟨w1.heap.size, 0, none⟩ (.slice A1 us.length c1) = W4 := ⟨_, rfl⟩
    have HB4 := Lib.hid (show Below w.heap.size w W4 from hW4 ▸ (HB2.out.trans (hB3.mono HB2.out.size)).setCell HXL.out _)
    have HX4 := Lib.hid (show W4.heap[w1.heap.size]? = some (.cells #[.slice A1 us.length c1, .int .i64 (placeV m), .string stamp, .slice none 0 0, .int .i64 0] 64 (0, 0)) from hW4 ▸ blk_put hX3 0 (.slice A1 us.length c1) rfl)
    clear hR1 hgr1 hat1 hB3 hC1 hX3 x0
    cases has with
    | false =>
      have HW := Lib.hid (show wantV m a false = 0 by unfold wantV; rw [if_neg (by have := HP.out; omega), if_pos rfl])
      go_wp2
      go_ret2
      exact ⟨⟨_, by rw [HW.out]; rfl⟩, HB4.out⟩
    | true =>
      by_cases hq : a = eqL
      · have q3 : (a.toList == [61]) = true := by rw [hq, show eqL = ⟨[61].toArray⟩ from rfl, ByteArray.toList_eq]; rfl
        have HQ := Lib.hid hq
        clear hq
        go_wp2_with fail
        refine (ref_read_calls ⟨#[]⟩ W4 (by decide)).mono ?_
        rintro e w5 ⟨rfl, hb5⟩
        have HB5 := Lib.hid (HB4.out.trans (hb5.mono HB4.out.size))
        have HX5 := Lib.hid ((hb5.block _ (blk_lt HX4.out)).trans HX4.out)
        obtain ⟨d, hd⟩ : ∃ d, d = strOfNums (unV (⟨#[]⟩ : ByteArray).data.toList).1 := ⟨_, rfl⟩
        obtain ⟨er, her⟩ : ∃ er, er = (unV (⟨#[]⟩ : ByteArray).data.toList).2.1 := ⟨_, rfl⟩
        have HWV := Lib.hid (show wantV m a true = if er = 0 ∧ placeV m ≠ 2 ∧ readableV (placeV m) d = true then 0 else 221 by
          unfold wantV
          rw [if_neg (by have := HP.out; omega), if_neg (by decide), if_pos HQ.out, ← hd, ← her])
        have dsz : d.size ≤ 3000000000 := by rw [hd, strOf_size]; have h1 := unV_len (⟨#[]⟩ : ByteArray).data.toList; have h2 : (⟨#[]⟩ : ByteArray).data.toList.length = (⟨#[]⟩ : ByteArray).size := data_length _; have h3 : (⟨#[]⟩ : ByteArray).size ≤ 30000000 := (by decide); omega
        rw [← hd, ← her]
        obtain ⟨kr, hkr⟩ := readable_f (placeV m) d dsz
        have HKR := Lib.hid hkr
        clear hb5 hd her hkr dsz
        by_cases he : er = 0
        · have q1 : decide (er = 0) = true := decide_eq_true he
          by_cases h2 : placeV m = 2
          · have q2 : (placeV m == 2) = true := beq_iff_eq.2 h2
            have HW := Lib.hid (show wantV m a true = 221 by rw [HWV.out, if_neg (fun h => h.2.1 h2)])
            clear he h2
            go_wp2
            go_ret2
            exact ⟨⟨_, by rw [HW.out]; rfl⟩, HB5.out⟩
          · have q2 : (placeV m == 2) = false := beq_eq_false_iff_ne.2 h2
            cases hrd : readableV (placeV m) d with
            | false =>
              have HW := Lib.hid (show wantV m a true = 221 by rw [HWV.out, if_neg (fun h => by rw [hrd] at h; cases h.2.2)])
              have HRD := Lib.hid (fun W => hrd ▸ posthornref22_readable.calls kr (placeV m) d _ W HKR.out)
              clear he h2 hrd
              go_wp2_with (go_at_call 24; refine (HRD.out _).mono ?_; rintro e w6 ⟨rfl, hb6⟩)
              go_ret2
              exact ⟨⟨_, by rw [HW.out]; rfl⟩, HB5.out.trans (hb6.mono HB5.out.size)⟩
            | true =>
              have HW := Lib.hid (show wantV m a true = 0 by rw [HWV.out, if_pos ⟨he, h2, hrd⟩])
              have HRD := Lib.hid (fun W => hrd ▸ posthornref22_readable.calls kr (placeV m) d _ W HKR.out)
              clear he h2 hrd
              go_wp2_with fail
              refine (HRD.out w5).mono ?_
              rintro e w6 ⟨rfl, hb6⟩
              have HB6 := Lib.hid (HB5.out.trans (hb6.mono HB5.out.size))
              have hX6 := (hb6.block _ (blk_lt HX5.out)).trans HX5.out
              have HX6 := Lib.hid hX6
              have x3 := blk_cell hX6 3
              simp only [List.getElem?_toArray, List.getElem?_cons_succ, List.getElem?_cons_zero] at x3
              clear hb6 hX6
              go_wp2_with (at_builtin; refine Kd.R_append Kd.string (w0 := w6) (W := w6) w6.heap.size rfl (.tmp 59) (.tmp 61) 23 9 _ 16 rfl Tryd.underlying23 info9r rfl (by decide) (by decide) _ ([] : List ByteArray) d [.string d] (fun _ => True) (fun _ => False) rfl rfl rfl (fun _ h => h.elim) (fun _ _ => trivial) (Kd.R_nil Kd.string 9 w6 w6.heap.size _) (Below.refl _ _) (Nat.le_refl _) (by simp) ?_)
              intro v2 w7 hR2 hB7 hgr2 hat2
              have hX7 := (hB7.block _ (blk_lt HX6.out)).trans HX6.out
              have zf3 := blk_frozen hX7 3
              have zt3 := blk_cell hX7 3
              simp only [List.getElem?_toArray, List.getElem?_cons_succ, List.getElem?_cons_zero] at zt3
              obtain ⟨A2, c2, rfl, _, _⟩ := Kd.R_reads hR2
              have HB7 := Lib.hid (HB6.out.trans (hB7.mono HB6.out.size))
              clear hR2 hgr2 hat2 hX7 hB7
              go_wp2
              go_ret2
              exact ⟨⟨_, by rw [HW.out]; rfl⟩, HB7.out.setCell HXL.out _⟩
        · have q1 : decide (er = 0) = false := decide_eq_false he
          have HW := Lib.hid (show wantV m a true = 221 by rw [HWV.out, if_neg (fun h => he h.1)])
          clear he
          go_wp2
          go_ret2
          exact ⟨⟨_, by rw [HW.out]; rfl⟩, HB5.out⟩
      · have q3 : (a.toList == [61]) = false := ne_list a [61] hq
        go_wp2_with fail
        refine (ref_read_calls a W4 (by exact ha)).mono ?_
        rintro e w5 ⟨rfl, hb5⟩
        have HB5 := Lib.hid (HB4.out.trans (hb5.mono HB4.out.size))
        have HX5 := Lib.hid ((hb5.block _ (blk_lt HX4.out)).trans HX4.out)
        obtain ⟨d, hd⟩ : ∃ d, d = strOfNums (unV a.data.toList).1 := ⟨_, rfl⟩
        obtain ⟨er, her⟩ : ∃ er, er = (unV a.data.toList).2.1 := ⟨_, rfl⟩
        have HWV := Lib.hid (show wantV m a true = if er = 0 ∧ placeV m ≠ 2 ∧ readableV (placeV m) d = true then 0 else 221 by
          unfold wantV
          rw [if_neg (by have := HP.out; omega), if_neg (by decide), if_neg hq, ← hd, ← her])
        have dsz : d.size ≤ 3000000000 := by rw [hd, strOf_size]; have h1 := unV_len a.data.toList; have h2 : a.data.toList.length = a.size := data_length _; have h3 : a.size ≤ 30000000 := ha; omega
        rw [← hd, ← her]
        obtain ⟨kr, hkr⟩ := readable_f (placeV m) d dsz
        have HKR := Lib.hid hkr
        clear hb5 hd her hkr dsz
        by_cases he : er = 0
        · have q1 : decide (er = 0) = true := decide_eq_true he
          by_cases h2 : placeV m = 2
          · have q2 : (placeV m == 2) = true := beq_iff_eq.2 h2
            have HW := Lib.hid (show wantV m a true = 221 by rw [HWV.out, if_neg (fun h => h.2.1 h2)])
            clear he h2
            go_wp2
            go_ret2
            exact ⟨⟨_, by rw [HW.out]; rfl⟩, HB5.out⟩
          · have q2 : (placeV m == 2) = false := beq_eq_false_iff_ne.2 h2
            cases hrd : readableV (placeV m) d with
            | false =>
              have HW := Lib.hid (show wantV m a true = 221 by rw [HWV.out, if_neg (fun h => by rw [hrd] at h; cases h.2.2)])
              have HRD := Lib.hid (fun W => hrd ▸ posthornref22_readable.calls kr (placeV m) d _ W HKR.out)
              clear he h2 hrd
              go_wp2_with (go_at_call 24; refine (HRD.out _).mono ?_; rintro e w6 ⟨rfl, hb6⟩)
              go_ret2
              exact ⟨⟨_, by rw [HW.out]; rfl⟩, HB5.out.trans (hb6.mono HB5.out.size)⟩
            | true =>
              have HW := Lib.hid (show wantV m a true = 0 by rw [HWV.out, if_pos ⟨he, h2, hrd⟩])
              have HRD := Lib.hid (fun W => hrd ▸ posthornref22_readable.calls kr (placeV m) d _ W HKR.out)
              clear he h2 hrd
              go_wp2_with fail
              refine (HRD.out w5).mono ?_
              rintro e w6 ⟨rfl, hb6⟩
              have HB6 := Lib.hid (HB5.out.trans (hb6.mono HB5.out.size))
              have hX6 := (hb6.block _ (blk_lt HX5.out)).trans HX5.out
              have HX6 := Lib.hid hX6
              have x3 := blk_cell hX6 3
              simp only [List.getElem?_toArray, List.getElem?_cons_succ, List.getElem?_cons_zero] at x3
              clear hb6 hX6
              go_wp2_with (at_builtin; refine Kd.R_append Kd.string (w0 := w6) (W := w6) w6.heap.size rfl (.tmp 59) (.tmp 61) 23 9 _ 16 rfl Tryd.underlying23 info9r rfl (by decide) (by decide) _ ([] : List ByteArray) d [.string d] (fun _ => True) (fun _ => False) rfl rfl rfl (fun _ h => h.elim) (fun _ _ => trivial) (Kd.R_nil Kd.string 9 w6 w6.heap.size _) (Below.refl _ _) (Nat.le_refl _) (by simp) ?_)
              intro v2 w7 hR2 hB7 hgr2 hat2
              have hX7 := (hB7.block _ (blk_lt HX6.out)).trans HX6.out
              have zf3 := blk_frozen hX7 3
              have zt3 := blk_cell hX7 3
              simp only [List.getElem?_toArray, List.getElem?_cons_succ, List.getElem?_cons_zero] at zt3
              obtain ⟨A2, c2, rfl, _, _⟩ := Kd.R_reads hR2
              have HB7 := Lib.hid (HB6.out.trans (hB7.mono HB6.out.size))
              clear hR2 hgr2 hat2 hX7 hB7
              go_wp2
              go_ret2
              exact ⟨⟨_, by rw [HW.out]; rfl⟩, HB7.out.setCell HXL.out _⟩
        · have q1 : decide (er = 0) = false := decide_eq_false he
          have HW := Lib.hid (show wantV m a true = 221 by rw [HWV.out, if_neg (fun h => he h.1)])
          clear he
          go_wp2
          go_ret2
          exact ⟨⟨_, by rw [HW.out]; rfl⟩, HB5.out⟩
end Go.Proofs.YticjpjgfccbhlaaDoor.Sasl
