/- SaslShown: the law's walk. (The steps of the region that draws: printed by tools/sshown.py.) -/
import Derived.Test.YticjpjgfccbhlaaDoorShownQ
import Derived.Deep.DeepCutAuto
namespace Go.Proofs.YticjpjgfccbhlaaDoor.Sasl
open Go.RowKit Go.Proofs.YticjpjgfccbhlaaDoorW.PrintWords Go.Proofs.YticjpjgfccbhlaaDoorW.PrintLast Go.Proofs.YticjpjgfccbhlaaDoorW.PrintMore Go.Proofs.YticjpjgfccbhlaaDoor.PSaslStale Go.Proofs.YticjpjgfccbhlaaDoor.Hash
attribute [local go_sem] max2_int min2_int max_two min_two max_three min_three max_four min_four
set_option linter.unusedVariables false
set_option linter.unusedSimpArgs false
theorem begin_cases (T S : Nat → Int) (us : List S40) (m stamp a : ByteArray) (has : Bool) : (∃ x, beginV T S us m stamp a has = (some x, 0)) ∨ (∃ er, er ≠ 0 ∧ beginV T S us m stamp a has = (none, er)) := by
  unfold beginV
  cases firstV m stamp with
  | none => exact .inr ⟨220, by decide, rfl⟩
  | some s =>
    cases has with
    | false => exact .inl ⟨_, rfl⟩
    | true =>
      simp only [Bool.true_eq_false, if_false]
      by_cases hc : s.isCram = true
      · rw [if_pos hc]; exact .inr ⟨221, by decide, rfl⟩
      · rw [if_neg hc]
        by_cases hr : (readV T S ⟨us, 1, s, ⟨#[]⟩⟩ (if a = eqL then ⟨#[]⟩ else a)).2 ≠ 0
        · rw [if_pos hr]; exact .inr ⟨_, hr, rfl⟩
        · rw [if_neg hr]; exact .inl ⟨_, rfl⟩
theorem st_values {T S : Nat → Int} {us : List S40} {stamp : ByteArray} {x : XS} {said : List ByteArray} (h : InvX T S us stamp x said) : x.st = 1 ∨ (x.st = 2 ∧ ShownBy T S us stamp x.nm said) ∨ x.st = 3 ∨ x.st = 4 := by
  rcases h.st with a | a | a | a
  · exact .inl a.1
  · exact .inr (.inl a)
  · exact .inr (.inr (.inl a))
  · exact .inr (.inr (.inr a))
set_option maxHeartbeats 64000000 in
set_option maxRecDepth 100000 in
theorem shown_calls {T S : Nat → Int} {B : Nat} (A : Option Addr) (n c : Nat) (us : List S40) (m stamp fs : ByteArray) (has : Bool) (AL : Option Addr) (nL cL : Nat) (lines : List ByteArray) (w : World) (he : Env T S B w) (hC : Kd.C k40 w A n us) (hn : us.length = n) (hc : n ≤ c) (hu : OkUs us) (hun : ∀ u ∈ us, u.f0.size ≤ 100000000) (hL : Kd.C Kd.string w AL nL lines) (hnL : lines.length = nL) (hcL : nL ≤ cL) (hll : lines.length ≤ 100000000) (hls : ∀ t ∈ lines, t.size ≤ 30000000)
    (hm : m.size ≤ 3000000000) (hst : stamp.size ≤ 100000000) (hfs : fs.size ≤ 30000000) :
    Calls Tryd.prog 3 #[.agg #[.slice A n c, .string m, .string stamp, .string fs, .bool has, .slice AL nL cL]] w fun e w' => e = .returned (.bool true) ∧ Below w.heap.size w w' := by
  subst hn hnL
  have hul : us.length ≤ 1000000000 := hu.1
  have hu25 := Tryd.underlying25
  obtain ⟨W0, hW0⟩ : ∃ W0, W0 = w.alloc (.cells #[.slice A us.length c, .string m, .string stamp, .string fs, .bool has, .slice AL lines.length cL] 25) := ⟨_, rfl⟩
  have hb0 : Below w.heap.size w W0 := hW0 ▸ (Below.refl _ _).alloc (Nat.le_refl _) _
  have HBK := Lib.hid (show W0.heap[w.heap.size]? = some (.cells #[.slice A us.length c, .string m, .string stamp, .string fs, .bool has, .slice AL lines.length cL] 25 (0, 0)) from hW0 ▸ heap_alloc_new w _)
  have hWW : w.alloc (.cells #[.slice A us.length c, .string m, .string stamp, .string fs, .bool has, .slice AL lines.length cL] 25) = W0 := hW0.symm
  have HWK := Lib.hid (wakes_calls W0 (he.below (hb0.mono he.size)))
  have HC := Lib.hid (Kd.C_below hC hb0)
  have HL := Lib.hid (Kd.C_below hL hb0)
  have HLS := Lib.hid hls
  have HUS := Lib.hid hu
  have HUN := Lib.hid hun
  have HE := Lib.hid he
  have HBW := Lib.hid hb0
  clear hb0 hW0 hC hL hls hu hun he
  go_enter Tryd.func3, Tryd.ntmps3
  go_wp2_with fail
  refine HWK.out.mono ?_
  rintro e w1 ⟨rfl, hb1⟩
  have HB1 := Lib.hid hb1
  have HT1 := Lib.hid ((hb1.block _ (blk_lt HBK.out)).trans HBK.out)
  have t0 := blk_cell HT1.out 0
  have t1 := blk_cell HT1.out 1
  have t2 := blk_cell HT1.out 2
  have t3 := blk_cell HT1.out 3
  have t4 := blk_cell HT1.out 4
  simp only [List.getElem?_toArray, List.getElem?_cons_succ, List.getElem?_cons_zero] at t0 t1 t2 t3 t4
  clear hb1
  go_wp2_with fail
  refine (begin_calls (T := T) (S := S) (B := B) A us.length c us m stamp fs has w1 (HE.out.below ((HBW.out.trans (HB1.out.mono HBW.out.size)).mono HE.out.size)) (Kd.C_below HC.out HB1.out) rfl hc HUS.out hm hst hfs).mono ?_
  rintro e w2 ⟨hbg, hb2⟩
  have HB2 := Lib.hid (HB1.out.trans (hb2.mono HB1.out.size))
  have HT2 := Lib.hid ((hb2.block _ (blk_lt HT1.out)).trans HT1.out)
  have s0 := blk_cell HT2.out 0
  have s1 := blk_cell HT2.out 1
  have s2 := blk_cell HT2.out 2
  have s3 := blk_cell HT2.out 3
  have s4 := blk_cell HT2.out 4
  simp only [List.getElem?_toArray, List.getElem?_cons_succ, List.getElem?_cons_zero] at s0 s1 s2 s3 s4
  have HRB := Lib.hid (ref_begin_calls A us.length c us m stamp fs has w2 (Kd.C_below HC.out HB2.out) rfl hc hul hm hfs)
  clear hb2 t0 t1 t2 t3 t4
  rcases begin_cases T S us m stamp fs has with ⟨x0, hx0⟩ | ⟨er, her, hx0⟩
  · have HI0 := Lib.hid (inv_begin hx0 HUS.out hst)
    have HWT := Lib.hid (show wantV m fs has = 0 by rw [← want_eq T S us m stamp fs has, hx0])
    rw [hx0] at hbg
    obtain ⟨X, rfl, hXl, A2, n2, c2, hX2⟩ := hbg
    have h2l := hX2.len
    have hxu : x0.us = us := HI0.out.eu
    rw [hxu] at h2l
    subst h2l
    have HX2 := Lib.hid hX2
    have HXW := Lib.hid (show W0.heap.size ≤ X by have := HB1.out.size; omega)
    clear hXl hX2 hx0 hxu
    go_wp2_with fail
    refine HRB.out.mono ?_
    rintro e w3 ⟨⟨v, rfl⟩, hb3⟩
    rw [HWT.out]
    have HB3 := Lib.hid (HB2.out.trans (hb3.mono HB2.out.size))
    have HX3 := Lib.hid (HX2.out.below hb3)
    have HT3 := Lib.hid ((hb3.block _ (blk_lt HT2.out)).trans HT2.out)
    obtain ⟨base, hbase⟩ : ∃ base, base = w3.heap.size := ⟨_, rfl⟩
    have HXB := Lib.hid (show W0.heap.size ≤ X ∧ X < base by have h1 := HXW.out; have h2 := blk_lt HX3.out.blk; omega)
    have HAL := Lib.hid (show ∀ ad, A2 = some ad → 0 < us.length → ad.block < base from fun ad h1 h2 => by have := HX3.out.old ad h1 h2; omega)
    have HBB := Lib.hid (show W0.heap.size ≤ base by have := HB3.out.size; omega)
    have HBASE3 := Lib.hid (show base ≤ w3.heap.size by omega)
    have q3 := blk_cell HT3.out 3
    have q4 := blk_cell HT3.out 4
    simp only [List.getElem?_toArray, List.getElem?_cons_succ, List.getElem?_cons_zero] at q3 q4
    clear hb3 s0 s1 s2 s3 s4 hbase
    go_upto_region 8 with fail
    go_cut [63] (fun v63 wx => v63 = .bool (has && decide (fs = eqL)) ∧ wx = w3)
    case first =>
      cases has with
      | false =>
        go_wp2_with fail
        go_meet
        case rel => exact ⟨rfl, rfl⟩
      | true =>
        have qe : (fs.toList == [61]) = decide (fs = eqL) := by
          by_cases c : fs = eqL
          · have h1 : (fs.toList == [61]) = true := by rw [c, show eqL = ⟨[61].toArray⟩ from rfl, ByteArray.toList_eq]; rfl
            rw [h1, decide_eq_true c]
          · rw [ne_list fs [61] c, decide_eq_false c]
        go_wp2_with fail
        go_meet
        case rel => exact ⟨rfl, rfl⟩
    case rest =>
    obtain ⟨rfl, rfl⟩ := hcut
    obtain ⟨b0, hb0⟩ : ∃ b0, b0 = (has && decide (fs = eqL)) := ⟨_, rfl⟩
    rw [← hb0]
    have HB63 := Lib.hid hb0
    clear hb0
    go_upto_if 63 with fail
    go_cut [7] (fun v7 wx => Kd.R Kd.string 9 wx base (fun q => base ≤ q) v7 (said0 fs has) ∧ Below base wc wx)
    case first =>
      cases b0 with
      | true =>
        have HS0 := Lib.hid (show said0 fs has = [] ++ [⟨#[]⟩] by
          have h := HB63.out
          have h2 : has = true ∧ decide (fs = eqL) = true := by simpa using h.symm
          unfold said0; rw [if_pos h2.1, if_pos (of_decide_eq_true h2.2)]; rfl)
        go_wp2_with (at_builtin; refine Kd.R_append Kd.string (w0 := wc) (W := wc) base rfl (.tmp 64) (.tmp 65) 23 9 _ 16 rfl Tryd.underlying23 info9r rfl (by decide) (by decide) _ ([] : List ByteArray) ⟨#[]⟩ [.string ⟨#[]⟩] (fun q => base ≤ q) (fun _ => False) rfl rfl rfl (fun _ h => h.elim) (fun q hq => by have := HBASE3.out; omega) (Kd.R_nil Kd.string 9 wc base _) (Below.refl _ _) HBASE3.out (by simp) ?_)
        intro v2 w4 hR2 hB4 hgr2 hat2
        have HR2 := Lib.hid hR2
        have HB4 := Lib.hid hB4
        clear hR2 hB4 hgr2 hat2
        go_wp2_with fail
        go_meet
        case rel => exact ⟨HS0.out ▸ HR2.out, HB4.out⟩
      | false =>
        cases has with
        | false =>
          go_wp2_with fail
          go_meet
          case rel => exact ⟨Kd.R_nil _ _ _ _ _, Below.refl _ _⟩
        | true =>
          have HS0 := Lib.hid (show said0 fs true = [] ++ [fs] by
            have h := HB63.out
            have h2 : decide (fs = eqL) = false := by simpa using h.symm
            unfold said0; rw [if_pos rfl, if_neg (of_decide_eq_false h2)]; rfl)
          go_wp2_with (at_builtin; refine Kd.R_append Kd.string (w0 := wc) (W := wc) base rfl (.tmp 69) (.tmp 72) 23 9 _ 16 rfl Tryd.underlying23 info9r rfl (by decide) (by decide) _ ([] : List ByteArray) fs [.string fs] (fun q => base ≤ q) (fun _ => False) rfl rfl rfl (fun _ h => h.elim) (fun q hq => by have := HBASE3.out; omega) (Kd.R_nil Kd.string 9 wc base _) (Below.refl _ _) HBASE3.out (by simp) ?_)
          intro v2 w4 hR2 hB4 hgr2 hat2
          have HR2 := Lib.hid hR2
          have HB4 := Lib.hid hB4
          clear hR2 hB4 hgr2 hat2
          go_wp2_with fail
          go_meet
          case rel => exact ⟨HS0.out ▸ HR2.out, HB4.out⟩
    case rest =>
    obtain ⟨hR0, hB0⟩ := hcut
    have HR0 := Lib.hid hR0
    have HB0 := Lib.hid hB0
    have HBc := Lib.hid (HB3.out.trans (hB0.mono HBB.out))
    have HXc := Lib.hid (HX3.out.low hB0 HXB.out.2 HAL.out)
    have HBASEc := Lib.hid (show base ≤ wc.heap.size by have h1 := hB0.size; have h2 := HBASE3.out; omega)
    have HSD0 := Lib.hid (show ∀ t ∈ said0 fs has, t.size ≤ 30000000 by
      intro t ht
      unfold said0 at ht
      cases has with
      | false => cases ht
      | true =>
        rw [if_pos rfl, List.mem_singleton] at ht
        rw [ht]
        split
        · decide
        · exact hfs)
    have HSL0 := Lib.hid (show (said0 fs has).length ≤ 0 + 1 by unfold said0; cases has <;> simp)
    clear hR0 hB0 q3 q4
    go_wp2
    go_loopg [7, 8] (lines.length + 1) (fun g v7 v8 wr => ∃ (k : Nat) (x : XS) (said : List ByteArray), k + g = lines.length + 1 ∧ k ≤ lines.length ∧ v8 = .int .i64 k ∧ Kd.R Kd.string 9 wr base (fun q => base ≤ q) v7 said ∧ said.length ≤ k + 1 ∧ (∀ t ∈ said, t.size ≤ 30000000) ∧ InvX T S us stamp x said ∧ ExchAt wr X x A2 us.length c2 ∧ Below W0.heap.size W0 wr ∧ base ≤ wr.heap.size)
    case atStart => exact ⟨0, x0, said0 fs has, by omega, Nat.zero_le _, rfl, HR0.out, HSL0.out, HSD0.out, HI0.out, HXc.out, HBc.out, HBASEc.out⟩
    case round =>
      obtain ⟨k, x, said, hkg, hk, rfl, hR, hsl, hsd, hI, hX, hB, hBS⟩ := hrel
      obtain ⟨AS, cS, rfl⟩ := Kd.R_slice hR
      have HR := Lib.hid hR
      have HSL := Lib.hid hsl
      have HSZ := Lib.hid hsd
      have HI := Lib.hid hI
      have HX := Lib.hid hX
      have HB := Lib.hid hB
      have HBS := Lib.hid hBS
      clear hR hsl hsd hI hX hB hBS
      go_wp2_with fail
      refine (state_calls HX.out.ex).mono ?_
      rintro e wn ⟨rfl, hwn⟩
      rw [hwn]
      clear hwn
      go_upto_block 2 with fail
      go_cut [] (fun wx => Kd.R Kd.string 9 wx base (fun q => base ≤ q) (.slice AS said.length cS) said ∧ ExchAt wx X x A2 us.length c2 ∧ Below W0.heap.size W0 wx ∧ base ≤ wx.heap.size)
      case first =>
        rcases st_values HI.out with h1 | ⟨h2, hsh⟩ | h3 | h4
        · have qs1 : (x.st == 1) = true := by simp [h1]
          have HUV := Lib.hid (show userV x = ⟨#[]⟩ by unfold userV; rw [h1]; rfl)
          have qu : ((⟨#[]⟩ : ByteArray).toList == []) = true := by rw [ByteArray.toList_eq]; rfl
          clear h1
          go_wp2_with ((go_at_call 10; refine (user_calls HX.out.ex).mono ?_; rintro e wn ⟨rfl, hwn⟩; rw [hwn, HUV.out]))
          go_meet
          case rel => exact ⟨HR.out, HX.out, HB.out, HBS.out⟩
        · have qs1 : (x.st == 1) = false := by simp [h2]
          have qs2 : (x.st == 2) = true := by simp [h2]
          have HUV := Lib.hid (show userV x = x.nm by unfold userV; rw [h2]; rfl)
          have HSH := Lib.hid (show ∀ W, Below W0.heap.size W0 W → Kd.R Kd.string 9 W base (fun q => base ≤ q) (.slice AS said.length cS) said → Calls Tryd.prog 11 #[.agg #[.slice A us.length c, .string m, .string stamp, .string fs, .bool has, .slice AL lines.length cL], .string x.nm, .slice AS said.length cS] W fun e w' => e = .returned (.bool true) ∧ Below W.heap.size W w' from fun W hBW hRW => by
            obtain ⟨p, u0, q, e1, e2, e3, e4⟩ := hsh
            have hr := Kd.R_reads' hRW
            exact shows_calls (T := T) (S := S) (B := B) A us.length c us m stamp fs has (.slice AL lines.length cL) rfl x.nm AS said.length cS said W (HE.out.below ((HBW.out.trans (hBW.mono HBW.out.size)).mono HE.out.size)) (Kd.C_below HC.out hBW) rfl hc HUS.out hr.2.2 rfl hr.2.1 (by have := HSL.out; omega) (e2 ▸ HUN.out u0 (List.mem_of_getElem? e1)) hst HSZ.out p u0 q e1 e2 e3 e4)
          have HTd := Lib.hid ((HB.out.block _ (blk_lt HBK.out)).trans HBK.out)
          have t0 := blk_cell HTd.out 0
          have t1 := blk_cell HTd.out 1
          have t2 := blk_cell HTd.out 2
          have t3 := blk_cell HTd.out 3
          have t4 := blk_cell HTd.out 4
          have t5 := blk_cell HTd.out 5
          simp only [List.getElem?_toArray, List.getElem?_cons_succ, List.getElem?_cons_zero] at t0 t1 t2 t3 t4 t5
          clear h2 hsh
          go_wp2
          refine start_ (n := 6) (S := fun w' => w'.cell? ⟨w.heap.size, 0, none⟩ = some (.slice A us.length c) ∧ w'.cell? ⟨w.heap.size, 1, none⟩ = some (.string m) ∧ w'.cell? ⟨w.heap.size, 2, none⟩ = some (.string stamp) ∧ w'.cell? ⟨w.heap.size, 3, none⟩ = some (.string fs) ∧ w'.cell? ⟨w.heap.size, 4, none⟩ = some (.bool has) ∧ w'.cell? ⟨w.heap.size, 5, none⟩ = some (.slice AL lines.length cL)) (ds := []) #[false, false, false, false, false, false] (by kernel_rfl) rfl rfl ⟨t0, t1, t2, t3, t4, t5⟩ (fun hHeld => ?_)
          generalize hdr : wr.drew = w20 at hHeld ⊢
          have HBd := Lib.hid (show Below W0.heap.size W0 w20 from hdr ▸ below_drew1 HB.out)
          have HXd := Lib.hid (show ExchAt w20 X x A2 us.length c2 from hdr ▸ HX.out.below (below_drew1 (Below.refl _ _)))
          have HRd := Lib.hid (show Kd.R Kd.string 9 w20 base (fun q => base ≤ q) (.slice AS said.length cS) said from hdr ▸ Kd.R_drew HR.out)
          have HBSd := Lib.hid (show base ≤ w20.heap.size from hdr ▸ HBS.out)
          clear hdr t0 t1 t2 t3 t4 t5
          refine pure_ (i := 1) (N := some 86) (v := ?_) (a' := ?_) #[false, true, false, false, false, false] rfl rfl (by kernel_rfl) (fun _ _ _ h => h) (Or.inl ⟨by rfl, ?_⟩) ?_ ?_
          rotate_left
          · intro w'
            go_simp
            with_reducible rfl
          rotate_left
          · simp only [Act.put, List.setIfInBounds_toArray, List.set_cons_zero, List.set_cons_succ, i64_w, i32_w]
            rfl
          refine pure_ (i := 3) (N := some 88) (v := ?_) (a' := ?_) #[false, true, false, true, false, false] rfl rfl (by kernel_rfl) (fun _ _ _ h => h) (Or.inl ⟨by rfl, ?_⟩) ?_ ?_
          rotate_left
          · intro w'
            go_simp
            with_reducible rfl
          rotate_left
          · simp only [Act.put, List.setIfInBounds_toArray, List.set_cons_zero, List.set_cons_succ, i64_w, i32_w]
            rfl
          refine take_ (i := 0) (N := some 85) (v := ?_) (a' := ?_) #[true, true, false, true, false, false] rfl rfl (by kernel_rfl) (fun _ _ _ h => h) (Or.inl ⟨by rfl, ?_⟩) hHeld ?_ ?_
          rotate_left
          · rintro w' ⟨s0, s1, s2, s3, s4, s5⟩
            go_simp
            with_reducible rfl
          rotate_left
          · simp only [Act.put, List.setIfInBounds_toArray, List.set_cons_zero, List.set_cons_succ, i64_w, i32_w]
            rfl
          refine one_ (i := 2) (N := some 87) #[true, true, true, true, false, false] rfl rfl (by kernel_rfl) (by decide) (fun K hK => ?_)
          refine goes_ Tryd.func10 (by kernel_rfl) rfl #[.pointer (some ⟨X, 0, none⟩)] (by rfl) rfl rfl (by simp only [List.map_toArray, List.map_cons, List.map_nil]; rfl) ?_
          with_reducible refine (user_calls HXd.out.ex).mono ?_
          rintro e w21 ⟨rfl, hw21⟩
          refine ⟨_, rfl, ?_⟩
          obtain rfl : w20 = w21 := hw21.symm
          rw [HUV.out]
          refine hK.out _ _ ⟨hHeld.1, hHeld.2.1, hHeld.2.2.1, hHeld.2.2.2.1, hHeld.2.2.2.2.1, hHeld.2.2.2.2.2⟩ (fun hHeld => ?_)
          clear hK K
          refine norm_ (a' := ?_) ?_ ?_
          rotate_left
          · show Act.put _ (some 87) _ = _
            simp only [Act.put, List.setIfInBounds_toArray, List.set_cons_zero, List.set_cons_succ, i64_w, i32_w]
            rfl
          refine one_ (i := 4) (N := some 89) #[true, true, true, true, true, false] rfl rfl (by kernel_rfl) (by decide) (fun K hK => ?_)
          refine goes_ Tryd.func11 (by kernel_rfl) rfl #[.agg #[.slice A us.length c, .string m, .string stamp, .string fs, .bool has, .slice AL lines.length cL], .string x.nm, .slice AS said.length cS] (by rfl) rfl rfl (by simp only [List.map_toArray, List.map_cons, List.map_nil]; rfl) ?_
          with_reducible refine (HSH.out w20 HBd.out HRd.out).mono ?_
          rintro e w22 ⟨rfl, hb22⟩
          refine ⟨_, rfl, ?_⟩
          refine hK.out _ _ ⟨((hb22.cell (World.block_lt_of_cell? w20 _ hHeld.1)).trans hHeld.1), ((hb22.cell (World.block_lt_of_cell? w20 _ hHeld.2.1)).trans hHeld.2.1), ((hb22.cell (World.block_lt_of_cell? w20 _ hHeld.2.2.1)).trans hHeld.2.2.1), ((hb22.cell (World.block_lt_of_cell? w20 _ hHeld.2.2.2.1)).trans hHeld.2.2.2.1), ((hb22.cell (World.block_lt_of_cell? w20 _ hHeld.2.2.2.2.1)).trans hHeld.2.2.2.2.1), ((hb22.cell (World.block_lt_of_cell? w20 _ hHeld.2.2.2.2.2)).trans hHeld.2.2.2.2.2)⟩ (fun hHeld => ?_)
          clear hK K
          refine norm_ (a' := ?_) ?_ ?_
          rotate_left
          · show Act.put _ (some 89) _ = _
            simp only [Act.put, List.setIfInBounds_toArray, List.set_cons_zero, List.set_cons_succ, i64_w, i32_w]
            rfl
          refine pure_ (i := 5) (N := some 90) (v := ?_) (a' := ?_) #[true, true, true, true, true, true] rfl rfl (by kernel_rfl) (fun _ _ _ h => h) (Or.inl ⟨by rfl, ?_⟩) ?_ ?_
          rotate_left
          · intro w'
            go_simp
            with_reducible rfl
          rotate_left
          · simp only [Act.put, List.setIfInBounds_toArray, List.set_cons_zero, List.set_cons_succ, i64_w, i32_w]
            rfl
          refine done_ (by kernel_rfl) ?_
          go_wp2_with fail
          go_meet
          case rel => exact ⟨Kd.R_below HRd.out hb22, HXd.out.below hb22, HBd.out.trans (hb22.mono HBd.out.size), by have h1 := hb22.size; have h2 := HBSd.out; omega⟩
        · have qs1 : (x.st == 1) = false := by simp [h3]
          have qs2 : (x.st == 2) = false := by simp [h3]
          have qs3 : (x.st == 3) = true := by simp [h3]
          have qs4 : (x.st == 4) = false := by simp [h3]
          have HUV := Lib.hid (show userV x = ⟨#[]⟩ by unfold userV; rw [h3]; rfl)
          have HAK := Lib.hid (show askV x = ⟨#[]⟩ by unfold askV; rw [h3]; rfl)
          have HASZ := Lib.hid (ok_ask HI.out.ok.2)
          have qu : ((⟨#[]⟩ : ByteArray).toList == []) = true := by rw [ByteArray.toList_eq]; rfl
          clear h3
          go_wp2_with (first | (go_at_call 10; refine (user_calls HX.out.ex).mono ?_; rintro e wn ⟨rfl, hwn⟩; rw [hwn, HUV.out]) | (go_at_call 12; refine (ask_calls HX.out.ex HASZ.out).mono ?_; rintro e wn ⟨rfl, hbn⟩; rw [HAK.out]))
          go_meet
          case rel => exact ⟨Kd.R_below HR.out hbn, HX.out.below hbn, HB.out.trans (hbn.mono HB.out.size), by have h1 := hbn.size; have h2 := HBS.out; omega⟩
        · have qs1 : (x.st == 1) = false := by simp [h4]
          have qs2 : (x.st == 2) = false := by simp [h4]
          have qs3 : (x.st == 3) = false := by simp [h4]
          have qs4 : (x.st == 4) = true := by simp [h4]
          have HUV := Lib.hid (show userV x = ⟨#[]⟩ by unfold userV; rw [h4]; rfl)
          have HAK := Lib.hid (show askV x = ⟨#[]⟩ by unfold askV; rw [h4]; rfl)
          have HASZ := Lib.hid (ok_ask HI.out.ok.2)
          have qu : ((⟨#[]⟩ : ByteArray).toList == []) = true := by rw [ByteArray.toList_eq]; rfl
          clear h4
          go_wp2_with (first | (go_at_call 10; refine (user_calls HX.out.ex).mono ?_; rintro e wn ⟨rfl, hwn⟩; rw [hwn, HUV.out]) | (go_at_call 12; refine (ask_calls HX.out.ex HASZ.out).mono ?_; rintro e wn ⟨rfl, hbn⟩; rw [HAK.out]))
          go_meet
          case rel => exact ⟨Kd.R_below HR.out hbn, HX.out.below hbn, HB.out.trans (hbn.mono HB.out.size), by have h1 := hbn.size; have h2 := HBS.out; omega⟩
      case rest =>
        obtain ⟨hRm, hXm, hBm, hBSm⟩ := hcut
        have HRm := Lib.hid hRm
        have HXm := Lib.hid hXm
        have HBm := Lib.hid hBm
        have HBSm := Lib.hid hBSm
        clear hRm hXm hBm hBSm
        obtain ⟨wm, hwm⟩ : ∃ wm, wm = wc := ⟨_, rfl⟩
        subst hwm
        have tm := blk_cell ((HBm.out.block _ (blk_lt HBK.out)).trans HBK.out) 5
        simp only [List.getElem?_toArray, List.getElem?_cons_succ, List.getElem?_cons_zero] at tm
        by_cases hend : k = lines.length
        · have hendb : ((k : Int) == (lines.length : Int)) = true := beq_iff_eq.2 (by omega)
          clear hend
          go_wp2
          go_ret
          exact ⟨rfl, HBW.out.trans (HBm.out.mono HBW.out.size)⟩
        · have hendb : ((k : Int) == (lines.length : Int)) = false := beq_eq_false_iff_ne.2 (by omega)
          have hkl : k < lines.length := by omega
          have hkb : decide ((k : Int) < (lines.length : Int)) = true := decide_eq_true (by omega)
          obtain ⟨al, rfl, s0⟩ := Kd.at_string (Kd.C_below HL.out HBm.out) (k : Int) (by omega) (by omega)
          rw [Int.toNat_natCast] at s0
          have HLZ := Lib.hid (HLS.out _ (rdOf_mem hkl))
          obtain ⟨ln, hln⟩ : ∃ ln, ln = rdOf ByteArray.empty lines (k : Int) := ⟨_, rfl⟩
          rw [← hln] at s0 HLZ
          have HLNE := Lib.hid hln.symm
          obtain ⟨x', f, hav⟩ : ∃ x' f, answerV T S x ln = (x', f) := ⟨_, _, rfl⟩
          have HAV := Lib.hid hav
          have HI' := Lib.hid (inv_answer HI.out hav)
          have HSZ2 := Lib.hid (show ∀ t ∈ said ++ [ln], t.size ≤ 30000000 by
            intro t ht
            rcases List.mem_append.1 ht with ht | ht
            · exact HSZ.out t ht
            · rw [List.mem_singleton.1 ht]; exact HLZ.out)
          clear hend hav hln
          go_wp2_with fail
          refine (state_calls HXm.out.ex).mono ?_
          rintro e wn ⟨rfl, hwn⟩
          obtain rfl : wm = wn := hwn.symm
          clear hwn
          go_wp2_with fail
          refine (user_calls HXm.out.ex).mono ?_
          rintro e wn ⟨rfl, hwn⟩
          obtain rfl : wm = wn := hwn.symm
          clear hwn
          go_wp2_with fail
          refine (answer_at (T := T) (S := S) (B := B) ln (HE.out.below ((HBW.out.trans (HBm.out.mono HBW.out.size)).mono HE.out.size)) HXm.out HI.out.ok (by have h1 := HE.out.size; have h2 := HBW.out.size; have h3 := HXB.out.1; omega) HLZ.out).mono ?_
          rintro e wo ⟨rfl, hXo, hNo⟩
          rw [HAV.out] at hXo ⊢
          have HXo := Lib.hid hXo
          have HBo := Lib.hid (HBm.out.trans (hNo.below HXB.out.1 HBm.out.size))
          have HRo := Lib.hid (Kd.R_keep HRm.out (g := X) (w1 := wo) ⟨hNo.size, fun i hi hg _ => hNo.block i hi hg⟩ (fun q hq => by have := HXB.out.2; omega))
          have HUVo := Lib.hid (user_calls HXo.out.ex)
          have HSTo := Lib.hid (state_calls HXo.out.ex)
          have HBASE := Lib.hid (show base ≤ wo.heap.size by have h1 := HBSm.out; have h2 := hNo.size; omega)
          clear hXo hNo
          have tn := blk_cell ((HBo.out.block _ (blk_lt HBK.out)).trans HBK.out) 5
          simp only [List.getElem?_toArray, List.getElem?_cons_succ, List.getElem?_cons_zero] at tn
          obtain ⟨al2, eal, s1⟩ := Kd.at_string (Kd.C_below HL.out HBo.out) (k : Int) (by omega) (by omega)
          cases eal
          rw [Int.toNat_natCast, HLNE.out] at s1
          clear tm s0
          by_cases hx1 : x.st = 1
          · have e1 : (x.st != 1) = false := by simp [hx1]
            have e2 : (x.st == 1) = true := by simp [hx1]
            by_cases hq : ln = starL
            · have hf := HI'.out.2.2.1 hx1 hq
              have qe : (ln.toList == [42]) = true := by rw [hq, show starL = ⟨[42].toArray⟩ from rfl, ByteArray.toList_eq]; rfl
              obtain ⟨hf1, hf2⟩ := hf
              subst hf1
              have e3 : (x'.st != 4) = false := by simp [hf2]
              clear hx1 hq hf2
              go_wp2_with (first | (go_at_call 9; refine HSTo.out.mono ?_; rintro e wq ⟨rfl, hwq⟩; rw [hwq]) | (go_at_call 10; refine HUVo.out.mono ?_; rintro e wq ⟨rfl, hwq⟩; rw [hwq]) | (at_builtin; refine Kd.R_append Kd.string (w0 := wo) (W := wo) base rfl (.tmp 164) (.tmp 170) 23 9 _ 16 rfl Tryd.underlying23 info9r rfl (by decide) (by decide) _ said ln [.string ln] (fun q => base ≤ q) (fun _ => False) rfl rfl rfl (fun _ h => h.elim) (fun q hq => by have := HBASE.out; omega) HRo.out (Below.refl _ _) HBASE.out (by have := HSL.out; omega) ?_))
              intro v2 w7 hR2 hB7 hgr2 hat2
              have HX7 := Lib.hid (HXo.out.low hB7 HXB.out.2 HAL.out)
              have HB7 := Lib.hid (HBo.out.trans (hB7.mono HBB.out))
              have HR7 := Lib.hid hR2
              have HBS7 := Lib.hid (show base ≤ w7.heap.size by have h1 := HBASE.out; have h2 := hB7.size; omega)
              clear hR2 hB7 hgr2 hat2
              go_wp2
              go_roundg (gk - 1)
              case measure => omega
              case rel => exact ⟨k + 1, x', said ++ [ln], by omega, by omega, by first | rfl | (congr 1; unfold wrap64; omega) | (congr 1; omega) | go_num, HR7.out, by have := HSL.out; rw [List.length_append]; simp; omega, HSZ2.out, HI'.out.1, HX7.out, HB7.out, HBS7.out⟩
            · have qe : (ln.toList == [42]) = false := ne_list ln [42] hq
              by_cases hf : f = 221
              · have hf2 := HI'.out.2.2.2 hx1 hf
                subst hf
                have e3 : (x'.st != 3) = false := by simp [hf2]
                clear hx1 hq hf2
                go_wp2_with (first | (go_at_call 9; refine HSTo.out.mono ?_; rintro e wq ⟨rfl, hwq⟩; rw [hwq]) | (go_at_call 10; refine HUVo.out.mono ?_; rintro e wq ⟨rfl, hwq⟩; rw [hwq]) | (at_builtin; refine Kd.R_append Kd.string (w0 := wo) (W := wo) base rfl (.tmp 164) (.tmp 170) 23 9 _ 16 rfl Tryd.underlying23 info9r rfl (by decide) (by decide) _ said ln [.string ln] (fun q => base ≤ q) (fun _ => False) rfl rfl rfl (fun _ h => h.elim) (fun q hq => by have := HBASE.out; omega) HRo.out (Below.refl _ _) HBASE.out (by have := HSL.out; omega) ?_))
                intro v2 w7 hR2 hB7 hgr2 hat2
                have HX7 := Lib.hid (HXo.out.low hB7 HXB.out.2 HAL.out)
                have HB7 := Lib.hid (HBo.out.trans (hB7.mono HBB.out))
                have HR7 := Lib.hid hR2
                have HBS7 := Lib.hid (show base ≤ w7.heap.size by have h1 := HBASE.out; have h2 := hB7.size; omega)
                clear hR2 hB7 hgr2 hat2
                go_wp2
                go_roundg (gk - 1)
                case measure => omega
                case rel => exact ⟨k + 1, x', said ++ [ln], by omega, by omega, by first | rfl | (congr 1; unfold wrap64; omega) | (congr 1; omega) | go_num, HR7.out, by have := HSL.out; rw [List.length_append]; simp; omega, HSZ2.out, HI'.out.1, HX7.out, HB7.out, HBS7.out⟩
              · have e3 : (f == 221) = false := by simp [hf]
                clear hx1 hq hf
                go_wp2_with (first | (go_at_call 9; refine HSTo.out.mono ?_; rintro e wq ⟨rfl, hwq⟩; rw [hwq]) | (go_at_call 10; refine HUVo.out.mono ?_; rintro e wq ⟨rfl, hwq⟩; rw [hwq]) | (at_builtin; refine Kd.R_append Kd.string (w0 := wo) (W := wo) base rfl (.tmp 164) (.tmp 170) 23 9 _ 16 rfl Tryd.underlying23 info9r rfl (by decide) (by decide) _ said ln [.string ln] (fun q => base ≤ q) (fun _ => False) rfl rfl rfl (fun _ h => h.elim) (fun q hq => by have := HBASE.out; omega) HRo.out (Below.refl _ _) HBASE.out (by have := HSL.out; omega) ?_))
                intro v2 w7 hR2 hB7 hgr2 hat2
                have HX7 := Lib.hid (HXo.out.low hB7 HXB.out.2 HAL.out)
                have HB7 := Lib.hid (HBo.out.trans (hB7.mono HBB.out))
                have HR7 := Lib.hid hR2
                have HBS7 := Lib.hid (show base ≤ w7.heap.size by have h1 := HBASE.out; have h2 := hB7.size; omega)
                clear hR2 hB7 hgr2 hat2
                go_wp2
                go_roundg (gk - 1)
                case measure => omega
                case rel => exact ⟨k + 1, x', said ++ [ln], by omega, by omega, by first | rfl | (congr 1; unfold wrap64; omega) | (congr 1; omega) | go_num, HR7.out, by have := HSL.out; rw [List.length_append]; simp; omega, HSZ2.out, HI'.out.1, HX7.out, HB7.out, HBS7.out⟩
          · obtain ⟨hf, hxe⟩ := HI'.out.2.1 hx1
            subst hf hxe
            have e1 : (x'.st != 1) = true := by simp [hx1]
            have e2 : (x'.st == 1) = false := by simp [hx1]
            have e3 : (x'.st != x'.st) = false := by simp
            have e4 : ((userV x').toList == (userV x').toList) = true := by simp
            clear hx1
            go_wp2_with (first | (go_at_call 9; refine HSTo.out.mono ?_; rintro e wq ⟨rfl, hwq⟩; rw [hwq]) | (go_at_call 10; refine HUVo.out.mono ?_; rintro e wq ⟨rfl, hwq⟩; rw [hwq]) | (at_builtin; refine Kd.R_append Kd.string (w0 := wo) (W := wo) base rfl (.tmp 164) (.tmp 170) 23 9 _ 16 rfl Tryd.underlying23 info9r rfl (by decide) (by decide) _ said ln [.string ln] (fun q => base ≤ q) (fun _ => False) rfl rfl rfl (fun _ h => h.elim) (fun q hq => by have := HBASE.out; omega) HRo.out (Below.refl _ _) HBASE.out (by have := HSL.out; omega) ?_))
            intro v2 w7 hR2 hB7 hgr2 hat2
            have HX7 := Lib.hid (HXo.out.low hB7 HXB.out.2 HAL.out)
            have HB7 := Lib.hid (HBo.out.trans (hB7.mono HBB.out))
            have HR7 := Lib.hid hR2
            have HBS7 := Lib.hid (show base ≤ w7.heap.size by have h1 := HBASE.out; have h2 := hB7.size; omega)
            clear hR2 hB7 hgr2 hat2
            go_wp2
            go_roundg (gk - 1)
            case measure => omega
            case rel => exact ⟨k + 1, x', said ++ [ln], by omega, by omega, by first | rfl | (congr 1; unfold wrap64; omega) | (congr 1; omega) | go_num, HR7.out, by have := HSL.out; rw [List.length_append]; simp; omega, HSZ2.out, HI'.out.1, HX7.out, HB7.out, HBS7.out⟩
  · have HWT := Lib.hid (show wantV m fs has = er by rw [← want_eq T S us m stamp fs has, hx0])
    rw [hx0] at hbg
    obtain rfl := hbg
    have qn : (er != 0) = true := by simp [her]
    have qs : (er == er) = true := by simp
    have qs2 : (er != er) = false := by simp
    clear hx0 her
    go_wp2_with fail
    refine HRB.out.mono ?_
    rintro e w3 ⟨⟨v, rfl⟩, hb3⟩
    rw [HWT.out]
    have HB3 := Lib.hid (HB2.out.trans (hb3.mono HB2.out.size))
    clear hb3 s0 s1 s2 s3 s4
    go_wp2_with (go_at_call 9; refine (state_nil _).mono ?_; rintro e wn ⟨rfl, hwn⟩; rw [hwn])
    go_ret
    exact ⟨rfl, HBW.out.trans (HB3.out.mono HBW.out.size)⟩
end Go.Proofs.YticjpjgfccbhlaaDoor.Sasl
