/- SaslShown: the law's shows tells true wherever a line shows a user's secret: by contract. -/
import Derived.Test.YticjpjgfccbhlaaDoorRefBegin
import Derived.Deep.LoopGhost
namespace Go.Proofs.YticjpjgfccbhlaaDoor.Sasl
open Go.RowKit Go.Proofs.YticjpjgfccbhlaaDoorW.PrintWords Go.Proofs.YticjpjgfccbhlaaDoorW.PrintLast Go.Proofs.YticjpjgfccbhlaaDoorW.PrintMore Go.Proofs.YticjpjgfccbhlaaDoor.PSaslStale Go.Proofs.YticjpjgfccbhlaaDoor.Hash
open Go.Proofs.YticjpjgfccbhlaaDoor.Code (unV unbase64_calls own_C str_of)
attribute [local go_sem] max2_int min2_int max_two min_two max_three min_three max_four min_four
set_option linter.unusedVariables false
set_option linter.unusedSimpArgs false
/-- what a line carries -/
def dec (t : ByteArray) : ByteArray := strOfNums (unV t.data.toList).1
/-- the line at q shows this user's secret -/
def HitAt (T S : Nat → Int) (stamp nm : ByteArray) (u : S40) (said : List ByteArray) (q : Nat) : Prop :=
  dec (rdOf ByteArray.empty said (q : Int)) = ⟨#[0]⟩ ++ nm ++ ⟨#[0]⟩ ++ u.f1 ∨ dec (rdOf ByteArray.empty said (q : Int)) = nm ++ ⟨#[0]⟩ ++ nm ++ ⟨#[0]⟩ ++ u.f1 ∨ dec (rdOf ByteArray.empty said (q : Int)) = nm ++ ⟨#[32]⟩ ++ digestV T S u.f1 stamp ∨
    (dec (rdOf ByteArray.empty said (q : Int)) = u.f1 ∧ 0 < q ∧ dec (rdOf ByteArray.empty said ((q - 1 : Nat) : Int)) = nm)
theorem rdOf_mem {said : List ByteArray} {j : Nat} (h : j < said.length) : rdOf ByteArray.empty said (j : Int) ∈ said := by
  unfold rdOf
  rw [Int.toNat_natCast, List.getD_eq_getElem?_getD, List.getElem?_eq_getElem h]
  exact List.getElem_mem h
set_option maxHeartbeats 16000000 in
set_option maxRecDepth 100000 in
theorem shows_calls {T S : Nat → Int} {B : Nat} (A : Option Addr) (n c : Nat) (us : List S40) (m stamp first : ByteArray) (has : Bool) (vl : Value) (hvl : vl.oneCell' = true) (nm : ByteArray) (AS : Option Addr) (nS cS : Nat) (said : List ByteArray) (w : World) (he : Env T S B w) (hC : Kd.C k40 w A n us) (hn : us.length = n) (hc : n ≤ c) (hu : OkUs us) (hS : Kd.C Kd.string w AS nS said) (hSl : said.length = nS) (hcS : nS ≤ cS) (hnS : nS ≤ 1000000000)
    (hnm : nm.size ≤ 100000000) (hst : stamp.size ≤ 100000000) (hsd : ∀ x ∈ said, x.size ≤ 30000000) (p : Nat) (u0 : S40) (q : Nat) (hp : us[p]? = some u0) (hp0 : u0.f0 = nm) (hq : q < said.length) (hit : HitAt T S stamp nm u0 said q) :
    Calls Tryd.prog 11 #[.agg #[.slice A n c, .string m, .string stamp, .string first, .bool has, vl], .string nm, .slice AS nS cS] w fun e w' => e = .returned (.bool true) ∧ Below w.heap.size w w' := by
  subst hn hSl
  have hul : us.length ≤ 1000000000 := hu.1
  have hu25 := Tryd.underlying25
  obtain ⟨W0, hW0⟩ : ∃ W0, W0 = w.alloc (.cells #[.slice A us.length c, .string m, .string stamp, .string first, .bool has, vl] 25) := ⟨_, rfl⟩
  have hb0 : Below w.heap.size w W0 := hW0 ▸ (Below.refl _ _).alloc (Nat.le_refl _) _
  have HBK := Lib.hid (show W0.heap[w.heap.size]? = some (.cells #[.slice A us.length c, .string m, .string stamp, .string first, .bool has, vl] 25 (0, 0)) from hW0 ▸ heap_alloc_new w _)
  have hWW : w.alloc (.cells #[.slice A us.length c, .string m, .string stamp, .string first, .bool has, vl] 25) = W0 := hW0.symm
  have HC := Lib.hid (Kd.C_below hC hb0)
  have HSD := Lib.hid (Kd.C_below hS hb0)
  have HBW := Lib.hid hb0
  have HP := Lib.hid hp
  have HP0 := Lib.hid hp0
  have HQ := Lib.hid hq
  have HIT := Lib.hid hit
  have HSZ := Lib.hid hsd
  have HUS := Lib.hid hu
  have HE := Lib.hid he
  have t0 := blk_cell HBK.out 0
  simp only [List.getElem?_toArray, List.getElem?_cons_succ, List.getElem?_cons_zero] at t0
  clear hb0 hW0 hC hS hp hp0 hq hit hsd hu he
  go_enter Tryd.func11, Tryd.ntmps11
  go_wp2
  go_loopw [8, 19] (fun _ i wr => ∃ k : Nat, k ≤ p ∧ i = .int .i64 k ∧ Below W0.heap.size W0 wr) (fun _ i _ => us.length - (intOf i).toNat)
  case atStart => exact ⟨0, Nat.zero_le _, rfl, Below.refl _ _⟩
  case round =>
    obtain ⟨k, hk, rfl, hB⟩ := hrel
    have HB := Lib.hid hB
    have hpl : p < us.length := (List.getElem?_eq_some_iff.1 HP.out).1
    have hlt : k < us.length := by omega
    have hltb : decide ((k : Int) < (us.length : Int)) = true := decide_eq_true (by omega)
    obtain ⟨u, hu⟩ : ∃ u, us[k]? = some u := ⟨_, List.getElem?_eq_getElem hlt⟩
    obtain ⟨ad, rfl, a0, a1⟩ := at_T40 (Kd.C_below HC.out HB.out) (k : Int) (by omega) (by omega)
    rw [rd_T40_at hu, Int.toNat_natCast] at a0 a1
    have HU := Lib.hid hu
    have HUF := Lib.hid (show u.f1.size ≤ 100000000 from HUS.out.2 u (List.mem_of_getElem? hu))
    obtain ⟨W1, hW1⟩ : ∃ W1, wr.alloc (.cells #[.string u.f0, .string u.f1] 40) = W1 := ⟨_, rfl⟩
    have HB1 := Lib.hid (show Below W0.heap.size W0 W1 from hW1 ▸ HB.out.alloc HB.out.size _)
    have HY1 := Lib.hid (show W1.heap[wr.heap.size]? = some (.cells #[.string u.f0, .string u.f1] 40 (0, 0)) from hW1 ▸ heap_alloc_new wr _)
    have y0 := blk_cell HY1.out 0
    simp only [List.getElem?_toArray, List.getElem?_cons_succ, List.getElem?_cons_zero] at y0
    obtain ⟨Y, hY⟩ : ∃ Y, Y = wr.heap.size := ⟨_, rfl⟩
    rw [← hY] at HY1 y0
    have hYr : wr.heap.size = Y := hY.symm
    clear hB hu hY
    by_cases hne : u.f0 = nm
    · have q0 : (u.f0.toList == nm.toList) = true := by rw [eq_toList]; exact decide_eq_true hne
      clear hne
      go_wp2
      go_loopw [9, 10, 29] (fun _ _ i wr => ∃ j : Nat, j ≤ said.length ∧ (k = p → j ≤ q) ∧ i = .int .i64 j ∧ Below W1.heap.size W1 wr) (fun _ _ i _ => said.length - (intOf i).toNat)
      case atStart => exact ⟨0, Nat.zero_le _, fun _ => Nat.zero_le _, rfl, Below.refl _ _⟩
      case round =>
        obtain ⟨j, hj, hjq, rfl, hB⟩ := hrel
        have HB2 := Lib.hid hB
        have HJQ := Lib.hid hjq
        clear hB hjq
        by_cases hlj : j < said.length
        · have hljb : decide ((j : Int) < (said.length : Int)) = true := decide_eq_true (by omega)
          have HBz := Lib.hid (HB1.out.trans (HB2.out.mono HB1.out.size))
          have HY2 := Lib.hid ((HB2.out.block _ (blk_lt HY1.out)).trans HY1.out)
          have HT2 := Lib.hid ((HBz.out.block _ (blk_lt HBK.out)).trans HBK.out)
          obtain ⟨as_, rfl, s0⟩ := Kd.at_string (Kd.C_below HSD.out HBz.out) (j : Int) (by omega) (by omega)
          rw [Int.toNat_natCast] at s0
          have HL := Lib.hid (HSZ.out _ (rdOf_mem hlj))
          obtain ⟨x, hx⟩ : ∃ x, x = rdOf ByteArray.empty said (j : Int) := ⟨_, rfl⟩
          rw [← hx] at s0 HL
          have HX := Lib.hid hx
          have HUN := Lib.hid (unbase64_calls x wr (by have := HL.out; omega))
          clear hx
          go_wp2_with fail
          refine HUN.out.mono ?_
          rintro e w3 ⟨V, d, er, at_, hv, rfl, hO, hb3⟩
          obtain ⟨A1, c1, rfl, _, hC1⟩ := own_C rfl hO
          obtain ⟨W4, hW4⟩ : ∃ W4, w3.alloc (.cells #[.int .i64 er, .int .i64 (at_ : Nat)] 70) = W4 := ⟨_, rfl⟩
          have HB4 := Lib.hid (show Below W1.heap.size W1 W4 from hW4 ▸ (HB2.out.trans (hb3.mono HB2.out.size)).alloc (HB2.out.trans (hb3.mono HB2.out.size)).size _)
          have HA := Lib.hid (show strOfNums d = dec x by unfold dec; rw [hv])
          have zc : (convert 68 9 (.slice A1 d.length c1)).run Tryd.prog W4 = .ok (.string (strOfNums d)) W4 := str_of W4 (c := c1) (hW4 ▸ Kd.C_alloc hC1 _)
          obtain ⟨a, ha⟩ : ∃ a, a = strOfNums d := ⟨_, rfl⟩
          rw [← ha] at HA zc
          have HY4 := Lib.hid ((HB4.out.block _ (blk_lt HY1.out)).trans HY1.out)
          have HBy := Lib.hid (HB1.out.trans (HB4.out.mono HB1.out.size))
          have HT4 := Lib.hid ((HBy.out.block _ (blk_lt HBK.out)).trans HBK.out)
          have yf1 := blk_cell HY4.out 1
          have tf2 := blk_cell HT4.out 2
          simp only [List.getElem?_toArray, List.getElem?_cons_succ, List.getElem?_cons_zero] at yf1 tf2
          obtain ⟨t1, ht1⟩ : ∃ t1, (⟨#[0]⟩ ++ nm ++ ⟨#[0]⟩ ++ u.f1 : ByteArray) = t1 := ⟨_, rfl⟩
          obtain ⟨t2, ht2⟩ : ∃ t2, (nm ++ ⟨#[0]⟩ ++ nm ++ ⟨#[0]⟩ ++ u.f1 : ByteArray) = t2 := ⟨_, rfl⟩
          obtain ⟨dg, hdg⟩ : ∃ dg, dg = digestV T S u.f1 stamp := ⟨_, rfl⟩
          obtain ⟨t3, ht3⟩ : ∃ t3, (nm ++ ⟨#[32]⟩ ++ dg : ByteArray) = t3 := ⟨_, rfl⟩
          have hdgs : dg.size = 32 := hdg ▸ digest_size T S u.f1 stamp
          have HDG := Lib.hid (fun W (hB : Below W1.heap.size W1 W) => hdg ▸ show_calls (T := T) (S := S) u.f1 stamp W (HE.out.below ((HBW.out.trans ((HB1.out.trans (hB.mono HB1.out.size)).mono HBW.out.size)).mono HE.out.size)).tabs HUF.out hst)
          have HT1 := Lib.hid ht1
          have HT2' := Lib.hid ht2
          have HT3 := Lib.hid ht3
          have HDGE := Lib.hid hdg
          have huf := HUF.out
          have k1 : ¬ 9223372036854775807 < 1 + nm.size := by omega
          have k2 : ¬ 9223372036854775807 < 1 + nm.size + 1 := by omega
          have k3 : ¬ 9223372036854775807 < 1 + nm.size + 1 + u.f1.size := by omega
          have k4 : ¬ 9223372036854775807 < nm.size + 1 := by omega
          have k5 : ¬ 9223372036854775807 < nm.size + 1 + nm.size := by omega
          have k6 : ¬ 9223372036854775807 < nm.size + 1 + nm.size + 1 := by omega
          have k7 : ¬ 9223372036854775807 < nm.size + 1 + nm.size + 1 + u.f1.size := by omega
          have k8 : ¬ 9223372036854775807 < nm.size + 1 + 32 := by omega
          clear hO hb3 hC1 hv ha hdg huf
          cases b1 : (a.toList == t1.toList) with
          | true =>
            go_wp2
            go_ret
            exact ⟨rfl, HBW.out.trans (HBy.out.mono HBW.out.size)⟩
          | false =>
            cases b2 : (a.toList == t2.toList) with
            | true =>
              go_wp2
              go_ret
              exact ⟨rfl, HBW.out.trans (HBy.out.mono HBW.out.size)⟩
            | false =>
              go_wp2_with fail
              refine (HDG.out W4 HB4.out).mono ?_
              rintro e w5 ⟨rfl, hb5⟩
              have HB5 := Lib.hid (HB4.out.trans (hb5.mono HB4.out.size))
              have HBx := Lib.hid (HB1.out.trans (HB5.out.mono HB1.out.size))
              have yg1 := blk_cell ((HB5.out.block _ (blk_lt HY1.out)).trans HY1.out) 1
              simp only [List.getElem?_toArray, List.getElem?_cons_succ, List.getElem?_cons_zero] at yg1
              clear hb5 yf1 tf2
              cases b3 : (a.toList == t3.toList) with
              | true =>
                go_wp2
                go_ret
                exact ⟨rfl, HBW.out.trans (HBx.out.mono HBW.out.size)⟩
              | false =>
                cases b4 : (a.toList == u.f1.toList) with
                | false =>
                  have HNO := Lib.hid (show ¬ (k = p ∧ j = q) from fun h => by
                    rw [eq_toList] at b1 b2 b3 b4
                    have e := HIT.out
                    have hu2 := HU.out
                    rw [h.1, HP.out] at hu2
                    obtain rfl : u0 = u := Option.some.inj hu2
                    unfold HitAt at e
                    rw [← h.2, ← HX.out, ← HA.out, HT1.out, HT2'.out, ← HDGE.out, HT3.out] at e
                    rcases e with e | e | e | e
                    · exact of_decide_eq_false b1 e
                    · exact of_decide_eq_false b2 e
                    · exact of_decide_eq_false b3 e
                    · exact of_decide_eq_false b4 e.1)
                  go_wp2
                  go_roundw
                  case rel => exact ⟨j + 1, by omega, fun h => by have h1 := HJQ.out h; have h2 := HNO.out; omega, by go_num, HB5.out⟩
                  case measure => simp [intOf]; omega
                | true =>
                  by_cases hj0 : 0 < j
                  · have hj0b : decide (0 < (j : Int)) = true := decide_eq_true (by omega)
                    obtain ⟨as2, es2, s2⟩ := Kd.at_string (Kd.C_below HSD.out HBx.out) ((j - 1 : Nat) : Int) (by omega) (by omega)
                    cases es2
                    rw [Int.toNat_natCast] at s2
                    have hw1 : wrap64 ((j : Int) - 1) = ((j - 1 : Nat) : Int) := by unfold wrap64; omega
                    have HL2 := Lib.hid (HSZ.out _ (rdOf_mem (said := said) (j := j - 1) (by omega)))
                    obtain ⟨x2, hx2⟩ : ∃ x2, x2 = rdOf ByteArray.empty said ((j - 1 : Nat) : Int) := ⟨_, rfl⟩
                    rw [← hx2] at s2 HL2
                    have HX2 := Lib.hid hx2
                    have HUN2 := Lib.hid (unbase64_calls x2 w5 (by have := HL2.out; omega))
                    clear hx2
                    go_wp2_with fail
                    refine HUN2.out.mono ?_
                    rintro e w6 ⟨V2, d2, er2, at2, hv2, rfl, hO2, hb6⟩
                    obtain ⟨A2, c2, rfl, _, hC2⟩ := own_C rfl hO2
                    obtain ⟨W7, hW7⟩ : ∃ W7, w6.alloc (.cells #[.int .i64 er2, .int .i64 (at2 : Nat)] 70) = W7 := ⟨_, rfl⟩
                    have HB7 := Lib.hid (show Below W1.heap.size W1 W7 from hW7 ▸ (HB5.out.trans (hb6.mono HB5.out.size)).alloc (HB5.out.trans (hb6.mono HB5.out.size)).size _)
                    have HA2 := Lib.hid (show strOfNums d2 = dec x2 by unfold dec; rw [hv2])
                    have zc2 : (convert 68 9 (.slice A2 d2.length c2)).run Tryd.prog W7 = .ok (.string (strOfNums d2)) W7 := str_of W7 (c := c2) (hW7 ▸ Kd.C_alloc hC2 _)
                    obtain ⟨a2, ha2⟩ : ∃ a2, a2 = strOfNums d2 := ⟨_, rfl⟩
                    rw [← ha2] at HA2 zc2
                    clear hO2 hb6 hC2 hv2 ha2
                    cases b5 : (a2.toList == nm.toList) with
                    | true =>
                      go_wp2
                      go_ret
                      exact ⟨rfl, HBW.out.trans ((HB1.out.trans (HB7.out.mono HB1.out.size)).mono HBW.out.size)⟩
                    | false =>
                      have HNO := Lib.hid (show ¬ (k = p ∧ j = q) from fun h => by
                        rw [eq_toList] at b1 b2 b3 b5
                        have e := HIT.out
                        have hu2 := HU.out
                        rw [h.1, HP.out] at hu2
                        obtain rfl : u0 = u := Option.some.inj hu2
                        unfold HitAt at e
                        rw [← h.2, ← HX.out, ← HX2.out, ← HA.out, ← HA2.out, HT1.out, HT2'.out, ← HDGE.out, HT3.out] at e
                        rcases e with e | e | e | e
                        · exact of_decide_eq_false b1 e
                        · exact of_decide_eq_false b2 e
                        · exact of_decide_eq_false b3 e
                        · exact of_decide_eq_false b5 e.2.2)
                      go_wp2
                      go_roundw
                      case rel => exact ⟨j + 1, by omega, fun h => by have h1 := HJQ.out h; have h2 := HNO.out; omega, by go_num, HB7.out⟩
                      case measure => simp [intOf]; omega
                  · have hj0b : decide (0 < (j : Int)) = false := decide_eq_false (by omega)
                    have HNO := Lib.hid (show ¬ (k = p ∧ j = q) from fun h => by
                      rw [eq_toList] at b1 b2 b3
                      have e := HIT.out
                      have hu2 := HU.out
                      rw [h.1, HP.out] at hu2
                      obtain rfl : u0 = u := Option.some.inj hu2
                      unfold HitAt at e
                      rw [← h.2, ← HX.out, ← HA.out, HT1.out, HT2'.out, ← HDGE.out, HT3.out] at e
                      rcases e with e | e | e | e
                      · exact of_decide_eq_false b1 e
                      · exact of_decide_eq_false b2 e
                      · exact of_decide_eq_false b3 e
                      · exact hj0 e.2.1)
                    go_wp2
                    go_roundw
                    case rel => exact ⟨j + 1, by omega, fun h => by have h1 := HJQ.out h; have h2 := HNO.out; omega, by go_num, HB5.out⟩
                    case measure => simp [intOf]; omega
        · obtain rfl : j = said.length := by omega
          have HNP := Lib.hid (show k ≠ p from fun h => by have h1 := HJQ.out h; have h2 := HQ.out; omega)
          clear hlj
          go_wp2
          go_roundw
          case rel => exact ⟨k + 1, by have := HNP.out; omega, by go_num, HB1.out.trans (HB2.out.mono HB1.out.size)⟩
          case measure => simp [intOf]; omega
    · have q0 : (u.f0.toList == nm.toList) = false := by rw [eq_toList]; exact decide_eq_false hne
      have HNP := Lib.hid (show k ≠ p from fun h => by
        have hu2 := HU.out
        rw [h, HP.out] at hu2
        obtain rfl : u0 = u := Option.some.inj hu2
        exact hne HP0.out)
      clear hne
      go_wp2
      go_roundw
      case rel => exact ⟨k + 1, by have := HNP.out; omega, by go_num, HB1.out⟩
      case measure => simp [intOf]; omega
end Go.Proofs.YticjpjgfccbhlaaDoor.Sasl
