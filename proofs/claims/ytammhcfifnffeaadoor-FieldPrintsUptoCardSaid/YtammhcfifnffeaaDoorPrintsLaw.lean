/- FieldPrints: the walk of the law, over the contracts of its callees. -/
import Derived.Test.YtammhcfifnffeaaDoorHand
import Derived.Test.YtammhcfifnffeaaDoorSpoilBytes
import Derived.Test.YtammhcfifnffeaaDoorCheckPure
import Derived.RegionTactic
import Derived.ChangeAlike
namespace Go.Proofs.YtammhcfifnffeaaDoor.PrintsLaw
open Go.RowKit Go.Proofs.YtammhcfifnffeaaDoorW.PrintWords Go.Proofs.YtammhcfifnffeaaDoorW.PrintLast Go.Proofs.YtammhcfifnffeaaDoorW.PrintMore Go.Proofs.YtammhcfifnffeaaDoor.PFieldPrints Go.Proofs.YtammhcfifnffeaaDoor.Hand Go.Proofs.YtammhcfifnffeaaDoor.Spoil Go.Proofs.YtammhcfifnffeaaDoor.Octet Go.Proofs.YtammhcfifnffeaaDoor.CheckWalk Go.Proofs.YtammhcfifnffeaaDoor.PrintWalk Go.Proofs.YtammhcfifnffeaaDoor.CheckPure
set_option linter.unusedVariables false
set_option linter.unusedSimpArgs false

abbrev ByteRow (w : World) (base : Nat) (v : Value) (xs : List Int) : Prop := Kd.R (Kd.int .u8) 5 w base (fun _ => True) v xs
theorem ByteRow.own {w : World} {base : Nat} {v : Value} {xs : List Int} (h : ByteRow w base v xs) : w.ownsRow base 5 1 v xs.length (encs (Value.int .u8) xs) := Kd.own_of_R h
theorem ByteRow.of_own {w : World} {base : Nat} {v : Value} {xs : List Int} (h : w.ownsRow base 5 1 v xs.length (encs (Value.int .u8) xs)) : ByteRow w base v xs := Kd.R_of_own h (fun _ _ => trivial)
theorem ByteRow.spoilt {w w1 : World} {b : Nat} {v u : Value} {xs : List Int} (h : ByteRow w b v xs) (hs : Spoilt w w1 u) (hne : ∀ k, v.ownBlock = some k → u.ownBlock = some k → False) : ByteRow w1 b v xs := by
  refine .of_own (own_other h.own hs.grown ?_)
  cases hv : v.ownBlock with
  | none => exact .inl rfl
  | some k => exact .inr fun e => hne k hv e.symm
theorem own_spoilt {w w1 : World} {b e s n : Nat} {v u : Value} {xs : List Value} (h : w.ownsRow b e s v n xs) (hs : Spoilt w w1 u) (hne : ∀ k, v.ownBlock = some k → u.ownBlock = some k → False) : w1.ownsRow b e s v n xs := by
  refine own_other h hs.grown ?_
  cases hv : v.ownBlock with
  | none => exact .inl rfl
  | some k => exact .inr fun e => hne k hv e.symm
theorem C_lit (W : World) (l : List S30) (hm : l.length ≤ 9223372036854775807) : Kd.C k30 (W.alloc (.cells (cellsOf l).toArray 30)) (some ⟨W.heap.size, 0, none⟩) l.length l := by
  have h := World.ownsRow_lit (base := W.heap.size) (e := 30) (size := 2) W (cellsOf l).toArray l.length (Nat.le_refl _) (by simpa [maxLen] using hm) (by simpa using cellsOf_length l)
  refine C_of_own (b := W.heap.size) (cap := l.length) (m := []) ?_ hm
  simpa using h
theorem ob {g n c k : Nat} (h : (Value.slice (some ⟨g, 0, none⟩) n c).ownBlock = some k) : g = k := by simpa [Value.ownBlock] using h
theorem str_of (W : World) {A : Option Addr} {n c : Nat} {xs : List Int} (h : Kd.C (Kd.int .u8) W A n xs) : (convert 24 9 (.slice A n c)).run Tryd.prog W = .ok (.string (strOfNums xs)) W := Kd.C_string Tryd.underlying24 Tryd.underlying5 Tryd.underlying9 h
theorem printV_len (l : List S30) : (printV l).1.length ≤ (l.flatMap line).length := by
  unfold printV
  split
  · simp
  · split
    · exact Nat.le_refl _
    · simp
theorem small_ex : Small ex := ⟨by intro f hf; rw [ex, List.mem_singleton] at hf; subst hf; decide, by decide⟩
theorem ex_str : strOfNums [65, 58, 49, 13, 10] = ⟨#[65, 58, 49, 13, 10]⟩ := by decide +kernel

set_option maxHeartbeats 4000000 in
set_option maxRecDepth 100000 in
theorem law_calls (A : Option Addr) (c : Nat) (l : List S30) (m : Int) (w : World) (hr : Kd.C k30 w A l.length l) (hc : l.length ≤ c) (hA : A = none → c = 0) (hl : l.length * 32 ≤ 140737488351232) (hS : Small l) (hE : ∀ f ∈ l, f.f0.size + f.f1.size < 4294967290) (hX : (l.flatMap line).length ≤ 1000000000) (hm : w.cell? ⟨0, 0, none⟩ = some (.int .i64 m)) (hT : Laid w) :
    Calls Tryd.prog 3 #[.slice A l.length c] w fun e w' => e = .returned (.bool true) ∧ Below w.heap.size w w' := by
  have hu30 := Tryd.underlying30
  obtain ⟨k1, hk1⟩ := print_f l hE hS.all
  obtain ⟨K2, hk2⟩ := checks_f l hE
  have K1 := Lib.hid hk1
  have KK2 := Lib.hid hk2
  have HR := Lib.hid hr
  have HS := Lib.hid hS
  have HA := Lib.hid hA
  have HM := Lib.hid hm
  have HT := Lib.hid hT
  have h0lt := World.block_lt_of_cell? w _ hm
  clear hk1 hk2 hr hS hA hm hT hE
  have hBl := Nat.le_trans (printV_len l) hX
  clear hX
  generalize hG : printV l = V at *
  obtain ⟨B, cd⟩ := V
  simp only at *
  go_enter Tryd.func3, Tryd.ntmps3
  go_wp2_with fail
  refine (lent_calls A c l _ HR.out hc HA.out hl).mono ?_
  rintro e w1 ⟨g, rfl, hown, hb1⟩
  have HO := Lib.hid hown
  have HB := Lib.hid hb1
  have HR1 := Lib.hid (Kd.C_below HR.out hb1)
  clear hown hb1
  go_wp2_with fail
  refine (posthornref16_Print.calls k1 A c l B cd _ HR1.out hc K1.out).mono ?_
  rintro e w2 ⟨vw, rfl, hw, hb2⟩
  have hz1 := hb2.size
  have W2 := Lib.hid hw
  have HB2 := Lib.hid (below_then HB.out HB.out.size hb2)
  have HO2 := Lib.hid (pw_own_below HO.out hb2)
  have hlen : (l ++ List.replicate 70 tilde).length = l.length + 70 := by simp
  have HI2 := Lib.hid (C_of_own (b := w.heap.size) (cap := l.length + 70) (l := l) (m := List.replicate 70 tilde) (by rw [hlen]; exact HO2.out) (by omega))
  obtain ⟨Aw, cw, rfl, hcw, _⟩ := Kd.R_reads hw
  clear hw hb2 hlen HR1
  go_wp2_with fail
  have hz2 := HB2.out.size
  go_loopw [24] (fun v wr => ∃ k : Nat, k ≤ l.length ∧ v = .int .i64 k ∧ Below w2.heap.size w2 wr) (fun v _ => l.length - (intOf v).toNat)
  case atStart => exact ⟨0, by omega, rfl, Below.refl _ _⟩
  case round =>
    obtain ⟨k, hk, rfl, hB⟩ := hrel
    have HBr := Lib.hid hB
    have HBw := Lib.hid (HB2.out.trans (hB.mono hz2))
    clear hB
    by_cases hlt : k < l.length
    · have HI3 := Lib.hid (Kd.C_below HI2.out HBr.out)
      have HR3 := Lib.hid (Kd.C_below HR.out HBw.out)
      obtain ⟨ad1, e1, hx0, hx1⟩ := at_T30 HI3.out k (by omega) (by omega)
      cases e1
      obtain ⟨ad2, e2, hy0, hy1⟩ := at_T30 HR3.out k (by omega) (by omega)
      cases e2
      obtain ⟨f, hf⟩ : ∃ f, l[k]? = some f := ⟨_, List.getElem?_eq_getElem hlt⟩
      have hrd : rd_T30 l k = f := by
        unfold rd_T30
        simp [List.getD_eq_getElem?_getD, hf]
      rw [hrd] at hx0 hx1 hy0 hy1
      simp only [Int.toNat_natCast, add_plain] at hx0 hx1 hy0 hy1
      have hfl := List.mem_of_getElem? hf
      have hfm := HS.out.each f hfl
      have HC1 := Lib.hid (check_calls f.f0 f.f1 m wr.drew (by omega) hfm.2 ((HBw.out.drew.cell h0lt).trans HM.out) (HT.out.below HT.out.size HBw.out.drew))
      have HC2 := Lib.hid (fun W => posthornref16_Check.calls K2 f.f0 f.f1 (checkF f) W (KK2.out f hfl K2 (Nat.le_refl _)))
      have hcf : checkV f.f0.data.toList f.f1.data.toList = checkF f := rfl
      rw [hcf] at HC1
      clear hf hrd hfl hcf
      go_wp2_with fail
      go_region_with (first | (go_at_call 13; refine HC1.out.mono ?_; rintro e w3 ⟨rfl, hb3⟩; have y0 := (hb3.cell (World.block_lt_of_cell? wr.drew _ hy0)).trans hy0; have y1 := (hb3.cell (World.block_lt_of_cell? wr.drew _ hy1)).trans hy1) | (go_at_call 14; refine (HC2.out _).mono ?_; rintro e w4 ⟨rfl, hb4⟩))
      all_goals (
        go_wp2
        go_roundw
        case rel => exact ⟨k + 1, by omega, by go_num, (HBr.out.drew.trans (hb3.mono HBr.out.drew.size)).trans (hb4.mono (Nat.le_trans HBr.out.drew.size hb3.size))⟩
        case measure => simp [intOf]; omega)
    · obtain rfl : k = l.length := by omega
      have hz := HBr.out.size
      have HI4 := Lib.hid (Kd.C_below HI2.out HBr.out)
      have HO4 := Lib.hid (pw_own_below HO2.out HBr.out)
      have W4 := Lib.hid (Kd.R_below W2.out HBr.out)
      have hprint : ∀ (W : World), Kd.C k30 W (some ⟨g, 0, none⟩) l.length l → Below w.heap.size w W → Calls Tryd.prog 15 #[.slice (some ⟨g, 0, none⟩) l.length (l.length + 70)] W fun e w' => ∃ v, e = .returned (.tuple #[v, .int .i64 cd]) ∧ ByteRow w' W.heap.size v B ∧ Below W.heap.size W w' := by
        intro W hW hb
        have := print_calls (some ⟨g, 0, none⟩) (l.length + 70) l m W hW (by omega) HS.out ((hb.cell h0lt).trans HM.out) (HT.out.below HT.out.size hb)
        rw [hG] at this
        exact this
      have HP := Lib.hid hprint
      clear hprint HI2 HO2 W2
      go_wp2_with fail
      refine (HP.out wr HI4.out HBw.out).mono ?_
      rintro e w5 ⟨va, rfl, ha, hb5⟩
      have V5 := Lib.hid ha
      have W5 := Lib.hid (Kd.R_below W4.out hb5)
      have HI5 := Lib.hid (Kd.C_below HI4.out hb5)
      have HO5 := Lib.hid (pw_own_below HO4.out hb5)
      have HB5 := Lib.hid (HBw.out.trans (hb5.mono HBw.out.size))
      have s5 := hb5.size
      have NWA := Lib.hid (fun (k : Nat) (h1 : (Value.slice Aw B.length cw).ownBlock = some k) (h2 : va.ownBlock = some k) => (by have := Kd.R_lt W4.out k h1; have := Kd.R_base V5.out k h2; omega : False))
      obtain ⟨Aa, ca, rfl, hca, _⟩ := Kd.R_reads ha
      clear ha hb5 W4 HI4 HO4
      go_wp2_with fail
      refine (HP.out w5 HI5.out HB5.out).mono ?_
      rintro e w6 ⟨vb, rfl, hb, hb6⟩
      have U6 := Lib.hid hb
      have V6 := Lib.hid (Kd.R_below V5.out hb6)
      have W6 := Lib.hid (Kd.R_below W5.out hb6)
      have HI6 := Lib.hid (Kd.C_below HI5.out hb6)
      have HO6 := Lib.hid (pw_own_below HO5.out hb6)
      have HB6 := Lib.hid (HB5.out.trans (hb6.mono HB5.out.size))
      have s6 := hb6.size
      have NWB := Lib.hid (fun (k : Nat) (h1 : (Value.slice Aw B.length cw).ownBlock = some k) (h2 : vb.ownBlock = some k) => (by have := Kd.R_lt W5.out k h1; have := Kd.R_base U6.out k h2; omega : False))
      have NAB := Lib.hid (fun (k : Nat) (h1 : (Value.slice Aa B.length ca).ownBlock = some k) (h2 : vb.ownBlock = some k) => (by have := Kd.R_lt V5.out k h1; have := Kd.R_base U6.out k h2; omega : False))
      obtain ⟨Ab, cb, rfl, hcb, _⟩ := Kd.R_reads hb
      have q1 := str_of w6 (c := ca) (Kd.R_reads' V6.out).2.2
      have q2 := str_of w6 (c := cb) (Kd.R_reads' U6.out).2.2
      have q3 := str_of w6 (c := cw) (Kd.R_reads' W6.out).2.2
      clear hb hb6 V5 W5 HI5 HO5
      go_wp2_with fail
      refine (kept_calls w.heap.size g A c l _ hl HO6.out (Kd.C_below HR.out HB6.out) hc).mono ?_
      rintro e w7 ⟨rfl, ⟨⟨n7, rfl⟩⟩⟩
      clear q1 q2 q3
      go_wp2_with fail
      obtain ⟨w8, h8⟩ : ∃ w8, w8 = w6.drewN n7 := ⟨_, rfl⟩
      rw [← h8]
      have hd8 : Below w6.heap.size w6 w8 := by rw [h8]; exact pw_below_drewN (Below.refl _ _) _
      have HB8 := Lib.hid hd8
      have HBw8 := Lib.hid (HB6.out.trans (hd8.mono HB6.out.size))
      clear hd8 h8
      have V8 := Lib.hid (Kd.R_below V6.out HB8.out)
      have O8 := Lib.hid (ByteRow.own (Kd.R_below V6.out HB8.out))
      have U8 := Lib.hid (Kd.R_below U6.out HB8.out)
      have W8 := Lib.hid (Kd.R_below W6.out HB8.out)
      have HO8 := Lib.hid (pw_own_below HO6.out HB8.out)
      have s8 := HB8.out.size
      refine (spoil_calls wr.heap.size Aa B.length ca w8 ⟨_, O8.out⟩ (by omega) (by omega)).mono ?_
      rintro e w9 ⟨⟨u9, rfl⟩, hs9⟩
      have U9 := Lib.hid (ByteRow.spoilt U8.out hs9 (fun k h1 h2 => NAB.out k h2 h1))
      have W9 := Lib.hid (ByteRow.spoilt W8.out hs9 (fun k h1 h2 => NWA.out k h1 h2))
      have NGA := Lib.hid (fun (k : Nat) (h1 : (Value.slice (some ⟨g, 0, none⟩) (l.length + 70) (l.length + 70)).ownBlock = some k) (h2 : (Value.slice Aa B.length ca).ownBlock = some k) => (by have := own_base O8.out k h2; have := ob h1; have := own_lt HO.out g rfl; have := hz1; omega : False))
      have HO9 := Lib.hid (own_spoilt HO8.out hs9 NGA.out)
      have HS9 := Lib.hid hs9
      have s9 := hs9.grown.size
      have g9 := Lib.hid (HBw8.out.grown hs9.grown HBw8.out.size (fun k h => by have := Kd.R_base V8.out k h; have := HBw.out.size; omega))
      have q2 := str_of w9 (c := cb) (Kd.R_reads' U9.out).2.2
      have q3 := str_of w9 (c := cw) (Kd.R_reads' W9.out).2.2
      clear hs9 O8 U8 W8 HO8 NGA V6 U6 W6 HO6
      go_wp2_with fail
      clear q2 q3
      have O9 := Lib.hid (ByteRow.own U9.out)
      refine (spoil_calls w5.heap.size Ab B.length cb w9 ⟨_, O9.out⟩ (by omega) (by omega)).mono ?_
      rintro e w12 ⟨⟨u12, rfl⟩, hs12⟩
      have W12 := Lib.hid (ByteRow.spoilt W9.out hs12 (fun k h1 h2 => NWB.out k h1 h2))
      have NGB := Lib.hid (fun (k : Nat) (h1 : (Value.slice (some ⟨g, 0, none⟩) (l.length + 70) (l.length + 70)).ownBlock = some k) (h2 : (Value.slice Ab B.length cb).ownBlock = some k) => (by have := own_base O9.out k h2; have := ob h1; have := own_lt HO.out g rfl; have := hz1; omega : False))
      have HO12 := Lib.hid (own_spoilt HO9.out hs12 NGB.out)
      have hlen : (l ++ List.replicate 70 tilde).length = l.length + 70 := by simp
      have HI12 := Lib.hid (C_of_own (b := w.heap.size) (cap := l.length + 70) (l := l) (m := List.replicate 70 tilde) (by rw [hlen]; exact HO12.out) (by omega))
      have g12 := Lib.hid (g9.out.grown hs12.grown g9.out.size (fun k h => by have := Kd.R_base U9.out k h; have := HBw.out.size; omega))
      have s12 := hs12.grown.size
      clear hs12 O9 NGB hlen U9 W9 HO9
      go_wp2_with fail
      refine (HP.out w12 HI12.out g12.out).mono ?_
      rintro e w13 ⟨vc, rfl, hvc, hb13⟩
      have HB13 := Lib.hid (g12.out.trans (hb13.mono g12.out.size))
      have s13 := hb13.size
      have W13 := Lib.hid (Kd.R_below W12.out hb13)
      have C13 := Lib.hid hvc
      obtain ⟨Ac, cc, rfl, hcc, _⟩ := Kd.R_reads hvc
      have hx := C_lit w13 ex (by decide)
      have HX := Lib.hid hx
      have hg13 := HB13.out.alloc HB13.out.size (.cells (cellsOf ex).toArray 30)
      have HG13 := Lib.hid hg13
      have hex := print_calls (some ⟨w13.heap.size, 0, none⟩) 1 ex m _ HX.out (by decide) small_ex ((HG13.out.cell h0lt).trans HM.out) (HT.out.below HT.out.size HG13.out)
      rw [example_print] at hex
      have HEX := Lib.hid hex
      clear hb13 hvc hx hg13 hex
      go_wp2_with fail
      refine HEX.out.mono ?_
      rintro e w15 ⟨vd, rfl, hvd, hb15⟩
      have HB15 := Lib.hid (HG13.out.trans (hb15.mono HG13.out.size))
      have q1 := str_of w15 (c := cc) (Kd.R_reads' (Kd.R_below (Kd.R_alloc C13.out _) hb15)).2.2
      have q3 := str_of w15 (c := cw) (Kd.R_reads' (Kd.R_below (Kd.R_alloc W13.out _) hb15)).2.2
      obtain ⟨Ad, cd2, rfl, hcd, hCd⟩ := Kd.R_reads hvd
      have q4 : (convert 24 9 (.slice Ad 5 cd2)).run Tryd.prog w15 = .ok (.string ⟨#[65, 58, 49, 13, 10]⟩) w15 := by rw [← ex_str]; exact str_of w15 (c := cd2) hCd
      clear hb15 hvd hCd HEX
      go_wp2
      go_ret
      exact ⟨rfl, HB15.out⟩
end Go.Proofs.YtammhcfifnffeaaDoor.PrintsLaw
