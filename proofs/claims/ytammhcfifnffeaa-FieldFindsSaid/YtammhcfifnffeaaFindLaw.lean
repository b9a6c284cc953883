/- FieldFinds: the walk of the law, over the contracts of its callees. -/
import Derived.Test.YtammhcfifnffeaaHand
import Derived.Test.YtammhcfifnffeaaSpoil
import Derived.Test.YtammhcfifnffeaaFindPure

namespace Go.Proofs.Ytammhcfifnffeaa.FindLaw
open Go.RowKit Go.Proofs.YtammhcfifnffeaaW.PrintWords Go.Proofs.YtammhcfifnffeaaW.PrintLast Go.Proofs.YtammhcfifnffeaaW.PrintMore Go.Proofs.Ytammhcfifnffeaa.PFieldFinds Go.Proofs.Ytammhcfifnffeaa.Hand Go.Proofs.Ytammhcfifnffeaa.Spoil Go.Proofs.Ytammhcfifnffeaa.FindPure
set_option linter.unusedVariables false
set_option linter.unusedSimpArgs false

abbrev IntRow (w : World) (base : Nat) (v : Value) (xs : List Int) : Prop := Kd.R (Kd.int .i64) 3 w base (fun _ => True) v xs
theorem IntRow.own {w : World} {base : Nat} {v : Value} {xs : List Int} (h : IntRow w base v xs) : w.ownsRow base 3 1 v xs.length (encs (Value.int .i64) xs) := Kd.own_of_R h
theorem IntRow.of_own {w : World} {base : Nat} {v : Value} {xs : List Int} (h : w.ownsRow base 3 1 v xs.length (encs (Value.int .i64) xs)) : IntRow w base v xs := Kd.R_of_own h (fun _ _ => trivial)
/-- Two rows of different calls: the spoiling of one leaves the other. -/
theorem IntRow.spoilt {w w1 : World} {b : Nat} {v u : Value} {xs : List Int} (h : IntRow w b v xs) (hs : Spoilt w w1 u) (hne : ∀ k, v.ownBlock = some k → u.ownBlock = some k → False) : IntRow w1 b v xs := by
  refine .of_own (own_other h.own hs.grown ?_)
  cases hv : v.ownBlock with
  | none => exact .inl rfl
  | some k => exact .inr fun e => hne k hv e.symm
theorem own_spoilt {w w1 : World} {b e s n : Nat} {v u : Value} {xs : List Value} (h : w.ownsRow b e s v n xs) (hs : Spoilt w w1 u) (hne : ∀ k, v.ownBlock = some k → u.ownBlock = some k → False) : w1.ownsRow b e s v n xs := by
  refine own_other h hs.grown ?_
  cases hv : v.ownBlock with
  | none => exact .inl rfl
  | some k => exact .inr fun e => hne k hv e.symm

theorem C_lit (W : World) (l : List S30) (hm : l.length ≤ 9223372036854775807) : Kd.C k30 (W.alloc (.cells (cellsOf l).toArray 30)) (some ⟨W.heap.size, 0, none⟩) l.length l := by
  have h := World.ownsRow_lit (base := W.heap.size) (e := 30) (size := 2) W (cellsOf l).toArray l.length (Nat.le_refl _) (by simpa [maxLen] using hm) (by simpa using cellsOf_length l)
  refine C_of_own (b := W.heap.size) (cap := l.length) (m := []) ?_ hm
  simpa using h
theorem C_lit_int (W : World) (l : List Int) (hm : l.length ≤ 9223372036854775807) : Kd.C (Kd.int .i64) (W.alloc (.cells (encs (Value.int .i64) l).toArray 3)) (some ⟨W.heap.size, 0, none⟩) l.length l := by
  have h := own_lit_of (enc := Value.int .i64) W W.heap.size 3 l (Nat.le_refl _) hm
  exact (Kd.R_reads' (IntRow.of_own h)).2.2
theorem ob {g n c k : Nat} (h : (Value.slice (some ⟨g, 0, none⟩) n c).ownBlock = some k) : g = k := by simpa [Value.ownBlock] using h

set_option maxHeartbeats 2000000 in
set_option maxRecDepth 100000 in
theorem law_calls (A : Option Addr) (c : Nat) (l : List S30) (nm : ByteArray) (w : World) (hr : Kd.C k30 w A l.length l) (hc : l.length ≤ c) (hA : A = none → c = 0) (hl : l.length * 32 ≤ 140737488351232) (hS : Sized l) (hnm : nm.size ≤ 140737488351232) :
    Calls Try.prog 3 #[.slice A l.length c, .string nm] w fun e w' => e = .returned (.bool true) ∧ Below w.heap.size w w' := by
  obtain ⟨k1, hk1⟩ := find_ref l nm (by omega) hS (by omega)
  obtain ⟨k2, hk2⟩ := find_f l nm (by omega) hS
  obtain ⟨k3, hk3⟩ := find_f [⟨⟨#[120]⟩, ⟨#[]⟩⟩, ⟨⟨#[65]⟩, ⟨#[]⟩⟩] ⟨#[97]⟩ (by decide) (by intro x hx; simp only [List.mem_cons, List.not_mem_nil, or_false] at hx; rcases hx with rfl | rfl <;> decide)
  rw [find_example] at hk3
  have hF : (findL l nm).length ≤ l.length := findTo_length l nm l.length
  obtain ⟨k4, hk4⟩ := sameInts_refl (findL l nm) (by omega)
  obtain ⟨k5, hk5⟩ := sameInts_refl [1] (by decide)
  have K1 := Aside0.mk hk1
  have K2 := Aside0.mk hk2
  have K3 := Aside0.mk hk3
  have K4 := Aside0.mk hk4
  have K5 := Aside0.mk hk5
  clear hk1 hk2 hk3 hk4 hk5
  generalize hG : findL l nm = F at *
  clear hG
  have HR := Aside0.mk hr
  have HS := Aside0.mk hS
  have HA := Aside0.mk hA
  clear hr hS hA
  go_enter Try.func3, Try.ntmps3
  go_wp2_with fail
  refine (lent_calls A c l _ HR.out hc HA.out hl).mono ?_
  rintro e w1 ⟨g, rfl, hown, hb1⟩
  have HO := Aside0.mk hown
  have HB := Aside0.mk hb1
  have HR1 := Aside0.mk (Kd.C_below HR.out hb1)
  clear hown hb1 HR
  go_wp2_with fail
  refine (posthornref16_Find.calls k1 A c l nm F _ HR1.out hc K1.out).mono ?_
  rintro e w2 ⟨vw, rfl, hw, hb2⟩
  have W2 := Aside0.mk hw
  have HB2 := Aside0.mk hb2
  have HO2 := Aside0.mk (pw_own_below HO.out hb2)
  have hlen : (l ++ List.replicate 70 tilde).length = l.length + 70 := by simp
  have HI2 := Aside0.mk (C_of_own (b := w.heap.size) (cap := l.length + 70) (l := l) (m := List.replicate 70 tilde) (by rw [hlen]; exact HO2.out) (by omega))
  obtain ⟨Aw, cw, rfl, hcw, _⟩ := Kd.R_reads hw
  clear hw hb2 hlen
  go_wp2_with fail
  refine (field_Find.calls k2 (some ⟨g, 0, none⟩) (l.length + 70) l nm F _ HI2.out (by omega) K2.out).mono ?_
  rintro e w3 ⟨va, rfl, ha, hb3⟩
  have V3 := Aside0.mk ha
  have W3 := Aside0.mk (Kd.R_below W2.out hb3)
  have HB3 := Aside0.mk hb3
  have HI3 := Aside0.mk (Kd.C_below HI2.out hb3)
  have HO3 := Aside0.mk (pw_own_below HO2.out hb3)
  have NWA := Aside0.mk (fun (k : Nat) (h1 : (Value.slice Aw F.length cw).ownBlock = some k) (h2 : va.ownBlock = some k) => (by have := Kd.R_lt W2.out k h1; have := Kd.R_base V3.out k h2; omega : False))
  obtain ⟨Aa, ca, rfl, hca, _⟩ := Kd.R_reads ha
  clear ha hb3 W2 HI2 HO2
  go_wp2_with fail
  refine (field_Find.calls k2 (some ⟨g, 0, none⟩) (l.length + 70) l nm F _ HI3.out (by omega) K2.out).mono ?_
  rintro e w4 ⟨vb, rfl, hb, hb4⟩
  have U4 := Aside0.mk hb
  have V4 := Aside0.mk (Kd.R_below V3.out hb4)
  have W4 := Aside0.mk (Kd.R_below W3.out hb4)
  have HB4 := Aside0.mk hb4
  have HI4 := Aside0.mk (Kd.C_below HI3.out hb4)
  have HO4 := Aside0.mk (pw_own_below HO3.out hb4)
  have NWB := Aside0.mk (fun (k : Nat) (h1 : (Value.slice Aw F.length cw).ownBlock = some k) (h2 : vb.ownBlock = some k) => (by have := Kd.R_lt W3.out k h1; have := Kd.R_base U4.out k h2; omega : False))
  have NAB := Aside0.mk (fun (k : Nat) (h1 : (Value.slice Aa F.length ca).ownBlock = some k) (h2 : vb.ownBlock = some k) => (by have := Kd.R_lt V3.out k h1; have := Kd.R_base U4.out k h2; omega : False))
  obtain ⟨Ab, cb, rfl, hcb, _⟩ := Kd.R_reads hb
  have CA := Aside0.mk (Kd.R_reads' V4.out).2.2
  have CW := Aside0.mk (Kd.R_reads' W4.out).2.2
  have CB := Aside0.mk (Kd.R_reads' U4.out).2.2
  clear hb hb4 V3 W3 HI3 HO3
  go_wp2_with fail
  refine (posthornlaw16_sameInts.calls k4 Aa ca F Aw cw F true _ CA.out hca CW.out hcw K4.out).mono ?_
  rintro e w5 ⟨rfl, ⟨⟨n5, rfl⟩⟩⟩
  go_wp2_with fail
  refine (posthornlaw16_sameInts.calls k4 Ab cb F Aw cw F true _ (Kd.C_drewN CB.out _) hcb (Kd.C_drewN CW.out _) hcw K4.out).mono ?_
  rintro e w6 ⟨rfl, ⟨⟨n6, rfl⟩⟩⟩
  go_wp2_with fail
  refine (kept_calls w.heap.size g A c l _ hl (pw_own_below HO4.out (pw_below_drewN (Below.refl _ _) _)) (Kd.C_drewN (Kd.C_below (Kd.C_below (Kd.C_below HR1.out HB2.out) HB3.out) HB4.out) _) hc).mono ?_
  rintro e w7 ⟨rfl, ⟨⟨n7, rfl⟩⟩⟩
  go_wp2_with fail
  obtain ⟨w8, h8⟩ : ∃ w8, w8 = w4.drewN (n5 + n6 + n7) := ⟨_, rfl⟩
  rw [← h8]
  have hd8 : Below w4.heap.size w4 w8 := by rw [h8]; exact pw_below_drewN (Below.refl _ _) _
  have HB8 := Aside0.mk hd8
  clear hd8 h8 CA CW CB HR1
  have V8 := Aside0.mk (Kd.R_below V4.out HB8.out)
  have O8 := Aside0.mk (IntRow.own (Kd.R_below V4.out HB8.out))
  have U8 := Aside0.mk (Kd.R_below U4.out HB8.out)
  have W8 := Aside0.mk (Kd.R_below W4.out HB8.out)
  have HO8 := Aside0.mk (pw_own_below HO4.out HB8.out)
  have s1 := HB.out.size
  have s2 := HB2.out.size
  have s3 := HB3.out.size
  have s4 := HB4.out.size
  have s8 := HB8.out.size
  refine (spoilInts_calls w2.heap.size Aa F.length ca w8 ⟨_, O8.out⟩ (by omega) (by omega)).mono ?_
  rintro e w9 ⟨⟨u9, rfl⟩, hs9⟩
  have U9 := Aside0.mk (IntRow.spoilt U8.out hs9 (fun k h1 h2 => NAB.out k h2 h1))
  have W9 := Aside0.mk (IntRow.spoilt W8.out hs9 (fun k h1 h2 => NWA.out k h1 h2))
  have NGA := Aside0.mk (fun (k : Nat) (h1 : (Value.slice (some ⟨g, 0, none⟩) (l.length + 70) (l.length + 70)).ownBlock = some k) (h2 : (Value.slice Aa F.length ca).ownBlock = some k) => (by have := own_base O8.out k h2; have := ob h1; have := own_lt HO.out g rfl; omega : False))
  have HO9 := Aside0.mk (own_spoilt HO8.out hs9 NGA.out)
  have HS9 := Aside0.mk hs9
  have s9 := hs9.grown.size
  have CW9 := Aside0.mk (Kd.R_reads' W9.out).2.2
  have CB9 := Aside0.mk (Kd.R_reads' U9.out).2.2
  clear hs9 O8 U8 W8 HO8 NGA V4 U4 W4 HO4
  go_wp2_with fail
  refine (posthornlaw16_sameInts.calls k4 Ab cb F Aw cw F true _ CB9.out hcb CW9.out hcw K4.out).mono ?_
  rintro e w10 ⟨rfl, ⟨⟨n10, rfl⟩⟩⟩
  go_wp2_with fail
  obtain ⟨w11, h11⟩ : ∃ w11, w11 = w9.drewN n10 := ⟨_, rfl⟩
  rw [← h11]
  have hd11 : Below w9.heap.size w9 w11 := by rw [h11]; exact pw_below_drewN (Below.refl _ _) _
  have HB11 := Aside0.mk hd11
  clear hd11 h11 CW9 CB9
  have U11 := Aside0.mk (Kd.R_below U9.out HB11.out)
  have O11 := Aside0.mk (IntRow.own U11.out)
  have W11 := Aside0.mk (Kd.R_below W9.out HB11.out)
  have HO11 := Aside0.mk (pw_own_below HO9.out HB11.out)
  have s11 := HB11.out.size
  refine (spoilInts_calls w3.heap.size Ab F.length cb w11 ⟨_, O11.out⟩ (by omega) (by omega)).mono ?_
  rintro e w12 ⟨⟨u12, rfl⟩, hs12⟩
  have W12 := Aside0.mk (IntRow.spoilt W11.out hs12 (fun k h1 h2 => NWB.out k h1 h2))
  have NGB := Aside0.mk (fun (k : Nat) (h1 : (Value.slice (some ⟨g, 0, none⟩) (l.length + 70) (l.length + 70)).ownBlock = some k) (h2 : (Value.slice Ab F.length cb).ownBlock = some k) => (by have := own_base O11.out k h2; have := ob h1; have := own_lt HO.out g rfl; omega : False))
  have HO12 := Aside0.mk (own_spoilt HO11.out hs12 NGB.out)
  have hlen : (l ++ List.replicate 70 tilde).length = l.length + 70 := by simp
  have HI12 := Aside0.mk (C_of_own (b := w.heap.size) (cap := l.length + 70) (l := l) (m := List.replicate 70 tilde) (by rw [hlen]; exact HO12.out) (by omega))
  have HS12 := Aside0.mk hs12
  have s12 := hs12.grown.size
  clear hs12 O11 W11 HO11 NGB hlen U9 W9 HO9
  go_wp2_with fail
  refine (field_Find.calls k2 (some ⟨g, 0, none⟩) (l.length + 70) l nm F _ HI12.out (by omega) K2.out).mono ?_
  rintro e w13 ⟨vc, rfl, hvc, hb13⟩
  have HB13 := Aside0.mk hb13
  have s13 := hb13.size
  obtain ⟨Ac, cc, rfl, hcc, hCc⟩ := Kd.R_reads hvc
  have CC13 := Aside0.mk hCc
  have CW13 := Aside0.mk (Kd.R_reads' (Kd.R_below W12.out hb13)).2.2
  clear hb13 hvc hCc
  go_wp2_with fail
  refine (posthornlaw16_sameInts.calls k4 Ac cc F Aw cw F true _ CC13.out hcc CW13.out hcw K4.out).mono ?_
  rintro e w14 ⟨rfl, ⟨⟨n14, rfl⟩⟩⟩
  have hx := C_lit (w13.drewN n14) [⟨⟨#[120]⟩, ⟨#[]⟩⟩, ⟨⟨#[65]⟩, ⟨#[]⟩⟩] (by decide)
  have HX := Aside0.mk hx
  clear hx CC13 CW13
  go_wp2_with fail
  refine (field_Find.calls k3 (some ⟨w13.heap.size, 0, none⟩) 2 [⟨⟨#[120]⟩, ⟨#[]⟩⟩, ⟨⟨#[65]⟩, ⟨#[]⟩⟩] ⟨#[97]⟩ [1] _ HX.out (by decide) K3.out).mono ?_
  rintro e w15 ⟨vd, rfl, hvd, hb15⟩
  have HB15 := Aside0.mk hb15
  obtain ⟨Ad, cd, rfl, hcd, hCd⟩ := Kd.R_reads hvd
  have CD := Aside0.mk hCd
  have hy := C_lit_int w15 [1] (by decide)
  have HY := Aside0.mk hy
  clear hb15 hvd hCd hy HX
  go_wp2_with fail
  refine (posthornlaw16_sameInts.calls k5 Ad cd [1] (some ⟨w15.heap.size, 0, none⟩) 1 [1] true _ (Kd.C_alloc CD.out _) hcd HY.out (by decide) K5.out).mono ?_
  rintro e w16 ⟨rfl, ⟨⟨n16, rfl⟩⟩⟩
  go_wp2
  go_ret
  refine ⟨rfl, ?_⟩
  have g4 : Below w.heap.size w w4 := below_then (below_then (below_then HB.out s1 HB2.out) (by omega) HB3.out) (by omega) HB4.out
  have g9 : Below w.heap.size w w9 := (below_then g4 (by omega) HB8.out).grown HS9.out.grown (by omega) (fun k h => by have := Kd.R_base V8.out k h; omega)
  have g12 : Below w.heap.size w w12 := (below_then g9 (by omega) HB11.out).grown HS12.out.grown (by omega) (fun k h => by have := Kd.R_base U11.out k h; omega)
  have g13 := below_then g12 (by omega) HB13.out
  have g15 := below_then ((pw_below_drewN g13 n14).alloc (by simp; omega) _) (by simp; omega) HB15.out
  have s15 := HB15.out.size
  exact pw_below_drewN (g15.alloc (by simp at s15; omega) _) _
end Go.Proofs.Ytammhcfifnffeaa.FindLaw
