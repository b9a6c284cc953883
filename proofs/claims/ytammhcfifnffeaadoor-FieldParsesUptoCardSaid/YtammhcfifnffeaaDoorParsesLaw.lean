/- FieldParses: the walk of the law, over the contracts of its callees. -/
import Derived.Test.YtammhcfifnffeaaDoorHandBytes
import Derived.Test.YtammhcfifnffeaaDoorSpoilFields
import Derived.Test.YtammhcfifnffeaaDoorParsePure
import Derived.Test.YtammhcfifnffeaaDoorParseRef
import Derived.Deep.QuietTactic
import Derived.BigQuiet
import Derived.Laws.StructEq
import Derived.Lib.SlBytesConst
import Derived.KernelRfl
namespace Go.Proofs.YtammhcfifnffeaaDoor.ParsesLaw
open Go.RowKit Go.Shelf Go.Proofs.YtammhcfifnffeaaDoorW.PrintWords Go.Proofs.YtammhcfifnffeaaDoorW.PrintLast Go.Proofs.YtammhcfifnffeaaDoorW.PrintMore Go.Proofs.YtammhcfifnffeaaDoor.PFieldPrints Go.Proofs.YtammhcfifnffeaaDoor.Octet Go.Proofs.YtammhcfifnffeaaDoor.Hand Go.Proofs.YtammhcfifnffeaaDoor.BytesAny Go.Proofs.YtammhcfifnffeaaDoor.ParseV Go.Proofs.YtammhcfifnffeaaDoor.ParseWalk Go.Proofs.YtammhcfifnffeaaDoor.ParsePure
open Go.Proofs.YtammhcfifnffeaaDoor.Spoil (Spoilt Shaped)
open Go.Proofs.YtammhcfifnffeaaDoor.SpoilFields (spoilF_calls)
attribute [local go_sem] max2_int min2_int max_two min_two max_three min_three max_four min_four
set_option linter.unusedVariables false
set_option linter.unusedSimpArgs false
theorem cells_eq : ∀ (l : List S30) (cs : List Value), cs.length = l.length * 2 → (∀ j p, l[j]? = some p → (cs.drop (j * 2)).take 2 = two p) → cs = cellsOf l
  | [], cs, hl, _ => List.eq_nil_of_length_eq_zero (by simpa using hl)
  | x :: l, cs, hl, h => by
    have h0 := h 0 x rfl
    have ih := cells_eq l (cs.drop 2) (by rw [List.length_drop, hl, List.length_cons]; omega) fun j p hj => by
      have := h (j + 1) p (by simpa using hj)
      rw [List.drop_drop, show 2 + j * 2 = (j + 1) * 2 by omega]
      exact this
    rw [← List.take_append_drop 2 cs]
    show _ = two x ++ cellsOf l
    rw [← ih, ← h0]
    rfl
theorem cells_of_R {w : World} {base : Nat} {ok : Nat → Prop} {v : Value} {l : List S30} (h : k30.R 30 w base ok v l) : w.ownsRow base 30 2 v l.length (cellsOf l) := by
  obtain ⟨_, cs, ho, hl, hr⟩ := h
  have e : cs = cellsOf l := cells_eq l cs hl fun j p hj => k30_openM (hr j p hj)
  rw [← e]
  exact ho
theorem fields_C {w : World} {b : Nat} {v : Value} {l : List S30} (h : w.ownsRow b 30 2 v l.length (cellsOf l)) : ∃ A c, v = .slice A l.length c ∧ l.length ≤ c ∧ Kd.C k30 w A l.length l := Kd.R_reads (R_of_cells h)
theorem C_own {w : World} {b n c : Nat} {A : Option Addr} {l : List S30} (hn : l.length = n) (h : w.ownsRow b 30 2 (.slice A n c) n (cellsOf l)) : Kd.C k30 w A n l := by
  subst hn
  obtain ⟨A', c', e, _, hC⟩ := fields_C h
  cases e
  exact hC
theorem drawn_below {w w1 : World} (h : Drawn0 w w1) : Below w.heap.size w w1 := by
  obtain ⟨⟨nd, rfl⟩⟩ := h
  exact pw_below_drewN (Below.refl _ _) nd
theorem apart {v u : Value} (h : ∀ k, v.ownBlock = some k → u.ownBlock = some k → False) : v.ownBlock = none ∨ v.ownBlock ≠ u.ownBlock := by
  cases e : v.ownBlock with
  | none => exact .inl rfl
  | some k => exact .inr fun e2 => h k e e2.symm
/-- bytes of a literal lie in their block -/
theorem lit_C (W : World) (s : ByteArray) (cs : Array Value) (hcs : cs = ((bytesOf s).map (Value.int .u8)).toArray) (fr : Nat × Nat) (hs : s.size ≤ 9223372036854775807) :
    Kd.C (Kd.int .u8) (W.alloc (.cells cs 5 fr)) (some ⟨W.heap.size, 0, none⟩) s.size (bytesOf s) := by
  refine C_of_At (fun j hj => ?_) hs
  have hh : (W.alloc (.cells cs 5 fr)).heap[W.heap.size]? = some (.cells cs 5 fr) := heap_alloc_new W _
  unfold World.cell?
  rw [hh]
  simp only [Option.isSome_none, Bool.false_eq_true, if_false, Nat.zero_add]
  rw [hcs, List.getElem?_toArray, List.getElem?_map, bytes_at s j hj]
  rfl
def msg : ByteArray := ⟨#[65, 58, 49, 13, 10, 13, 10]⟩
theorem msg_parse : parseV msg.data.toList = ([⟨⟨#[65]⟩, ⟨#[49]⟩⟩], 7, 0, 0) := by kernel_rfl
theorem few_step {L : List UInt8} {i : Nat} {acc : List S30} (h : acc.length ≤ 4096) (a : List S30) (j : Nat) (hr : rowStep L i acc = .done a j ∨ rowStep L i acc = .next a j) : a.length ≤ 4096 := by
  unfold rowStep at hr
  repeat' split at hr
  all_goals (rcases hr with hr | hr <;> cases hr)
  all_goals first
    | exact h
    | (rw [bump_length]; exact h)
    | (rw [List.length_append, List.length_singleton]; omega)
theorem few_go {L : List UInt8} : ∀ (k i : Nat) (acc : List S30), acc.length ≤ 4096 → (parseGo L k i acc).1.length ≤ 4096
  | 0, i, acc, h => h
  | k + 1, i, acc, h => by
    unfold parseGo
    cases hr : rowStep L i acc with
    | done a j => exact few_step h a j (.inl hr)
    | fail e j => exact Nat.zero_le _
    | next a j => exact few_go k j a (few_step h a j (.inr hr))
theorem few (L : List UInt8) : (parseV L).1.length ≤ 4096 := few_go _ 0 [] (Nat.zero_le _)
set_option maxHeartbeats 4000000 in
set_option maxRecDepth 100000 in
theorem law_calls (A : Option Addr) (c : Nat) (s : ByteArray) (m : Int) (w : World) (hr : Kd.C (Kd.int .u8) w A s.size (bytesOf s)) (hc : s.size ≤ c) (hA : A = none → c = 0) (hsz : s.size ≤ 1048576) (hm : w.cell? ⟨0, 0, none⟩ = some (.int .i64 m)) (hT : Laid w) (hU : Lib.Utf8Tabs 1 2 w) :
    Calls Tryd.prog 5 #[.slice A s.size c] w fun e w' => e = .returned (.bool true) ∧ Below w.heap.size w w' := by
  have hu30 := Tryd.underlying30
  have hu39 := Tryd.underlying39
  have h0lt := World.block_lt_of_cell? w _ hm
  obtain ⟨k1, hk1⟩ := parse_f s (by omega)
  have hbl : (bytesOf s).length = s.size := bytes_len s
  obtain ⟨V, hV⟩ : ∃ V, V = parseV s.data.toList := ⟨_, rfl⟩
  rw [← hV] at hk1
  have hfew : V.1.length ≤ 4096 := by rw [hV]; exact few _
  obtain ⟨l, at1, er, sp⟩ := V
  simp only at hk1 hfew
  have HVV := Lib.hid hV.symm
  have K1 := Lib.hid hk1
  have HR := Lib.hid hr
  have HM := Lib.hid hm
  have HT := Lib.hid hT
  have HU := Lib.hid hU
  have HBL := Lib.hid hbl
  have HA := Lib.hid hA
  obtain ⟨k2, hk2⟩ := same_refl l (by omega)
  have HSAME := Lib.hid (fun (W : World) (X : Option Addr) (cx : Nat) (bx : Nat) (Y : Option Addr) (cy : Nat) (bY : Nat) (hx : W.ownsRow bx 30 2 (.slice X l.length cx) l.length (cellsOf l)) (hcx : l.length ≤ cx) (hy : W.ownsRow bY 30 2 (.slice Y l.length cy) l.length (cellsOf l)) (hcy : l.length ≤ cy) => posthornref16_Same.calls k2 X cx l Y cy l true W (C_own rfl hx) hcx (C_own rfl hy) hcy hk2)
  clear hk2
  have HLENT := Lib.hid (fun (W : World) (hb : Below w.heap.size w W) => HandBytes.lent_calls A c s.size (bytesOf s) W hbl (Kd.C_below hr hb) hc hA (by omega))
  have HL1 := Lib.hid (HandBytes.lent_calls A c s.size (bytesOf s) w hbl hr hc hA (by omega))
  clear hk1 hr hm hT hU hbl hV hA
  go_enter Tryd.func5, Tryd.ntmps5
  go_wp2_with fail
  refine HL1.out.mono ?_
  rintro e w1 ⟨g1, rfl, ho1, hb1⟩
  have HB1 := Lib.hid hb1
  have HO1 := Lib.hid ho1
  have hg1 : w.heap.size ≤ g1 := own_base ho1 g1 rfl
  have hg1' : g1 < w1.heap.size := own_lt ho1 g1 rfl
  have HRP := Lib.hid (posthornref16_Parse.calls k1 A c (bytesOf s) _ _ _ _ w1 (by rw [HBL.out]; exact Kd.C_below HR.out hb1) (by rw [HBL.out]; exact hc) K1.out)
  rw [HBL.out] at HRP
  clear ho1 hb1 HL1
  go_wp2_with fail
  refine HRP.out.mono ?_
  rintro e w2 ⟨v2, rfl, hv2, hb2⟩
  have ho2 := cells_of_R hv2
  obtain ⟨A2, c2, rfl, hc2, _⟩ := fields_C ho2
  have hB2 := HB1.out.trans (hb2.mono HB1.out.size)
  have hx2 := hb2.alloc hb2.size (.cells #[.int .i64 er, .int .i64 (sp : Int)] 39)
  have HB2 := Lib.hid (hB2.alloc hB2.size (.cells #[.int .i64 er, .int .i64 (sp : Int)] 39))
  have HO2 := Lib.hid (ho2.alloc (.cells #[.int .i64 er, .int .i64 (sp : Int)] 39))
  have HG2 := Lib.hid (pw_own_below HO1.out hx2)
  have hS2 : (w2.alloc (.cells #[.int .i64 er, .int .i64 (sp : Int)] 39)).heap[w2.heap.size]? = some (.cells #[.int .i64 er, .int .i64 (sp : Int)] 39 (0, 0)) := World.alloc_heap_new w2 _
  have HS2 := Lib.hid hS2
  have hlt2 : ∀ k, (Value.slice A2 l.length c2).ownBlock = some k → w1.heap.size ≤ k ∧ k < w2.heap.size := fun k hk => ⟨own_base ho2 k hk, own_lt ho2 k hk⟩
  have hw12 : w1.heap.size ≤ w2.heap.size := hb2.size
  have HLT2 := Lib.hid hlt2
  have HP := Lib.hid (fun (W : World) (hb : Below w.heap.size w W) (ho : W.ownsRow w.heap.size 5 1 (.slice (some ⟨g1, 0, none⟩) (s.size + 70) (s.size + 70)) (s.size + 70) (HandBytes.marks (bytesOf s) 70)) =>
    parse_calls (some ⟨g1, 0, none⟩) (s.size + 70) s m W (HandBytes.C_of_marks HBL.out (by omega) ho) (by omega) (by omega) ((hb.cell h0lt).trans HM.out) (HT.out.below HT.out.size hb) (Utf8Tabs_below HU.out hb))
  have HP2 := Lib.hid (HP.out _ HB2.out HG2.out)
  rw [HVV.out] at HP2
  clear hv2 ho2 hb2 hB2 hx2 hS2 hlt2 HRP HO1
  go_wp2_with fail
  refine HP2.out.mono ?_
  rintro e w3 ⟨v3, l3, i3, er3, sp3, hv, rfl, ho3, hb3⟩
  obtain ⟨e1, e2⟩ := Prod.mk.inj hv
  obtain ⟨e2, e3⟩ := Prod.mk.inj e2
  obtain ⟨e3, e4⟩ := Prod.mk.inj e3
  subst e1
  subst e2
  subst e3
  subst e4
  obtain ⟨A3, c3, rfl, hc3, _⟩ := fields_C ho3
  have hx3 := hb3.alloc hb3.size (.cells #[.int .i64 er, .int .i64 (sp : Int)] 39)
  have HB3 := Lib.hid (HB2.out.trans (hx3.mono HB2.out.size))
  have HO3 := Lib.hid (ho3.alloc (.cells #[.int .i64 er, .int .i64 (sp : Int)] 39))
  have HO23 := Lib.hid (pw_own_below HO2.out hx3)
  have HG3 := Lib.hid (pw_own_below HG2.out hx3)
  have HS23 := Lib.hid ((hx3.block _ (Array.getElem?_eq_some_iff.1 HS2.out).1).trans HS2.out)
  have hS3 : (w3.alloc (.cells #[.int .i64 er, .int .i64 (sp : Int)] 39)).heap[w3.heap.size]? = some (.cells #[.int .i64 er, .int .i64 (sp : Int)] 39 (0, 0)) := World.alloc_heap_new w3 _
  have HS3 := Lib.hid hS3
  have hw23 : w2.heap.size < w3.heap.size := by have := hb3.size; rw [World.size_alloc] at this; omega
  have HLT3 := Lib.hid (show ∀ k, (Value.slice A3 l.length c3).ownBlock = some k → w2.heap.size < k ∧ k < w3.heap.size from fun k hk => ⟨by have := own_base ho3 k hk; rw [World.size_alloc] at this; omega, own_lt ho3 k hk⟩)
  have HP3 := Lib.hid (HP.out _ HB3.out HG3.out)
  rw [HVV.out] at HP3
  clear ho3 hb3 hx3 hS3 HO2 HG2 HS2 HP2 hv
  go_wp2_with fail
  refine HP3.out.mono ?_
  rintro e w4 ⟨v4, l4, i4, er4, sp4, hv, rfl, ho4, hb4⟩
  obtain ⟨e1, e2⟩ := Prod.mk.inj hv
  obtain ⟨e2, e3⟩ := Prod.mk.inj e2
  obtain ⟨e3, e4⟩ := Prod.mk.inj e3
  subst e1
  subst e2
  subst e3
  subst e4
  obtain ⟨A4, c4, rfl, hc4, _⟩ := fields_C ho4
  have hx4 := hb4.alloc hb4.size (.cells #[.int .i64 er, .int .i64 (sp : Int)] 39)
  have HB4 := Lib.hid (HB3.out.trans (hx4.mono HB3.out.size))
  have HO4 := Lib.hid (ho4.alloc (.cells #[.int .i64 er, .int .i64 (sp : Int)] 39))
  have HO34 := Lib.hid (pw_own_below HO3.out hx4)
  have HO24 := Lib.hid (pw_own_below HO23.out hx4)
  have HG4 := Lib.hid (pw_own_below HG3.out hx4)
  have hS24 := ((hx4.block _ (Array.getElem?_eq_some_iff.1 HS23.out).1).trans HS23.out)
  have hS34 := ((hx4.block _ (Array.getElem?_eq_some_iff.1 HS3.out).1).trans HS3.out)
  have hS4 : (w4.alloc (.cells #[.int .i64 er, .int .i64 (sp : Int)] 39)).heap[w4.heap.size]? = some (.cells #[.int .i64 er, .int .i64 (sp : Int)] 39 (0, 0)) := World.alloc_heap_new w4 _
  have hw34 : w3.heap.size < w4.heap.size := by have := hb4.size; rw [World.size_alloc] at this; omega
  have HLT4 := Lib.hid (show ∀ k, (Value.slice A4 l.length c4).ownBlock = some k → w3.heap.size < k ∧ k < w4.heap.size from fun k hk => ⟨by have := own_base ho4 k hk; rw [World.size_alloc] at this; omega, own_lt ho4 k hk⟩)
  have s0 := blk_cell hS24 0
  have s1 := blk_cell hS24 1
  have t0 := blk_cell hS34 0
  have t1 := blk_cell hS34 1
  have u0 := blk_cell hS4 0
  have u1 := blk_cell hS4 1
  clear ho4 hb4 hx4 hS24 hS34 hS4 HO3 HO23 HG3 HS23 HS3 HP3 hv
  go_wp2_with fail
  clear s0 s1 t0 t1 u0 u1
  refine (HSAME.out _ A3 c3 _ A2 c2 _ HO34.out hc3 HO24.out hc2).mono ?_
  rintro e w5 ⟨rfl, hd5⟩
  have hb5 := drawn_below hd5
  have HB5 := Lib.hid (HB4.out.trans (hb5.mono HB4.out.size))
  have HO25 := Lib.hid (pw_own_below HO24.out hb5)
  have HO35 := Lib.hid (pw_own_below HO34.out hb5)
  have HO45 := Lib.hid (pw_own_below HO4.out hb5)
  have HG5 := Lib.hid (pw_own_below HG4.out hb5)
  have hw45 : w4.heap.size < w5.heap.size := by have := hb5.size; rw [World.size_alloc] at this; omega
  clear hd5 hb5 HO24 HO34 HO4 HG4 HB4
  go_wp2_with fail
  refine (HSAME.out _ A4 c4 _ A2 c2 _ HO45.out hc4 HO25.out hc2).mono ?_
  rintro e w6 ⟨rfl, hd6⟩
  have hb6 := drawn_below hd6
  have HB6 := Lib.hid (HB5.out.trans (hb6.mono HB5.out.size))
  have HO26 := Lib.hid (pw_own_below HO25.out hb6)
  have HO36 := Lib.hid (pw_own_below HO35.out hb6)
  have HO46 := Lib.hid (pw_own_below HO45.out hb6)
  have HG6 := Lib.hid (pw_own_below HG5.out hb6)
  have hw56 : w5.heap.size ≤ w6.heap.size := hb6.size
  clear hd6 hb6 HO25 HO35 HO45 HG5 HB5
  go_wp2_with fail
  refine (HandBytes.kept_calls _ g1 s.size A c (bytesOf s) w6 HBL.out (by omega) HG6.out (Kd.C_below HR.out HB6.out) hc).mono ?_
  rintro e w7 ⟨rfl, hd7⟩
  have hb7 := drawn_below hd7
  have HB7 := Lib.hid (HB6.out.trans (hb7.mono HB6.out.size))
  have HO27 := Lib.hid (pw_own_below HO26.out hb7)
  have HO37 := Lib.hid (pw_own_below HO36.out hb7)
  have HO47 := Lib.hid (pw_own_below HO46.out hb7)
  have HG7 := Lib.hid (pw_own_below HG6.out hb7)
  have hw67 : w6.heap.size ≤ w7.heap.size := hb7.size
  clear hd7 hb7 HO26 HO36 HO46 HG6 HB6
  go_wp2_with fail
  have hww : w.heap.size ≤ w1.heap.size := HB1.out.size
  have hl90 : (l.length + 90) * 32 ≤ 140737488355328 := by omega
  refine (spoilF_calls (w2.heap.size + 1) A3 l.length c3 w7 ⟨_, by have := HO37.out; rw [World.size_alloc] at this; exact this⟩ (by omega) hl90).mono ?_
  rintro e w8 ⟨⟨_, rfl⟩, hsp8⟩
  have hg8 := hsp8.grown
  have HB8 := Lib.hid (HB7.out.grown hg8 HB7.out.size (fun k hk => by have := (HLT3.out k hk).1; omega))
  have HO28 := Lib.hid (own_other HO27.out hg8 (apart fun k h1 h2 => by have := (HLT2.out k h1).2; have := (HLT3.out k h2).1; omega))
  have HO48 := Lib.hid (own_other HO47.out hg8 (apart fun k h1 h2 => by have := (HLT4.out k h1).1; have := (HLT3.out k h2).2; omega))
  have HG8 := Lib.hid (own_other HG7.out hg8 (apart fun k h1 h2 => by have e : g1 = k := Option.some.inj h1; have := (HLT3.out k h2).1; omega))
  have hw78 : w7.heap.size ≤ w8.heap.size := hg8.size
  clear hsp8 hg8 HO27 HO37 HO47 HG7 HB7
  go_wp2_with fail
  refine (HSAME.out _ A4 c4 _ A2 c2 _ HO48.out hc4 HO28.out hc2).mono ?_
  rintro e w9 ⟨rfl, hd9⟩
  have hb9 := drawn_below hd9
  have HB9 := Lib.hid (HB8.out.trans (hb9.mono HB8.out.size))
  have HO29 := Lib.hid (pw_own_below HO28.out hb9)
  have HO49 := Lib.hid (pw_own_below HO48.out hb9)
  have HG9 := Lib.hid (pw_own_below HG8.out hb9)
  have hw89 : w8.heap.size ≤ w9.heap.size := hb9.size
  clear hd9 hb9 HO28 HO48 HG8 HB8
  go_wp2_with fail
  refine (spoilF_calls (w3.heap.size + 1) A4 l.length c4 w9 ⟨_, by have := HO49.out; rw [World.size_alloc] at this; exact this⟩ (by omega) hl90).mono ?_
  rintro e w10 ⟨⟨_, rfl⟩, hsp10⟩
  have hg10 := hsp10.grown
  have HB10 := Lib.hid (HB9.out.grown hg10 HB9.out.size (fun k hk => by have := (HLT4.out k hk).1; omega))
  have HO210 := Lib.hid (own_other HO29.out hg10 (apart fun k h1 h2 => by have := (HLT2.out k h1).2; have := (HLT4.out k h2).1; omega))
  have HG10 := Lib.hid (own_other HG9.out hg10 (apart fun k h1 h2 => by have e : g1 = k := Option.some.inj h1; have := (HLT4.out k h2).1; omega))
  have hw910 : w9.heap.size ≤ w10.heap.size := hg10.size
  clear hsp10 hg10 HO29 HO49 HG9 HB9
  go_wp2
  go_loopw [86] (fun v wr => ∃ k : Nat, k ≤ s.size ∧ v = .int .i64 k ∧ Spoilt w10 wr (.slice (some ⟨g1, 0, none⟩) (s.size + 70) (s.size + 70))) (fun v _ => s.size - (intOf v).toNat)
  case atStart => exact ⟨0, by omega, rfl, .refl _ _⟩
  case round =>
    obtain ⟨k, hk, rfl, hS⟩ := hrel
    by_cases hlt : k < s.size
    · obtain ⟨u, hu, hf⟩ := Spoil.own_cell_at (hS.shaped.own ⟨_, HG10.out⟩) k (by omega)
      go_wp2
      go_roundw
      case rel => exact ⟨k + 1, by omega, by go_num, hS.set _ _ (.inl rfl) _⟩
      case measure => simp [intOf]; omega
    · obtain rfl : k = s.size := by omega
      have hg11 := hS.grown
      have HB11 := Lib.hid (HB10.out.grown hg11 HB10.out.size (fun k hk => by have e : g1 = k := Option.some.inj hk; omega))
      have HO11 := Lib.hid (own_other HO210.out hg11 (apart fun k h1 h2 => by have := (HLT2.out k h1).1; have e : g1 = k := Option.some.inj h2; omega))
      have hw1011 : w10.heap.size ≤ wr.heap.size := hg11.size
      clear hS hg11 HO210 HG10 HB10
      go_wp2_with fail
      refine (HLENT.out wr HB11.out).mono ?_
      rintro e w12 ⟨g2, rfl, hg12, hb12⟩
      have HB12 := Lib.hid (HB11.out.trans (hb12.mono HB11.out.size))
      have HO12 := Lib.hid (pw_own_below HO11.out hb12)
      have HP12 := Lib.hid (parse_calls (some ⟨g2, 0, none⟩) (s.size + 70) s m w12 (HandBytes.C_of_marks HBL.out (by omega) hg12) (by omega) (by omega) ((HB12.out.cell h0lt).trans HM.out) (HT.out.below HT.out.size HB12.out) (Utf8Tabs_below HU.out HB12.out))
      rw [HVV.out] at HP12
      clear hg12 hb12 HO11 HB11
      go_wp2_with fail
      refine HP12.out.mono ?_
      rintro e w13 ⟨v13, l13, i13, er13, sp13, hv, rfl, ho13, hb13⟩
      obtain ⟨e1, e2⟩ := Prod.mk.inj hv
      obtain ⟨e2, e3⟩ := Prod.mk.inj e2
      obtain ⟨e3, e4⟩ := Prod.mk.inj e3
      subst e1
      subst e2
      subst e3
      subst e4
      obtain ⟨A13, c13, rfl, hc13, _⟩ := fields_C ho13
      have hx13 := hb13.alloc hb13.size (.cells #[.int .i64 er, .int .i64 (sp : Int)] 39)
      have HB13 := Lib.hid (HB12.out.trans (hx13.mono HB12.out.size))
      have HO13 := Lib.hid (ho13.alloc (.cells #[.int .i64 er, .int .i64 (sp : Int)] 39))
      have HO213 := Lib.hid (pw_own_below HO12.out hx13)
      have hcv := Lib.run_convert_bytes_const (w13.alloc (.cells #[.int .i64 er, .int .i64 (sp : Int)] 39)) 24 5 #[.int .u8 65, .int .u8 58, .int .u8 49, .int .u8 13, .int .u8 10, .int .u8 13, .int .u8 10] 7 7 Tryd.underlying24 Tryd.underlying5
      have hy : Below (w13.alloc (.cells #[.int .i64 er, .int .i64 (sp : Int)] 39)).heap.size (w13.alloc (.cells #[.int .i64 er, .int .i64 (sp : Int)] 39)) ((w13.alloc (.cells #[.int .i64 er, .int .i64 (sp : Int)] 39)).alloc (.cells #[.int .u8 65, .int .u8 58, .int .u8 49, .int .u8 13, .int .u8 10, .int .u8 13, .int .u8 10] 5 (7, 8))) := (Below.refl _ _).alloc (Nat.le_refl _) _
      have hB14 := HB13.out.trans (hy.mono HB13.out.size)
      have HB14 := Lib.hid hB14
      have HO14 := Lib.hid (pw_own_below HO13.out hy)
      have HO214 := Lib.hid (pw_own_below HO213.out hy)
      have hP14 := parse_calls (some ⟨(w13.alloc (.cells #[.int .i64 er, .int .i64 (sp : Int)] 39)).heap.size, 0, none⟩) 7 msg m _ (lit_C (w13.alloc (.cells #[.int .i64 er, .int .i64 (sp : Int)] 39)) msg #[.int .u8 65, .int .u8 58, .int .u8 49, .int .u8 13, .int .u8 10, .int .u8 13, .int .u8 10] rfl (7, 8) (by decide)) (by decide) (by decide) ((hB14.cell h0lt).trans HM.out) (HT.out.below HT.out.size hB14) (Utf8Tabs_below HU.out hB14)
      rw [msg_parse, World.size_alloc] at hP14
      rw [World.size_alloc] at hcv
      have HP14 := Lib.hid hP14
      clear ho13 hb13 hx13 HO12 HB12 HO13 HO213 hy hB14 hP14 HP12 hv
      go_wp2_with fail
      refine HP14.out.mono ?_
      rintro e w14 ⟨v14, l14, i14, er14, sp14, hv, rfl, ho14, hb14⟩
      obtain ⟨e1, e2⟩ := Prod.mk.inj hv
      obtain ⟨e2, e3⟩ := Prod.mk.inj e2
      obtain ⟨e3, e4⟩ := Prod.mk.inj e3
      subst e1
      subst e2
      subst e3
      subst e4
      obtain ⟨g14, c14, rfl, _, _⟩ := ParseWalk.own_form ho14 (by decide)
      have hx14 := hb14.alloc hb14.size (.cells #[.int .i64 0, .int .i64 0] 39)
      have HBZ := Lib.hid (HB14.out.trans (hx14.mono HB14.out.size))
      have HOZ := Lib.hid (pw_own_below HO14.out hx14)
      have HO2Z := Lib.hid (pw_own_below HO214.out hx14)
      have hoz := ho14.alloc (.cells #[.int .i64 0, .int .i64 0] 39)
      have x0 := (ParseWalk.own_cell_at hoz 0 (.string ⟨#[65]⟩) rfl).1
      have x1 := (ParseWalk.own_cell_at hoz 1 (.string ⟨#[49]⟩) rfl).1
      have hSZ : (w14.alloc (.cells #[.int .i64 0, .int .i64 0] 39)).heap[w14.heap.size]? = some (.cells #[.int .i64 0, .int .i64 0] 39 (0, 0)) := World.alloc_heap_new w14 _
      have z0 := blk_cell hSZ 0
      have z1 := blk_cell hSZ 1
      clear ho14 hb14 hx14 HO14 HO214 HB14 hcv hoz hSZ HP14 hv
      have HSM := Lib.hid (HSAME.out _ A13 c13 _ A2 c2 _ HOZ.out hc13 HO2Z.out hc2)
      go_wp2_with (go_at_call 23; refine HSM.out.mono ?_; rintro e w15 ⟨rfl, ⟨⟨nz, rfl⟩⟩⟩)
      go_ret
      exact ⟨by simp, pw_below_drewN HBZ.out nz⟩
end Go.Proofs.YtammhcfifnffeaaDoor.ParsesLaw
