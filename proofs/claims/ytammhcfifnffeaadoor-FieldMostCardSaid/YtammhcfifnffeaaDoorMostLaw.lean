/- FieldMost: the walk of the law, over the contracts of its callees. -/
import Derived.Test.YtammhcfifnffeaaDoorMostPure
import Derived.Test.YtammhcfifnffeaaDoorKeep
import Derived.Test.YtammhcfifnffeaaDoorWakes
import Derived.Test.YtammhcfifnffeaaDoorCheckPure
import Derived.Deep.QuietTactic
import Derived.BigQuiet
import Derived.Laws.StructEq
namespace Go.Proofs.YtammhcfifnffeaaDoor.MostLaw
open Go.RowKit Go.Shelf Go.Proofs.YtammhcfifnffeaaDoorW.PrintWords Go.Proofs.YtammhcfifnffeaaDoorW.PrintLast Go.Proofs.YtammhcfifnffeaaDoorW.PrintMore Go.Proofs.YtammhcfifnffeaaDoor.PFieldPrints Go.Proofs.YtammhcfifnffeaaDoor.Octet Go.Proofs.YtammhcfifnffeaaDoor.CheckWalk Go.Proofs.YtammhcfifnffeaaDoor.PrintWalk Go.Proofs.YtammhcfifnffeaaDoor.Hand Go.Proofs.YtammhcfifnffeaaDoor.BytesAny Go.Proofs.YtammhcfifnffeaaDoor.ParseV Go.Proofs.YtammhcfifnffeaaDoor.ParseWalk Go.Proofs.YtammhcfifnffeaaDoor.Wakes Go.Proofs.YtammhcfifnffeaaDoor.Back Go.Proofs.YtammhcfifnffeaaDoor.MostPure Go.Proofs.YtammhcfifnffeaaDoor.Keep
attribute [local go_sem] max2_int min2_int max_two min_two max_three min_three max_four min_four
set_option linter.unusedVariables false
set_option linter.unusedSimpArgs false
theorem reads_bytes {W : World} {A : Option Addr} {n : Nat} {xs : List Int} (h : Kd.C (Kd.int .u8) W A n xs) : ReadsInt W .u8 A n xs := Kd.reads_of_C (enc := Value.int .u8) (d := (0 : Int)) (h1 := fun _ => rfl) h
theorem cells_more (n : Nat) : cellsOf (many n) ++ [.string ⟨#[65]⟩, .string ⟨#[]⟩] = cellsOf (many (n + 1)) := by
  rw [← many_more, cellsOf_append]
  rfl
set_option maxHeartbeats 4000000 in
set_option maxRecDepth 100000 in
theorem law_calls (m : Int) (w : World) (hm : w.cell? ⟨0, 0, none⟩ = some (.int .i64 m)) (hT : Laid w) (hU : Lib.Utf8Tabs 1 2 w) :
    Calls Tryd.prog 10 #[] w fun e w' => e = .returned (.bool true) ∧ Below w.heap.size w w' := by
  have hu30 := Tryd.underlying30
  have hu39 := Tryd.underlying39
  have h0lt := World.block_lt_of_cell? w _ hm
  have HM := Lib.hid hm
  have HT := Lib.hid hT
  have HU := Lib.hid hU
  clear hm hT hU
  have i30 : (Tryd.prog.info? 30).map (fun i => (i.zero, i.size, i.bytes)) = some (some (Value.agg #[.string ⟨#[]⟩, .string ⟨#[]⟩]), 2, 32) := by kernel_rfl
  go_enter Tryd.func10, Tryd.ntmps10
  go_wp2_with fail
  refine (wakes_calls m _ HM.out HT.out HU.out).mono ?_
  rintro e w1 ⟨rfl, hb1⟩
  have HB1 := Lib.hid hb1
  clear hb1
  go_wp2
  go_loopw [1, 17] (fun v i wr => ∃ n : Nat, n ≤ 4096 ∧ i = .int .i64 n ∧ wr.ownsRow w.heap.size 30 2 v n (cellsOf (many n)) ∧ Below w.heap.size w wr) (fun _ i _ => 4096 - (intOf i).toNat)
  case atStart => exact ⟨0, by omega, rfl, ⟨rfl, .inl ⟨rfl, rfl⟩⟩, HB1.out⟩
  case round =>
    obtain ⟨n, hn, rfl, hO, hB⟩ := hrel
    have HO := Lib.hid hO
    have HB := Lib.hid hB
    clear hO hB
    by_cases hlt : n < 4096
    · go_wp2_with (at_builtin; refine print_append_cells (w0 := w) w.heap.size rfl (.tmp 19) (.tmp 21) 22 30 (.agg #[.string ⟨#[]⟩, .string ⟨#[]⟩]) 2 32 rfl Tryd.underlying22 i30 rfl (by decide) (by decide) _ n (cellsOf (many n)) [.string ⟨#[65]⟩, .string ⟨#[]⟩] rfl rfl rfl (one_two _ _) HO.out HB.out HB.out.size (by omega) ?_; intro v1 w2 ho1 hb1 _ _; rw [cells_more] at ho1; have HO1 := Lib.hid ho1; have HB2 := Lib.hid hb1; clear ho1 hb1)
      go_roundw
      case rel => exact ⟨n + 1, by omega, by go_num, HO1.out, HB2.out⟩
      case measure => simp [intOf]; omega
    · obtain rfl : n = 4096 := by omega
      obtain ⟨L, hL⟩ : ∃ L, L = many 4096 := ⟨_, rfl⟩
      have hO := HO.out
      rw [← hL] at hO
      have hLn : L.length = 4096 := by rw [hL]; exact many_len 4096
      have LF := Lib.hid (show parseV (L.flatMap lineU) = (L, 16384, 0, 0) ∧ parseV (L.flatMap lineU ++ [65, 58, 13, 10]) = ([], 0, 160, 16384) ∧ parseV (L.flatMap lineU ++ [13, 10]) = (L, 16386, 0, 0) ∧ printV (L ++ [MostPure.one]) = ([], 160) by rw [hL]; exact ⟨read_alone, read_over, read_ahead, by rw [many_more]; exact over_print⟩)
      have LS := Lib.hid (show (∀ f ∈ L, f = MostPure.one) by rw [hL]; exact fun f hf => List.eq_of_mem_replicate hf)
      obtain ⟨t, ht⟩ : ∃ t : ByteArray, t = ⟨(L.flatMap lineU).toArray⟩ := ⟨_, rfl⟩
      have hlines : L.flatMap line = bytesOf t := by
        rw [ht]
        unfold bytesOf
        rw [List.map_flatMap]
        have e : ∀ f : S30, line f = (lineU f).map fun (c : UInt8) => (c.toNat : Int) := fun f => by unfold line lineU bytesOf; simp
        congr 1
        funext f
        exact e f
      have hts : t.size = 16384 := by rw [ht]; show (L.flatMap lineU).length = _; rw [hL]; exact many_lines 4096
      have htl : t.data.toList = L.flatMap lineU := by rw [ht]
      have hpv : printV L = (bytesOf t, 0) := by
        unfold printV
        rw [if_neg (by rw [hLn]; decide), firstBad_all fun j g hg => by rw [LS.out g (List.mem_of_getElem? hg)]; exact one_ok, if_pos rfl, hlines]
      have hS : Small L := ⟨fun f hf => by rw [LS.out f hf]; decide, by rw [hlines, bytes_len, hts]; decide⟩
      have HS5 := Lib.hid (show Small (L ++ [MostPure.one]) from ⟨fun f hf => by
        rcases List.mem_append.1 hf with hf | hf
        · rw [LS.out f hf]; decide
        · rw [List.mem_singleton.1 hf]; decide, by rw [List.flatMap_append, List.length_append, hlines, bytes_len, hts]; decide⟩)
      clear HO hL ht hlines
      have HO := Lib.hid hO
      obtain ⟨A, c, hv, hc, hC⟩ := fields_C (l := L) (by rw [hLn]; exact hO)
      subst hv
      have HP := Lib.hid (print_calls A c L m wr hC hc hS ((HB.out.cell h0lt).trans HM.out) (HT.out.below HT.out.size HB.out))
      rw [hLn] at hc
      rw [hLn, hpv] at HP
      have HTL := Lib.hid htl
      have HTS := Lib.hid hts
      rw [hLn] at HO ⊢
      have HLN := Lib.hid hLn
      clear hts htl hpv hC hO hS hLn
      go_wp2_with fail
      refine HP.out.mono ?_
      rintro e w3 ⟨vb, rfl, hvb, hb3⟩
      have hob := Kd.own_of_R hvb
      obtain ⟨Ab, cb, hvb2, hcb, hCb⟩ := Kd.R_reads hvb
      obtain ⟨g, cap, hvb3, hgb, hgl⟩ := own_form hob (by rw [bytes_len, HTS.out]; decide)
      rw [hvb3] at hvb2
      cases hvb2
      subst hvb3
      rw [bytes_len] at hcb hCb ⊢
      have HBR3 := Lib.hid hb3
      have HB3 := Lib.hid (HB.out.trans (hb3.mono HB.out.size))
      have HO3 := Lib.hid (pw_own_below HO.out hb3)
      have HOB3 := Lib.hid hob
      have HPA := Lib.hid (parse_calls (some ⟨g, 0, none⟩) cb t m w3 hCb hcb (by rw [HTS.out]; decide) ((HB3.out.cell h0lt).trans HM.out) (HT.out.below HT.out.size HB3.out) (Utf8Tabs_below HU.out HB3.out))
      rw [HTL.out, LF.out.1] at HPA
      clear hvb hob hCb hb3 HP
      go_wp2_with fail
      refine HPA.out.mono ?_
      rintro e w4 ⟨v4, l4, i4, er4, sp4, hv, rfl, ho4, hb4⟩
      obtain ⟨e1, e2⟩ := Prod.mk.inj hv
      obtain ⟨e2, e3⟩ := Prod.mk.inj e2
      obtain ⟨e3, e4⟩ := Prod.mk.inj e3
      subst e1
      subst e2
      subst e3
      subst e4
      obtain ⟨A4, c4, rfl, hc4, _⟩ := fields_C ho4
      rw [HLN.out]
      have hA4 : Below w3.heap.size w3 (w4.alloc (.cells #[.int .i64 0, .int .i64 0] 39)) := hb4.alloc hb4.size _
      have HB4 := Lib.hid (HB3.out.trans (hA4.mono HB3.out.size))
      have HO4 := Lib.hid (pw_own_below HO3.out hA4)
      have HOB4 := Lib.hid (pw_own_below HOB3.out hA4)
      have hS4 : (w4.alloc (.cells #[.int .i64 0, .int .i64 0] 39)).heap[w4.heap.size]? = some (.cells #[.int .i64 0, .int .i64 0] 39 (0, 0)) := World.alloc_heap_new w4 _
      have HS4 := Lib.hid hS4
      have hsz4 : wr.heap.size ≤ w4.heap.size := Nat.le_trans HBR3.out.size hb4.size
      have hg4 : g < w4.heap.size := Nat.lt_of_lt_of_le hgl hb4.size
      have HAL := Lib.hid (own_lt HO.out)
      clear hA4 hS4 ho4 hb4 HPA HO3 HOB3
      go_wp2_with (at_builtin; refine print_append_cells (w0 := w) w.heap.size rfl (.tmp 36) (.tmp 38) 22 30 (.agg #[.string ⟨#[]⟩, .string ⟨#[]⟩]) 2 32 rfl Tryd.underlying22 i30 rfl (by decide) (by decide) _ 4096 (cellsOf L) [.string ⟨#[65]⟩, .string ⟨#[]⟩] rfl (by simp [Act.eval]) rfl (one_two _ _) HO4.out HB4.out HB4.out.size (by decide) ?_; intro v5 w5 ho5 hb5 hg5 _; have HO5 := Lib.hid ho5; have HB5 := Lib.hid hb5; have HG5 := Lib.hid hg5; clear ho5 hb5 hg5)
      have HGA := Lib.hid (show ∀ k, (Value.slice A 4096 c).ownBlock = some k → k < wr.heap.size from HAL.out)
      have hgA : (Value.slice (some ⟨g, 0, none⟩) (bytesOf t).length cb).ownBlock ≠ (Value.slice A 4096 c).ownBlock := fun e => by have := HGA.out g e.symm; omega
      have hbA : some w4.heap.size ≠ (Value.slice A 4096 c).ownBlock := fun e => by have := HGA.out _ e.symm; omega
      have HOB5 := Lib.hid (own_other HOB4.out HG5.out (.inr hgA))
      have HS5b := Lib.hid ((HG5.out.block w4.heap.size (Array.getElem?_eq_some_iff.1 HS4.out).1 hbA).trans HS4.out)
      have hsz5 : w4.heap.size < w5.heap.size := (Array.getElem?_eq_some_iff.1 HS5b.out).1
      have ho5 := HO5.out
      have hcl : cellsOf L ++ [.string ⟨#[65]⟩, .string ⟨#[]⟩] = cellsOf (L ++ [MostPure.one]) := by rw [cellsOf_append]; rfl
      have hnl : 4096 + 1 = (L ++ [MostPure.one]).length := by rw [List.length_append, HLN.out]; rfl
      rw [hcl, hnl] at ho5
      obtain ⟨A5, c5, rfl, hc5, hC5⟩ := fields_C ho5
      have HP5 := Lib.hid (print_calls A5 c5 (L ++ [MostPure.one]) m w5 hC5 hc5 HS5.out ((HB5.out.cell h0lt).trans HM.out) (HT.out.below HT.out.size HB5.out))
      rw [LF.out.2.2.2] at HP5
      clear hcl hnl ho5 hC5 HO5 HG5 HO4 HOB4 HB4 HGA HAL hgA hbA HS4
      refine HP5.out.mono ?_
      rintro e w6 ⟨v6, rfl, _, hb6⟩
      have HB6 := Lib.hid (HB5.out.trans (hb6.mono HB5.out.size))
      have HOB6 := Lib.hid (pw_own_below HOB5.out hb6)
      have HS6 := Lib.hid ((hb6.block _ hsz5).trans HS5b.out)
      have hsz6 : w5.heap.size ≤ w6.heap.size := hb6.size
      clear hb6 HOB5 HS5b HP5
      have i5 : (Tryd.prog.info? 5).map (fun i => (i.zero, i.size, i.bytes)) = some (some (Value.int .u8 0), 1, 1) := by kernel_rfl
      go_wp2_with (at_builtin; refine keep_append_row (w0 := w6) wr.heap.size rfl (.tmp 44) (.tmp 45) 24 5 .u8 1 rfl Tryd.underlying24 i5 (by decide) g cb (bytesOf t) [65, 58, 13, 10] ⟨w6.heap.size, 0, none⟩ 4 4 (by rw [bytes_len]; rfl) rfl (HOB6.out.alloc _) (reads_bytes (lit_C w6 ⟨#[65, 58, 13, 10]⟩ #[.int .u8 65, .int .u8 58, .int .u8 13, .int .u8 10] rfl (0, 0) (by decide))) ((Below.refl _ _).alloc (by omega) _) (by simp; omega) (by rw [bytes_len, HTS.out]; decide) ?_; intro v7 w7 ho7 hb7 hg7 hk7; have HO7 := Lib.hid ho7; have HB7 := Lib.hid hb7; have HG7 := Lib.hid hg7; have HK7 := Lib.hid hk7; clear ho7 hb7 hg7 hk7)
      have hgw6 : some w4.heap.size ≠ some g := fun e => by cases e; omega
      have HS7 := Lib.hid ((HG7.out.block w4.heap.size (by simp; omega) hgw6).trans ((Below.heap_alloc w6 (.cells #[.int .u8 65, .int .u8 58, .int .u8 13, .int .u8 10] 5) _ (Array.getElem?_eq_some_iff.1 HS6.out).1).trans HS6.out))
      have hB67 : Below w.heap.size w w7 := HB6.out.trans (HB7.out.mono HB.out.size)
      have HB7w := Lib.hid hB67
      have hsz7 : w4.heap.size < w7.heap.size := (Array.getElem?_eq_some_iff.1 HS7.out).1
      obtain ⟨t2, ht2⟩ : ∃ t2 : ByteArray, t2 = ⟨(t.data.toList ++ [65, 58, 13, 10]).toArray⟩ := ⟨_, rfl⟩
      have hb2 : bytesOf t ++ [65, 58, 13, 10] = bytesOf t2 := by
        rw [ht2]
        simp [bytesOf]
      have ht2z : t2.size = 16388 := by
        rw [ht2]
        show (t.data.toList ++ [65, 58, 13, 10]).length = _
        rw [List.length_append, data_length, HTS.out]
        rfl
      have ht2l : t2.data.toList = L.flatMap lineU ++ [65, 58, 13, 10] := by rw [ht2, ← HTL.out]
      have ho7 := HO7.out
      rw [hb2] at ho7
      obtain ⟨A7, c7, rfl, hc7, hC7⟩ := Kd.R_reads (Kd.R_of_own (enc := Value.int .u8) (h1 := fun _ => rfl) (ok := fun _ => True) ho7 (fun _ _ => trivial))
      rw [bytes_len] at hc7 hC7 ⊢
      have HPA7 := Lib.hid (parse_calls A7 c7 t2 m w7 hC7 hc7 (by rw [ht2z]; decide) ((hB67.cell h0lt).trans HM.out) (HT.out.below HT.out.size hB67) (Utf8Tabs_below HU.out hB67))
      rw [ht2l, LF.out.2.1] at HPA7
      clear ht2 hb2 ht2z ht2l ho7 hC7 HO7 HOB6 HG7 HB7 HS6 HB6 hB67
      refine HPA7.out.mono ?_
      rintro e w8 ⟨v8, l8, i8, er8, sp8, hv, rfl, ho8, hb8⟩
      obtain ⟨e1, e2⟩ := Prod.mk.inj hv
      obtain ⟨e2, e3⟩ := Prod.mk.inj e2
      obtain ⟨e3, e4⟩ := Prod.mk.inj e3
      subst e1
      subst e2
      subst e3
      subst e4
      obtain ⟨N, hN⟩ : ∃ N : Nat, N = 16384 := ⟨_, rfl⟩
      rw [← hN]
      have HNN := Lib.hid hN
      have hA8 : Below w7.heap.size w7 (w8.alloc (.cells #[.int .i64 160, .int .i64 (N : Int)] 39)) := hb8.alloc hb8.size _
      have HB8 := Lib.hid (HB7w.out.trans (hA8.mono HB7w.out.size))
      have HK8 := Lib.hid (pw_own_below HK7.out hA8)
      have HS8 := Lib.hid ((hA8.block _ hsz7).trans HS7.out)
      have hS8b : (w8.alloc (.cells #[.int .i64 160, .int .i64 (N : Int)] 39)).heap[w8.heap.size]? = some (.cells #[.int .i64 160, .int .i64 (N : Int)] 39 (0, 0)) := World.alloc_heap_new w8 _
      have HS8b := Lib.hid hS8b
      have hsz8 : w7.heap.size ≤ w8.heap.size := hb8.size
      clear hN hA8 hS8b ho8 hb8 HPA7 HK7 HS7 HB7w
      go_wp2_with (at_builtin; refine keep_append_row (w0 := (w8.alloc (.cells #[.int .i64 160, .int .i64 (N : Int)] 39))) wr.heap.size rfl (.tmp 52) (.tmp 53) 24 5 .u8 1 rfl Tryd.underlying24 i5 (by decide) g cb (bytesOf t) [13, 10] ⟨(w8.alloc (.cells #[.int .i64 160, .int .i64 (N : Int)] 39)).heap.size, 0, none⟩ 2 2 (by rw [bytes_len]; rfl) (by simp [Act.eval]) (HK8.out.alloc _) (reads_bytes (lit_C _ ⟨#[13, 10]⟩ #[.int .u8 13, .int .u8 10] rfl (0, 0) (by decide))) ((Below.refl _ _).alloc (by simp; omega) _) (by simp; omega) (by rw [bytes_len, HTS.out]; decide) ?_; intro v9 w9 ho9 hb9 hg9 hk9; have HO9 := Lib.hid ho9; have HB9 := Lib.hid hb9; have HG9 := Lib.hid hg9; clear ho9 hb9 hg9 hk9)
      have hgw8 : some w8.heap.size ≠ some g := fun e => by cases e; omega
      have hS8b := HS8b.out
      have HS9 := Lib.hid ((HG9.out.block w4.heap.size (by simp; omega) hgw6).trans ((Below.heap_alloc _ (.cells #[.int .u8 13, .int .u8 10] 5) _ (Array.getElem?_eq_some_iff.1 HS8.out).1).trans HS8.out))
      have HS9b := Lib.hid ((HG9.out.block w8.heap.size (by simp; omega) hgw8).trans ((Below.heap_alloc _ (.cells #[.int .u8 13, .int .u8 10] 5) _ (Array.getElem?_eq_some_iff.1 hS8b).1).trans hS8b))
      have hB89 : Below w.heap.size w w9 := HB8.out.trans (HB9.out.mono HB.out.size)
      have HB9w := Lib.hid hB89
      have hsz9 : w4.heap.size < w9.heap.size := (Array.getElem?_eq_some_iff.1 HS9.out).1
      have hsz9b : w8.heap.size < w9.heap.size := (Array.getElem?_eq_some_iff.1 HS9b.out).1
      obtain ⟨t3, ht3⟩ : ∃ t3 : ByteArray, t3 = ⟨(t.data.toList ++ [13, 10]).toArray⟩ := ⟨_, rfl⟩
      have hb3 : bytesOf t ++ [13, 10] = bytesOf t3 := by
        rw [ht3]
        simp [bytesOf]
      have ht3z : t3.size = 16386 := by
        rw [ht3]
        show (t.data.toList ++ [13, 10]).length = _
        rw [List.length_append, data_length, HTS.out]
        rfl
      have ht3l : t3.data.toList = L.flatMap lineU ++ [13, 10] := by rw [ht3, ← HTL.out]
      have ho9 := HO9.out
      rw [hb3] at ho9
      obtain ⟨A9, c9, rfl, hc9, hC9⟩ := Kd.R_reads (Kd.R_of_own (enc := Value.int .u8) (h1 := fun _ => rfl) (ok := fun _ => True) ho9 (fun _ _ => trivial))
      rw [bytes_len] at hc9 hC9 ⊢
      have HPA9 := Lib.hid (parse_calls A9 c9 t3 m w9 hC9 hc9 (by rw [ht3z]; decide) ((hB89.cell h0lt).trans HM.out) (HT.out.below HT.out.size hB89) (Utf8Tabs_below HU.out hB89))
      rw [ht3l, LF.out.2.2.1] at HPA9
      clear ht3 hb3 ht3z ht3l ho9 hC9 HO9 HG9 HB9 HS8 HB8 HK8 hB89 hS8b HS8b
      refine HPA9.out.mono ?_
      rintro e w10 ⟨v10, l10, i10, er10, sp10, hv, rfl, ho10, hb10⟩
      obtain ⟨e1, e2⟩ := Prod.mk.inj hv
      obtain ⟨e2, e3⟩ := Prod.mk.inj e2
      obtain ⟨e3, e4⟩ := Prod.mk.inj e3
      subst e1
      subst e2
      subst e3
      subst e4
      have hA10 : Below w9.heap.size w9 (w10.alloc (.cells #[.int .i64 0, .int .i64 0] 39)) := hb10.alloc hb10.size _
      have HBZ := Lib.hid (HB9w.out.trans (hA10.mono HB9w.out.size))
      have hS1 := (hA10.block _ hsz9).trans HS9.out
      have hS2 := (hA10.block _ hsz9b).trans HS9b.out
      have hS3 : (w10.alloc (.cells #[.int .i64 0, .int .i64 0] 39)).heap[w10.heap.size]? = some (.cells #[.int .i64 0, .int .i64 0] 39 (0, 0)) := World.alloc_heap_new w10 _
      have x0 := blk_cell hS1 0
      have x1 := blk_cell hS1 1
      have y0 := blk_cell hS2 0
      have y1 := blk_cell hS2 1
      have z0 := blk_cell hS3 0
      have z1 := blk_cell hS3 1
      clear hS1 hS2 hS3 ho10 hb10 HPA9 hA10 HS9 HS9b HB9w
      have hts := HTS.out
      have hN := HNN.out
      go_wp2
      go_ret
      exact ⟨by simp, HBZ.out⟩
end Go.Proofs.YtammhcfifnffeaaDoor.MostLaw
