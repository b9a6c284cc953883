/- FieldAgain: the walk of the law, over the contracts of its callees. -/
import Derived.Test.YtammhcfifnffeaaDoorAgainPure
import Derived.Test.YtammhcfifnffeaaDoorWakes
import Derived.Test.YtammhcfifnffeaaDoorCheckPure
import Derived.Test.YtammhcfifnffeaaDoorParsePure
import Derived.Test.YtammhcfifnffeaaDoorParseRef
import Derived.Deep.QuietTactic
import Derived.BigQuiet
import Derived.Laws.StructEq
namespace Go.Proofs.YtammhcfifnffeaaDoor.AgainLaw
open Go.RowKit Go.Shelf Go.Proofs.YtammhcfifnffeaaDoorW.PrintWords Go.Proofs.YtammhcfifnffeaaDoorW.PrintLast Go.Proofs.YtammhcfifnffeaaDoorW.PrintMore Go.Proofs.YtammhcfifnffeaaDoor.PFieldPrints Go.Proofs.YtammhcfifnffeaaDoor.Octet Go.Proofs.YtammhcfifnffeaaDoor.CheckWalk Go.Proofs.YtammhcfifnffeaaDoor.PrintWalk Go.Proofs.YtammhcfifnffeaaDoor.Hand Go.Proofs.YtammhcfifnffeaaDoor.BytesAny Go.Proofs.YtammhcfifnffeaaDoor.ParseV Go.Proofs.YtammhcfifnffeaaDoor.ParseWalk Go.Proofs.YtammhcfifnffeaaDoor.ParsePure Go.Proofs.YtammhcfifnffeaaDoor.Wakes Go.Proofs.YtammhcfifnffeaaDoor.Back Go.Proofs.YtammhcfifnffeaaDoor.AgainPure
open Go.Proofs.YtammhcfifnffeaaDoor.CheckPure (print_f)
theorem str_of (W : World) {A : Option Addr} {n c : Nat} {xs : List Int} (h : Kd.C (Kd.int .u8) W A n xs) : (convert 24 9 (.slice A n c)).run Tryd.prog W = .ok (.string (strOfNums xs)) W := Kd.C_string Tryd.underlying24 Tryd.underlying5 Tryd.underlying9 h
attribute [local go_sem] max2_int min2_int max_two min_two max_three min_three max_four min_four
set_option linter.unusedVariables false
set_option linter.unusedSimpArgs false

theorem line_ints (f : S30) : line f = (lineU f).map fun (c : UInt8) => (c.toNat : Int) := by
  unfold line lineU bytesOf
  simp
theorem lines_ints (l : List S30) : l.flatMap line = bytesOf ⟨(l.flatMap lineU).toArray⟩ := by
  unfold bytesOf
  rw [List.map_flatMap]
  congr 1
  funext f
  exact line_ints f
theorem line_big {l : List S30} {f : S30} (h : f ∈ l) : f.f0.size + f.f1.size ≤ (l.flatMap lineU).length := by
  induction l with
  | nil => cases h
  | cons g l ih =>
    rw [List.flatMap_cons, List.length_append]
    rcases List.mem_cons.1 h with rfl | h
    · have : (lineU f).length = f.f0.size + 1 + f.f1.size + 2 := by
        unfold lineU
        rw [List.length_append, List.length_append, List.length_cons, data_length, data_length]
        show f.f0.size + (f.f1.size + 1) + 2 = _
        omega
      omega
    · have := ih h; omega
theorem C_take {W : World} {A : Option Addr} {s t : ByteArray} (h : Kd.C (Kd.int .u8) W A s.size (bytesOf s)) (ht : t.data.toList = s.data.toList.take t.size) (hz : t.size ≤ s.size) : Kd.C (Kd.int .u8) W A t.size (bytesOf t) := by
  refine ⟨bytes_len t, Nat.le_trans hz h.2.1, fun h0 => ?_⟩
  obtain ⟨ad, e, hc⟩ := h.2.2 (by omega)
  refine ⟨ad, e, fun j x hj => hc j x ?_⟩
  have hjl : j < t.size := by
    have := (List.getElem?_eq_some_iff.1 hj).1
    rwa [bytes_len] at this
  rw [← hj]
  unfold bytesOf
  rw [List.getElem?_map, List.getElem?_map, ht, List.getElem?_take, if_pos hjl]
theorem slice_to (W : World) (A : Option Addr) (n c p : Nat) (hp : p ≤ c) : (Instr.slice 24 (.slice A n c) none (some (.int .i64 (p : Int))) none).run Tryd.prog W = .ok (.slice A p c) W := by
  rw [run_slice_h (P := Tryd.prog) W 24 A n c (by kernel_rfl) .i64 (p : Int) (by omega) (by omega)]
  have i5 : (sizeOf (Tryd.prog.elem 24)).run Tryd.prog W = .ok 1 W := by kernel_rfl
  rw [i5]
  unfold Result.andThen sliced
  cases A with
  | none => simp
  | some ad => simp [Addr.add]
set_option maxHeartbeats 4000000 in
set_option maxRecDepth 100000 in
theorem law_calls (A : Option Addr) (c : Nat) (s : ByteArray) (m : Int) (w : World) (hr : Kd.C (Kd.int .u8) w A s.size (bytesOf s)) (hc : s.size ≤ c) (hsz : s.size ≤ 1048576) (hm : w.cell? ⟨0, 0, none⟩ = some (.int .i64 m)) (hT : Laid w) (hU : Lib.Utf8Tabs 1 2 w) :
    Calls Tryd.prog 7 #[.slice A s.size c] w fun e w' => e = .returned (.bool true) ∧ Below w.heap.size w w' := by
  have hu30 := Tryd.underlying30
  have hu39 := Tryd.underlying39
  have h0lt := World.block_lt_of_cell? w _ hm
  obtain ⟨k1, hk1⟩ := parse_f s (by omega)
  have hbl : (bytesOf s).length = s.size := bytes_len s
  have K1 := Lib.hid hk1
  have HR := Lib.hid hr
  have HM := Lib.hid hm
  have HT := Lib.hid hT
  have HU := Lib.hid hU
  have HBL := Lib.hid hbl
  clear hk1 hr hm hT hU hbl
  go_enter Tryd.func7, Tryd.ntmps7
  go_wp2_with fail
  refine (wakes_calls m _ HM.out HT.out HU.out).mono ?_
  rintro e w1 ⟨rfl, hb1⟩
  have HB1 := Lib.hid hb1
  have HPA := Lib.hid (parse_calls A c s m w1 (Kd.C_below HR.out hb1) hc (by omega) ((hb1.cell h0lt).trans HM.out) (HT.out.below HT.out.size hb1) (Utf8Tabs_below HU.out hb1))
  clear hb1
  go_wp2_with fail
  refine HPA.out.mono ?_
  rintro e w2 ⟨v2, l, at2, er, sp, hv, rfl, ho2, hb2⟩
  obtain ⟨A2, c2, rfl, hc2, hC2⟩ := fields_C ho2
  have hB2 := HB1.out.trans (hb2.mono HB1.out.size)
  have HB3 := Lib.hid (hB2.alloc hB2.size (.cells #[.int .i64 er, .int .i64 sp] 39))
  have HC3 := Lib.hid (Kd.C_alloc hC2 (.cells #[.int .i64 er, .int .i64 sp] 39))
  have hS3 : (w2.alloc (.cells #[.int .i64 er, .int .i64 sp] 39)).heap[w2.heap.size]? = some (.cells #[.int .i64 er, .int .i64 sp] 39 (0, 0)) := World.alloc_heap_new w2 _
  have HS3 := Lib.hid hS3
  have hK := K1.out
  rw [hv] at hK
  have HV := Lib.hid hv
  have HRP := Lib.hid (posthornref16_Parse.calls k1 A c (bytesOf s) _ _ _ _ (w2.alloc (.cells #[.int .i64 er, .int .i64 sp] 39)) (by rw [HBL.out]; exact Kd.C_below HR.out HB3.out) (by rw [HBL.out]; exact hc) hK)
  rw [HBL.out] at HRP
  clear hK hv ho2 hC2 hb2 hS3 hB2 HPA
  go_wp2_with fail
  refine HRP.out.mono ?_
  rintro e w4 ⟨v4, rfl, hv4, hb4⟩
  have HB4 := Lib.hid (HB3.out.trans (hb4.mono HB3.out.size))
  have hS4 := (hb4.block _ (Array.getElem?_eq_some_iff.1 HS3.out).1).trans HS3.out
  have hlt : w2.heap.size < w4.heap.size := (Array.getElem?_eq_some_iff.1 hS4).1
  have HB5 := Lib.hid (HB4.out.alloc HB4.out.size (.cells #[.int .i64 er, .int .i64 sp] 39))
  have hS5 := (((Below.refl w4.heap.size w4).alloc (Nat.le_refl _) (.cells #[.int .i64 er, .int .i64 sp] 39)).block _ hlt).trans hS4
  have HC5 := Lib.hid (Kd.C_alloc (Kd.C_below HC3.out hb4) (.cells #[.int .i64 er, .int .i64 sp] 39))
  have hT5 : (w4.alloc (.cells #[.int .i64 er, .int .i64 sp] 39)).heap[w4.heap.size]? = some (.cells #[.int .i64 er, .int .i64 sp] 39 (0, 0)) := World.alloc_heap_new w4 _
  have s0 : (w4.alloc (.cells #[.int .i64 er, .int .i64 sp] 39)).cell? ⟨w2.heap.size, 0, none⟩ = some (.int .i64 er) := blk_cell hS5 0
  have s1 : (w4.alloc (.cells #[.int .i64 er, .int .i64 sp] 39)).cell? ⟨w2.heap.size, 1, none⟩ = some (.int .i64 sp) := blk_cell hS5 1
  have t0 : (w4.alloc (.cells #[.int .i64 er, .int .i64 sp] 39)).cell? ⟨w4.heap.size, 0, none⟩ = some (.int .i64 er) := blk_cell hT5 0
  have t1 : (w4.alloc (.cells #[.int .i64 er, .int .i64 sp] 39)).cell? ⟨w4.heap.size, 1, none⟩ = some (.int .i64 sp) := blk_cell hT5 1
  have HS5 := Lib.hid hS5
  clear hv4 hb4 hS4 hlt hS5 hT5 HRP HS3 HC3
  have htold := told s.data.toList
  rw [HV.out] at htold
  unfold AgainPure.Told at htold
  have hsl : s.data.toList.length = s.size := data_length s
  rcases htold with ⟨e1, e2, e3, e4, e5, e6, e7⟩ | ⟨e1, e2, e3, e4⟩
  · simp only [hsl] at e1 e2 e3 e4 e5 e6 e7
    subst e1
    clear e2
    have E3 := Lib.hid e3
    have E4 := Lib.hid e4
    have E5 := Lib.hid e5
    have E6 := Lib.hid e6
    have E7 := Lib.hid e7
    clear e3 e4 e5 e6 e7
    have HW5 := Lib.hid (Below.refl (w4.alloc (.cells #[.int .i64 0, .int .i64 sp] 39)).heap.size (w4.alloc (.cells #[.int .i64 0, .int .i64 sp] 39)))
    go_wp2
    clear s0 s1 t0 t1
    go_loopw [9, 63] (fun _ i wr => ∃ k : Nat, k ≤ l.length ∧ i = .int .i64 k ∧ Below (w4.alloc (.cells #[.int .i64 0, .int .i64 sp] 39)).heap.size (w4.alloc (.cells #[.int .i64 0, .int .i64 sp] 39)) wr) (fun _ i _ => l.length - (intOf i).toNat)
    case atStart => exact ⟨0, by omega, rfl, HW5.out⟩
    case round =>
      obtain ⟨k, hk, rfl, hB⟩ := hrel
      have HB := Lib.hid hB
      have HBr := Lib.hid (HB5.out.trans (hB.mono HB5.out.size))
      clear hB
      have hl4 := E3.out
      by_cases hlt : k < l.length
      · obtain ⟨ad, e, hx0, hx1⟩ := at_T30 (Kd.C_below HC5.out HB.out) k (by omega) (by omega)
        cases e
        obtain ⟨f, hf⟩ : ∃ f, l[k]? = some f := ⟨_, List.getElem?_eq_getElem hlt⟩
        have hrd : rd_T30 l k = f := by
          unfold rd_T30
          simp [List.getD_eq_getElem?_getD, hf]
        rw [hrd] at hx0 hx1
        simp only [Int.toNat_natCast] at hx0 hx1
        have hfm := line_big (List.mem_of_getElem? hf)
        have hfl := E5.out
        have hf0 : checkV f.f0.data.toList f.f1.data.toList = 0 := E4.out f (List.mem_of_getElem? hf)
        clear hf hrd
        have HCH := Lib.hid (check_calls f.f0 f.f1 m wr (by omega) (by omega) ((HBr.out.cell h0lt).trans HM.out) (HT.out.below HT.out.size HBr.out))
        rw [hf0] at HCH
        clear hf0
        go_wp2_with (go_at_call 13; refine HCH.out.mono ?_; rintro e w6 ⟨rfl, hb6⟩; have HB6 := Lib.hid (HB.out.trans (hb6.mono HB.out.size)); clear hb6 hx0 hx1)
        go_roundw
        case rel => exact ⟨k + 1, by omega, by go_num, HB6.out⟩
        case measure => simp [intOf]; omega
      · obtain rfl : k = l.length := by omega
        obtain ⟨t, ht⟩ : ∃ t : ByteArray, t = ⟨(l.flatMap lineU).toArray⟩ := ⟨_, rfl⟩
        have htl : t.data.toList = l.flatMap lineU := by rw [ht]
        have hts : t.size = (l.flatMap lineU).length := by rw [ht]; rfl
        have hE5 := E5.out
        have hpv : printV l = (bytesOf t, 0) := by
          unfold printV
          rw [if_neg (by omega), firstBad_all fun j g hg => E4.out g (List.mem_of_getElem? hg), if_pos rfl, lines_ints, ht]
        have hS : Small l := ⟨fun f hf => by have := line_big hf; omega, by rw [lines_ints, bytes_len, ← ht, hts]; omega⟩
        have HP := Lib.hid (print_calls A2 c2 l m wr (Kd.C_below HC5.out HB.out) hc2 hS ((HBr.out.cell h0lt).trans HM.out) (HT.out.below HT.out.size HBr.out))
        rw [hpv] at HP
        have HTL := Lib.hid htl
        have hE6 := E6.out
        have hE7 := E7.out
        rw [← htl] at hE6 hE7
        rw [← hts] at hE5
        rw [data_length] at hE6 hE7
        have HE8 := Lib.hid hE6
        have HE7 := Lib.hid hE7
        clear ht htl hts hpv hS hE6 hE7
        go_wp2_with fail
        refine HP.out.mono ?_
        rintro e w7 ⟨vb, rfl, hvb, hb7⟩
        obtain ⟨Ab, cb, rfl, hcb, hCb⟩ := Kd.R_reads hvb
        have HB7 := Lib.hid (HBr.out.trans (hb7.mono HBr.out.size))
        rw [bytes_len] at hcb hCb ⊢
        have q1 : ∀ n, (convert 24 9 (.slice Ab t.size cb)).run Tryd.prog (w7.drewN n) = .ok (.string t) (w7.drewN n) := fun n => by
          have h := str_of (w7.drewN n) (c := cb) (Kd.C_below hCb (pw_below_drewN (Below.refl w7.heap.size w7) n))
          rw [str_bytes] at h
          exact h
        have hb7' := HB7.out
        have q2 : ∀ n, (convert 24 9 (.slice A t.size c)).run Tryd.prog (w7.drewN n) = .ok (.string t) (w7.drewN n) := fun n => by
          have h := str_of (w7.drewN n) (c := c) (Kd.C_below (C_take (Kd.C_below HR.out hb7') HE8.out hE5) (pw_below_drewN (Below.refl w7.heap.size w7) n))
          rw [str_bytes] at h
          exact h
        have q3 : ∀ n, (Instr.slice 24 (.slice A s.size c) none (some (.int .i64 (t.size : Int))) none).run Tryd.prog (w7.drewN n) = .ok (.slice A t.size c) (w7.drewN n) := fun n => slice_to _ A s.size c t.size (by omega)
        clear hvb hb7 hCb HP hb7'
        have ho : decide (s.size < at2) = false := by
          refine decide_eq_false ?_
          rcases HE7.out with ⟨h1, h2⟩ | ⟨h1, R, h2⟩
          · omega
          · have := congrArg List.length h2
            rw [List.length_append, List.length_cons, List.length_cons, data_length, data_length] at this
            omega
        have ho2 : decide (at2 < t.size) = false := by
          refine decide_eq_false ?_
          rcases HE7.out with ⟨h1, h2⟩ | ⟨h1, R, h2⟩ <;> omega
        go_wp2_with fail
        go_quiet (fail)
        clear q1 q2 q3 ho ho2
        have HBq := Lib.hid (pw_below_drewN HB7.out nq)
        rcases HE7.out with ⟨rfl, h2⟩ | ⟨rfl, R, h2⟩
        · have HE7' := HE7
          clear HE7'
          have g1 : decide (t.size = s.size) = true := decide_eq_true h2
          go_wp2
          go_ret
          exact ⟨by simp, HBq.out⟩
        · have hlen := congrArg List.length h2
          rw [List.length_append, List.length_cons, List.length_cons, data_length, data_length] at hlen
          obtain ⟨b, off, rfl, hA⟩ := at_of_C HR.out (by omega)
          have c0 := (hA.below HBq.out) t.size (by omega)
          have c1 := (hA.below HBq.out) (t.size + 1) (by omega)
          have v0 : (s.get! t.size).toNat = 13 := by
            have h := Go.Proofs.YtammhcfifnffeaaDoor.AnyEnd.at_of_get s t.size (by omega)
            rw [h2, List.getElem?_append_right (by rw [data_length]; exact Nat.le_refl _), data_length, Nat.sub_self] at h
            rw [← Option.some.inj h]
            rfl
          have v1 : (s.get! (t.size + 1)).toNat = 10 := by
            have h := Go.Proofs.YtammhcfifnffeaaDoor.AnyEnd.at_of_get s (t.size + 1) (by omega)
            rw [h2, List.getElem?_append_right (by rw [data_length]; omega), data_length, Nat.add_sub_cancel_left] at h
            rw [← Option.some.inj h]
            rfl
          rw [v0] at c0
          rw [v1] at c1
          clear v0 v1 h2 hA
          have g1 : decide (t.size + 2 = t.size) = false := decide_eq_false (by omega)
          go_wp2
          go_ret
          exact ⟨by simp, HBq.out⟩
  · simp only [hsl] at e1 e2 e3 e4
    subst e2
    subst e3
    rcases e1 with rfl | rfl
    · go_wp2
      go_ret
      exact ⟨by simp, HB5.out⟩
    · go_wp2
      go_ret
      exact ⟨by simp, HB5.out⟩
end Go.Proofs.YtammhcfifnffeaaDoor.AgainLaw
