/- FieldAhead: the walk of the law, over the contracts of its callees. -/
import Derived.Test.YtammhcfifnffeaaDoorAgainPure
import Derived.Test.YtammhcfifnffeaaDoorSame
import Derived.Test.YtammhcfifnffeaaDoorWakes
import Derived.Test.YtammhcfifnffeaaDoorCheckPure
import Derived.Test.YtammhcfifnffeaaDoorParsePure
import Derived.Test.YtammhcfifnffeaaDoorParseRef
import Derived.Deep.QuietTactic
import Derived.BigQuiet
import Derived.Laws.StructEq
namespace Go.Proofs.YtammhcfifnffeaaDoor.AheadPure
open Go.RowKit Go.Proofs.YtammhcfifnffeaaDoorW.PrintWords Go.Proofs.YtammhcfifnffeaaDoor.PFieldPrints Go.Proofs.YtammhcfifnffeaaDoor.RowsIter Go.Proofs.YtammhcfifnffeaaDoor.AnyEnd Go.Proofs.YtammhcfifnffeaaDoor.Octet Go.Proofs.YtammhcfifnffeaaDoor.CheckWalk Go.Proofs.YtammhcfifnffeaaDoor.PrintWalk Go.Proofs.YtammhcfifnffeaaDoor.Hand Go.Proofs.YtammhcfifnffeaaDoor.ParseV Go.Proofs.YtammhcfifnffeaaDoor.CheckPure Go.Proofs.YtammhcfifnffeaaDoor.FoldChecks Go.Proofs.YtammhcfifnffeaaDoor.Back
set_option linter.unusedVariables false
set_option linter.unusedSimpArgs false
theorem row_lt : ∀ (x y : List UInt8), lenRow x < x.length → lenRow (x ++ y) = lenRow x
  | [], y, h => by cases h
  | c :: x, y, h => by
    show lenRow (c :: (x ++ y)) = _
    unfold lenRow at h ⊢
    by_cases hc : c = 13 ∨ c = 10
    · rw [if_pos hc, if_pos hc]
    · rw [if_neg hc] at h ⊢
      rw [if_neg hc, row_lt x y (by simp only [List.length_cons] at h; omega)]
theorem row_ge : ∀ (x y : List UInt8), lenRow x ≤ lenRow (x ++ y)
  | [], y => Nat.zero_le _
  | c :: x, y => by
    show _ ≤ lenRow (c :: (x ++ y))
    unfold lenRow
    by_cases hc : c = 13 ∨ c = 10
    · rw [if_pos hc]; exact Nat.zero_le _
    · rw [if_neg hc, if_neg hc]
      exact Nat.succ_le_succ (row_ge x y)
theorem crlf_more : ∀ (x y : List UInt8), 2 ≤ x.length → isCRLF (x ++ y) = isCRLF x
  | [], _, h => by cases h
  | [c], _, h => by simp at h
  | c :: d :: x, y, _ => by
    unfold isCRLF Lib.hasPrefix
    simp [List.isPrefixOf]
theorem step_more {L R : List UInt8} {i : Nat} {acc : List S30} (hi : i < L.length) (h : isCRLF (L.drop (i + lenRow (L.drop i))) = true) : rowStep (L ++ R) i acc = rowStep L i acc := by
  have h2 := crlf_len h
  rw [List.length_drop] at h2
  have d : (L ++ R).drop i = L.drop i ++ R := List.drop_append_of_le_length (by omega)
  have e1 : lenRow ((L ++ R).drop i) = lenRow (L.drop i) := by rw [d, row_lt _ _ (by rw [List.length_drop]; omega)]
  have e3 : isCRLF ((L ++ R).drop (i + lenRow (L.drop i))) = isCRLF (L.drop (i + lenRow (L.drop i))) := by
    rw [List.drop_append_of_le_length (by omega), crlf_more _ _ (by rw [List.length_drop]; omega)]
  have e4 : isCRLF ((L ++ R).drop i) = isCRLF (L.drop i) := by rw [d, crlf_more _ _ (by rw [List.length_drop]; omega)]
  have e5 : ((L ++ R).drop i).take (lenRow (L.drop i)) = (L.drop i).take (lenRow (L.drop i)) := by
    rw [d, List.take_append_of_le_length (by rw [List.length_drop]; omega)]
  unfold rowStep
  rw [if_neg (by rw [List.length_append]; omega), if_neg (show ¬ L.length ≤ i by omega), e1, e4, e3, e5]
theorem step_cut {L : List UInt8} {i : Nat} {acc : List S30} (hi : i < L.length) (h : isCRLF (L.drop (i + lenRow (L.drop i))) = false) : rowStep L i acc = if 998 < lenRow (L.drop i) then .fail 160 (i + 998) else .fail 160 (i + lenRow (L.drop i)) := by
  unfold rowStep
  rw [if_neg (by omega), if_neg (fun e => by rw [e.1, Nat.add_zero, e.2] at h; cases h)]
  split
  · rfl
  · first | rfl | rw [if_pos h]
theorem bad_more (L R : List UInt8) : ∀ (d i : Nat) (acc : List S30), L.length - i ≤ d → i ≤ L.length → (parseAt L i acc).2.2.1 ≠ 0 → (parseAt L i acc).2.2.2 + 1 < L.length → parseAt (L ++ R) i acc = parseAt L i acc := by
  intro d
  induction d with
  | zero =>
    intro i acc hd hi h0 h1
    have hs : rowStep L i acc = .done acc i := by unfold rowStep; rw [if_pos (by omega)]
    rw [at_done hi hs] at h0
    exact absurd rfl h0
  | succ d ih =>
    intro i acc hd hi h0 h1
    by_cases hlt : i < L.length
    · have hle := lenRow_le (L.drop i)
      rw [List.length_drop] at hle
      have hi2 : i ≤ (L ++ R).length := by rw [List.length_append]; omega
      cases hc : isCRLF (L.drop (i + lenRow (L.drop i)))
      · have hs := step_cut (acc := acc) hlt hc
        have hd' : (L ++ R).drop i = L.drop i ++ R := List.drop_append_of_le_length hi
        by_cases h9 : 998 < lenRow (L.drop i)
        · rw [if_pos h9] at hs
          have hge := row_ge (L.drop i) R
          rw [← hd'] at hge
          have hs2 : rowStep (L ++ R) i acc = .fail 160 (i + 998) := by
            unfold rowStep
            rw [if_neg (by rw [List.length_append]; omega), if_neg (fun e => by have := e.1; omega), if_pos (by omega)]
          rw [at_fail hi hs, at_fail hi2 hs2]
        · rw [if_neg h9] at hs
          rw [at_fail hi hs] at h1
          have h1' : i + lenRow (L.drop i) + 1 < L.length := h1
          have e1 : lenRow ((L ++ R).drop i) = lenRow (L.drop i) := by rw [hd', row_lt _ _ (by rw [List.length_drop]; omega)]
          have hs2 := step_cut (L := L ++ R) (i := i) (acc := acc) (by rw [List.length_append]; omega) (by rw [e1, List.drop_append_of_le_length (by omega), crlf_more _ _ (by rw [List.length_drop]; omega)]; exact hc)
          rw [e1, if_neg h9] at hs2
          rw [at_fail hi hs, at_fail hi2 hs2]
      · have hm := step_more (R := R) (acc := acc) hlt hc
        cases hs : rowStep L i acc with
        | done a j => rw [at_done hi hs] at h0; exact absurd rfl h0
        | fail e j => rw [at_fail hi hs, at_fail hi2 (hm.trans hs)]
        | next a j =>
          have hj := rowStep_next hs
          rw [at_next hi hs] at h0 h1 ⊢
          rw [at_next hi2 (hm.trans hs)]
          exact ih j a (by omega) hj.2 h0 h1
    · have hs : rowStep L i acc = .done acc i := by unfold rowStep; rw [if_pos (by omega)]
      rw [at_done hi hs] at h0
      exact absurd rfl h0
/-- what is wrong ahead stays wrong -/
theorem still_bad {L R : List UInt8} (h0 : (parseV L).2.2.1 ≠ 0) (h1 : (parseV L).2.2.2 + 1 < L.length) : parseV (L ++ R) = parseV L := by
  rw [parseV_at] at h0 h1 ⊢
  rw [parseV_at]
  exact bad_more L R L.length 0 [] (by omega) (Nat.zero_le _) h0 h1
end Go.Proofs.YtammhcfifnffeaaDoor.AheadPure
namespace Go.Proofs.YtammhcfifnffeaaDoor.AheadLaw
open Go.RowKit Go.Shelf Go.Proofs.YtammhcfifnffeaaDoorW.PrintWords Go.Proofs.YtammhcfifnffeaaDoorW.PrintLast Go.Proofs.YtammhcfifnffeaaDoorW.PrintMore Go.Proofs.YtammhcfifnffeaaDoor.PFieldPrints Go.Proofs.YtammhcfifnffeaaDoor.Octet Go.Proofs.YtammhcfifnffeaaDoor.CheckWalk Go.Proofs.YtammhcfifnffeaaDoor.PrintWalk Go.Proofs.YtammhcfifnffeaaDoor.Hand Go.Proofs.YtammhcfifnffeaaDoor.BytesAny Go.Proofs.YtammhcfifnffeaaDoor.ParseV Go.Proofs.YtammhcfifnffeaaDoor.ParseWalk Go.Proofs.YtammhcfifnffeaaDoor.ParsePure Go.Proofs.YtammhcfifnffeaaDoor.Wakes Go.Proofs.YtammhcfifnffeaaDoor.Back Go.Proofs.YtammhcfifnffeaaDoor.AgainPure
open Go.Proofs.YtammhcfifnffeaaDoor.CheckPure (print_f)
theorem str_of (W : World) {A : Option Addr} {n c : Nat} {xs : List Int} (h : Kd.C (Kd.int .u8) W A n xs) : (convert 24 9 (.slice A n c)).run Tryd.prog W = .ok (.string (strOfNums xs)) W := Kd.C_string Tryd.underlying24 Tryd.underlying5 Tryd.underlying9 h
attribute [local go_sem] max2_int min2_int max_two min_two max_three min_three max_four min_four
set_option linter.unusedVariables false
set_option linter.unusedSimpArgs false

theorem line_ints (f : S30) : line f = (lineU f).map fun (c : UInt8) => (c.toNat : Int) := by
  unfold line lineU bytesOf
  simp
theorem lines_ints (l : List S30) : l.flatMap line = bytesOf ⟨(l.flatMap lineU).toArray⟩ := by
  unfold bytesOf
  rw [List.map_flatMap]
  congr 1
  funext f
  exact line_ints f
theorem line_big {l : List S30} {f : S30} (h : f ∈ l) : f.f0.size + f.f1.size ≤ (l.flatMap lineU).length := by
  induction l with
  | nil => cases h
  | cons g l ih =>
    rw [List.flatMap_cons, List.length_append]
    rcases List.mem_cons.1 h with rfl | h
    · have : (lineU f).length = f.f0.size + 1 + f.f1.size + 2 := by
        unfold lineU
        rw [List.length_append, List.length_append, List.length_cons, data_length, data_length]
        show f.f0.size + (f.f1.size + 1) + 2 = _
        omega
      omega
    · have := ih h; omega
theorem same_refl2 (l : List S30) (hl : l.length ≤ 1000000000) : ∃ k, posthornlaw16_same.f k l l = some true := by
  unfold posthornlaw16_same.f
  simp only [if_true]
  suffices h : ∀ (d : Nat) (i : Int), 0 ≤ i → (l.length : Int) - i ≤ d → ∀ k, d < k → posthornlaw16_same.l0 k l l (l.length : Int) i = some true by
    exact ⟨l.length + 1, h l.length 0 (by omega) (by omega) _ (by omega)⟩
  intro d
  induction d with
  | zero =>
    intro i h0 hd k hk
    obtain ⟨k, rfl⟩ : ∃ m, k = m + 1 := ⟨k - 1, by omega⟩
    simp only [posthornlaw16_same.l0]
    rw [if_neg (by omega)]
  | succ d ih =>
    intro i h0 hd k hk
    obtain ⟨k, rfl⟩ : ∃ m, k = m + 1 := ⟨k - 1, by omega⟩
    simp only [posthornlaw16_same.l0]
    by_cases h : i < (l.length : Int)
    · rw [if_pos h, if_pos h0, if_pos h, if_pos h, if_neg (by simp)]
      have : wrap64 (i + 1) = i + 1 := by unfold wrap64; omega
      rw [this]
      exact ih _ (by omega) (by omega) _ (by omega)
    · rw [if_neg h]
theorem reads_bytes {W : World} {A : Option Addr} {n : Nat} {xs : List Int} (h : Kd.C (Kd.int .u8) W A n xs) : ReadsInt W .u8 A n xs := Kd.reads_of_C (enc := Value.int .u8) (d := (0 : Int)) (h1 := fun _ => rfl) h
theorem empty_own (b g : Nat) (W : World) (h : b ≤ W.heap.size) (hg : g = W.heap.size) : (W.alloc (.cells #[] 5)).ownsRow b 5 1 (.slice (some ⟨g, 0, none⟩) 0 0) ([] : List Int).length (nums .u8 []) := by
  subst hg
  have := World.ownsRow_lit (base := b) (e := 5) (size := 1) W #[] 0 h (by decide) (by decide)
  simpa [nums] using this
set_option maxHeartbeats 4000000 in
set_option maxRecDepth 100000 in
theorem law_calls (A : Option Addr) (c : Nat) (s : ByteArray) (B : Option Addr) (d : Nat) (r : ByteArray) (m : Int) (w : World) (hr : Kd.C (Kd.int .u8) w A s.size (bytesOf s)) (hc : s.size ≤ c) (hsz : s.size ≤ 1048576) (hrb : Kd.C (Kd.int .u8) w B r.size (bytesOf r)) (hd : r.size ≤ d) (hrz : r.size ≤ 1048576) (hm : w.cell? ⟨0, 0, none⟩ = some (.int .i64 m)) (hT : Laid w) (hU : Lib.Utf8Tabs 1 2 w) :
    Calls Tryd.prog 8 #[.slice A s.size c, .slice B r.size d] w fun e w' => e = .returned (.bool true) ∧ Below w.heap.size w w' := by
  have hu30 := Tryd.underlying30
  have hu39 := Tryd.underlying39
  have h0lt := World.block_lt_of_cell? w _ hm
  obtain ⟨k1, hk1⟩ := parse_f s (by omega)
  have hbl : (bytesOf s).length = s.size := bytes_len s
  have K1 := Lib.hid hk1
  have HR := Lib.hid hr
  have HRB := Lib.hid hrb
  have HM := Lib.hid hm
  have HT := Lib.hid hT
  have HU := Lib.hid hU
  have HBL := Lib.hid hbl
  clear hk1 hr hrb hm hT hU hbl
  go_enter Tryd.func8, Tryd.ntmps8
  go_wp2_with fail
  refine (wakes_calls m _ HM.out HT.out HU.out).mono ?_
  rintro e w1 ⟨rfl, hb1⟩
  have HB1 := Lib.hid hb1
  have HPA := Lib.hid (parse_calls A c s m w1 (Kd.C_below HR.out hb1) hc (by omega) ((hb1.cell h0lt).trans HM.out) (HT.out.below HT.out.size hb1) (Utf8Tabs_below HU.out hb1))
  clear hb1
  go_wp2_with fail
  refine HPA.out.mono ?_
  rintro e w2 ⟨v2, l, at2, er, sp, hv, rfl, ho2, hb2⟩
  obtain ⟨A2, c2, rfl, hc2, hC2⟩ := fields_C ho2
  have hB2 := HB1.out.trans (hb2.mono HB1.out.size)
  have HB3 := Lib.hid (hB2.alloc hB2.size (.cells #[.int .i64 er, .int .i64 sp] 39))
  have HC3 := Lib.hid (Kd.C_alloc hC2 (.cells #[.int .i64 er, .int .i64 sp] 39))
  have hS3 : (w2.alloc (.cells #[.int .i64 er, .int .i64 sp] 39)).heap[w2.heap.size]? = some (.cells #[.int .i64 er, .int .i64 sp] 39 (0, 0)) := World.alloc_heap_new w2 _
  have HS3 := Lib.hid hS3
  have htold := told s.data.toList
  rw [hv] at htold
  unfold AgainPure.Told at htold
  have hsl : s.data.toList.length = s.size := data_length s
  -- what is known of the fields in either case
  have hall : l.length ≤ 4096 ∧ (∀ f ∈ l, checkF f = 0) ∧ (l.flatMap lineU).length ≤ s.size := by
    rcases htold with ⟨_, _, e3, e4, e5, _, _⟩ | ⟨_, e2, _, _⟩
    · exact ⟨e3, e4, by rw [← hsl]; exact e5⟩
    · have e2' : l = [] := e2
      subst e2'
      exact ⟨by simp, fun f hf => (by cases hf), by simp⟩
  obtain ⟨a1, a2, a3⟩ := hall
  obtain ⟨t, ht⟩ : ∃ t : ByteArray, t = ⟨(l.flatMap lineU).toArray⟩ := ⟨_, rfl⟩
  have htl : t.data.toList = l.flatMap lineU := by rw [ht]
  have hts : t.size = (l.flatMap lineU).length := by rw [ht]; rfl
  have hpv : printV l = (bytesOf t, 0) := by
    unfold printV
    rw [if_neg (by omega), firstBad_all fun j g hg => a2 g (List.mem_of_getElem? hg), if_pos rfl, lines_ints, ht]
  have hS : Small l := ⟨fun f hf => by have := line_big hf; omega, by rw [lines_ints, bytes_len, ← ht, hts]; omega⟩
  have HP := Lib.hid (print_calls A2 c2 l m _ HC3.out hc2 hS ((HB3.out.cell h0lt).trans HM.out) (HT.out.below HT.out.size HB3.out))
  rw [hpv] at HP
  have HTO := Lib.hid htold
  have HA2 := Lib.hid a2
  have HV := Lib.hid hv
  have HTL := Lib.hid htl
  have HTS := Lib.hid hts
  obtain ⟨k2, hk2⟩ := same_refl2 l (by omega)
  have K2 := Lib.hid hk2
  clear hk2 hpv hS a2 htold hv ho2 hC2 hb2 hS3 hB2 HPA ht htl hts
  go_wp2_with fail
  refine HP.out.mono ?_
  rintro e w4 ⟨vb, rfl, hvb, hb4⟩
  obtain ⟨Ab, cb, rfl, hcb, _⟩ := Kd.R_reads hvb
  rw [bytes_len] at hcb ⊢
  have HB4 := Lib.hid (HB3.out.trans (hb4.mono HB3.out.size))
  have HC4 := Lib.hid (Kd.C_below HC3.out hb4)
  have HS4 := Lib.hid ((hb4.block _ (Array.getElem?_eq_some_iff.1 HS3.out).1).trans HS3.out)
  clear hvb hb4 HP HS3 HC3 hcb
  have i5 : (Tryd.prog.info? 5).map (fun i => (i.zero, i.size, i.bytes)) = some (some (Value.int .u8 0), 1, 1) := by kernel_rfl
  have hBL := HBL.out
  have hBLr : (bytesOf r).length = r.size := bytes_len r
  have HBLr := Lib.hid hBLr
  clear hBL hBLr
  go_wp2_with (first
      | (at_builtin; refine print_append_row (w0 := w4) w4.heap.size rfl (.tmp 30) (.tmp 31) 24 5 .u8 1 rfl Tryd.underlying24 i5 (by decide) _ [] (bytesOf s) A s.size c rfl rfl (empty_own _ _ _ (Nat.le_refl _) (by simp)) (reads_bytes (Kd.C_alloc (Kd.C_below HR.out HB4.out) _)) ((Below.refl _ _).alloc (Nat.le_refl _) _) (((Below.refl _ _).alloc (Nat.le_refl _) _).size) (by simp; omega) ?_; intro v6 w6 ho6 hb6 hg6 _; have HO6 := Lib.hid ho6; have HB6 := Lib.hid hb6; clear ho6 hb6 hg6)
      | (at_builtin; refine print_append_row (w0 := w4) w4.heap.size rfl (.tmp 32) (.tmp 33) 24 5 .u8 1 rfl Tryd.underlying24 i5 (by decide) _ _ (bytesOf r) B r.size d rfl rfl HO6.out (reads_bytes (Kd.C_below HRB.out (HB4.out.trans (HB6.out.mono HB4.out.size)))) HB6.out HB6.out.size (by rw [List.nil_append, HBL.out]; omega) ?_; intro v8 w8 ho8 hb8 hg8 _; have HO8 := Lib.hid ho8; have HB8 := Lib.hid hb8; clear ho8 hb8 hg8))
  have HBw := Lib.hid (HB4.out.trans (HB8.out.mono HB4.out.size))
  have HS8 := Lib.hid ((HB8.out.block _ (Array.getElem?_eq_some_iff.1 HS4.out).1).trans HS4.out)
  have HC8 := Lib.hid (Kd.C_below HC4.out HB8.out)
  obtain ⟨t2, ht2⟩ : ∃ t2 : ByteArray, t2 = ⟨(s.data.toList ++ r.data.toList).toArray⟩ := ⟨_, rfl⟩
  have hb2 : [] ++ bytesOf s ++ bytesOf r = bytesOf t2 := by
    rw [ht2]
    simp [bytesOf]
  have ht2z : t2.size = s.size + r.size := by
    rw [ht2]
    show (s.data.toList ++ r.data.toList).length = _
    rw [List.length_append, data_length, data_length]
  have ht2l : t2.data.toList = s.data.toList ++ r.data.toList := by rw [ht2]
  have ho8 := HO8.out
  rw [hb2] at ho8
  obtain ⟨A8, c8, rfl, hc8, hC8⟩ := Kd.R_reads (Kd.R_of_own (enc := Value.int .u8) (h1 := fun _ => rfl) (ok := fun _ => True) ho8 (fun _ _ => trivial))
  rw [bytes_len] at hc8 hC8 ⊢
  have HPA := Lib.hid (parse_calls A8 c8 t2 m w8 hC8 hc8 (by omega) ((HBw.out.cell h0lt).trans HM.out) (HT.out.below HT.out.size HBw.out) (Utf8Tabs_below HU.out HBw.out))
  rw [ht2l] at HPA
  clear ht2 hb2 ht2z ht2l ho8 hC8 hc8 HO8 HO6 HB6 HB8 HS4 HC4
  refine HPA.out.mono ?_
  rintro e w9 ⟨v9, l9, i9, er9, sp9, hv9, rfl, ho9, hb9⟩
  obtain ⟨A9, c9, rfl, hc9, hC9⟩ := fields_C ho9
  have HV9 := Lib.hid hv9
  have hB9 := HBw.out.trans (hb9.mono HBw.out.size)
  have hS9 := (hb9.block _ (Array.getElem?_eq_some_iff.1 HS8.out).1).trans HS8.out
  have hl9 : w2.heap.size < w9.heap.size := (Array.getElem?_eq_some_iff.1 hS9).1
  have HB10 := Lib.hid (hB9.alloc hB9.size (.cells #[.int .i64 er9, .int .i64 sp9] 39))
  have HS10 := Lib.hid ((((Below.refl w9.heap.size w9).alloc (Nat.le_refl _) (.cells #[.int .i64 er9, .int .i64 sp9] 39)).block _ hl9).trans hS9)
  have HU10 := Lib.hid (World.alloc_heap_new w9 (.cells #[.int .i64 er9, .int .i64 sp9] 39))
  have HC10 := Lib.hid (Kd.C_alloc (Kd.C_below HC8.out hb9) (.cells #[.int .i64 er9, .int .i64 sp9] 39))
  have HD10 := Lib.hid (Kd.C_alloc hC9 (.cells #[.int .i64 er9, .int .i64 sp9] 39))
  have hK := K1.out
  rw [HV.out] at hK
  have HRP := Lib.hid (posthornref16_Parse.calls k1 A c (bytesOf s) _ _ _ _ (w9.alloc (.cells #[.int .i64 er9, .int .i64 sp9] 39)) (by rw [HBL.out]; exact Kd.C_below HR.out HB10.out) (by rw [HBL.out]; exact hc) hK)
  rw [HBL.out] at HRP
  clear hK hv9 ho9 hC9 hb9 hB9 hS9 hl9 HPA HS8 HC8
  go_wp2_with fail
  refine HRP.out.mono ?_
  rintro e w11 ⟨v11, rfl, hv11, hb11⟩
  have hlt1 : w2.heap.size < w11.heap.size := Nat.lt_of_lt_of_le (Array.getElem?_eq_some_iff.1 HS10.out).1 hb11.size
  have hlt2 : w9.heap.size < w11.heap.size := Nat.lt_of_lt_of_le (Array.getElem?_eq_some_iff.1 HU10.out).1 hb11.size
  have hB11 := HB10.out.trans (hb11.mono HB10.out.size)
  have HB12 := Lib.hid (hB11.alloc hB11.size (.cells #[.int .i64 er, .int .i64 sp] 39))
  have hS12 := (((Below.refl w11.heap.size w11).alloc (Nat.le_refl _) (.cells #[.int .i64 er, .int .i64 sp] 39)).block _ hlt1).trans ((hb11.block _ (Array.getElem?_eq_some_iff.1 HS10.out).1).trans HS10.out)
  have hU12 := (((Below.refl w11.heap.size w11).alloc (Nat.le_refl _) (.cells #[.int .i64 er, .int .i64 sp] 39)).block _ hlt2).trans ((hb11.block _ (Array.getElem?_eq_some_iff.1 HU10.out).1).trans HU10.out)
  have hT12 : (w11.alloc (.cells #[.int .i64 er, .int .i64 sp] 39)).heap[w11.heap.size]? = some (.cells #[.int .i64 er, .int .i64 sp] 39 (0, 0)) := World.alloc_heap_new w11 _
  have HC12 := Lib.hid (Kd.C_alloc (Kd.C_below HC10.out hb11) (.cells #[.int .i64 er, .int .i64 sp] 39))
  have HD12 := Lib.hid (Kd.C_alloc (Kd.C_below HD10.out hb11) (.cells #[.int .i64 er, .int .i64 sp] 39))
  have s0 : (w11.alloc (.cells #[.int .i64 er, .int .i64 sp] 39)).cell? ⟨w2.heap.size, 0, none⟩ = some (.int .i64 er) := blk_cell hS12 0
  have s1 : (w11.alloc (.cells #[.int .i64 er, .int .i64 sp] 39)).cell? ⟨w2.heap.size, 1, none⟩ = some (.int .i64 sp) := blk_cell hS12 1
  have u0 : (w11.alloc (.cells #[.int .i64 er, .int .i64 sp] 39)).cell? ⟨w9.heap.size, 0, none⟩ = some (.int .i64 er9) := blk_cell hU12 0
  have u1 : (w11.alloc (.cells #[.int .i64 er, .int .i64 sp] 39)).cell? ⟨w9.heap.size, 1, none⟩ = some (.int .i64 sp9) := blk_cell hU12 1
  have t0 : (w11.alloc (.cells #[.int .i64 er, .int .i64 sp] 39)).cell? ⟨w11.heap.size, 0, none⟩ = some (.int .i64 er) := blk_cell hT12 0
  have t1 : (w11.alloc (.cells #[.int .i64 er, .int .i64 sp] 39)).cell? ⟨w11.heap.size, 1, none⟩ = some (.int .i64 sp) := blk_cell hT12 1
  clear hv11 hb11 hlt1 hlt2 hB11 hS12 hU12 hT12 HRP HS10 HU10 HC10 HD10
  have hbig := HB12.out.size
  rcases HTO.out with ⟨e1, e2, _, _, _, _, e7⟩ | ⟨e1, e2, e3, e4⟩
  · simp only [hsl] at e1 e2 e7
    rw [← HTL.out, data_length] at e7
    subst e1
    by_cases hat : at2 = t.size
    · subst hat
      clear e2 e7 hbig
      go_wp2
      go_ret
      exact ⟨by simp, HB12.out⟩
    · have hat2 : (at2 = t.size) = False := eq_false hat
      obtain ⟨h1, R, h2⟩ := e7.resolve_left fun h => hat h.1
      have h9 : (l9, i9, er9, sp9) = (l, at2, (0 : Int), sp) := by
        rw [← HV9.out, h2, HTL.out, List.append_assoc]
        show parseV (l.flatMap lineU ++ 13 :: 10 :: (R ++ r.data.toList)) = _
        rw [back_ahead l HA2.out a1, h1, HTS.out, e2]
      cases h9
      clear e2
      clear h2 e7 hbig
      have HSAME := Lib.hid (posthornlaw16_same.calls k2 A2 c2 l A9 c9 l true _ HC12.out hc2 HD12.out hc9 K2.out)
      have g1 : ((at2 : Int) == (t.size : Int)) = false := beq_eq_false_iff_ne.2 (by omega)
      have g2 : decide (at2 = t.size) = false := decide_eq_false hat
      clear hat hat2 h1
      go_wp2_with (go_at_call 27; refine HSAME.out.mono ?_; rintro e w13 ⟨rfl, ⟨⟨nz, rfl⟩⟩⟩)
      go_ret
      exact ⟨by simp, pw_below_drewN HB12.out nz⟩
  · simp only [hsl] at e1 e2 e3 e4
    subst e2
    subst e3
    have hne : er ≠ 0 := by rcases e1 with rfl | rfl <;> decide
    by_cases hlast : s.size ≤ sp + 1
    · have g1 : decide (s.size ≤ sp + 1) = true := decide_eq_true hlast
      clear hbig hne
      rcases e1 with rfl | rfl
      · go_wp2
        go_ret
        exact ⟨by simp, HB12.out⟩
      · go_wp2
        go_ret
        exact ⟨by simp, HB12.out⟩
    · have g1 : decide (s.size ≤ sp + 1) = false := decide_eq_false hlast
      have h9 : (l9, i9, er9, sp9) = ([], 0, er, sp) := by
        rw [← HV9.out, ← HV.out]
        refine AheadPure.still_bad ?_ ?_
        · rw [HV.out]; exact hne
        · rw [HV.out, hsl]
          show sp + 1 < s.size
          omega
      cases h9
      clear hbig hne
      rcases e1 with rfl | rfl
      · go_wp2 <;> (go_ret; exact ⟨by simp, HB12.out⟩)
      · go_wp2 <;> (go_ret; exact ⟨by simp, HB12.out⟩)
end Go.Proofs.YtammhcfifnffeaaDoor.AheadLaw
