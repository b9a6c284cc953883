/- FieldAhead holds of all bytes of bulk at most 1048576: the card. -/
import Derived.Test.YtammhcfifnffeaaDoorCards
import Derived.Test.YtammhcfifnffeaaDoorTie
import Derived.Test.YtammhcfifnffeaaDoorWorld
import Derived.Test.YtammhcfifnffeaaDoorOpen
import Derived.Test.YtammhcfifnffeaaDoorBytesAny
import Derived.Lib.LaidU8T
import Derived.Test.YtammhcfifnffeaaDoorAheadLaw
import Derived.WalkKit
import Derived.ProofKit
import Derived.OpenShut
import Derived.ChangeOld
import Derived.Below
import Derived.SizedLaws
import Derived.HandedShaped
import Derived.Deep.DeepHandedRow
namespace Go.Proofs.YtammhcfifnffeaaDoor.Open
open Go.RowKit Go.Proofs.YtammhcfifnffeaaDoorW.PrintWords Go.ChangeShapes Go.WideShapes Go.Deep Go.Proofs.YtammhcfifnffeaaDoor.Frame Go.Proofs.YtammhcfifnffeaaDoor.PFieldPrints
set_option linter.unusedVariables false

/-- a byte, and its bulk -/
theorem open_byte {H : Type} {enc : TypeId × Value → H} {W : World} {spare : Nat → Bool} {held : Bool} {n : Nat} {cs : List Value} {y : DataW H × List MemPlace}
    (h : DataW.trod enc Tryd.prog W 0 spare held n 5 cs = some y) : ∃ x : UInt8, cs = [.int .u8 (x.toNat : Int)] ∧ 1 = Rows.uptoBulk y.1 := by
  obtain ⟨x, rfl, rfl, hw⟩ := DataW.trod_int Tryd.underlying5 h
  have hr : 0 ≤ x ∧ x < 256 := by
    have h1 : IntKind.u8.min = 0 := rfl
    have h2 : IntKind.u8.max = 255 := rfl
    simp only [Lit.wf, h1, h2] at hw
    simp at hw
    omega
  refine ⟨UInt8.ofNat x.toNat, ?_, rfl⟩
  rw [UInt8.toNat_ofNat']
  congr 2
  omega
theorem bytes_mk (l : List UInt8) : bytesOf ⟨l.toArray⟩ = l.map fun (c : UInt8) => (c.toNat : Int) := rfl
/-- a slice of bytes: nil, or a row that reads; with its bulk -/
theorem open_bytes {H : Type} {enc : TypeId × Value → H} {W : World} {spare : Nat → Bool} {held : Bool} {n : Nat} {cs : List Value} {y : DataW H × List MemPlace}
    (h : DataW.trod enc Tryd.prog W 0 spare held n 24 cs = some y) :
    ∃ (A : Option Addr) (cap : Nat) (s : ByteArray), cs = [.slice A s.size cap] ∧ s.size ≤ cap ∧ (A = none → cap = 0) ∧ Kd.C (Kd.int .u8) W A s.size (bytesOf s) ∧ s.size + 1 ≤ Rows.uptoBulk y.1 := by
  rcases open_slice Tryd.underlying24 h with ⟨rfl, rfl⟩ | ⟨a, len, cap, m, n', D, Pl, rfl, _, hl, hm, hmm, rfl, hi⟩
  · exact ⟨none, 0, ⟨#[]⟩, rfl, Nat.le_refl _, fun _ => rfl, ⟨rfl, by decide, fun h => absurd h (by decide)⟩, Nat.le_refl 1⟩
  · have hlm : len ≤ m := by rw [hmm]; split <;> omega
    have c5 : Tryd.prog.cellsOf 5 = 1 := by kernel_rfl
    have key : ∀ q, q ≤ len → ∃ xs : List UInt8, xs.length = q ∧ (∀ (j : Nat) p, xs[j]? = some p → W.cell? (a.add j) = some (.int .u8 (p.toNat : Int))) ∧ xs.length ≤ Rows.uptoBulkAll ((List.range q).map D) := by
      intro q
      induction q with
      | zero => intro _; exact ⟨[], rfl, fun j p h => by simp at h, by simp⟩
      | succ q ih =>
        intro hq
        obtain ⟨xs, hxl, hxs, hxz⟩ := ih (by omega)
        obtain ⟨cs', hc, ht'⟩ := hi q (by omega)
        obtain ⟨_, hcl, hat⟩ := World.cells?_some hc
        obtain ⟨x, rfl, hx⟩ := open_byte ht'
        refine ⟨xs ++ [x], by simp [hxl], fun j p hj => ?_, ?_⟩
        · rcases Nat.lt_or_ge j xs.length with hj' | hj'
          · rw [List.getElem?_append_left hj'] at hj
            exact hxs j p hj
          · have hjq : j = q := by
              have := (List.getElem?_eq_some_iff.1 hj).1
              simp only [List.length_append, List.length_singleton] at this
              omega
            subst hjq
            rw [List.getElem?_append_right hj', hxl, Nat.sub_self] at hj
            simp only [List.getElem?_cons_zero, Option.some.injEq] at hj
            subst hj
            have := hat 0 (by rw [c5]; decide)
            rw [Go.Deep.add_add, c5, Nat.mul_one, Nat.add_zero] at this
            rw [this]
            rfl
        · rw [List.range_succ, List.map_append, bulkAll_append, List.length_append]
          simp only [List.map_cons, List.map_nil, List.length_cons, List.length_nil, Rows.uptoBulkAll]
          simp only at hx
          omega
    obtain ⟨xs, hxl, hxs, hxz⟩ := key len (Nat.le_refl _)
    have hsz : (⟨xs.toArray⟩ : ByteArray).size = len := hxl
    refine ⟨some a, cap, ⟨xs.toArray⟩, by rw [hsz], by rw [hsz]; exact hl, (fun h => by cases h), ?_, ?_⟩
    · rw [hsz]
      refine ⟨by rw [bytes_mk, List.length_map]; exact hxl, (by unfold maxLen at hm; omega), fun _ => ⟨a, rfl, fun j p hj => ⟨[.int .u8 p], rfl, rfl, fun i u hu => ?_⟩⟩⟩
      obtain rfl : i = 0 := by
        have := (List.getElem?_eq_some_iff.1 hu).1
        simp only [List.length_cons, List.length_nil] at this
        omega
      cases hu
      rw [bytes_mk, List.getElem?_map] at hj
      cases hq : xs[j]? with
      | none => rw [hq] at hj; simp at hj
      | some q =>
        rw [hq] at hj
        simp only [Option.map_some, Option.some.injEq] at hj
        subst hj
        rw [Nat.add_zero, show j * (Kd.int .u8).sz = j from Nat.mul_one j]
        exact hxs j q hq
    · rw [hsz]
      simp only [Rows.uptoBulk]
      omega
theorem first_eq : (Rows.laid_unicode_utf8_first : DataW Unit) = Lib.firstData := by kernel_rfl
theorem accept_eq : (Rows.laid_unicode_utf8_acceptRanges : DataW Unit) = Lib.acceptData := by kernel_rfl
theorem tabs_of {W : World} (h : laidMetH Tryd.prog Rows.fieldPrintsUptoRow.laid W) : Lib.Utf8Tabs 1 2 W := by
  have h' : laidMet Tryd.prog [("unicode/utf8.acceptRanges", Rows.laid_unicode_utf8_acceptRanges), ("posthorn/octet.stretches", Rows.laid_posthorn_octet_stretches), ("unicode/utf8.first", Rows.laid_unicode_utf8_first)] W := h
  have e1 := Lib.laidMet.reads h' (n := "unicode/utf8.first") (d := Rows.laid_unicode_utf8_first) (by simp)
  have e2 := Lib.laidMet.reads h' (n := "unicode/utf8.acceptRanges") (d := Rows.laid_unicode_utf8_acceptRanges) (by simp)
  rw [first_eq] at e1
  rw [accept_eq] at e2
  exact utf8Tabs_of_readsT (ρ := Tryd.lays260_ren) (U8Types.of260 Tryd.lays260) ⟨by kernel_rfl, by kernel_rfl, by kernel_rfl, by kernel_rfl, by kernel_rfl, by kernel_rfl, by kernel_rfl⟩ e1 e2
end Go.Proofs.YtammhcfifnffeaaDoor.Open
namespace Go.Proofs.YtammhcfifnffeaaDoor.fieldAhead
open Go.ChangeShapes Go.WideShapes Go.ChangeAt Go.RowKit Go.Proofs.YtammhcfifnffeaaDoor.Witness Go.Proofs.YtammhcfifnffeaaDoor.Open Go.Proofs.YtammhcfifnffeaaDoor.PFieldPrints Go.Proofs.YtammhcfifnffeaaDoor.PrintWalk
set_option linter.unusedVariables false
theorem laid_met (os : Os) : laidMet Tryd.prog Rows.fieldAheadUptoRow.laid ((laidWorld os).forCall (fun _ _ => 0) ⟨#[], #[.slice none 0 0, .slice none 0 0], []⟩).memory :=
  laidMet_of_run' 8 (by kernel_rfl) (by kernel_rfl)
theorem reads (os : Os) {H : Type} (enc : TypeId × Value → H) : ∃ places, DataW.whole enc Tryd.prog ((laidWorld os).forCall (fun _ _ => 0) ⟨#[], #[.slice none 0 0, .slice none 0 0], []⟩).memory Tryd.f8.params.toList Rows.fieldAheadSpec.vars false #[Value.slice none 0 0, Value.slice none 0 0].toList 8 = some ([.nil, .nil], [], places) :=
  ⟨[], by kernel_rfl⟩
set_option maxRecDepth 100000 in
theorem lifted (os : Os) (started : os.Started) (H : Type) (enc : TypeId × Value → H) (F : Stop.Interp) :
    ReturnsInHanded {} Tryd.checked os 8 .any ((Rows.OpenSpec.upto Rows.fieldAheadSpec).preRow enc Tryd.prog Tryd.f8 Rows.fieldAheadUptoRow.domain false Rows.fieldAheadUptoRow.laid) (((Rows.OpenSpec.upto Rows.fieldAheadSpec).at F).post enc Tryd.prog Tryd.f8 false true false false) := by
  obtain ⟨places, hx⟩ := reads os enc
  refine returnsInHanded_of_row (C := Tryd.checked) (s := Rows.OpenSpec.upto Rows.fieldAheadSpec) own started (by kernel_rfl) Tryd.func8
    (witness_row_at (enc := enc) (C := Tryd.checked) false (laidWorld os) #[.slice none 0 0, .slice none 0 0] rfl (by kernel_rfl) (by kernel_rfl) (by kernel_rfl)
      (OpenSpec.preRow_of_cond 8 hx (by kernel_rfl) (fun k hk => by cases hk; kernel_rfl) (by kernel_rfl) (laid_met os))) ?_
  intro W base args ds gs before hval0 hW _ hcond hsz0 hL hsh _
  have hk := hcond _ rfl
  have hsz : (DataW.weightsEach Tryd.prog (Tryd.f8.params.toList ++ Rows.fieldAheadSpec.plain.varTypes Tryd.prog) (ds ++ gs)).all (· ≤ reachBytes) = true := hsz0
  have hval : ∀ (j : Nat) t v, Tryd.f8.params[j]? = some t → args[j]? = some v → Value.okWide Tryd.prog W .any base t v := hval0
  have hW' := hW
  obtain ⟨p, q, hA0, hV, rfl, hfz, hnd⟩ := hW
  have hA : DataW.TrodAll enc Tryd.prog W 0 (fun _ => true) true Tryd.f8.params.toList args.toList ds p := hA0
  rw [Tryd.params8] at hA hval hsz
  obtain ⟨v0, vs0, d0, ds0, p0, q0, hargs, rfl, rfl, h0, r0⟩ := trodAll_cons hA
  obtain ⟨v1, vs1, d1, ds1, p1, q1, rfl, rfl, rfl, h1, r1⟩ := trodAll_cons r0
  obtain ⟨rfl, rfl, rfl⟩ := trodAll_nil r1
  obtain rfl : args = #[v0, v1] := by cases args; simp_all
  obtain ⟨rfl, rfl⟩ := trodVars_none hV
  have k0 := h0
  have k1 := h1
  have lt0 : ∀ x ∈ p0, x.block < W.heap.size := by obtain ⟨m, hm⟩ := k0; exact DataW.trod_lt m _ _ _ hm
  have lt1 : ∀ x ∈ p1, x.block < W.heap.size := by obtain ⟨m, hm⟩ := k1; exact DataW.trod_lt m _ _ _ hm
  obtain ⟨a0, len0, cap0, rfl⟩ := okWide_slice Tryd.underlying24 (hval 0 24 v0 rfl rfl)
  obtain ⟨a1, len1, cap1, rfl⟩ := okWide_slice Tryd.underlying24 (hval 1 24 v1 rfl rfl)
  obtain ⟨fuel0, hf0⟩ := h0
  obtain ⟨fuel1, hf1⟩ := h1
  obtain ⟨A, c, s, hcs0, hsc, hsn0, hC0, hSs0⟩ := open_bytes hf0
  obtain ⟨B, d, r, hcs1, hsd, hsn, hCs, hSs⟩ := open_bytes hf1
  simp only [Value.cells, List.cons.injEq, Value.slice.injEq, and_true] at hcs0 hcs1
  obtain ⟨rfl, rfl, rfl⟩ := hcs0
  obtain ⟨rfl, rfl, rfl⟩ := hcs1
  have hbulk : Rows.uptoBulk d0 + Rows.uptoBulk d1 ≤ 1048576 := by
    have h := of_decide_eq_true hk
    simp only [List.append_nil, Rows.uptoBulkAll] at h
    omega
  simp only at hSs hSs0
  have hssz : s.size ≤ 1048576 := by omega
  have hrsz : r.size ≤ 1048576 := by omega
  obtain ⟨m, hm⟩ : ∃ m, W.cell? ⟨0, 0, none⟩ = some (.int .i64 m) := cell_of_shapedOpen_int (t := 3) (zero := #[.int .i64 0]) hsh (of_decide_eq_true (by kernel_rfl)) (by kernel_rfl) rfl (by kernel_rfl) (by kernel_rfl) Tryd.underlying3
  clear hA0 hval0 hsz0 hsz hSs hSs0
  refine (AheadLaw.law_calls a0 cap0 s a1 cap1 r m W hC0 hsc hssz hCs hsd hrsz hm (laid_of hL) (tabs_of hL)).mono fun e W' ⟨he, bel⟩ => ?_
  subst he
  exact ⟨_, rfl, _, _, _, [], _, [], hW', trodAll_mk1 (shut_bool Tryd.underlying4 _), (trodAll_cons_mk (Below.trod laidOut (by kernel_rfl) (of_decide_eq_true (by kernel_rfl)) k0 bel lt0) (trodAll_cons_mk (Below.trod laidOut (by kernel_rfl) (of_decide_eq_true (by kernel_rfl)) k1 bel lt1) trodAll_mk0)), rfl, bel.frame _, fun h => by cases h⟩
theorem said : Rows.FieldAheadUptoSaid :=
  OpenClaim.holds_of_cond 8 Tryd.f8 rfl rfl rfl rfl rfl rfl rfl ⟨rfl, rfl, rfl, rfl, rfl⟩ rfl rfl rfl rfl rfl (by kernel_rfl) Tryd.func8 (by kernel_rfl)
    (of_decide_eq_true (by kernel_rfl)) (by unfold Func.isWrapper; first | (rw [if_pos (by decide +kernel)]; kernel_rfl) | (rw [if_neg (by decide +kernel)]; exact ⟨rfl, rfl⟩))
    (fun os started H enc _ F => by rw [OpenClaim.pre_eq_preRow]; exact lifted os started H enc F)
theorem plain (f : FuncId) (fn : Func) (hf : Tryd.pinned.checked.prog.funcNamed "posthorn/posthornlaw16.FieldAhead" = some f) (hfn : Tryd.pinned.checked.prog.funcs[f]? = some fn) :
    false = Tryd.pinned.checked.prog.looks [] ∧ ∀ (j : Nat) t, fn.params[j]? = some t → Tryd.pinned.checked.prog.wantsStandIn t = false := by
  obtain rfl : f = 8 := Option.some.inj ((show Tryd.prog.funcNamed "posthorn/posthornlaw16.FieldAhead" = some 8 by kernel_rfl).symm.trans hf) |>.symm
  obtain rfl : fn = Tryd.f8 := (Option.some.inj (Tryd.func8.symm.trans hfn)).symm
  refine ⟨by kernel_rfl, fun j t ht => ?_⟩
  rw [Tryd.params8] at ht
  have hm : t ∈ #[24, 24] := Array.mem_of_getElem? ht
  have h24 : Tryd.prog.wantsStandIn 24 = false := by kernel_rfl
  simp only [List.mem_toArray, List.mem_cons, List.not_mem_nil, or_false, or_self] at hm
  subst hm
  exact h24
theorem card : Rows.FieldAheadUptoCardSaid :=
  Claim7.holds_tied_plain_at .later [] _ _ _ _ said (fun _ h => by cases h) (by kernel_rfl) (fun _ h => by cases h) fieldAheadUpto_row_tie rfl ⟨rfl, rfl⟩ (by kernel_rfl) rfl plain (by kernel_rfl)
#print axioms card
end Go.Proofs.YtammhcfifnffeaaDoor.fieldAhead
namespace Go.Proofs.YtammhcfifnffeaaDoor
theorem fieldAheadUptoCard_holds : Rows.FieldAheadUptoCardSaid := fieldAhead.card
end Go.Proofs.YtammhcfifnffeaaDoor
