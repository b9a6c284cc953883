/- What a row gives: the fields with their bulk, and the table. -/
import Derived.Test.YtammhcfifnffeaaDoorRows
import Derived.Test.YtammhcfifnffeaaDoorFrame
import Derived.Test.YtammhcfifnffeaaDoorOctet
import Derived.Test.YtammhcfifnffeaaDoorPFieldPrintsx0
import Derived.Lib.LaidTab
namespace Go.Proofs.YtammhcfifnffeaaDoor.Open
open Go.RowKit Go.Proofs.YtammhcfifnffeaaDoorW.PrintWords Go.ChangeShapes Go.WideShapes Go.Deep Go.Proofs.YtammhcfifnffeaaDoor.Frame Go.Proofs.YtammhcfifnffeaaDoor.PFieldPrints Go.Proofs.YtammhcfifnffeaaDoor.Octet
set_option linter.unusedVariables false

theorem len_two {α : Type} : ∀ {l : List α}, l.length = 2 → ∃ a b, l = [a, b]
  | [a, b], _ => ⟨a, b, rfl⟩
theorem len_three {α : Type} : ∀ {l : List α}, l.length = 3 → ∃ a b c, l = [a, b, c]
  | [a, b, c], _ => ⟨a, b, c, rfl⟩
theorem bulkAll_append {H : Type} (a b : List (DataW H)) : Rows.uptoBulkAll (a ++ b) = Rows.uptoBulkAll a + Rows.uptoBulkAll b := by
  induction a with
  | nil => simp [Rows.uptoBulkAll]
  | cons x a ih => simp [Rows.uptoBulkAll, ih]; omega
/-- a field, and its bulk -/
theorem open_field {H : Type} {enc : TypeId × Value → H} {W : World} {spare : Nat → Bool} {held : Bool} {n : Nat} {cs : List Value} {y : DataW H × List MemPlace}
    (h : DataW.trod enc Tryd.prog W 0 spare held n 30 cs = some y) : ∃ f : S30, k30.K W f cs ∧ f.f0.size + f.f1.size + 3 = Rows.uptoBulk y.1 := by
  obtain ⟨ys, n', rfl, rfl, hl, hyl, hf⟩ := DataW.trod_struct Tryd.underlying30 h
  have hlen : ys.length = 2 := by simpa using hyl
  match ys, hlen with
  | [ya, yb], _ =>
    have h0 := hf 0 _ rfl
    have h1 := hf 1 _ rfl
    simp only [List.getElem?_cons_zero, List.getElem?_cons_succ] at h0 h1
    obtain ⟨s0, e0, rfl, _⟩ := DataW.trod_string Tryd.underlying9 h0
    obtain ⟨s1, e1, rfl, _⟩ := DataW.trod_string Tryd.underlying9 h1
    have c9 : Tryd.prog.cellsOf 9 = 1 := by kernel_rfl
    have c30 : Tryd.prog.cellsOf 30 = 2 := by kernel_rfl
    have ge0 : (cs.drop 0).take (Tryd.prog.cellsOf 9) = [.string s0] := e0
    rw [c9] at ge0
    have ge1 : (cs.drop 1).take (Tryd.prog.cellsOf 9) = [.string s1] := e1
    rw [c9] at ge1
    rw [c30] at hl
    clear e0 e1 h0 h1 hf hyl h
    obtain ⟨a, b, rfl⟩ := len_two hl
    · simp only [List.drop_zero, List.drop_succ_cons, List.take_succ_cons, List.take_zero, List.cons.injEq, and_true] at ge0 ge1
      subst ge0 ge1
      refine ⟨⟨s0, s1⟩, k30_mk W _, ?_⟩
      simp only [List.map_cons, List.map_nil, Rows.uptoBulk, Rows.uptoBulkAll, data_length]
      omega
/-- a slice of fields: nil, or a row that reads; with its bulk -/
theorem open_fields {H : Type} {enc : TypeId × Value → H} {W : World} {spare : Nat → Bool} {held : Bool} {n : Nat} {cs : List Value} {y : DataW H × List MemPlace}
    (h : DataW.trod enc Tryd.prog W 0 spare held n 22 cs = some y) (hw : ∀ m ∈ y.1.weights Tryd.prog 22, m ≤ reachBytes) :
    ∃ (A : Option Addr) (len cap : Nat) (xs : List S30), cs = [.slice A len cap] ∧ xs.length = len ∧ len ≤ cap ∧ (A = none → cap = 0) ∧ Kd.C k30 W A len xs ∧ len * 32 ≤ 140737488351232 ∧ (xs.map fun f => f.f0.size + f.f1.size + 3).sum ≤ Rows.uptoBulk y.1 := by
  rcases open_slice Tryd.underlying22 h with ⟨rfl, rfl⟩ | ⟨a, len, cap, m, n', D, Pl, rfl, _, hl, hm, hmm, rfl, hi⟩
  · exact ⟨none, 0, 0, [], rfl, rfl, Nat.le_refl _, fun _ => rfl, ⟨rfl, by omega, fun h => by omega⟩, by simp, by simp⟩
  · have hlm : len ≤ m := by rw [hmm]; split <;> omega
    have hW : (DataW.slice ((List.range len).map D) ((List.range (m - len)).map fun j => D (len + j))).weights Tryd.prog 22 = (((List.range len).map D).length + ((List.range (m - len)).map fun j => D (len + j)).length) * Tryd.prog.bytesOf 30 :: (DataW.weightsAll Tryd.prog 30 ((List.range len).map D) ++ DataW.weightsAll Tryd.prog 30 ((List.range (m - len)).map fun j => D (len + j))) := by
      conv => lhs; unfold DataW.weights
      rw [Tryd.underlying22]
    rw [hW] at hw
    have b30 : Tryd.prog.bytesOf 30 = 32 := by kernel_rfl
    have c30 : Tryd.prog.cellsOf 30 = 2 := by kernel_rfl
    have key : ∀ q, q ≤ len → ∃ xs : List S30, xs.length = q ∧ (∀ j p, xs[j]? = some p → ∃ c, c.length = k30.sz ∧ k30.K W p c ∧ ∀ i u, c[i]? = some u → W.cell? (a.add (j * k30.sz + i)) = some u) ∧ (xs.map fun f => f.f0.size + f.f1.size + 3).sum ≤ Rows.uptoBulkAll ((List.range q).map D) := by
      intro q
      induction q with
      | zero => intro _; exact ⟨[], rfl, fun j p h => by simp at h, by simp⟩
      | succ q ih =>
        intro hq
        obtain ⟨xs, hxl, hxs, hxz⟩ := ih (by omega)
        obtain ⟨cs', hc, ht'⟩ := hi q (by omega)
        obtain ⟨_, hcl, hat⟩ := World.cells?_some hc
        obtain ⟨x, hK, hx⟩ := open_field ht'
        refine ⟨xs ++ [x], by simp [hxl], fun j p hj => ?_, ?_⟩
        · rcases Nat.lt_or_ge j xs.length with hj' | hj'
          · rw [List.getElem?_append_left hj'] at hj
            exact hxs j p hj
          · have hjq : j = q := by
              have := (List.getElem?_eq_some_iff.1 hj).1
              simp only [List.length_append, List.length_singleton] at this
              omega
            subst hjq
            rw [List.getElem?_append_right hj', hxl, Nat.sub_self] at hj
            simp only [List.getElem?_cons_zero, Option.some.injEq] at hj
            subst hj
            refine ⟨cs', by rw [hcl, c30]; rfl, hK, fun i u hu' => ?_⟩
            have hi' : i < Tryd.prog.cellsOf 30 := by have := (List.getElem?_eq_some_iff.1 hu').1; omega
            have := hat i hi'
            rw [Go.Deep.add_add, c30] at this
            show W.cell? (a.add (j * 2 + i)) = some u
            rw [this, hu']
        · rw [List.range_succ, List.map_append, List.map_append, List.sum_append, bulkAll_append]
          simp only [List.map_cons, List.map_nil, List.sum_cons, List.sum_nil, Rows.uptoBulkAll]
          simp only at hx
          omega
    obtain ⟨xs, hxl, hxs, hxz⟩ := key len (Nat.le_refl _)
    refine ⟨some a, len, cap, xs, rfl, hxl, hl, (fun h => by cases h), ⟨hxl, (by unfold maxLen at hm; omega), fun _ => ⟨a, rfl, hxs⟩⟩, ?_, ?_⟩
    · have := hw _ List.mem_cons_self
      simp only [List.length_map, List.length_range, reach_eq, b30] at this
      omega
    · simp only [Rows.uptoBulk]
      omega

theorem gTab : Tryd.prog.globalNamed "posthorn/octet.stretches" = some 3 := by kernel_rfl
theorem gTabType : (Tryd.prog.globals[3]?).map (·.type) = some 108 := by kernel_rfl
def tabRow (k : Nat) : DataW Unit := .agg [.lit (.int .i64 (row k).1), .lit (.int .u8 (row k).2.1), .lit (.int .u8 (row k).2.2)]
theorem tab_eq : (Rows.laid_posthorn_octet_stretches : DataW Unit) = .agg ((List.range 35).map tabRow) := by rfl
theorem cells_row {W : World} {fuel : Nat} {cs : List Value} {k : Nat} {p : List MemPlace} (h : DataW.trod (fun _ => ()) Tryd.prog W 0 (fun _ => true) false fuel 107 cs = some (tabRow k, p)) :
    cs = [.int .i64 (row k).1, .int .u8 (row k).2.1, .int .u8 (row k).2.2] := by
  obtain ⟨ys, n', rfl, he, hl, hyl, hf⟩ := DataW.trod_struct Tryd.underlying107 h
  have hlen : ys.length = 3 := by simpa using hyl
  match ys, hlen with
  | [ya, yb, yc], _ =>
    have h0 := hf 0 _ rfl
    have h1 := hf 1 _ rfl
    have h2 := hf 2 _ rfl
    simp only [List.getElem?_cons_zero, List.getElem?_cons_succ] at h0 h1 h2
    obtain ⟨x0, e0, rfl, _⟩ := DataW.trod_int Tryd.underlying3 h0
    obtain ⟨x1, e1, rfl, _⟩ := DataW.trod_int Tryd.underlying5 h1
    obtain ⟨x2, e2, rfl, _⟩ := DataW.trod_int Tryd.underlying5 h2
    have c3 : Tryd.prog.cellsOf 3 = 1 := by kernel_rfl
    have c5 : Tryd.prog.cellsOf 5 = 1 := by kernel_rfl
    have c107 : Tryd.prog.cellsOf 107 = 3 := by kernel_rfl
    have ge0 : (cs.drop 0).take (Tryd.prog.cellsOf 3) = [.int .i64 x0] := e0
    rw [c3] at ge0
    have ge1 : (cs.drop 1).take (Tryd.prog.cellsOf 5) = [.int .u8 x1] := e1
    rw [c5] at ge1
    have ge2 : (cs.drop 2).take (Tryd.prog.cellsOf 5) = [.int .u8 x2] := e2
    rw [c5] at ge2
    rw [c107] at hl
    have hd := congrArg Prod.fst he
    simp only [tabRow, List.map_cons, List.map_nil, DataW.agg.injEq, List.cons.injEq, DataW.lit.injEq, Lit.int.injEq, true_and, and_true] at hd
    obtain ⟨r0, r1, r2⟩ := hd
    clear e0 e1 e2 h0 h1 h2 hf hyl h
    obtain ⟨a, b, c, rfl⟩ := len_three hl
    · simp only [List.drop_zero, List.drop_succ_cons, List.take_succ_cons, List.take_zero, List.cons.injEq, and_true] at ge0 ge1 ge2
      subst ge0 ge1 ge2
      rw [r0, r1, r2]
theorem laid_of {W : World} (h : laidMetH Tryd.prog Rows.fieldPrintsUptoRow.laid W) : Laid W := by
  have h' : laidMet Tryd.prog [("unicode/utf8.acceptRanges", Rows.laid_unicode_utf8_acceptRanges), ("posthorn/octet.stretches", Rows.laid_posthorn_octet_stretches), ("unicode/utf8.first", Rows.laid_unicode_utf8_first)] W := h
  obtain ⟨ps, ⟨_, _, _, _, _, _, _, _, _, _, ⟨g, t, cs, fuel, p, q, hg, ht, hvar, hd, _, _⟩, _⟩, _⟩ := h'
  obtain rfl := Option.some.inj (gTab.symm.trans hg)
  obtain rfl := Option.some.inj (gTabType.symm.trans ht)
  rw [tab_eq] at hd
  obtain ⟨xs, m, rfl, he, hl, hxl, hi⟩ := DataW.trod_array Tryd.underlying108 hd
  have c107 : Tryd.prog.cellsOf 107 = 3 := by kernel_rfl
  have hds := congrArg Prod.fst he
  simp only [DataW.agg.injEq] at hds
  intro k hk
  have hx := hi k hk
  have hxk : xs[k]? = some (xs[k]'(by omega)) := List.getElem?_eq_getElem (by omega)
  have hfst : (xs[k]'(by omega)).1 = tabRow k := by
    have h1 : (xs.map (·.1))[k]? = some (tabRow k) := by
      rw [← hds, List.getElem?_map, List.getElem?_range hk]
      rfl
    rw [List.getElem?_map, hxk] at h1
    simpa using h1
  rw [hxk, c107] at hx
  have hc := cells_row (k := k) (p := (xs[k]'(by omega)).2) (by rw [hx, ← hfst])
  have at_ : ∀ i, i < 3 → W.cell? ⟨3, k * 3 + i, none⟩ = [Value.int .i64 (row k).1, .int .u8 (row k).2.1, .int .u8 (row k).2.2][i]? := by
    intro i hi3
    rw [World.var?_cell gTab hvar, ← hc]
    rw [List.getElem?_take, if_pos hi3, List.getElem?_drop, Array.getElem?_toList]
  exact ⟨at_ 0 (by omega), at_ 1 (by omega), at_ 2 (by omega)⟩
end Go.Proofs.YtammhcfifnffeaaDoor.Open
