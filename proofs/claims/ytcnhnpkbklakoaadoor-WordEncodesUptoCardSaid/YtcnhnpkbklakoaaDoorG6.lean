/- What a row gives: the table; a world for the witnesses. (Turned from the field seat.) -/
import Derived.Test.YtcnhnpkbklakoaaDoorRows
import Derived.Test.YtcnhnpkbklakoaaDoorG1
import Derived.Lib.LaidTab
import Derived.OpenShut
import Derived.WalkKit
import Derived.ProofKit
import Derived.ChangeOld
import Derived.Deep.DeepHandedRow
/- What a row gives: the table. (Turned from the field seat's text.) -/
namespace Go.Proofs.YtcnhnpkbklakoaaDoor.Open
open Go.RowKit Go.ChangeShapes Go.WideShapes Go.Proofs.YtcnhnpkbklakoaaDoor.Octet
set_option linter.unusedVariables false
theorem len_three {α : Type} : ∀ {l : List α}, l.length = 3 → ∃ a b c, l = [a, b, c]
  | [a, b, c], _ => ⟨a, b, c, rfl⟩
theorem gTab : Tryd.prog.globalNamed "posthorn/octet.stretches" = some 0 := by kernel_rfl
theorem gTabType : (Tryd.prog.globals[0]?).map (·.type) = some 129 := by kernel_rfl
def tabRow (k : Nat) : DataW Unit := .agg [.lit (.int .i64 (row k).1), .lit (.int .u8 (row k).2.1), .lit (.int .u8 (row k).2.2)]
theorem tab_eq : (Rows.laid_posthorn_octet_stretches : DataW Unit) = .agg ((List.range 35).map tabRow) := by rfl
theorem cells_row {W : World} {fuel : Nat} {cs : List Value} {k : Nat} {p : List MemPlace} (h : DataW.trod (fun _ => ()) Tryd.prog W 0 (fun _ => true) false fuel 128 cs = some (tabRow k, p)) :
    cs = [.int .i64 (row k).1, .int .u8 (row k).2.1, .int .u8 (row k).2.2] := by
  obtain ⟨ys, n', rfl, he, hl, hyl, hf⟩ := DataW.trod_struct Tryd.underlying128 h
  have hlen : ys.length = 3 := by simpa using hyl
  match ys, hlen with
  | [ya, yb, yc], _ =>
    have h0 := hf 0 _ rfl
    have h1 := hf 1 _ rfl
    have h2 := hf 2 _ rfl
    simp only [List.getElem?_cons_zero, List.getElem?_cons_succ] at h0 h1 h2
    obtain ⟨x0, e0, rfl, _⟩ := DataW.trod_int Tryd.underlying3 h0
    obtain ⟨x1, e1, rfl, _⟩ := DataW.trod_int Tryd.underlying5 h1
    obtain ⟨x2, e2, rfl, _⟩ := DataW.trod_int Tryd.underlying5 h2
    have c3 : Tryd.prog.cellsOf 3 = 1 := by kernel_rfl
    have c5 : Tryd.prog.cellsOf 5 = 1 := by kernel_rfl
    have c128 : Tryd.prog.cellsOf 128 = 3 := by kernel_rfl
    have ge0 : (cs.drop 0).take (Tryd.prog.cellsOf 3) = [.int .i64 x0] := e0
    rw [c3] at ge0
    have ge1 : (cs.drop 1).take (Tryd.prog.cellsOf 5) = [.int .u8 x1] := e1
    rw [c5] at ge1
    have ge2 : (cs.drop 2).take (Tryd.prog.cellsOf 5) = [.int .u8 x2] := e2
    rw [c5] at ge2
    rw [c128] at hl
    have hd := congrArg Prod.fst he
    simp only [tabRow, List.map_cons, List.map_nil, DataW.agg.injEq, List.cons.injEq, DataW.lit.injEq, Lit.int.injEq, true_and, and_true] at hd
    obtain ⟨r0, r1, r2⟩ := hd
    clear e0 e1 e2 h0 h1 h2 hf hyl h
    obtain ⟨a, b, c, rfl⟩ := len_three hl
    · simp only [List.drop_zero, List.drop_succ_cons, List.take_succ_cons, List.take_zero, List.cons.injEq, and_true] at ge0 ge1 ge2
      subst ge0 ge1 ge2
      rw [r0, r1, r2]
theorem laid_of {W : World} (h : laidMetH Tryd.prog Rows.wordEncodesUptoRow.laid W) : Laid W := by
  have h' : laidMet Tryd.prog [("unicode/utf8.acceptRanges", Rows.laid_unicode_utf8_acceptRanges), ("posthorn/octet.stretches", Rows.laid_posthorn_octet_stretches), ("unicode/utf8.first", Rows.laid_unicode_utf8_first)] W := h
  obtain ⟨ps, ⟨_, _, _, _, _, _, _, _, _, _, ⟨g, t, cs, fuel, p, q, hg, ht, hvar, hd, _, _⟩, _⟩, _⟩ := h'
  obtain rfl := Option.some.inj (gTab.symm.trans hg)
  obtain rfl := Option.some.inj (gTabType.symm.trans ht)
  rw [tab_eq] at hd
  obtain ⟨xs, m, rfl, he, hl, hxl, hi⟩ := DataW.trod_array Tryd.underlying129 hd
  have c128 : Tryd.prog.cellsOf 128 = 3 := by kernel_rfl
  have hds := congrArg Prod.fst he
  simp only [DataW.agg.injEq] at hds
  intro k hk
  have hx := hi k hk
  have hxk : xs[k]? = some (xs[k]'(by omega)) := List.getElem?_eq_getElem (by omega)
  have hfst : (xs[k]'(by omega)).1 = tabRow k := by
    have h1 : (xs.map (·.1))[k]? = some (tabRow k) := by
      rw [← hds, List.getElem?_map, List.getElem?_range hk]
      rfl
    rw [List.getElem?_map, hxk] at h1
    simpa using h1
  rw [hxk, c128] at hx
  have hc := cells_row (k := k) (p := (xs[k]'(by omega)).2) (by rw [hx, ← hfst])
  have at_ : ∀ i, i < 3 → W.cell? ⟨0, k * 3 + i, none⟩ = [Value.int .i64 (row k).1, .int .u8 (row k).2.1, .int .u8 (row k).2.2][i]? := by
    intro i hi3
    rw [World.var?_cell gTab hvar, ← hc]
    rw [List.getElem?_take, if_pos hi3, List.getElem?_drop, Array.getElem?_toList]
  exact ⟨at_ 0 (by omega), at_ 1 (by omega), at_ 2 (by omega)⟩
end Go.Proofs.YtcnhnpkbklakoaaDoor.Open
/- A world for the witnesses of the door seat's rows: the tables hold what their initialisers lay. -/
namespace Go.Proofs.YtcnhnpkbklakoaaDoor.Witness
open Go.ChangeShapes Go.WideShapes Go.ChangeAt Go.RowKit Go.Proofs.YtcnhnpkbklakoaaDoor.Octet
def rangeCells : Array Value := (([(128, 191), (160, 191), (128, 159), (144, 191), (128, 143)] ++ List.replicate 11 (0, 0) : List (Int × Int)).flatMap fun x => [Value.int .u8 x.1, Value.int .u8 x.2]).toArray
def stretchCells : Array Value := (tab.flatMap fun x => [Value.int .i64 (x.1 : Int), Value.int .u8 (x.2.1 : Int), Value.int .u8 (x.2.2 : Int)]).toArray
def firstCells : Array Value := (Pinned.utf8FirstZ.map fun (x : Nat) => Value.int .u8 (x : Int)).toArray
def put (cs : Array Value) : Obj → Obj
  | .cells _ t frozen => .cells cs t frozen
  | o => o
noncomputable def laidWorld (os : Os) : World :=
  { World.holding Tryd.prog os ⟨#[], #[], []⟩ with heap := (((World.holding Tryd.prog os ⟨#[], #[], []⟩).heap.modify 3 (put rangeCells)).modify 0 (put stretchCells)).modify 2 (put firstCells) }
theorem own : ownKnob Tryd.prog.godebug = none := by kernel_rfl
theorem laidOut : laidOutB Tryd.prog = true := by kernel_rfl
end Go.Proofs.YtcnhnpkbklakoaaDoor.Witness
