/- What a row gives: bytes with their bulk; the utf8 tables. -/
import Derived.Test.YtammhcfifnffeaaDoorOpen
import Derived.Test.YtammhcfifnffeaaDoorBytesAny
import Derived.Lib.LaidU8T
namespace Go.Proofs.YtammhcfifnffeaaDoor.Open
open Go.RowKit Go.Proofs.YtammhcfifnffeaaDoorW.PrintWords Go.ChangeShapes Go.WideShapes Go.Deep Go.Proofs.YtammhcfifnffeaaDoor.Frame Go.Proofs.YtammhcfifnffeaaDoor.PFieldPrints
set_option linter.unusedVariables false

/-- a byte, and its bulk -/
theorem open_byte {H : Type} {enc : TypeId × Value → H} {W : World} {spare : Nat → Bool} {held : Bool} {n : Nat} {cs : List Value} {y : DataW H × List MemPlace}
    (h : DataW.trod enc Tryd.prog W 0 spare held n 5 cs = some y) : ∃ x : UInt8, cs = [.int .u8 (x.toNat : Int)] ∧ 1 = Rows.uptoBulk y.1 := by
  obtain ⟨x, rfl, rfl, hw⟩ := DataW.trod_int Tryd.underlying5 h
  have hr : 0 ≤ x ∧ x < 256 := by
    have h1 : IntKind.u8.min = 0 := rfl
    have h2 : IntKind.u8.max = 255 := rfl
    simp only [Lit.wf, h1, h2] at hw
    simp at hw
    omega
  refine ⟨UInt8.ofNat x.toNat, ?_, rfl⟩
  rw [UInt8.toNat_ofNat']
  congr 2
  omega
theorem bytes_mk (l : List UInt8) : bytesOf ⟨l.toArray⟩ = l.map fun (c : UInt8) => (c.toNat : Int) := rfl
/-- a slice of bytes: nil, or a row that reads; with its bulk -/
theorem open_bytes {H : Type} {enc : TypeId × Value → H} {W : World} {spare : Nat → Bool} {held : Bool} {n : Nat} {cs : List Value} {y : DataW H × List MemPlace}
    (h : DataW.trod enc Tryd.prog W 0 spare held n 24 cs = some y) :
    ∃ (A : Option Addr) (cap : Nat) (s : ByteArray), cs = [.slice A s.size cap] ∧ s.size ≤ cap ∧ (A = none → cap = 0) ∧ Kd.C (Kd.int .u8) W A s.size (bytesOf s) ∧ s.size + 1 ≤ Rows.uptoBulk y.1 := by
  rcases open_slice Tryd.underlying24 h with ⟨rfl, rfl⟩ | ⟨a, len, cap, m, n', D, Pl, rfl, _, hl, hm, hmm, rfl, hi⟩
  · exact ⟨none, 0, ⟨#[]⟩, rfl, Nat.le_refl _, fun _ => rfl, ⟨rfl, by decide, fun h => absurd h (by decide)⟩, Nat.le_refl 1⟩
  · have hlm : len ≤ m := by rw [hmm]; split <;> omega
    have c5 : Tryd.prog.cellsOf 5 = 1 := by kernel_rfl
    have key : ∀ q, q ≤ len → ∃ xs : List UInt8, xs.length = q ∧ (∀ (j : Nat) p, xs[j]? = some p → W.cell? (a.add j) = some (.int .u8 (p.toNat : Int))) ∧ xs.length ≤ Rows.uptoBulkAll ((List.range q).map D) := by
      intro q
      induction q with
      | zero => intro _; exact ⟨[], rfl, fun j p h => by simp at h, by simp⟩
      | succ q ih =>
        intro hq
        obtain ⟨xs, hxl, hxs, hxz⟩ := ih (by omega)
        obtain ⟨cs', hc, ht'⟩ := hi q (by omega)
        obtain ⟨_, hcl, hat⟩ := World.cells?_some hc
        obtain ⟨x, rfl, hx⟩ := open_byte ht'
        refine ⟨xs ++ [x], by simp [hxl], fun j p hj => ?_, ?_⟩
        · rcases Nat.lt_or_ge j xs.length with hj' | hj'
          · rw [List.getElem?_append_left hj'] at hj
            exact hxs j p hj
          · have hjq : j = q := by
              have := (List.getElem?_eq_some_iff.1 hj).1
              simp only [List.length_append, List.length_singleton] at this
              omega
            subst hjq
            rw [List.getElem?_append_right hj', hxl, Nat.sub_self] at hj
            simp only [List.getElem?_cons_zero, Option.some.injEq] at hj
            subst hj
            have := hat 0 (by rw [c5]; decide)
            rw [Go.Deep.add_add, c5, Nat.mul_one, Nat.add_zero] at this
            rw [this]
            rfl
        · rw [List.range_succ, List.map_append, bulkAll_append, List.length_append]
          simp only [List.map_cons, List.map_nil, List.length_cons, List.length_nil, Rows.uptoBulkAll]
          simp only at hx
          omega
    obtain ⟨xs, hxl, hxs, hxz⟩ := key len (Nat.le_refl _)
    have hsz : (⟨xs.toArray⟩ : ByteArray).size = len := hxl
    refine ⟨some a, cap, ⟨xs.toArray⟩, by rw [hsz], by rw [hsz]; exact hl, (fun h => by cases h), ?_, ?_⟩
    · rw [hsz]
      refine ⟨by rw [bytes_mk, List.length_map]; exact hxl, (by unfold maxLen at hm; omega), fun _ => ⟨a, rfl, fun j p hj => ⟨[.int .u8 p], rfl, rfl, fun i u hu => ?_⟩⟩⟩
      obtain rfl : i = 0 := by
        have := (List.getElem?_eq_some_iff.1 hu).1
        simp only [List.length_cons, List.length_nil] at this
        omega
      cases hu
      rw [bytes_mk, List.getElem?_map] at hj
      cases hq : xs[j]? with
      | none => rw [hq] at hj; simp at hj
      | some q =>
        rw [hq] at hj
        simp only [Option.map_some, Option.some.injEq] at hj
        subst hj
        rw [Nat.add_zero, show j * (Kd.int .u8).sz = j from Nat.mul_one j]
        exact hxs j q hq
    · rw [hsz]
      simp only [Rows.uptoBulk]
      omega
theorem first_eq : (Rows.laid_unicode_utf8_first : DataW Unit) = Lib.firstData := by kernel_rfl
theorem accept_eq : (Rows.laid_unicode_utf8_acceptRanges : DataW Unit) = Lib.acceptData := by kernel_rfl
theorem tabs_of {W : World} (h : laidMetH Tryd.prog Rows.fieldPrintsUptoRow.laid W) : Lib.Utf8Tabs 1 2 W := by
  have h' : laidMet Tryd.prog [("unicode/utf8.acceptRanges", Rows.laid_unicode_utf8_acceptRanges), ("posthorn/octet.stretches", Rows.laid_posthorn_octet_stretches), ("unicode/utf8.first", Rows.laid_unicode_utf8_first)] W := h
  have e1 := Lib.laidMet.reads h' (n := "unicode/utf8.first") (d := Rows.laid_unicode_utf8_first) (by simp)
  have e2 := Lib.laidMet.reads h' (n := "unicode/utf8.acceptRanges") (d := Rows.laid_unicode_utf8_acceptRanges) (by simp)
  rw [first_eq] at e1
  rw [accept_eq] at e2
  exact utf8Tabs_of_readsT (ρ := Tryd.lays260_ren) (U8Types.of260 Tryd.lays260) ⟨by kernel_rfl, by kernel_rfl, by kernel_rfl, by kernel_rfl, by kernel_rfl, by kernel_rfl, by kernel_rfl⟩ e1 e2
end Go.Proofs.YtammhcfifnffeaaDoor.Open
