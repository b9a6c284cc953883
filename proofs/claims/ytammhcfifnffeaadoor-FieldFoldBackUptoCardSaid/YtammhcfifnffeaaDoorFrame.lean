/- Words for a law's frame: an argument that is read as data, told in the words of the print (Kd), whatever its type. -/
import Derived.Test.YtammhcfifnffeaaDoorWWords
import Derived.ProofKit
import Derived.OpenShut
import Derived.SizedLaws
import Derived.Deep.Slices
import Derived.Deep.Fields
namespace Go.Proofs.YtammhcfifnffeaaDoor.Frame
open Go.RowKit Go.Proofs.YtammhcfifnffeaaDoorW.PrintWords Go.ChangeShapes Go.WideShapes Go.Deep
set_option linter.unusedVariables false

/-- What is read of the type t as data can be told by d, and Sz holds of it. -/
def Rd (P : Program) (t : TypeId) {α : Type} (d : Kd α) (Sz : α → Prop) : Prop :=
  ∀ (H : Type) (enc : TypeId × Value → H) (W : World) (spare : Nat → Bool) (held : Bool) (n : Nat) (cs : List Value) (y : DataW H × List MemPlace),
    DataW.trod enc P W 0 spare held n t cs = some y → (∀ m ∈ y.1.weights P t, m ≤ reachBytes) → ∃ x, d.K W x cs ∧ Sz x
theorem reach_eq : reachBytes = 140737488351232 := by decide
theorem rd_string {P : Program} {t : TypeId} (hu : P.underlying t = some .string) : Rd P t Kd.string (fun s => s.size ≤ 140737488351232) := by
  intro H enc W spare held n cs y h hw
  obtain ⟨s, rfl, rfl, _⟩ := DataW.trod_string hu h
  refine ⟨s, rfl, ?_⟩
  have := hw s.data.toList.length (by simp [DataW.weights])
  rw [reach_eq, data_length] at this
  exact this
theorem rd_int {P : Program} {t : TypeId} {k : IntKind} (hu : P.underlying t = some (.int k)) : Rd P t (Kd.int k) (fun x => (Lit.int k x).wf = true) := by
  intro H enc W spare held n cs y h hw
  obtain ⟨x, rfl, rfl, hx⟩ := DataW.trod_int hu h
  exact ⟨x, rfl, hx⟩
theorem rd_bool {P : Program} {t : TypeId} (hu : P.underlying t = some .bool) : Rd P t Kd.bool (fun _ => True) := by
  intro H enc W spare held n cs y h hw
  obtain ⟨x, rfl, rfl⟩ := DataW.trod_bool hu h
  exact ⟨x, rfl, trivial⟩
theorem weights_all {H : Type} {P : Program} {e : TypeId} {l : List (DataW H)} {d : DataW H} (h : d ∈ l) {m : Nat} (hm : m ∈ d.weights P e) : m ∈ DataW.weightsAll P e l := by
  induction l with
  | nil => cases h
  | cons x r ih =>
    simp only [DataW.weightsAll, List.mem_append]
    rcases List.mem_cons.1 h with rfl | h
    · exact .inl hm
    · exact .inr (ih h)
/-- A slice: nil, or a row that reads; with its length's weight. -/
theorem rd_slice_parts {P : Program} {t e : TypeId} {α : Type} {d : Kd α} {Sz : α → Prop} (hu : P.underlying t = some (.slice e)) (he : Rd P e d Sz) (hC : P.cellsOf e = d.sz) {H : Type} {enc : TypeId × Value → H} {W : World} {spare : Nat → Bool} {held : Bool} {n : Nat} {cs : List Value} {y : DataW H × List MemPlace}
    (h : DataW.trod enc P W 0 spare held n t cs = some y) (hw : ∀ m ∈ y.1.weights P t, m ≤ reachBytes) :
    ∃ (A : Option Addr) (len cap : Nat) (xs : List α), cs = [.slice A len cap] ∧ xs.length = len ∧ len ≤ cap ∧ cap ≤ maxLen ∧ (A = none → cap = 0) ∧ d.C W A len xs ∧ len * P.bytesOf e ≤ 140737488351232 ∧ ∀ x ∈ xs, Sz x := by
  rcases open_slice hu h with ⟨rfl, rfl⟩ | ⟨a, len, cap, m, n', D, Pl, rfl, _, hl, hm, hmm, rfl, hi⟩
  · exact ⟨none, 0, 0, [], rfl, rfl, Nat.le_refl _, by decide, fun _ => rfl, ⟨rfl, by omega, fun h => by omega⟩, by simp, fun x hx => by cases hx⟩
  · have hlm : len ≤ m := by rw [hmm]; split <;> omega
    have hW : (DataW.slice ((List.range len).map D) ((List.range (m - len)).map fun j => D (len + j))).weights P t = (((List.range len).map D).length + ((List.range (m - len)).map fun j => D (len + j)).length) * P.bytesOf e :: (DataW.weightsAll P e ((List.range len).map D) ++ DataW.weightsAll P e ((List.range (m - len)).map fun j => D (len + j))) := by
      conv => lhs; unfold DataW.weights
      rw [hu]
    rw [hW] at hw
    have key : ∀ q, q ≤ len → ∃ xs : List α, xs.length = q ∧ (∀ j p, xs[j]? = some p → ∃ c, c.length = d.sz ∧ d.K W p c ∧ ∀ i u, c[i]? = some u → W.cell? (a.add (j * d.sz + i)) = some u) ∧ ∀ x ∈ xs, Sz x := by
      intro q
      induction q with
      | zero => intro _; exact ⟨[], rfl, fun j p h => by simp at h, fun x hx => by cases hx⟩
      | succ q ih =>
        intro hq
        obtain ⟨xs, hxl, hxs, hxz⟩ := ih (by omega)
        obtain ⟨cs', hc, ht'⟩ := hi q (by omega)
        obtain ⟨_, hcl, hat⟩ := World.cells?_some hc
        obtain ⟨x, hK, hx⟩ := he H enc W spare held n' cs' _ ht' (fun z hz => hw z (by
          refine List.mem_cons_of_mem _ (List.mem_append_left _ (weights_all (d := D q) (List.mem_map.2 ⟨q, List.mem_range.2 (by omega), rfl⟩) hz))))
        refine ⟨xs ++ [x], by simp [hxl], fun j p hj => ?_, fun z hz => ?_⟩
        · rcases Nat.lt_or_ge j xs.length with hj' | hj'
          · rw [List.getElem?_append_left hj'] at hj
            exact hxs j p hj
          · have hjq : j = q := by
              have := (List.getElem?_eq_some_iff.1 hj).1
              simp only [List.length_append, List.length_singleton] at this
              omega
            subst hjq
            rw [List.getElem?_append_right hj', hxl, Nat.sub_self] at hj
            simp only [List.getElem?_cons_zero, Option.some.injEq] at hj
            subst hj
            refine ⟨cs', by rw [hcl, hC], hK, fun i u hu' => ?_⟩
            have hi' : i < P.cellsOf e := by have := (List.getElem?_eq_some_iff.1 hu').1; omega
            have := hat i hi'
            rw [Go.Deep.add_add, hC] at this
            rw [this, hu']
        · rcases List.mem_append.1 hz with hz | hz
          · exact hxz z hz
          · rw [List.mem_singleton.1 hz]; exact hx
    obtain ⟨xs, hxl, hxs, hxz⟩ := key len (Nat.le_refl _)
    refine ⟨some a, len, cap, xs, rfl, hxl, hl, hm, (fun h => by cases h), ⟨hxl, (by unfold maxLen at hm; omega), fun _ => ⟨a, rfl, hxs⟩⟩, ?_, hxz⟩
    have := hw _ List.mem_cons_self
    simp only [List.length_map, List.length_range, reach_eq] at this
    refine Nat.le_trans (Nat.mul_le_mul_right _ ?_) this
    omega
theorem rd_slice {P : Program} {t e : TypeId} {α : Type} {d : Kd α} {Sz : α → Prop} (hu : P.underlying t = some (.slice e)) (he : Rd P e d Sz) (hC : P.cellsOf e = d.sz) : Rd P t (Kd.slice e d) (fun xs => xs.length * P.bytesOf e ≤ 140737488351232 ∧ ∀ x ∈ xs, Sz x) := by
  intro H enc W spare held n cs y h hw
  obtain ⟨A, len, cap, xs, rfl, rfl, hl, _, _, hc, hb, hs⟩ := rd_slice_parts hu he hC h hw
  exact ⟨xs, ⟨A, cap, rfl, hl, hc⟩, hb, hs⟩
/-- A struct of two fields. -/
theorem rd_two {P : Program} {t : TypeId} {α β γ : Type} {da : Kd α} {db : Kd β} {Sa : α → Prop} {Sb : β → Prop} {fa fb : Field} (hu : P.underlying t = some (.struct #[fa, fb])) (ha : Rd P fa.type da Sa) (hb : Rd P fb.type db Sb)
    (oa : fa.offset = 0) (ob : fb.offset = da.sz) (ca : P.cellsOf fa.type = da.sz) (cb : P.cellsOf fb.type = db.sz) (ct : P.cellsOf t = da.sz + db.sz) (f : γ → α × β) (g : α × β → γ) (hfg : ∀ p, f (g p) = p) :
    Rd P t (Kd.iso (Kd.pair da db) f) (fun x => Sa (f x).1 ∧ Sb (f x).2) := by
  intro H enc W spare held n cs y h hw
  obtain ⟨ys, n', rfl, rfl, hl, hyl, hf⟩ := DataW.trod_struct hu h
  have hlen : ys.length = 2 := by simpa using hyl
  match ys, hlen with
  | [ya, yb], _ =>
    have h0 := hf 0 fa rfl
    have h1 := hf 1 fb rfl
    rw [oa, ca] at h0
    rw [ob, cb] at h1
    have hW : (DataW.agg ([ya, yb].map (·.1))).weights P t = ya.1.weights P fa.type ++ (yb.1.weights P fb.type ++ []) := by
      conv => lhs; unfold DataW.weights
      rw [hu]
      rfl
    rw [hW] at hw
    obtain ⟨xa, ka, sa⟩ := ha H enc W spare held n' _ _ h0 (fun m hm => hw m (List.mem_append_left _ hm))
    obtain ⟨xb, kb, sb⟩ := hb H enc W spare held n' _ _ h1 (fun m hm => hw m (List.mem_append_right _ (List.mem_append_left _ hm)))
    refine ⟨g (xa, xb), ⟨cs.take da.sz, (cs.drop da.sz).take db.sz, ?_, ?_, ?_⟩, ?_, ?_⟩
    · rw [List.take_of_length_le (l := cs.drop da.sz) (by rw [List.length_drop]; omega), List.take_append_drop]
    · rw [hfg]; simpa using ka
    · rw [hfg]; exact kb
    · rw [hfg]; exact sa
    · rw [hfg]; exact sb
end Go.Proofs.YtammhcfifnffeaaDoor.Frame
