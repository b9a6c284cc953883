/- What a row gives: a slice of users with their bulk. (Turned from the field seat's text.) -/
import Derived.Test.YticjpjgfccbhlaaOpen
import Derived.Deep.DeepHandedRow
import Derived.Deep.Slices
import Derived.SizedLaws
import Derived.OpenShut
namespace Go.Proofs.Yticjpjgfccbhlaa.Open
open Go.RowKit Go.Proofs.YticjpjgfccbhlaaW.PrintWords Go.ChangeShapes Go.WideShapes Go.Deep Go.Proofs.Yticjpjgfccbhlaa.Sasl
set_option linter.unusedVariables false
theorem reach_eq : reachBytes = 140737488351232 := by decide
theorem len_two {α : Type} : ∀ {l : List α}, l.length = 2 → ∃ a b, l = [a, b]
  | [a, b], _ => ⟨a, b, rfl⟩
theorem len_three {α : Type} : ∀ {l : List α}, l.length = 3 → ∃ a b c, l = [a, b, c]
  | [a, b, c], _ => ⟨a, b, c, rfl⟩
theorem bulkAll_append {H : Type} (a b : List (DataW H)) : Rows.uptoBulkAll (a ++ b) = Rows.uptoBulkAll a + Rows.uptoBulkAll b := by
  induction a with
  | nil => simp [Rows.uptoBulkAll]
  | cons x a ih => simp [Rows.uptoBulkAll, ih]; omega
/-- a field, and its bulk -/
theorem open_user {H : Type} {enc : TypeId × Value → H} {W : World} {spare : Nat → Bool} {held : Bool} {n : Nat} {cs : List Value} {y : DataW H × List MemPlace}
    (h : DataW.trod enc Try.prog W 0 spare held n 41 cs = some y) : ∃ f : S40, k40.K W f cs ∧ f.f0.size + f.f1.size + 3 = Rows.uptoBulk y.1 := by
  obtain ⟨ys, n', rfl, rfl, hl, hyl, hf⟩ := DataW.trod_struct Try.underlying41 h
  have hlen : ys.length = 2 := by simpa using hyl
  match ys, hlen with
  | [ya, yb], _ =>
    have h0 := hf 0 _ rfl
    have h1 := hf 1 _ rfl
    simp only [List.getElem?_cons_zero, List.getElem?_cons_succ] at h0 h1
    obtain ⟨s0, e0, rfl, _⟩ := DataW.trod_string Try.underlying9 h0
    obtain ⟨s1, e1, rfl, _⟩ := DataW.trod_string Try.underlying9 h1
    have c9 : Try.prog.cellsOf 9 = 1 := by kernel_rfl
    have c40 : Try.prog.cellsOf 41 = 2 := by kernel_rfl
    have ge0 : (cs.drop 0).take (Try.prog.cellsOf 9) = [.string s0] := e0
    rw [c9] at ge0
    have ge1 : (cs.drop 1).take (Try.prog.cellsOf 9) = [.string s1] := e1
    rw [c9] at ge1
    rw [c40] at hl
    clear e0 e1 h0 h1 hf hyl h
    obtain ⟨a, b, rfl⟩ := len_two hl
    · simp only [List.drop_zero, List.drop_succ_cons, List.take_succ_cons, List.take_zero, List.cons.injEq, and_true] at ge0 ge1
      subst ge0 ge1
      refine ⟨⟨s0, s1⟩, k40_mk W _, ?_⟩
      simp only [List.map_cons, List.map_nil, Rows.uptoBulk, Rows.uptoBulkAll, data_length]
      omega
/-- a slice of fields: nil, or a row that reads; with its bulk -/
theorem open_users {H : Type} {enc : TypeId × Value → H} {W : World} {spare : Nat → Bool} {held : Bool} {n : Nat} {cs : List Value} {y : DataW H × List MemPlace}
    (h : DataW.trod enc Try.prog W 0 spare held n 25 cs = some y) (hw : ∀ m ∈ y.1.weights Try.prog 25, m ≤ reachBytes) :
    ∃ (A : Option Addr) (len cap : Nat) (xs : List S40), cs = [.slice A len cap] ∧ xs.length = len ∧ len ≤ cap ∧ (A = none → cap = 0) ∧ Kd.C k40 W A len xs ∧ len * 32 ≤ 140737488351232 ∧ (xs.map fun f => f.f0.size + f.f1.size + 3).sum ≤ Rows.uptoBulk y.1 := by
  rcases open_slice Try.underlying25 h with ⟨rfl, rfl⟩ | ⟨a, len, cap, m, n', D, Pl, rfl, _, hl, hm, hmm, rfl, hi⟩
  · exact ⟨none, 0, 0, [], rfl, rfl, Nat.le_refl _, fun _ => rfl, ⟨rfl, by omega, fun h => by omega⟩, by simp, by simp⟩
  · have hlm : len ≤ m := by rw [hmm]; split <;> omega
    have hW : (DataW.slice ((List.range len).map D) ((List.range (m - len)).map fun j => D (len + j))).weights Try.prog 25 = (((List.range len).map D).length + ((List.range (m - len)).map fun j => D (len + j)).length) * Try.prog.bytesOf 41 :: (DataW.weightsAll Try.prog 41 ((List.range len).map D) ++ DataW.weightsAll Try.prog 41 ((List.range (m - len)).map fun j => D (len + j))) := by
      conv => lhs; unfold DataW.weights
      rw [Try.underlying25]
    rw [hW] at hw
    have b40 : Try.prog.bytesOf 41 = 32 := by kernel_rfl
    have c40 : Try.prog.cellsOf 41 = 2 := by kernel_rfl
    have key : ∀ q, q ≤ len → ∃ xs : List S40, xs.length = q ∧ (∀ j p, xs[j]? = some p → ∃ c, c.length = k40.sz ∧ k40.K W p c ∧ ∀ i u, c[i]? = some u → W.cell? (a.add (j * k40.sz + i)) = some u) ∧ (xs.map fun f => f.f0.size + f.f1.size + 3).sum ≤ Rows.uptoBulkAll ((List.range q).map D) := by
      intro q
      induction q with
      | zero => intro _; exact ⟨[], rfl, fun j p h => by simp at h, by simp⟩
      | succ q ih =>
        intro hq
        obtain ⟨xs, hxl, hxs, hxz⟩ := ih (by omega)
        obtain ⟨cs', hc, ht'⟩ := hi q (by omega)
        obtain ⟨_, hcl, hat⟩ := World.cells?_some hc
        obtain ⟨x, hK, hx⟩ := open_user ht'
        refine ⟨xs ++ [x], by simp [hxl], fun j p hj => ?_, ?_⟩
        · rcases Nat.lt_or_ge j xs.length with hj' | hj'
          · rw [List.getElem?_append_left hj'] at hj
            exact hxs j p hj
          · have hjq : j = q := by
              have := (List.getElem?_eq_some_iff.1 hj).1
              simp only [List.length_append, List.length_singleton] at this
              omega
            subst hjq
            rw [List.getElem?_append_right hj', hxl, Nat.sub_self] at hj
            simp only [List.getElem?_cons_zero, Option.some.injEq] at hj
            subst hj
            refine ⟨cs', by rw [hcl, c40]; rfl, hK, fun i u hu' => ?_⟩
            have hi' : i < Try.prog.cellsOf 41 := by have := (List.getElem?_eq_some_iff.1 hu').1; omega
            have := hat i hi'
            rw [Go.Deep.add_add, c40] at this
            show W.cell? (a.add (j * 2 + i)) = some u
            rw [this, hu']
        · rw [List.range_succ, List.map_append, List.map_append, List.sum_append, bulkAll_append]
          simp only [List.map_cons, List.map_nil, List.sum_cons, List.sum_nil, Rows.uptoBulkAll]
          simp only at hx
          omega
    obtain ⟨xs, hxl, hxs, hxz⟩ := key len (Nat.le_refl _)
    refine ⟨some a, len, cap, xs, rfl, hxl, hl, (fun h => by cases h), ⟨hxl, (by unfold maxLen at hm; omega), fun _ => ⟨a, rfl, hxs⟩⟩, ?_, ?_⟩
    · have := hw _ List.mem_cons_self
      simp only [List.length_map, List.length_range, reach_eq, b40] at this
      omega
    · simp only [Rows.uptoBulk]
      omega

theorem users_ok {us : List S40} {k m : Nat} (h : (us.map fun f => f.f0.size + f.f1.size + 3).sum ≤ k) (hk : k ≤ m) : us.length ≤ m ∧ ∀ u ∈ us, u.f1.size ≤ m := by
  have key : ∀ l : List S40, l.length ≤ (l.map fun f => f.f0.size + f.f1.size + 3).sum ∧ ∀ u ∈ l, u.f1.size ≤ (l.map fun f => f.f0.size + f.f1.size + 3).sum := by
    intro l
    induction l with
    | nil => exact ⟨Nat.le_refl _, fun u hu => by cases hu⟩
    | cons a l ih =>
      simp only [List.map_cons, List.sum_cons, List.length_cons]
      refine ⟨by have := ih.1; omega, fun u hu => ?_⟩
      rcases List.mem_cons.1 hu with rfl | hu
      · omega
      · have := ih.2 u hu; omega
  have h2 := key us
  exact ⟨by omega, fun u hu => by have := h2.2 u hu; omega⟩
end Go.Proofs.Yticjpjgfccbhlaa.Open
