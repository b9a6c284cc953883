/- What a row gives: a talk with its bulk. (Turned from the field seat's text.) -/
import Derived.Test.YticjpjgfccbhlaaDoorOpenU
import Derived.Deep.DeepHandedRow
import Derived.Deep.Slices
import Derived.Deep.Strs
import Derived.SizedLaws
import Derived.OpenShut
import Derived.Lib.SmallJoins
namespace Go.Proofs.YticjpjgfccbhlaaDoor.Open
open Go.RowKit Go.Proofs.YticjpjgfccbhlaaDoorW.PrintWords Go.ChangeShapes Go.WideShapes Go.Deep Go.Proofs.YticjpjgfccbhlaaDoor.Sasl
set_option linter.unusedVariables false
/-- a slice of fields: nil, or a row that reads; with its bulk -/
theorem open_usersB {H : Type} {enc : TypeId × Value → H} {W : World} {spare : Nat → Bool} {held : Bool} {n : Nat} {cs : List Value} {y : DataW H × List MemPlace}
    (h : DataW.trod enc Tryd.prog W 0 spare held n 22 cs = some y) :
    ∃ (A : Option Addr) (len cap : Nat) (xs : List S40), cs = [.slice A len cap] ∧ xs.length = len ∧ len ≤ cap ∧ (A = none → cap = 0) ∧ Kd.C k40 W A len xs ∧ (xs.map fun f => f.f0.size + f.f1.size + 3).sum ≤ Rows.uptoBulk y.1 := by
  rcases open_slice Tryd.underlying22 h with ⟨rfl, rfl⟩ | ⟨a, len, cap, m, n', D, Pl, rfl, _, hl, hm, hmm, rfl, hi⟩
  · exact ⟨none, 0, 0, [], rfl, rfl, Nat.le_refl _, fun _ => rfl, ⟨rfl, by omega, fun h => by omega⟩, by simp⟩
  · have hlm : len ≤ m := by rw [hmm]; split <;> omega
    have c40 : Tryd.prog.cellsOf 40 = 2 := by kernel_rfl
    have key : ∀ q, q ≤ len → ∃ xs : List S40, xs.length = q ∧ (∀ j p, xs[j]? = some p → ∃ c, c.length = k40.sz ∧ k40.K W p c ∧ ∀ i u, c[i]? = some u → W.cell? (a.add (j * k40.sz + i)) = some u) ∧ (xs.map fun f => f.f0.size + f.f1.size + 3).sum ≤ Rows.uptoBulkAll ((List.range q).map D) := by
      intro q
      induction q with
      | zero => intro _; exact ⟨[], rfl, fun j p h => by simp at h, by simp⟩
      | succ q ih =>
        intro hq
        obtain ⟨xs, hxl, hxs, hxz⟩ := ih (by omega)
        obtain ⟨cs', hc, ht'⟩ := hi q (by omega)
        obtain ⟨_, hcl, hat⟩ := World.cells?_some hc
        obtain ⟨x, hK, hx⟩ := open_user ht'
        refine ⟨xs ++ [x], by simp [hxl], fun j p hj => ?_, ?_⟩
        · rcases Nat.lt_or_ge j xs.length with hj' | hj'
          · rw [List.getElem?_append_left hj'] at hj
            exact hxs j p hj
          · have hjq : j = q := by
              have := (List.getElem?_eq_some_iff.1 hj).1
              simp only [List.length_append, List.length_singleton] at this
              omega
            subst hjq
            rw [List.getElem?_append_right hj', hxl, Nat.sub_self] at hj
            simp only [List.getElem?_cons_zero, Option.some.injEq] at hj
            subst hj
            refine ⟨cs', by rw [hcl, c40]; rfl, hK, fun i u hu' => ?_⟩
            have hi' : i < Tryd.prog.cellsOf 40 := by have := (List.getElem?_eq_some_iff.1 hu').1; omega
            have := hat i hi'
            rw [Go.Deep.add_add, c40] at this
            show W.cell? (a.add (j * 2 + i)) = some u
            rw [this, hu']
        · rw [List.range_succ, List.map_append, List.map_append, List.sum_append, bulkAll_append]
          simp only [List.map_cons, List.map_nil, List.sum_cons, List.sum_nil, Rows.uptoBulkAll]
          simp only at hx
          omega
    obtain ⟨xs, hxl, hxs, hxz⟩ := key len (Nat.le_refl _)
    refine ⟨some a, len, cap, xs, rfl, hxl, hl, (fun h => by cases h), ⟨hxl, (by unfold maxLen at hm; omega), fun _ => ⟨a, rfl, hxs⟩⟩, ?_⟩
    simp only [Rows.uptoBulk]
    omega
/-- a text, and its bulk -/
theorem open_text {H : Type} {enc : TypeId × Value → H} {W : World} {spare : Nat → Bool} {held : Bool} {n : Nat} {cs : List Value} {y : DataW H × List MemPlace}
    (h : DataW.trod enc Tryd.prog W 0 spare held n 9 cs = some y) : ∃ s : ByteArray, Kd.string.K W s cs ∧ s.size + 1 ≤ Rows.uptoBulk y.1 := by
  obtain ⟨s, rfl, rfl, _⟩ := DataW.trod_string Tryd.underlying9 h
  exact ⟨s, rfl, by simp only [Rows.uptoBulk, data_length]; omega⟩
/-- a slice of texts: nil, or a row that reads; with its bulk -/
theorem open_textsB {H : Type} {enc : TypeId × Value → H} {W : World} {spare : Nat → Bool} {held : Bool} {n : Nat} {cs : List Value} {y : DataW H × List MemPlace}
    (h : DataW.trod enc Tryd.prog W 0 spare held n 23 cs = some y) :
    ∃ (A : Option Addr) (len cap : Nat) (xs : List ByteArray), cs = [.slice A len cap] ∧ xs.length = len ∧ len ≤ cap ∧ (A = none → cap = 0) ∧ Kd.C Kd.string W A len xs ∧ (xs.map fun f => f.size + 1).sum ≤ Rows.uptoBulk y.1 := by
  rcases open_slice Tryd.underlying23 h with ⟨rfl, rfl⟩ | ⟨a, len, cap, m, n', D, Pl, rfl, _, hl, hm, hmm, rfl, hi⟩
  · exact ⟨none, 0, 0, [], rfl, rfl, Nat.le_refl _, fun _ => rfl, ⟨rfl, by omega, fun h => by omega⟩, by simp⟩
  · have hlm : len ≤ m := by rw [hmm]; split <;> omega
    have c9 : Tryd.prog.cellsOf 9 = 1 := by kernel_rfl
    have key : ∀ q, q ≤ len → ∃ xs : List ByteArray, xs.length = q ∧ (∀ j p, xs[j]? = some p → ∃ c, c.length = Kd.string.sz ∧ Kd.string.K W p c ∧ ∀ i u, c[i]? = some u → W.cell? (a.add (j * Kd.string.sz + i)) = some u) ∧ (xs.map fun f => f.size + 1).sum ≤ Rows.uptoBulkAll ((List.range q).map D) := by
      intro q
      induction q with
      | zero => intro _; exact ⟨[], rfl, fun j p h => by simp at h, by simp⟩
      | succ q ih =>
        intro hq
        obtain ⟨xs, hxl, hxs, hxz⟩ := ih (by omega)
        obtain ⟨cs', hc, ht'⟩ := hi q (by omega)
        obtain ⟨_, hcl, hat⟩ := World.cells?_some hc
        obtain ⟨x, hK, hx⟩ := open_text ht'
        refine ⟨xs ++ [x], by simp [hxl], fun j p hj => ?_, ?_⟩
        · rcases Nat.lt_or_ge j xs.length with hj' | hj'
          · rw [List.getElem?_append_left hj'] at hj
            exact hxs j p hj
          · have hjq : j = q := by
              have := (List.getElem?_eq_some_iff.1 hj).1
              simp only [List.length_append, List.length_singleton] at this
              omega
            subst hjq
            rw [List.getElem?_append_right hj', hxl, Nat.sub_self] at hj
            simp only [List.getElem?_cons_zero, Option.some.injEq] at hj
            subst hj
            refine ⟨cs', by rw [hcl, c9]; rfl, hK, fun i u hu' => ?_⟩
            have hi' : i < Tryd.prog.cellsOf 9 := by have := (List.getElem?_eq_some_iff.1 hu').1; omega
            have := hat i hi'
            rw [Go.Deep.add_add, c9] at this
            show W.cell? (a.add (j * 1 + i)) = some u
            rw [this, hu']
        · rw [List.range_succ, List.map_append, List.map_append, List.sum_append, bulkAll_append]
          simp only [List.map_cons, List.map_nil, List.sum_cons, List.sum_nil, Rows.uptoBulkAll]
          simp only at hx
          omega
    obtain ⟨xs, hxl, hxs, hxz⟩ := key len (Nat.le_refl _)
    refine ⟨some a, len, cap, xs, rfl, hxl, hl, (fun h => by cases h), ⟨hxl, (by unfold maxLen at hm; omega), fun _ => ⟨a, rfl, hxs⟩⟩, ?_⟩
    simp only [Rows.uptoBulk]
    omega
set_option maxRecDepth 100000 in
theorem open_talk {H : Type} {enc : TypeId × Value → H} {W : World} {spare : Nat → Bool} {held : Bool} {b0 : Nat} {v : Value} {d : DataW H} {p : List MemPlace}
    (hv : Value.okWide Tryd.prog W .any b0 25 v) (h : DataW.Trod enc Tryd.prog W 0 spare held 25 v d p) :
    ∃ (A : Option Addr) (n c : Nat) (us : List S40) (m st fs : ByteArray) (has : Bool) (AL : Option Addr) (nL cL : Nat) (lines : List ByteArray), v = .agg #[.slice A n c, .string m, .string st, .string fs, .bool has, .slice AL nL cL] ∧
      us.length = n ∧ n ≤ c ∧ Kd.C k40 W A n us ∧ lines.length = nL ∧ nL ≤ cL ∧ Kd.C Kd.string W AL nL lines ∧ (us.map fun f => f.f0.size + f.f1.size + 3).sum + m.size + st.size + fs.size + (lines.map fun f => f.size + 1).sum ≤ Rows.uptoBulk d := by
  obtain ⟨cs, rfl, hsz⟩ := okWide_struct Tryd.underlying25 hv
  have c25 : Tryd.prog.cellsOf 25 = 6 := by kernel_rfl
  rw [c25] at hsz
  obtain ⟨l⟩ := cs
  have hlen : l.length = 6 := hsz
  obtain ⟨fuel, hf⟩ := h
  obtain ⟨ys, n', rfl, he, hl, hyl, hi⟩ := DataW.trod_struct Tryd.underlying25 hf
  have hyl6 : ys.length = 6 := by simpa using hyl
  match l, hlen, ys, hyl6 with
  | [c0, c1, c2, c3, c4, c5], _, [y0, y1, y2, y3, y4, y5], _ =>
    have k22 : Tryd.prog.cellsOf 22 = 1 := by kernel_rfl
    have k9 : Tryd.prog.cellsOf 9 = 1 := by kernel_rfl
    have k4 : Tryd.prog.cellsOf 4 = 1 := by kernel_rfl
    have k23 : Tryd.prog.cellsOf 23 = 1 := by kernel_rfl
    have h0 : DataW.trod enc Tryd.prog W 0 spare held n' 22 ((([c0, c1, c2, c3, c4, c5] : List Value).drop 0).take (Tryd.prog.cellsOf 22)) = some y0 := hi 0 _ rfl
    rw [k22] at h0
    simp only [List.drop_zero, List.drop_succ_cons, List.take_succ_cons, List.take_zero] at h0
    have h1 : DataW.trod enc Tryd.prog W 0 spare held n' 9 ((([c0, c1, c2, c3, c4, c5] : List Value).drop 1).take (Tryd.prog.cellsOf 9)) = some y1 := hi 1 _ rfl
    rw [k9] at h1
    simp only [List.drop_zero, List.drop_succ_cons, List.take_succ_cons, List.take_zero] at h1
    have h2 : DataW.trod enc Tryd.prog W 0 spare held n' 9 ((([c0, c1, c2, c3, c4, c5] : List Value).drop 2).take (Tryd.prog.cellsOf 9)) = some y2 := hi 2 _ rfl
    rw [k9] at h2
    simp only [List.drop_zero, List.drop_succ_cons, List.take_succ_cons, List.take_zero] at h2
    have h3 : DataW.trod enc Tryd.prog W 0 spare held n' 9 ((([c0, c1, c2, c3, c4, c5] : List Value).drop 3).take (Tryd.prog.cellsOf 9)) = some y3 := hi 3 _ rfl
    rw [k9] at h3
    simp only [List.drop_zero, List.drop_succ_cons, List.take_succ_cons, List.take_zero] at h3
    have h4 : DataW.trod enc Tryd.prog W 0 spare held n' 4 ((([c0, c1, c2, c3, c4, c5] : List Value).drop 4).take (Tryd.prog.cellsOf 4)) = some y4 := hi 4 _ rfl
    rw [k4] at h4
    simp only [List.drop_zero, List.drop_succ_cons, List.take_succ_cons, List.take_zero] at h4
    have h5 : DataW.trod enc Tryd.prog W 0 spare held n' 23 ((([c0, c1, c2, c3, c4, c5] : List Value).drop 5).take (Tryd.prog.cellsOf 23)) = some y5 := hi 5 _ rfl
    rw [k23] at h5
    simp only [List.drop_zero, List.drop_succ_cons, List.take_succ_cons, List.take_zero] at h5
    obtain ⟨A, n, c, us, e0, u1, u2, _, u3, u4⟩ := open_usersB h0
    obtain ⟨m, e1, rfl, _⟩ := DataW.trod_string Tryd.underlying9 h1
    obtain ⟨st, e2, rfl, _⟩ := DataW.trod_string Tryd.underlying9 h2
    obtain ⟨fs, e3, rfl, _⟩ := DataW.trod_string Tryd.underlying9 h3
    obtain ⟨has, e4, rfl⟩ := DataW.trod_bool Tryd.underlying4 h4
    obtain ⟨AL, nL, cL, lines, e5, l1, l2, _, l3, l4⟩ := open_textsB h5
    simp only [List.cons.injEq, and_true] at e0 e1 e2 e3 e4 e5
    subst e0 e1 e2 e3 e4 e5
    refine ⟨A, n, c, us, m, st, fs, has, AL, nL, cL, lines, rfl, u1, u2, u3, l1, l2, l3, ?_⟩
    have hd := congrArg Prod.fst he
    simp only at hd
    subst hd
    simp only [List.map_cons, List.map_nil, Rows.uptoBulk, Rows.uptoBulkAll, data_length]
    omega
theorem texts_ok {l : List ByteArray} {k m : Nat} (h : (l.map fun f => f.size + 1).sum ≤ k) (hk : k ≤ m) : l.length ≤ m ∧ ∀ t ∈ l, t.size ≤ m := by
  have key : ∀ l : List ByteArray, l.length ≤ (l.map fun f => f.size + 1).sum ∧ ∀ t ∈ l, t.size ≤ (l.map fun f => f.size + 1).sum := by
    intro l
    induction l with
    | nil => exact ⟨Nat.le_refl _, fun u hu => by cases hu⟩
    | cons a l ih =>
      simp only [List.map_cons, List.sum_cons, List.length_cons]
      refine ⟨by have := ih.1; omega, fun u hu => ?_⟩
      rcases List.mem_cons.1 hu with rfl | hu
      · omega
      · have := ih.2 u hu; omega
  have h2 := key l
  exact ⟨by omega, fun u hu => by have := h2.2 u hu; omega⟩
theorem names_ok {us : List S40} {k m : Nat} (h : (us.map fun f => f.f0.size + f.f1.size + 3).sum ≤ k) (hk : k ≤ m) : ∀ u ∈ us, u.f0.size ≤ m := by
  have key : ∀ l : List S40, ∀ u ∈ l, u.f0.size ≤ (l.map fun f => f.f0.size + f.f1.size + 3).sum := by
    intro l
    induction l with
    | nil => exact fun u hu => by cases hu
    | cons a l ih =>
      simp only [List.map_cons, List.sum_cons]
      intro u hu
      rcases List.mem_cons.1 hu with rfl | hu
      · omega
      · have := ih u hu; omega
  exact fun u hu => by have := key us u hu; omega
end Go.Proofs.YticjpjgfccbhlaaDoor.Open
