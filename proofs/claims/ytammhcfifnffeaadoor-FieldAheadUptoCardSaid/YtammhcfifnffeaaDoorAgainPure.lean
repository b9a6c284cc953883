/- What field.Parse tells, as FieldAgain asks of it (lists alone). -/
import Derived.Test.YtammhcfifnffeaaDoorBack
namespace Go.Proofs.YtammhcfifnffeaaDoor.AgainPure
open Go.RowKit Go.Proofs.YtammhcfifnffeaaDoorW.PrintWords Go.Proofs.YtammhcfifnffeaaDoor.PFieldPrints Go.Proofs.YtammhcfifnffeaaDoor.RowsIter Go.Proofs.YtammhcfifnffeaaDoor.AnyEnd Go.Proofs.YtammhcfifnffeaaDoor.Octet Go.Proofs.YtammhcfifnffeaaDoor.CheckWalk Go.Proofs.YtammhcfifnffeaaDoor.PrintWalk Go.Proofs.YtammhcfifnffeaaDoor.Hand Go.Proofs.YtammhcfifnffeaaDoor.ParseV Go.Proofs.YtammhcfifnffeaaDoor.CheckPure Go.Proofs.YtammhcfifnffeaaDoor.FoldChecks Go.Proofs.YtammhcfifnffeaaDoor.Back
set_option linter.unusedVariables false
set_option linter.unusedSimpArgs false

theorem row_clean : ∀ l : List UInt8, hasEnd (l.take (lenRow l)) = false
  | [] => rfl
  | c :: l => by
    unfold lenRow
    by_cases h : c = 13 ∨ c = 10
    · rw [if_pos h]; rfl
    · rw [if_neg h, List.take_succ_cons]
      have ih := row_clean l
      unfold hasEnd at ih ⊢
      rw [List.any_cons, ih, Bool.or_false, Bool.or_eq_false_iff, beq_eq_false_iff_ne, beq_eq_false_iff_ne]
      exact ⟨fun e => h (.inl e), fun e => h (.inr e)⟩
theorem crlf_eq {l : List UInt8} (h : isCRLF l = true) : ∃ R, l = 13 :: 10 :: R := by
  unfold isCRLF Lib.hasPrefix at h
  obtain ⟨R, hR⟩ := List.isPrefixOf_iff_prefix.1 h
  exact ⟨R, hR.symm⟩
theorem take_row {L t : List UInt8} {i : Nat} (ht : t = (L.drop i).take (lenRow (L.drop i))) (hi : i ≤ L.length) (hc : isCRLF (L.drop (i + lenRow (L.drop i))) = true) :
    t.length = lenRow (L.drop i) ∧ L.take (i + lenRow (L.drop i) + 2) = L.take i ++ (t ++ [13, 10]) ∧ i + lenRow (L.drop i) + 2 ≤ L.length := by
  have hle := lenRow_le (L.drop i)
  obtain ⟨R, hR⟩ := crlf_eq hc
  have hl : t.length = lenRow (L.drop i) := by rw [ht, List.length_take]; omega
  have hd : L.drop i = t ++ 13 :: 10 :: R := by
    rw [← hR, ← List.drop_drop, ht, List.take_append_drop]
  refine ⟨hl, ?_, ?_⟩
  · have : L.drop i = (t ++ [13, 10]) ++ R := by rw [hd]; simp
    rw [show i + lenRow (L.drop i) + 2 = i + (t.length + 2) by omega, List.take_add, this]
    exact congrArg (L.take i ++ ·) (List.take_left' (by simp))
  · have := congrArg List.length hd
    rw [List.length_append, List.length_drop, List.length_cons, List.length_cons] at this
    omega
theorem rows_put : ∀ (rs : List (List UInt8)) (r0 : List UInt8), hasEnd r0 = false → (∀ x ∈ rs, hasEnd x = false) → rowsL (r0 ++ heads rs) = r0 :: rs
  | [], r0, h, _ => by
    show rowsL (r0 ++ []) = _
    rw [List.append_nil, rowsL_last r0 h]
  | x :: rs, r0, h, hx => by
    have : r0 ++ heads (x :: rs) = r0 ++ [13, 10] ++ (x ++ heads rs) := by
      show r0 ++ ([13, 10] ++ x ++ heads rs) = _
      simp
    rw [this, rowsL_cut r0 _ h, rows_put rs x (hx x List.mem_cons_self) fun y hy => hx y (List.mem_cons_of_mem _ hy)]
theorem heads_snoc (rs : List (List UInt8)) (x : List UInt8) : heads (rs ++ [x]) = heads rs ++ [13, 10] ++ x := by
  unfold heads
  rw [List.flatMap_append]
  simp
theorem check_of {f : S30} {r0 : List UInt8} {rs : List (List UInt8)} (hn : nameB f.f0.data.toList = true) (he : hasEnd r0 = false) (h9 : f.f0.data.toList.length + 1 + r0.length ≤ 998) (hg : ∀ x ∈ rs, goodRow x) (hb : f.f1.data.toList = r0 ++ heads rs) : checkF f = 0 := by
  unfold checkF checkV
  rw [hb, rows_put rs r0 he fun x hx => (hg x hx).1, hn, if_neg (by simp)]
  have h1 : anyBad (f.f0.data.toList.length + 1) (r0 :: rs) = false := by
    unfold anyBad
    rw [Bool.or_eq_false_iff]
    refine ⟨?_, List.any_eq_false.2 fun x hx => ?_⟩
    · unfold rowBad
      rw [he, Bool.or_false]
      exact decide_eq_false (by omega)
    · obtain ⟨g1, g2, _, _⟩ := hg x hx
      unfold rowBad
      rw [g1, Bool.or_false, Bool.not_eq_true]
      exact decide_eq_false (by omega)
  have h2 : foldBad (r0 :: rs) = false := by
    unfold foldBad
    refine List.any_eq_false.2 fun x hx => ?_
    obtain ⟨_, _, g3, g4⟩ := hg x hx
    unfold foldOff
    rw [g3, g4]
    simp
  rw [h1, h2]
  rfl
theorem check_more {f : S30} {t : List UInt8} (h : checkF f = 0) (ht : goodRow t) : checkF ⟨f.f0, ⟨(f.f1.data.toList ++ [13, 10] ++ t).toArray⟩⟩ = 0 := by
  obtain ⟨r0, rs, h1, h2⟩ := rows_glue f.f1.data.toList
  obtain ⟨c1, c2, c3, c4⟩ := check_parts h h1
  refine check_of (r0 := r0) (rs := rs ++ [t]) c1 c2 c3 (fun x hx => ?_) ?_
  · rcases List.mem_append.1 hx with hx | hx
    · exact c4 x hx
    · rw [List.mem_singleton.1 hx]; exact ht
  · show f.f1.data.toList ++ [13, 10] ++ t = _
    rw [h2, heads_snoc]
    simp
theorem name_of {t : List UInt8} (h0 : badAt 11 t ≠ 0) (hl : badAt 11 t ≠ t.length) : nameB (t.take (badAt 11 t)) = true ∧ badAt 11 t < t.length := by
  have hle : badAt 11 t ≤ t.length := List.findIdx_le_length
  have hlt : badAt 11 t < t.length := by omega
  refine ⟨?_, hlt⟩
  unfold nameB
  rw [Bool.and_eq_true, Bool.not_eq_true']
  constructor
  · have : (t.take (badAt 11 t)).length ≠ 0 := by rw [List.length_take]; omega
    cases hx : t.take (badAt 11 t)
    · rw [hx] at this; exact absurd rfl this
    · rfl
  · refine List.all_eq_true.2 fun b hb => ?_
    obtain ⟨j, hj, rfl⟩ := List.mem_iff_getElem.1 hb
    rw [List.length_take] at hj
    rw [List.getElem_take]
    have := List.not_of_lt_findIdx (p := fun b : UInt8 => !isIn 11 b.toNat) (xs := t) (i := j) (show j < badAt 11 t by omega)
    simpa using this
def Inv (L : List UInt8) (i : Nat) (acc : List S30) : Prop := i ≤ L.length ∧ acc.length ≤ 4096 ∧ (∀ f ∈ acc, checkF f = 0) ∧ acc.flatMap lineU = L.take i
theorem step_inv {L : List UInt8} {i : Nat} {acc : List S30} (h : Inv L i acc) :
    (∀ a j, rowStep L i acc = .next a j → Inv L j a) ∧ (∀ a j, rowStep L i acc = .done a j → a = acc ∧ (j = i ∧ i = L.length ∨ j = i + 2 ∧ isCRLF (L.drop i) = true)) ∧ (∀ e j, rowStep L i acc = .fail e j → (e = 160 ∨ e = 161) ∧ j ≤ L.length) := by
  obtain ⟨h1, h2, h3, h4⟩ := h
  have hlr := lenRow_le (L.drop i)
  rw [List.length_drop] at hlr
  unfold rowStep
  by_cases c1 : L.length ≤ i
  · rw [if_pos c1]
    refine ⟨fun a j e => (by cases e), fun a j e => ?_, fun e j e' => (by cases e')⟩
    cases e
    exact ⟨rfl, .inl ⟨rfl, by omega⟩⟩
  rw [if_neg c1]
  by_cases c2 : lenRow (L.drop i) = 0 ∧ isCRLF (L.drop i) = true
  · rw [if_pos c2]
    refine ⟨fun a j e => (by cases e), fun a j e => ?_, fun e j e' => (by cases e')⟩
    cases e
    exact ⟨rfl, .inr ⟨rfl, c2.2⟩⟩
  rw [if_neg c2]
  by_cases c3 : 998 < lenRow (L.drop i)
  · rw [if_pos c3]
    refine ⟨fun a j e => (by cases e), fun a j e => (by cases e), fun e j e' => ?_⟩
    cases e'
    exact ⟨.inl rfl, by omega⟩
  rw [if_neg c3]
  by_cases c4 : isCRLF (L.drop (i + lenRow (L.drop i))) = false
  · rw [if_pos c4]
    refine ⟨fun a j e => (by cases e), fun a j e => (by cases e), fun e j e' => ?_⟩
    cases e'
    exact ⟨.inl rfl, by omega⟩
  rw [if_neg c4]
  have c4' : isCRLF (L.drop (i + lenRow (L.drop i))) = true := by
    cases hx : isCRLF (L.drop (i + lenRow (L.drop i)))
    · exact absurd hx c4
    · rfl
  have hclean := row_clean (L.drop i)
  obtain ⟨t, ht⟩ : ∃ t, t = (L.drop i).take (lenRow (L.drop i)) := ⟨_, rfl⟩
  obtain ⟨t1, t2, t3⟩ := take_row ht h1 c4'
  rw [← ht] at hclean ⊢
  by_cases c5 : blankB t = true
  · rw [if_pos c5]
    by_cases c6 : acc = [] ∨ blanksB t = true
    · rw [if_pos c6]
      refine ⟨fun a j e => (by cases e), fun a j e => (by cases e), fun e j e' => ?_⟩
      cases e'
      exact ⟨.inr rfl, h1⟩
    · rw [if_neg c6]
      refine ⟨fun a j e => ?_, fun a j e => (by cases e), fun e j e' => (by cases e')⟩
      cases e
      have hne : acc ≠ [] := fun e => c6 (.inl e)
      have hbb : blanksB t = false := by
        cases hx : blanksB t
        · rfl
        · exact absurd (.inr hx) c6
      have hg : goodRow t := ⟨hclean, by omega, c5, hbb⟩
      obtain ⟨acc0, f, rfl⟩ : ∃ acc0 f, acc = acc0 ++ [f] := ⟨_, _, (List.dropLast_concat_getLast hne).symm⟩
      refine ⟨t3, by rw [bump_length]; exact h2, ?_, ?_⟩
      · rw [bump_snoc]
        intro g hg'
        rcases List.mem_append.1 hg' with hg' | hg'
        · exact h3 g (List.mem_append_left _ hg')
        · rw [List.mem_singleton.1 hg']
          exact check_more (h3 f (List.mem_append_right _ List.mem_cons_self)) hg
      · have e : ([⟨f.f0, ⟨(f.f1.data.toList ++ [13, 10] ++ t).toArray⟩⟩] : List S30).flatMap lineU = [f].flatMap lineU ++ (t ++ [13, 10]) := by
          simp only [List.flatMap_cons, List.flatMap_nil, List.append_nil]
          unfold lineU
          simp
        rw [bump_snoc, t2, ← h4, List.flatMap_append, e, List.flatMap_append, List.append_assoc]
  · rw [if_neg c5]
    by_cases c6 : badAt 11 t = 0 ∨ badAt 11 t = lenRow (L.drop i) ∨ t.getD (badAt 11 t) 0 ≠ 58
    · rw [if_pos c6]
      refine ⟨fun a j e => (by cases e), fun a j e => (by cases e), fun e j e' => ?_⟩
      cases e'
      have hle : badAt 11 t ≤ t.length := List.findIdx_le_length
      exact ⟨.inl rfl, by omega⟩
    · rw [if_neg c6]
      by_cases c7 : acc.length = 4096
      · rw [if_pos c7]
        refine ⟨fun a j e => (by cases e), fun a j e => (by cases e), fun e j e' => ?_⟩
        cases e'
        exact ⟨.inl rfl, h1⟩
      · rw [if_neg c7]
        refine ⟨fun a j e => ?_, fun a j e => (by cases e), fun e j e' => (by cases e')⟩
        cases e
        have b0 : badAt 11 t ≠ 0 := fun e => c6 (.inl e)
        have bl : badAt 11 t ≠ t.length := fun e => c6 (.inr (.inl (e.trans t1)))
        have bc : t.getD (badAt 11 t) 0 = 58 := Decidable.byContradiction fun e => c6 (.inr (.inr e))
        obtain ⟨hn, hlt⟩ := name_of b0 bl
        have hsplit : t.take (badAt 11 t) ++ 58 :: t.drop (badAt 11 t + 1) = t := by
          have e1 : t.drop (badAt 11 t) = t[badAt 11 t] :: t.drop (badAt 11 t + 1) := List.drop_eq_getElem_cons hlt
          have e2 : t[badAt 11 t] = 58 := by
            rw [List.getD_eq_getElem?_getD, List.getElem?_eq_getElem hlt] at bc
            exact bc
          rw [e2] at e1
          rw [← e1, List.take_append_drop]
        have hlen := congrArg List.length hsplit
        rw [List.length_append, List.length_cons] at hlen
        refine ⟨t3, by rw [List.length_append, List.length_cons, List.length_nil]; omega, ?_, ?_⟩
        · intro g hg'
          rcases List.mem_append.1 hg' with hg' | hg'
          · exact h3 g hg'
          · rw [List.mem_singleton.1 hg']
            refine check_of (r0 := t.drop (badAt 11 t + 1)) (rs := []) hn (hasEnd_sub hclean fun b hb => List.mem_of_mem_drop hb) ?_ (fun x hx => by cases hx) ?_
            · show (t.take (badAt 11 t)).length + 1 + _ ≤ 998
              omega
            · show t.drop (badAt 11 t + 1) = _ ++ []
              rw [List.append_nil]
        · rw [t2, ← h4, List.flatMap_append]
          congr 1
          show [_].flatMap lineU = _
          simp only [List.flatMap_cons, List.flatMap_nil, List.append_nil]
          unfold lineU
          show t.take (badAt 11 t) ++ 58 :: t.drop (badAt 11 t + 1) ++ [13, 10] = _
          rw [hsplit]
/-- what is told -/
def Told (L : List UInt8) (r : Res) : Prop :=
  (r.2.2.1 = 0 ∧ r.2.2.2 = 0 ∧ r.1.length ≤ 4096 ∧ (∀ f ∈ r.1, checkF f = 0) ∧ (r.1.flatMap lineU).length ≤ L.length ∧ r.1.flatMap lineU = L.take (r.1.flatMap lineU).length
    ∧ (r.2.1 = (r.1.flatMap lineU).length ∧ (r.1.flatMap lineU).length = L.length ∨ r.2.1 = (r.1.flatMap lineU).length + 2 ∧ ∃ R, L = r.1.flatMap lineU ++ 13 :: 10 :: R))
  ∨ ((r.2.2.1 = 160 ∨ r.2.2.1 = 161) ∧ r.1 = [] ∧ r.2.1 = 0 ∧ r.2.2.2 ≤ L.length)
theorem told_go {L : List UInt8} : ∀ (g i : Nat) (acc : List S30), L.length - i < g → Inv L i acc → Told L (parseGo L g i acc)
  | 0, _, _, h, _ => by omega
  | g + 1, i, acc, h, hI => by
    obtain ⟨s1, s2, s3⟩ := step_inv hI
    obtain ⟨h1, h2, h3, h4⟩ := hI
    simp only [parseGo]
    cases hs : rowStep L i acc with
    | done a j =>
      obtain ⟨rfl, hj⟩ := s2 a j hs
      have hl : (a.flatMap lineU).length = i := by rw [h4, List.length_take]; omega
      refine .inl ⟨rfl, rfl, h2, h3, by show (a.flatMap lineU).length ≤ _; omega, by show a.flatMap lineU = L.take (a.flatMap lineU).length; rw [hl]; exact h4, ?_⟩
      show j = (a.flatMap lineU).length ∧ _ ∨ j = (a.flatMap lineU).length + 2 ∧ ∃ R, L = a.flatMap lineU ++ _
      rw [hl]
      rcases hj with ⟨e1, e2⟩ | ⟨e1, e2⟩
      · exact .inl ⟨e1, e2⟩
      · obtain ⟨R, hR⟩ := crlf_eq e2
        exact .inr ⟨e1, R, by rw [h4, ← hR, List.take_append_drop]⟩
    | fail e j =>
      obtain ⟨he, hj⟩ := s3 e j hs
      exact .inr ⟨he, rfl, rfl, hj⟩
    | next a j =>
      have := rowStep_next hs
      exact told_go g j a (by omega) (s1 a j hs)
theorem told (L : List UInt8) : Told L (parseV L) := told_go _ 0 [] (by omega) ⟨Nat.zero_le _, by simp, fun f hf => (by cases hf), rfl⟩
end Go.Proofs.YtammhcfifnffeaaDoor.AgainPure
