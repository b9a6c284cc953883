/- What Print writes Parse reads as it was (lists alone). -/
import Derived.Test.YtammhcfifnffeaaDoorParseV
import Derived.Test.YtammhcfifnffeaaDoorFoldChecks
namespace Go.Proofs.YtammhcfifnffeaaDoor.Back
open Go.RowKit Go.Proofs.YtammhcfifnffeaaDoorW.PrintWords Go.Proofs.YtammhcfifnffeaaDoor.PFieldPrints Go.Proofs.YtammhcfifnffeaaDoor.RowsIter Go.Proofs.YtammhcfifnffeaaDoor.AnyEnd Go.Proofs.YtammhcfifnffeaaDoor.Octet Go.Proofs.YtammhcfifnffeaaDoor.CheckWalk Go.Proofs.YtammhcfifnffeaaDoor.PrintWalk Go.Proofs.YtammhcfifnffeaaDoor.Hand Go.Proofs.YtammhcfifnffeaaDoor.ParseV Go.Proofs.YtammhcfifnffeaaDoor.CheckPure Go.Proofs.YtammhcfifnffeaaDoor.FoldChecks
set_option linter.unusedVariables false
set_option linter.unusedSimpArgs false

abbrev Res : Type := List S30 × Nat × Int × Nat
theorem rowStep_next {L : List UInt8} {i : Nat} {acc a : List S30} {j : Nat} (h : rowStep L i acc = .next a j) : i < j ∧ j ≤ L.length := by
  have key : ∀ {q}, isCRLF (L.drop q) = true → q + 2 ≤ L.length := by
    intro q hq
    have := crlf_len hq
    rw [List.length_drop] at this
    omega
  unfold rowStep at h
  split at h
  · cases h
  · split at h
    · cases h
    · split at h
      · cases h
      · split at h
        · cases h
        · rename_i hc
          have hc' : isCRLF (L.drop (i + lenRow (L.drop i))) = true := by
            cases hx : isCRLF (L.drop (i + lenRow (L.drop i)))
            · exact absurd hx hc
            · rfl
          have := key hc'
          split at h
          · split at h
            · cases h
            · cases h
              omega
          · split at h
            · cases h
            · split at h
              · cases h
              · cases h
                omega
theorem fuel {L : List UInt8} : ∀ (g g' i : Nat) (acc : List S30), L.length - i < g → L.length - i < g' → parseGo L g i acc = parseGo L g' i acc
  | 0, _, _, _, h, _ => by omega
  | _, 0, _, _, _, h => by omega
  | g + 1, g' + 1, i, acc, h, h' => by
    simp only [parseGo]
    cases hs : rowStep L i acc with
    | done a j => rfl
    | fail e j => rfl
    | next a j =>
      have := rowStep_next hs
      exact fuel g g' j a (by omega) (by omega)
/-- what is read from a place on -/
def parseAt (L : List UInt8) (i : Nat) (acc : List S30) : Res := parseGo L (L.length + 1 - i) i acc
theorem parseV_at (L : List UInt8) : parseV L = parseAt L 0 [] := rfl
theorem at_done {L : List UInt8} {i : Nat} {acc a : List S30} {j : Nat} (hi : i ≤ L.length) (h : rowStep L i acc = .done a j) : parseAt L i acc = (a, j, 0, 0) := by
  unfold parseAt
  rw [show L.length + 1 - i = (L.length - i) + 1 by omega, parseGo, h]
theorem at_fail {L : List UInt8} {i : Nat} {acc : List S30} {e : Int} {j : Nat} (hi : i ≤ L.length) (h : rowStep L i acc = .fail e j) : parseAt L i acc = ([], 0, e, j) := by
  unfold parseAt
  rw [show L.length + 1 - i = (L.length - i) + 1 by omega, parseGo, h]
theorem at_next {L : List UInt8} {i : Nat} {acc a : List S30} {j : Nat} (hi : i ≤ L.length) (h : rowStep L i acc = .next a j) : parseAt L i acc = parseAt L j a := by
  have hj := rowStep_next h
  unfold parseAt
  rw [show L.length + 1 - i = (L.length - i) + 1 by omega, parseGo, h]
  exact fuel _ _ j a (by omega) (by omega)

theorem lenRow_app : ∀ (x : List UInt8) (R : List UInt8), hasEnd x = false → lenRow (x ++ 13 :: R) = x.length
  | [], R, _ => by
    show lenRow (13 :: R) = 0
    unfold lenRow
    rw [if_pos (.inl rfl)]
  | c :: x, R, h => by
    have hc := clean_of (c :: x) h c List.mem_cons_self
    have hx : hasEnd x = false := hasEnd_sub h fun b hb => List.mem_cons_of_mem _ hb
    show lenRow (c :: (x ++ 13 :: R)) = _
    unfold lenRow
    rw [if_neg (by rintro (e | e) <;> simp_all), lenRow_app x R hx]
    rfl
theorem drop_more {L x R : List UInt8} {i : Nat} (hd : L.drop i = x ++ R) : L.drop (i + x.length) = R := by
  rw [← List.drop_drop, hd, List.drop_left]
theorem crlf_head (R : List UInt8) : isCRLF (13 :: 10 :: R) = true := by
  unfold isCRLF Lib.hasPrefix
  simp [List.isPrefixOf]
/-- what is known of a row that is followed by a line end -/
theorem row_facts {L x R : List UInt8} {i : Nat} (hd : L.drop i = x ++ 13 :: 10 :: R) (hx : hasEnd x = false) :
    i < L.length ∧ lenRow (L.drop i) = x.length ∧ isCRLF (L.drop (i + x.length)) = true ∧ (L.drop i).take x.length = x := by
  refine ⟨?_, ?_, ?_, ?_⟩
  · rcases Nat.lt_or_ge i L.length with h | h
    · exact h
    · rw [List.drop_eq_nil_of_le h] at hd
      have := congrArg List.length hd
      simp at this
  · rw [hd, lenRow_app x _ hx]
  · rw [drop_more hd]
    exact crlf_head R
  · rw [hd, List.take_left]
theorem step_fold {L x R : List UInt8} {i : Nat} {acc : List S30} (hd : L.drop i = x ++ 13 :: 10 :: R) (hx : hasEnd x = false) (h9 : x.length ≤ 998) (hb : blankB x = true) (hbb : blanksB x = false) (ha : acc ≠ []) :
    rowStep L i acc = .next (bump acc x) (i + x.length + 2) := by
  obtain ⟨h1, h2, h3, h4⟩ := row_facts hd hx
  have hx0 : x.length ≠ 0 := by
    intro e
    rw [List.eq_nil_of_length_eq_zero e] at hb
    cases hb
  unfold rowStep
  rw [if_neg (by omega), h2, if_neg (fun e => hx0 e.1), if_neg (by omega), h3, if_neg (by simp), h4, if_pos hb, if_neg (by rw [hbb]; simp [ha])]
theorem isIn_58 : isIn 11 58 = false := by decide +kernel
theorem isIn_blank : ∀ b : Fin 256, isIn 11 b.val = true → b.val ≠ 32 ∧ b.val ≠ 9 := by decide +kernel
theorem name_parts {nm : List UInt8} (h : nameB nm = true) : nm ≠ [] ∧ ∀ b ∈ nm, isIn 11 b.toNat = true := by
  unfold nameB at h
  rw [Bool.and_eq_true, Bool.not_eq_true'] at h
  exact ⟨fun e => by rw [e] at h; simp at h, fun b hb => List.all_eq_true.1 h.2 b hb⟩
theorem bad_name {nm r : List UInt8} (h : nameB nm = true) : badAt 11 (nm ++ 58 :: r) = nm.length := by
  refine badAt_at (x := 58) (fun j b hj hb => ?_) ?_ isIn_58
  · rw [List.getElem?_append_left hj] at hb
    exact (name_parts h).2 b (List.mem_of_getElem? hb)
  · rw [List.getElem?_append_right (Nat.le_refl _), Nat.sub_self]
    rfl
theorem blank_name {nm r : List UInt8} (h : nameB nm = true) : blankB (nm ++ 58 :: r) = false := by
  obtain ⟨h1, h2⟩ := name_parts h
  cases nm with
  | nil => exact absurd rfl h1
  | cons c nm =>
    have := isIn_blank ⟨c.toNat, c.toNat_lt⟩ (h2 c List.mem_cons_self)
    show (c == 32 || c == 9) = false
    rw [Bool.or_eq_false_iff, beq_eq_false_iff_ne, beq_eq_false_iff_ne]
    exact ⟨fun e => this.1 (by subst e; rfl), fun e => this.2 (by subst e; rfl)⟩
theorem hasEnd_name {nm r : List UInt8} (h : nameB nm = true) (hr : hasEnd r = false) : hasEnd (nm ++ 58 :: r) = false := by
  rw [hasEnd_clean nm _ (name_clean nm h)]
  unfold hasEnd at hr ⊢
  rw [List.any_cons, hr]
  rfl
theorem field_pre {L nm r R : List UInt8} {i : Nat} {acc : List S30} (hd : L.drop i = (nm ++ 58 :: r) ++ 13 :: 10 :: R) (hn : nameB nm = true) (hr : hasEnd r = false) (h9 : nm.length + 1 + r.length ≤ 998) :
    rowStep L i acc = if acc.length = 4096 then .fail 160 i else .next (acc ++ [⟨⟨nm.toArray⟩, ⟨r.toArray⟩⟩]) (i + (nm ++ 58 :: r).length + 2) := by
  obtain ⟨h1, h2, h3, h4⟩ := row_facts hd (hasEnd_name hn hr)
  have hxl : (nm ++ 58 :: r).length = nm.length + 1 + r.length := by rw [List.length_append, List.length_cons]; omega
  have hn0 : nm.length ≠ 0 := fun e => (name_parts hn).1 (List.eq_nil_of_length_eq_zero e)
  have hg : (nm ++ 58 :: r).getD nm.length 0 = 58 := by
    rw [List.getD_eq_getElem?_getD, List.getElem?_append_right (Nat.le_refl _), Nat.sub_self]
    rfl
  unfold rowStep
  rw [if_neg (by omega), h2, if_neg (fun e => by omega), if_neg (by omega), h3, if_neg (by simp), h4, blank_name hn, if_neg (by simp), bad_name hn, hg, if_neg (by rintro (e | e | e) <;> first | omega | exact e rfl)]
  have e1 : (nm ++ 58 :: r).take nm.length = nm := List.take_left
  have e2 : (nm ++ 58 :: r).drop (nm.length + 1) = r := by rw [← List.drop_drop, List.drop_left]; rfl
  rw [e1, e2]
theorem bump_snoc (acc0 : List S30) (f : S30) (x : List UInt8) : bump (acc0 ++ [f]) x = acc0 ++ [⟨f.f0, ⟨(f.f1.data.toList ++ [13, 10] ++ x).toArray⟩⟩] := by
  unfold bump
  have hl : (acc0 ++ [f]).length - 1 = acc0.length := by rw [List.length_append]; rfl
  have hr : rd_T30 (acc0 ++ [f]) ((acc0.length : Nat) : Int) = f := by
    unfold rd_T30
    rw [List.getD_eq_getElem?_getD, Int.toNat_natCast, List.getElem?_append_right (Nat.le_refl _), Nat.sub_self]
    rfl
  rw [hl, hr, List.set_append_right _ _ (Nat.le_refl _), Nat.sub_self]
  rfl
/-- rows that go on: each with a line end behind it -/
def tails (rs : List (List UInt8)) : List UInt8 := rs.flatMap fun x => x ++ [13, 10]
def heads (rs : List (List UInt8)) : List UInt8 := rs.flatMap fun x => [13, 10] ++ x
theorem heads_tails (rs : List (List UInt8)) : heads rs ++ [13, 10] = [13, 10] ++ tails rs := by
  induction rs with
  | nil => rfl
  | cons x rs ih =>
    show ([13, 10] ++ x ++ heads rs) ++ [13, 10] = [13, 10] ++ (x ++ [13, 10] ++ tails rs)
    rw [List.append_assoc, ih]
    simp
def goodRow (x : List UInt8) : Prop := hasEnd x = false ∧ x.length ≤ 998 ∧ blankB x = true ∧ blanksB x = false
theorem fold_rows {L : List UInt8} : ∀ (rs : List (List UInt8)) (i : Nat) (acc0 : List S30) (f : S30) (R : List UInt8), L.drop i = tails rs ++ R → (∀ x ∈ rs, goodRow x) → i ≤ L.length →
    parseAt L i (acc0 ++ [f]) = parseAt L (i + (tails rs).length) (acc0 ++ [⟨f.f0, ⟨(f.f1.data.toList ++ heads rs).toArray⟩⟩]) ∧ i + (tails rs).length ≤ L.length
  | [], i, acc0, f, R, _, _, hi => by
    have e : (⟨f.f0, ⟨(f.f1.data.toList ++ heads []).toArray⟩⟩ : S30) = f := by
      show (⟨f.f0, ⟨(f.f1.data.toList ++ []).toArray⟩⟩ : S30) = f
      rw [List.append_nil]
    rw [e]
    exact ⟨rfl, hi⟩
  | x :: rs, i, acc0, f, R, hd, hg, hi => by
    obtain ⟨g1, g2, g3, g4⟩ := hg x List.mem_cons_self
    have hd' : L.drop i = x ++ 13 :: 10 :: (tails rs ++ R) := by
      rw [hd]
      show (x ++ [13, 10] ++ tails rs) ++ R = _
      simp
    have hs := step_fold (acc := acc0 ++ [f]) hd' g1 g2 g3 g4 (by simp)
    have hn := rowStep_next hs
    have hd2 : L.drop (i + x.length + 2) = tails rs ++ R := by
      have := drop_more hd'
      rw [← List.drop_drop, this]
      rfl
    have hlen : (tails (x :: rs)).length = x.length + 2 + (tails rs).length := by
      show ((x ++ [13, 10]) ++ tails rs).length = _
      simp only [List.length_append, List.length_cons, List.length_nil]
    obtain ⟨h1, h2⟩ := fold_rows rs (i + x.length + 2) acc0 ⟨f.f0, ⟨(f.f1.data.toList ++ [13, 10] ++ x).toArray⟩⟩ R hd2 (fun y hy => hg y (List.mem_cons_of_mem _ hy)) hn.2
    rw [at_next hi hs, bump_snoc, h1, hlen]
    have e : i + x.length + 2 + (tails rs).length = i + (x.length + 2 + (tails rs).length) := by omega
    rw [e] at h2 ⊢
    refine ⟨?_, h2⟩
    have e2 : f.f1.data.toList ++ [13, 10] ++ x ++ heads rs = f.f1.data.toList ++ heads (x :: rs) := by
      show _ = f.f1.data.toList ++ ([13, 10] ++ x ++ heads rs)
      simp
    show parseAt L _ (acc0 ++ [⟨f.f0, ⟨(f.f1.data.toList ++ [13, 10] ++ x ++ heads rs).toArray⟩⟩]) = _
    rw [e2]
/-- a text is its rows, with line ends between them -/
theorem rows_glue : ∀ l : List UInt8, ∃ r0 rs, rowsL l = r0 :: rs ∧ l = r0 ++ heads rs
  | [] => ⟨[], [], rfl, rfl⟩
  | [c] => ⟨[c], [], rfl, rfl⟩
  | c :: d :: l => by
    unfold rowsL
    by_cases h : c = 13 ∧ d = 10
    · rw [if_pos h]
      obtain ⟨r0, rs, h1, h2⟩ := rows_glue l
      refine ⟨[], r0 :: rs, by rw [h1], ?_⟩
      show c :: d :: l = [13, 10] ++ r0 ++ heads rs
      rw [h.1, h.2, h2]
      simp
    · rw [if_neg h]
      obtain ⟨r0, rs, h1, h2⟩ := rows_glue (d :: l)
      rw [h1]
      refine ⟨c :: r0, rs, rfl, ?_⟩
      rw [h2]
      rfl
def lineU (f : S30) : List UInt8 := f.f0.data.toList ++ 58 :: f.f1.data.toList ++ [13, 10]
theorem check_parts {f : S30} (h : checkF f = 0) {r0 : List UInt8} {rs : List (List UInt8)} (hr : rowsL f.f1.data.toList = r0 :: rs) :
    nameB f.f0.data.toList = true ∧ hasEnd r0 = false ∧ f.f0.data.toList.length + 1 + r0.length ≤ 998 ∧ ∀ x ∈ rs, goodRow x := by
  unfold checkF checkV at h
  rw [hr] at h
  cases hn : nameB f.f0.data.toList
  · rw [hn] at h
    simp at h
  · rw [hn, if_neg (by simp)] at h
    cases hb : anyBad (f.f0.data.toList.length + 1) (r0 :: rs)
    · rw [hb, if_neg (by simp)] at h
      cases hf : foldBad (r0 :: rs)
      · unfold anyBad at hb
        rw [Bool.or_eq_false_iff] at hb
        have h0 := hb.1
        unfold rowBad at h0
        rw [Bool.or_eq_false_iff] at h0
        have h0' := of_decide_eq_false h0.1
        refine ⟨rfl, h0.2, by omega, fun x hx => ?_⟩
        have hx1 := List.any_eq_false.1 hb.2 x hx
        rw [Bool.not_eq_true] at hx1
        unfold rowBad at hx1
        rw [Bool.or_eq_false_iff] at hx1
        have hx1' := of_decide_eq_false hx1.1
        have hx2 := List.any_eq_false.1 (show (r0 :: rs).tail.any foldOff = false from hf) x hx
        rw [Bool.not_eq_true] at hx2
        unfold foldOff at hx2
        rw [Bool.or_eq_false_iff, Bool.not_eq_false'] at hx2
        exact ⟨hx1.2, by omega, hx2.2, hx2.1⟩
      · rw [hf] at h
        simp at h
    · rw [hb] at h
      simp at h
/-- a field that Check takes is read as it was -/
theorem one_field {L : List UInt8} {i : Nat} {acc : List S30} {f : S30} {R : List UInt8} (hd : L.drop i = lineU f ++ R) (hc : checkF f = 0) (ha : acc.length ≠ 4096) :
    parseAt L i acc = parseAt L (i + (lineU f).length) (acc ++ [f]) ∧ i + (lineU f).length ≤ L.length := by
  obtain ⟨r0, rs, h1, h2⟩ := rows_glue f.f1.data.toList
  obtain ⟨c1, c2, c3, c4⟩ := check_parts hc h1
  have hl : lineU f = (f.f0.data.toList ++ 58 :: r0) ++ 13 :: 10 :: tails rs := by
    unfold lineU
    rw [h2]
    have := heads_tails rs
    calc f.f0.data.toList ++ 58 :: (r0 ++ heads rs) ++ [13, 10] = f.f0.data.toList ++ 58 :: r0 ++ (heads rs ++ [13, 10]) := by simp
      _ = _ := by rw [this]; simp
  have hd' : L.drop i = (f.f0.data.toList ++ 58 :: r0) ++ 13 :: 10 :: (tails rs ++ R) := by
    rw [hd, hl]
    simp
  have hs := field_pre (acc := acc) hd' c1 c2 c3
  rw [if_neg ha] at hs
  have hi : i ≤ L.length := Nat.le_of_lt (row_facts hd' (hasEnd_name c1 c2)).1
  have hn := rowStep_next hs
  have hd2 : L.drop (i + (f.f0.data.toList ++ 58 :: r0).length + 2) = tails rs ++ R := by
    have := drop_more hd'
    rw [← List.drop_drop, this]
    rfl
  obtain ⟨e1, e2⟩ := fold_rows rs _ acc ⟨⟨f.f0.data.toList.toArray⟩, ⟨r0.toArray⟩⟩ R hd2 c4 hn.2
  have hlen : (lineU f).length = (f.f0.data.toList ++ 58 :: r0).length + 2 + (tails rs).length := by
    have hpl : ∀ p q : List UInt8, (p ++ 13 :: 10 :: q).length = p.length + 2 + q.length := by
      intro p q
      simp only [List.length_append, List.length_cons]
      omega
    rw [hl, hpl]
  have e3 : i + (f.f0.data.toList ++ 58 :: r0).length + 2 + (tails rs).length = i + (lineU f).length := by rw [hlen]; omega
  rw [e3] at e1 e2
  have e4 : (⟨⟨f.f0.data.toList.toArray⟩, ⟨((⟨r0.toArray⟩ : ByteArray).data.toList ++ heads rs).toArray⟩⟩ : S30) = f := by
    show (⟨⟨f.f0.data.toList.toArray⟩, ⟨(r0 ++ heads rs).toArray⟩⟩ : S30) = f
    rw [← h2]
  rw [at_next hi hs, e1]
  refine ⟨?_, e2⟩
  show parseAt L _ (acc ++ [(⟨⟨f.f0.data.toList.toArray⟩, ⟨((⟨r0.toArray⟩ : ByteArray).data.toList ++ heads rs).toArray⟩⟩ : S30)]) = _
  rw [e4]
theorem all_fields {L : List UInt8} : ∀ (l : List S30) (i : Nat) (acc : List S30) (R : List UInt8), L.drop i = l.flatMap lineU ++ R → (∀ f ∈ l, checkF f = 0) → acc.length + l.length ≤ 4096 → i ≤ L.length →
    parseAt L i acc = parseAt L (i + (l.flatMap lineU).length) (acc ++ l) ∧ i + (l.flatMap lineU).length ≤ L.length
  | [], i, acc, R, _, _, _, hi => by
    rw [List.append_nil]
    exact ⟨rfl, hi⟩
  | f :: l, i, acc, R, hd, hc, hl, hi => by
    simp only [List.length_cons] at hl
    have hd' : L.drop i = lineU f ++ (l.flatMap lineU ++ R) := by rw [hd, List.flatMap_cons, List.append_assoc]
    obtain ⟨h1, h2⟩ := one_field (acc := acc) hd' (hc f List.mem_cons_self) (Nat.ne_of_lt (by omega))
    obtain ⟨h3, h4⟩ := all_fields l (i + (lineU f).length) (acc ++ [f]) R (drop_more hd') (fun g hg => hc g (List.mem_cons_of_mem _ hg)) (by rw [List.length_append]; simp only [List.length_cons, List.length_nil]; omega) h2
    have e : i + (lineU f).length + (l.flatMap lineU).length = i + ((f :: l).flatMap lineU).length := by
      rw [List.flatMap_cons, List.length_append]; omega
    rw [h1, h3, e, List.append_assoc]
    rw [e] at h4
    exact ⟨rfl, h4⟩
/-- printed fields, by themselves -/
theorem back_alone (l : List S30) (hc : ∀ f ∈ l, checkF f = 0) (hl : l.length ≤ 4096) : parseV (l.flatMap lineU) = (l, (l.flatMap lineU).length, 0, 0) := by
  obtain ⟨h1, _⟩ := all_fields (L := l.flatMap lineU) l 0 [] [] (by simp) hc (by simpa using hl) (Nat.zero_le _)
  rw [parseV_at, h1, Nat.zero_add, List.nil_append]
  refine at_done (Nat.le_refl _) ?_
  unfold rowStep
  rw [if_pos (Nat.le_refl _)]
/-- printed fields, a line end, and whatever follows -/
theorem back_ahead (l : List S30) (hc : ∀ f ∈ l, checkF f = 0) (hl : l.length ≤ 4096) (R : List UInt8) : parseV (l.flatMap lineU ++ 13 :: 10 :: R) = (l, (l.flatMap lineU).length + 2, 0, 0) := by
  obtain ⟨h1, h2⟩ := all_fields (L := l.flatMap lineU ++ 13 :: 10 :: R) l 0 [] (13 :: 10 :: R) rfl hc (by simpa using hl) (Nat.zero_le _)
  rw [Nat.zero_add] at h1 h2
  rw [parseV_at, h1, List.nil_append]
  refine at_done h2 ?_
  have hd : (l.flatMap lineU ++ 13 :: 10 :: R).drop (l.flatMap lineU).length = 13 :: 10 :: R := List.drop_left
  unfold rowStep
  rw [if_neg (by rw [List.length_append, List.length_cons]; omega), hd, if_pos ⟨by unfold lenRow; rw [if_pos (.inl rfl)], crlf_head R⟩]
/-- one field too many -/
theorem back_over (l : List S30) (hc : ∀ f ∈ l, checkF f = 0) (hl : l.length = 4096) (f : S30) (hf : checkF f = 0) : parseV (l.flatMap lineU ++ lineU f) = ([], 0, 160, (l.flatMap lineU).length) := by
  obtain ⟨h1, h2⟩ := all_fields (L := l.flatMap lineU ++ lineU f) l 0 [] (lineU f) rfl hc (by rw [hl]; decide) (Nat.zero_le _)
  rw [Nat.zero_add] at h1 h2
  rw [parseV_at, h1, List.nil_append]
  refine at_fail h2 ?_
  have hd : (l.flatMap lineU ++ lineU f).drop (l.flatMap lineU).length = lineU f := List.drop_left
  obtain ⟨r0, rs, e1, e2⟩ := rows_glue f.f1.data.toList
  obtain ⟨c1, c2, c3, c4⟩ := check_parts hf e1
  have hlf : lineU f = (f.f0.data.toList ++ 58 :: r0) ++ 13 :: 10 :: tails rs := by
    unfold lineU
    rw [e2]
    have := heads_tails rs
    calc f.f0.data.toList ++ 58 :: (r0 ++ heads rs) ++ [13, 10] = f.f0.data.toList ++ 58 :: r0 ++ (heads rs ++ [13, 10]) := by simp
      _ = _ := by rw [this]; simp
  rw [field_pre (acc := l) (hd.trans hlf) c1 c2 c3, if_pos hl]
end Go.Proofs.YtammhcfifnffeaaDoor.Back
