/- posthornlaw17.WordDecodes: the reference's Decode over its list is word's; the law's walk. -/
import Derived.Test.YtcnhnpkbklakoaaDoorDecRef
import Derived.Laws.StructEq
/- The reference's Decode over its list is word's Decode. -/
namespace Go.Proofs.YtcnhnpkbklakoaaDoor.Word
open Go.RowKit Go.Proofs.YtcnhnpkbklakoaaDoorW.PrintWords Go.Proofs.YtcnhnpkbklakoaaDoor.Code Go.Proofs.YtcnhnpkbklakoaaDoor.Runes Go.Proofs.YtcnhnpkbklakoaaDoor.Pieces
theorem str_app (out : List Int) (g : ByteArray) : strOfNums (out ++ bytesOf g) = strOfNums out ++ g := by
  refine ba_ext ?_
  rw [data_app]
  show u8s (out ++ bytesOf g) = u8s out ++ g.data.toList
  rw [u8s_app]
  congr 1
  exact u8s_natsOf g.data.toList
theorem extract_none (s : ByteArray) (i j : Nat) (h : j ≤ i) : s.extract i j = ⟨#[]⟩ := ba_ext (by
  rw [Lib.extract_data, show j - i = 0 by omega]
  rfl)
theorem app_none (a : ByteArray) : a ++ (⟨#[]⟩ : ByteArray) = a := ba_ext (by
  rw [data_app]
  simp)
theorem at_pre (pre : List Pt) (p : Pt) (r : List Pt) : isAt (pre ++ p :: r) pre.length = isP p := by
  unfold isAt
  rw [List.getElem?_append_right (Nat.le_refl _), Nat.sub_self]
  rfl
theorem at_none (pre : List Pt) : isAt pre pre.length = false := by
  unfold isAt
  rw [List.getElem?_eq_none (Nat.le_refl _)]
def lastP (pre : List Pt) : Bool := match pre.getLast? with
  | some p => isP p
  | none => false
theorem last_app (pre : List Pt) (p : Pt) : lastP (pre ++ [p]) = isP p := by
  unfold lastP
  rw [List.getLast?_concat]
theorem at_last (pre r : List Pt) : (decide (0 < pre.length) && isAt (pre ++ r) (pre.length - 1)) = lastP pre := by
  rcases List.eq_nil_or_concat pre with rfl | ⟨l, p, rfl⟩
  · rfl
  · rw [List.concat_eq_append, last_app, List.append_assoc]
    have e : (l ++ [p]).length - 1 = l.length := by simp
    rw [e, List.singleton_append, at_pre, decide_eq_true (by simp), Bool.true_and]
theorem isP_gap (i : Nat) (x : ByteArray) : isP ⟨i, x, true⟩ = false := by
  unfold isP
  simp
theorem isP_word (i : Nat) (x : ByteArray) : isP ⟨i, x, false⟩ = (cutV x).2.2.2 := by
  unfold isP
  simp
/-- a step of the word's list -/
theorem step_word (L r : List Pt) (W j : Nat) (x o : ByteArray) (R : ByteArray × Int × Int)
    (h0 : (cutV x).2.2.2 = false → decL L r (j + 1) (o ++ x) = R)
    (h1 : (cutV x).2.2.2 = true → (meansV (cutV x).1 []).2.1 = false → ((E0, 171, (W : Int) + 2) : ByteArray × Int × Int) = R)
    (h2 : (cutV x).2.2.2 = true → (meansV (cutV x).1 []).2.1 = true → 0 ≤ (bytesV (cutV x).2.1 (cutV x).2.2.1).2 → ((E0, 170, (W : Int) + (((cutV x).1.size : Int) + 5 + (bytesV (cutV x).2.1 (cutV x).2.2.1).2)) : ByteArray × Int × Int) = R)
    (h3 : (cutV x).2.2.2 = true → (meansV (cutV x).1 []).2.1 = true → ¬ 0 ≤ (bytesV (cutV x).2.1 (cutV x).2.2.1).2 → (meansV (cutV x).1 (u8s (bytesV (cutV x).2.1 (cutV x).2.2.1).1)).2.2 = false → ((E0, 170, (W : Int) + (((cutV x).1.size : Int) + 5)) : ByteArray × Int × Int) = R)
    (h4 : (cutV x).2.2.2 = true → (meansV (cutV x).1 []).2.1 = true → ¬ 0 ≤ (bytesV (cutV x).2.1 (cutV x).2.2.1).2 → (meansV (cutV x).1 (u8s (bytesV (cutV x).2.1 (cutV x).2.2.1).1)).2.2 = true → decL L r (j + 1) (o ++ (meansV (cutV x).1 (u8s (bytesV (cutV x).2.1 (cutV x).2.2.1).1)).1) = R) :
    decL L (⟨W, x, false⟩ :: r) j o = R := by
  rw [decL, isP_word]
  by_cases c0 : (cutV x).2.2.2 = false
  · rw [if_pos c0, show betw L j ⟨W, x, false⟩ = false from rfl, if_neg (by decide)]
    exact h0 c0
  · rw [if_neg c0]
    have c0' : (cutV x).2.2.2 = true := by cases h : (cutV x).2.2.2 <;> simp_all
    by_cases c1 : (meansV (cutV x).1 []).2.1 = false
    · rw [if_pos c1]
      exact h1 c0' c1
    · rw [if_neg c1]
      have c1' : (meansV (cutV x).1 []).2.1 = true := by cases h : (meansV (cutV x).1 []).2.1 <;> simp_all
      by_cases c2 : 0 ≤ (bytesV (cutV x).2.1 (cutV x).2.2.1).2
      · rw [if_pos c2]
        exact h2 c0' c1' c2
      · rw [if_neg c2]
        by_cases c3 : (meansV (cutV x).1 (u8s (bytesV (cutV x).2.1 (cutV x).2.2.1).1)).2.2 = false
        · rw [if_pos c3]
          exact h3 c0' c1' c2 c3
        · rw [if_neg c3]
          have c3' : (meansV (cutV x).1 (u8s (bytesV (cutV x).2.1 (cutV x).2.2.1).1)).2.2 = true := by cases h : (meansV (cutV x).1 (u8s (bytesV (cutV x).2.1 (cutV x).2.2.1).1)).2.2 <;> simp_all
          exact h4 c0' c1' c2 c3'
/-- a step of word's Decode -/
def wordR (s : ByteArray) (d i : Nat) (out : List Int) (last : Bool) : ByteArray × Int × Int :=
      if (cutV (s.extract (wAt s i) (eAt s i))).2.2.2 = false then decGo s d (eAt s i) ((out ++ bytesOf (s.extract i (wAt s i))) ++ bytesOf (s.extract (wAt s i) (eAt s i))) false else
      if (meansV (cutV (s.extract (wAt s i) (eAt s i))).1 []).2.1 = false then (E0, 171, (wAt s i : Int) + 2) else
      if 0 ≤ (bytesV (cutV (s.extract (wAt s i) (eAt s i))).2.1 (cutV (s.extract (wAt s i) (eAt s i))).2.2.1).2 then
        (E0, 170, (wAt s i : Int) + (((cutV (s.extract (wAt s i) (eAt s i))).1.size : Int) + 5 + (bytesV (cutV (s.extract (wAt s i) (eAt s i))).2.1 (cutV (s.extract (wAt s i) (eAt s i))).2.2.1).2)) else
      if (meansV (cutV (s.extract (wAt s i) (eAt s i))).1 (u8s (bytesV (cutV (s.extract (wAt s i) (eAt s i))).2.1 (cutV (s.extract (wAt s i) (eAt s i))).2.2.1).1)).2.2 = false then
        (E0, 170, (wAt s i : Int) + (((cutV (s.extract (wAt s i) (eAt s i))).1.size : Int) + 5)) else
      decGo s d (eAt s i) ((if last = true then out else out ++ bytesOf (s.extract i (wAt s i))) ++ bytesOf (meansV (cutV (s.extract (wAt s i) (eAt s i))).1 (u8s (bytesV (cutV (s.extract (wAt s i) (eAt s i))).2.1 (cutV (s.extract (wAt s i) (eAt s i))).2.2.1).1)).1) true
theorem decGo_step (s : ByteArray) (d i : Nat) (out : List Int) (last : Bool) : decGo s (d + 1) i out last = if i < s.size then wordR s d i out last else (strOfNums out, 0, 0) := rfl
theorem dec_segs (s : ByteArray) (L : List Pt) : ∀ (d i : Nat) (pre : List Pt) (out : List Int), s.size - i ≤ d → i ≤ s.size → L = pre ++ segs s d i → decL L (segs s d i) pre.length (strOfNums out) = decGo s d i out (lastP pre)
  | 0, i, pre, out, hd, hi, hL => rfl
  | d + 1, i, pre, out, hd, hi, hL => by
    rw [decGo_step]
    rw [segs] at hL ⊢
    by_cases hlt : i < s.size
    · have hla := at_le s i hi
      have hmo := eAt_more s i hlt
      rw [if_pos hlt] at hL ⊢
      rw [if_pos hlt]
      by_cases hw : wAt s i < eAt s i
      · rw [if_pos hw] at hL ⊢
        -- the word
        have word : ∀ (pre2 : List Pt) (out2 : List Int), L = pre2 ++ ⟨wAt s i, s.extract (wAt s i) (eAt s i), false⟩ :: segs s d (eAt s i) →
            ((cutV (s.extract (wAt s i) (eAt s i))).2.2.2 = false → out2 = out ++ bytesOf (s.extract i (wAt s i))) →
            ((cutV (s.extract (wAt s i) (eAt s i))).2.2.2 = true → out2 = if lastP pre = true then out else out ++ bytesOf (s.extract i (wAt s i))) →
            decL L (⟨wAt s i, s.extract (wAt s i) (eAt s i), false⟩ :: segs s d (eAt s i)) pre2.length (strOfNums out2) = wordR s d i out (lastP pre) := by
          intro pre2 out2 hL2 ho1 ho2
          have ih := fun o => dec_segs s L d (eAt s i) (pre2 ++ [⟨wAt s i, s.extract (wAt s i) (eAt s i), false⟩]) o (by omega) hla.2.2 (by rw [hL2]; simp)
          rw [last_app, isP_word, show (pre2 ++ [(⟨wAt s i, s.extract (wAt s i) (eAt s i), false⟩ : Pt)]).length = pre2.length + 1 from by simp] at ih
          unfold wordR
          refine step_word L _ _ _ _ _ _ ?_ ?_ ?_ ?_ ?_
          · intro c0
            rw [if_pos c0, ← str_app, ih, c0, ho1 c0]
          · intro c0 c1
            rw [if_neg (by rw [c0]; decide), if_pos c1]
          · intro c0 c1 c2
            rw [if_neg (by rw [c0]; decide), if_neg (by rw [c1]; decide), if_pos c2]
          · intro c0 c1 c2 c3
            rw [if_neg (by rw [c0]; decide), if_neg (by rw [c1]; decide), if_neg c2, if_pos c3]
          · intro c0 c1 c2 c3
            rw [if_neg (by rw [c0]; decide), if_neg (by rw [c1]; decide), if_neg c2, if_neg (by rw [c3]; decide), ← str_app, ih, c0, ho2 c0]
        by_cases hg : i < wAt s i
        · rw [if_pos hg] at hL ⊢
          replace hL : L = pre ++ (⟨i, s.extract i (wAt s i), true⟩ :: ⟨wAt s i, s.extract (wAt s i) (eAt s i), false⟩ :: segs s d (eAt s i)) := hL
          show decL L (⟨i, s.extract i (wAt s i), true⟩ :: ⟨wAt s i, s.extract (wAt s i) (eAt s i), false⟩ :: segs s d (eAt s i)) pre.length (strOfNums out) = _
          rw [decL, isP_gap, if_pos rfl]
          have hb : betw L pre.length ⟨i, s.extract i (wAt s i), true⟩ = (lastP pre && (cutV (s.extract (wAt s i) (eAt s i))).2.2.2) := by
            unfold betw
            rw [Bool.true_and, show (decide (0 < pre.length) && isAt L (pre.length - 1)) = lastP pre from by rw [hL]; exact at_last _ _]
            congr 1
            have e := at_pre (pre ++ [⟨i, s.extract i (wAt s i), true⟩]) ⟨wAt s i, s.extract (wAt s i) (eAt s i), false⟩ (segs s d (eAt s i))
            rw [show (pre ++ [(⟨i, s.extract i (wAt s i), true⟩ : Pt)]).length = pre.length + 1 from by simp, isP_word] at e
            rw [← e, hL]
            simp
          rw [hb]
          have hL2 : L = (pre ++ [⟨i, s.extract i (wAt s i), true⟩]) ++ ⟨wAt s i, s.extract (wAt s i) (eAt s i), false⟩ :: segs s d (eAt s i) := by rw [hL]; simp
          have hlen : (pre ++ [(⟨i, s.extract i (wAt s i), true⟩ : Pt)]).length = pre.length + 1 := by simp
          by_cases hc : (lastP pre && (cutV (s.extract (wAt s i) (eAt s i))).2.2.2) = true
          · rw [if_pos hc]
            rw [Bool.and_eq_true] at hc
            have h := word _ out hL2 (fun c0 => by rw [hc.2] at c0; cases c0) (fun _ => by rw [if_pos hc.1])
            rw [hlen] at h
            exact h
          · rw [if_neg hc, ← str_app]
            have h := word _ (out ++ bytesOf (s.extract i (wAt s i))) hL2 (fun _ => rfl) (fun c0 => by
              rw [c0, Bool.and_true] at hc
              rw [if_neg hc])
            rw [hlen] at h
            exact h
        · rw [if_neg hg] at hL ⊢
          rw [List.nil_append, List.singleton_append] at hL ⊢
          have e0 : bytesOf (s.extract i (wAt s i)) = [] := by
            rw [extract_none s i _ (by omega)]
            rfl
          exact word pre out hL (fun _ => by rw [e0, List.append_nil]) (fun _ => by rw [e0, List.append_nil]; split <;> rfl)
      · -- no word: the end
        have hwe : wAt s i = eAt s i := by omega
        have hx : s.extract (wAt s i) (eAt s i) = ⟨#[]⟩ := extract_none s _ _ (by omega)
        have hg : i < wAt s i := by omega
        rw [if_neg hw, if_pos hg] at hL ⊢
        unfold wordR
        rw [hx, cut_nothing, if_pos rfl]
        rw [List.append_nil, List.singleton_append] at hL ⊢
        have hend : ¬ eAt s i < s.size := by
          intro h
          have hz : s.data.toList.length = s.size := data_length s
          have g1 := (place_run s i true hi).2.2.2
          have g2 := (place_run s (wAt s i) false (by omega)).2.2.2
          change s.data.toList.drop (wAt s i) = [] ∨ _ at g1
          change s.data.toList.drop (eAt s i) = [] ∨ ∃ c r, s.data.toList.drop (eAt s i) = c :: r ∧ blankB c ≠ false at g2
          rcases g2 with g2 | ⟨c, r, g2, g3⟩
          · have := List.drop_eq_nil_iff.1 g2
            omega
          · change s.data.toList.drop (wAt s i) = [] ∨ ∃ c r, s.data.toList.drop (wAt s i) = c :: r ∧ blankB c ≠ true at g1
            rw [hwe, g2] at g1
            rcases g1 with g1 | ⟨c', r', g1, g4⟩
            · cases g1
            · injection g1 with e1 e2
              subst e1
              cases hc : blankB c
              · exact g3 hc
              · exact g4 hc
        have hs0 : segs s d (eAt s i) = [] := by
          cases d with
          | zero => rfl
          | succ d => rw [segs, if_neg hend]
        rw [hs0] at hL ⊢
        rw [decL, isP_gap, if_pos rfl]
        have hb : betw L pre.length ⟨i, s.extract i (wAt s i), true⟩ = false := by
          unfold betw
          have e := at_none (pre ++ [(⟨i, s.extract i (wAt s i), true⟩ : Pt)])
          rw [show (pre ++ [(⟨i, s.extract i (wAt s i), true⟩ : Pt)]).length = pre.length + 1 from by simp, ← hL] at e
          rw [e, Bool.and_false]
        rw [hb, if_neg (by decide), decL, decGo_end _ _ _ _ _ hend]
        rw [show bytesOf (⟨#[]⟩ : ByteArray) = [] from rfl, List.append_nil, str_app]
    · rw [if_neg hlt] at hL ⊢
      rw [if_neg hlt, decL]
theorem dec_ref (s : ByteArray) : decL (splitV s) (splitV s) 0 ⟨#[]⟩ = wdecV s := by
  have h := dec_segs s (splitV s) s.size 0 [] [] (by omega) (by omega) (by rw [splitV_segs]; rfl)
  rw [← splitV_segs] at h
  exact h
end Go.Proofs.YtcnhnpkbklakoaaDoor.Word
/- posthornlaw17.WordDecodes: its walk. -/
namespace Go.Proofs.YtcnhnpkbklakoaaDoor.Word
open Go.RowKit Go.Proofs.YtcnhnpkbklakoaaDoorW.PrintWords Go.Proofs.YtcnhnpkbklakoaaDoorW.PrintLast Go.Proofs.YtcnhnpkbklakoaaDoorW.PrintMore Go.Proofs.YtcnhnpkbklakoaaDoor.PWordEncodes
open Go.Proofs.YtcnhnpkbklakoaaDoor.Code Go.Proofs.YtcnhnpkbklakoaaDoor.Runes Go.Proofs.YtcnhnpkbklakoaaDoor.Pieces
attribute [local go_sem] max2_int min2_int max_two min_two max_three min_three max_four min_four
set_option linter.unusedVariables false
set_option linter.unusedSimpArgs false
set_option maxHeartbeats 4000000 in
set_option maxRecDepth 100000 in
theorem lawdecodes_calls (s : ByteArray) (m : Int) (w : World) (hs : s.size ≤ 1048576) (hm : w.cell? ⟨1, 0, none⟩ = some (.int .i64 m)) (hT : Octet.Laid w) :
    Calls Tryd.prog 5 #[.string s] w fun e w' => e = .returned (.bool true) ∧ Below w.heap.size w w' := by
  have hu25 := Tryd.underlying25
  have h1lt := World.block_lt_of_cell? w _ hm
  have HM := Lib.hid hm
  have HT := Lib.hid hT
  have HWK := Lib.hid (fun W h k => wakes_calls m W h k)
  have HRN := Lib.hid (fun W => refneeds_calls s W (by omega))
  have HND := Lib.hid (fun W h => needs_calls s m W (by omega) h)
  have HRD := Lib.hid (refdecode_calls s w (by omega))
  rw [dec_ref] at HRD
  have HD := Lib.hid (fun W h k => wdecode_calls s m W (by omega) h k)
  obtain ⟨R, hR⟩ : ∃ R, R = wdecV s := ⟨_, rfl⟩
  rw [← hR] at HRD HD
  obtain ⟨r0, r1, r2⟩ := R
  obtain ⟨nd, hnd⟩ : ∃ nd, nd = needsV s := ⟨_, rfl⟩
  rw [← hnd] at HRN HND
  clear hm hT hR hnd
  go_enter Tryd.func5, Tryd.ntmps5
  go_wp2_with fail
  refine HRD.out.mono ?_
  rintro e w1 ⟨rfl, hb1⟩
  have HB1 := Lib.hid (hb1.alloc hb1.size (.cells #[.int .i64 r1, .int .i64 r2] 25))
  have H41 := Lib.hid (heap_alloc_new w1 (.cells #[.int .i64 r1, .int .i64 r2] 25))
  obtain ⟨W1, hW1⟩ : ∃ W1, W1 = w1.alloc (.cells #[.int .i64 r1, .int .i64 r2] 25) := ⟨_, rfl⟩
  obtain ⟨b4, hb4⟩ : ∃ b4, b4 = w1.heap.size := ⟨_, rfl⟩
  have hb4l : b4 < W1.heap.size := by rw [hW1, hb4]; simp
  rw [← hW1, ← hb4] at H41
  rw [← hW1] at HB1
  have HW1 := Lib.hid hW1
  have HB4E := Lib.hid hb4
  clear hb1 hW1 hb4
  go_wp2_with fail
  rw [← HW1.out, ← HB4E.out]
  refine (HD.out W1 ((HB1.out.cell h1lt).trans HM.out) (HT.out.below HT.out.size HB1.out)).mono ?_
  rintro e w3 ⟨rfl, hb3⟩
  have hb3s := hb3.size
  have HB3 := Lib.hid ((HB1.out.trans (hb3.mono HB1.out.size)).alloc (HB1.out.trans (hb3.mono HB1.out.size)).size (.cells #[.int .i64 r1, .int .i64 r2] 25))
  have H43 := Lib.hid ((heap_alloc_old w3 (.cells #[.int .i64 r1, .int .i64 r2] 25) (show b4 < w3.heap.size by omega)).trans ((hb3.block b4 hb4l).trans H41.out))
  have H63 := Lib.hid (heap_alloc_new w3 (.cells #[.int .i64 r1, .int .i64 r2] 25))
  obtain ⟨W3, hW3⟩ : ∃ W3, W3 = w3.alloc (.cells #[.int .i64 r1, .int .i64 r2] 25) := ⟨_, rfl⟩
  obtain ⟨b6, hb6⟩ : ∃ b6, b6 = w3.heap.size := ⟨_, rfl⟩
  rw [← hW3] at HB3 H43 H63
  rw [← hb6] at H63
  have HW3 := Lib.hid hW3
  have HB6E := Lib.hid hb6
  clear hb3 hb3s hW3 hb6
  have x0 := blk_cell H43.out 0
  have x1 := blk_cell H43.out 1
  have y0 := blk_cell H63.out 0
  have y1 := blk_cell H63.out 1
  simp only [List.getElem?_toArray, List.getElem?_cons_succ, List.getElem?_cons_zero] at x0 x1 y0 y1
  have z0 : (w3.alloc (.cells #[.int .i64 r1, .int .i64 r2] 25)).cell? ⟨b4, 0, none⟩ = some (.int .i64 r1) := HW3.out ▸ x0
  have z1 : (w3.alloc (.cells #[.int .i64 r1, .int .i64 r2] 25)).cell? ⟨b4, 1, none⟩ = some (.int .i64 r2) := HW3.out ▸ x1
  clear x0 x1 y0 y1
  go_wp2_with fail
  rw [← HW3.out]
  refine (HND.out W3 ((HB3.out.cell h1lt).trans HM.out) (HT.out.below HT.out.size HB3.out)).mono ?_
  rintro e w4 ⟨rfl, hb4⟩
  have HB4 := Lib.hid (HB3.out.trans (hb4.mono HB3.out.size))
  clear hb4
  go_wp2_with fail
  refine (HRN.out w4).mono ?_
  rintro e w5 ⟨rfl, hb5⟩
  have HB5 := Lib.hid (HB4.out.trans (hb5.mono HB4.out.size))
  clear hb5
  go_wp2_with fail
  refine (HWK.out _ ((HB5.out.cell h1lt).trans HM.out) (HT.out.below HT.out.size HB5.out)).mono ?_
  rintro e w6 ⟨rfl, hb6⟩
  have HB6 := Lib.hid (HB5.out.trans (hb6.mono HB5.out.size))
  clear hb6
  go_wp2
  go_ret
  exact ⟨rfl, HB6.out⟩
end Go.Proofs.YtcnhnpkbklakoaaDoor.Word
