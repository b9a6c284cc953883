/- The reference's Parse tells what field.Parse tells. -/
import Derived.Test.YtammhcfifnffeaaDoorParseRef
import Derived.Test.YtammhcfifnffeaaDoorParseV
import Derived.Test.YtammhcfifnffeaaDoorCheckPure
namespace Go.Proofs.YtammhcfifnffeaaDoor.ParsePure
open Go.RowKit Go.Proofs.YtammhcfifnffeaaDoorW.PrintWords Go.Proofs.YtammhcfifnffeaaDoor.PFieldPrints Go.Proofs.YtammhcfifnffeaaDoor.AnyEnd Go.Proofs.YtammhcfifnffeaaDoor.Octet Go.Proofs.YtammhcfifnffeaaDoor.CheckWalk Go.Proofs.YtammhcfifnffeaaDoor.Hand Go.Proofs.YtammhcfifnffeaaDoor.ParseV Go.Proofs.YtammhcfifnffeaaDoor.CheckPure
set_option linter.unusedVariables false
set_option linter.unusedSimpArgs false

theorem crlf_cons (c d : UInt8) (l : List UInt8) : isCRLF (c :: d :: l) = (c == 13 && d == 10) := by
  unfold isCRLF Lib.hasPrefix
  simp only [List.isPrefixOf, Bool.and_true]
  rw [Bool.eq_iff_iff]
  simp only [Bool.and_eq_true, beq_iff_eq]
  exact ⟨fun h => ⟨h.1.symm, h.2.symm⟩, fun h => ⟨h.1.symm, h.2.symm⟩⟩
theorem ends_crlf (s : ByteArray) (i : Nat) (hs : s.size < 4294967296) (h : i ≤ s.size) : posthornref16_ends.f s i = some (isCRLF (sl s i)) := by
  have hl := sl_len s i
  by_cases h1 : i + 1 < s.size
  · rw [ends_f s i (by omega) (by omega)]
    obtain ⟨c, hc, hb⟩ := sl_cons s i (by omega)
    obtain ⟨d, hd, hb2⟩ := sl_cons s (i + 1) (by omega)
    rw [hc, hd, crlf_cons, hb, hb2]
    congr 1
    rw [Bool.eq_iff_iff]
    simp only [decide_eq_true_eq, Bool.and_eq_true, beq_iff_eq, u13, u10, h1, true_and]
  · unfold posthornref16_ends.f
    have hw : wrap64 ((i : Int) + 1) = ((i + 1 : Nat) : Int) := by unfold wrap64; omega
    rw [hw, if_neg (by omega)]
    congr 1
    cases hh : isCRLF (sl s i)
    · rfl
    · have := crlf_len hh
      omega
theorem row_loop2 (s : ByteArray) (hs : s.size < 4294967296) (a : Nat) : ∀ (d i : Nat), s.size = i + d → a ≤ i → ∀ k, d < k → posthornref16_row.l0 k s (a : Int) (i : Int) = some (mk ((sl s a).take (i - a + lenRow (sl s i)))) := by
  intro d
  induction d with
  | zero =>
    intro i hi ha k hk
    obtain ⟨k, rfl⟩ : ∃ m, k = m + 1 := ⟨k - 1, by omega⟩
    simp only [posthornref16_row.l0]
    obtain rfl : i = s.size := by omega
    rw [if_neg (by omega), sl_end, if_pos (by omega), if_pos (by omega), if_pos (by omega), Int.toNat_natCast, Int.toNat_natCast, extract_mk]
    rfl
  | succ d ih =>
    intro i hi ha k hk
    obtain ⟨k, rfl⟩ : ∃ m, k = m + 1 := ⟨k - 1, by omega⟩
    obtain ⟨c, hc, hb⟩ := sl_cons s i (by omega)
    have fin : (if (a : Int) ≤ (i : Int) then (if (i : Int) ≤ (s.size : Int) then some (s.extract (a : Int).toNat (i : Int).toNat) else none) else none) = some (mk ((sl s a).take (i - a))) := by
      rw [if_pos (by omega), if_pos (by omega), Int.toNat_natCast, Int.toNat_natCast, extract_mk]
    simp only [posthornref16_row.l0]
    rw [if_pos (by omega), if_pos (by omega), hb, hc]
    by_cases h13 : (c.toNat : Int) = 13
    · have e : lenRow (c :: sl s (i + 1)) = 0 := by unfold lenRow; rw [if_pos (.inl (u13.1 h13))]
      rw [if_pos h13, if_pos (by omega), fin, e, Nat.add_zero]
    · rw [if_neg h13]
      by_cases h10 : (c.toNat : Int) = 10
      · have e : lenRow (c :: sl s (i + 1)) = 0 := by unfold lenRow; rw [if_pos (.inr (u10.1 h10))]
        rw [if_pos h10, if_pos (by omega), fin, e, Nat.add_zero]
      · have hn : ¬ (c = 13 ∨ c = 10) := fun e => e.elim (fun e => h13 (u13.2 e)) (fun e => h10 (u10.2 e))
        have e : lenRow (c :: sl s (i + 1)) = lenRow (sl s (i + 1)) + 1 := by conv => lhs; unfold lenRow
                                                                              rw [if_neg hn]
        rw [if_neg h10, e, w1 i (by omega), ih (i + 1) (by omega) (by omega) k (by omega)]
        congr 3
        omega
theorem row_at (s : ByteArray) (hs : s.size < 4294967296) (i : Nat) (hi : i ≤ s.size) (k : Nat) (hk : s.size < k) : posthornref16_row.f k s (i : Int) = some (mk ((sl s i).take (lenRow (sl s i)))) := by
  have := row_loop2 s hs i (s.size - i) i (by omega) (Nat.le_refl _) k (by omega)
  rw [Nat.sub_self, Nat.zero_add] at this
  exact this
theorem blank_head (c : UInt8) (l : List UInt8) : posthornref16_blank.f (c.toNat : Int) = some (blankB (c :: l)) := by
  rw [blank_f]
  congr 1
  unfold blankB
  rw [Bool.eq_iff_iff]
  simp only [decide_eq_true_eq, Bool.or_eq_true, beq_iff_eq, u32, u9]
theorem bad_mk (t : List UInt8) (ht : t.length < 4294967296) (k : Nat) (hk : t.length + 10 < k) : posthornref01_Bad.f k 11 (mk t) = some ((badAt 11 t : Nat) : Int) := by
  have hz := mk_size t
  have := bad_l0 (mk t) (by omega) t.length 0 (by omega) k (by omega)
  simpa [posthornref01_Bad.f, sl, mk_list] using this
theorem blanks_mk (t : List UInt8) (ht : t.length < 4294967296) (k : Nat) (hk : t.length < k) : posthornref16_blanks.f k (mk t) = some (blanksB t) := by
  have hz := mk_size t
  exact blanks_f (mk t) (by omega) k (by omega)
theorem bt_mk (t : List UInt8) (i : Nat) (h : i < t.length) : bt (mk t) (i : Int) = ((t.getD i 0).toNat : Int) := by
  obtain ⟨c, hc, hb⟩ := sl_cons (mk t) i (by rw [mk_size]; exact h)
  rw [hb]
  have h0 : (sl (mk t) i)[0]? = some c := by rw [hc]; rfl
  unfold sl at h0
  rw [mk_list, List.getElem?_drop, Nat.add_zero] at h0
  rw [List.getD_eq_getElem?_getD, h0]
  rfl
theorem wadd (a b : Nat) (h : a + b < 9007199254740992) : wrap64 ((a : Int) + (b : Int)) = ((a + b : Nat) : Int) := by unfold wrap64; omega
theorem end_of {k z : Nat} (h : 2 ≤ z - k) : k + 2 ≤ z := by omega
theorem small_of {a z : Nat} (h : a ≤ z) (hz : z < 1000000001) : a + 2 < 9007199254740992 := by omega
set_option maxHeartbeats 4000000 in
theorem go_loop (s : ByteArray) (hs : s.size < 1000000001) : ∀ (g i : Nat) (acc : List S30), s.size - i < g → i ≤ s.size → acc.length ≤ 4096 → (∀ f ∈ acc, f.f0.size + f.f1.size ≤ i) →
    ∀ k, 4 * g + s.size + 20 < k → posthornref16_Parse.l0 k s acc (i : Int) = some ((parseGo s.data.toList g i acc).1, ((parseGo s.data.toList g i acc).2.1 : Int), (parseGo s.data.toList g i acc).2.2.1, ((parseGo s.data.toList g i acc).2.2.2 : Int)) := by
  have hsl : s.data.toList.length = s.size := data_length s
  intro g
  induction g with
  | zero => intro i acc h; omega
  | succ g ih =>
    intro i acc hg hi hal hab k hk
    obtain ⟨k, rfl⟩ : ∃ m, k = m + 1 := ⟨k - 1, by omega⟩
    have hdrop : ∀ j, s.data.toList.drop j = sl s j := fun j => rfl
    simp only [posthornref16_Parse.l0, parseGo]
    by_cases hie : i = s.size
    · rw [if_pos (by omega)]
      have : rowStep s.data.toList i acc = .done acc i := by unfold rowStep; rw [if_pos (by omega)]
      rw [this]
      rfl
    · have hlt : i < s.size := by omega
      have hrl := lenRow_le (sl s i)
      rw [sl_len] at hrl
      rw [if_neg (by omega), ends_crlf s i (by omega) hi]
      simp only [Option.bind_some]
      have hstep0 : rowStep s.data.toList i acc = if lenRow (sl s i) = 0 ∧ isCRLF (sl s i) = true then .done acc (i + 2)
          else if 998 < lenRow (sl s i) then .fail 160 (i + 998)
          else if isCRLF (sl s (i + lenRow (sl s i))) = false then .fail 160 (i + lenRow (sl s i))
          else if blankB ((sl s i).take (lenRow (sl s i))) = true then
            if acc = [] ∨ blanksB ((sl s i).take (lenRow (sl s i))) = true then .fail 161 i
            else .next (bump acc ((sl s i).take (lenRow (sl s i)))) (i + lenRow (sl s i) + 2)
          else if badAt 11 ((sl s i).take (lenRow (sl s i))) = 0 ∨ badAt 11 ((sl s i).take (lenRow (sl s i))) = lenRow (sl s i) ∨ ((sl s i).take (lenRow (sl s i))).getD (badAt 11 ((sl s i).take (lenRow (sl s i)))) 0 ≠ 58 then .fail 160 (i + badAt 11 ((sl s i).take (lenRow (sl s i))))
          else if acc.length = 4096 then .fail 160 i
          else .next (acc ++ [⟨⟨(((sl s i).take (lenRow (sl s i))).take (badAt 11 ((sl s i).take (lenRow (sl s i))))).toArray⟩, ⟨(((sl s i).take (lenRow (sl s i))).drop (badAt 11 ((sl s i).take (lenRow (sl s i))) + 1)).toArray⟩⟩]) (i + lenRow (sl s i) + 2) := by
        conv => lhs; unfold rowStep
        rw [if_neg (by omega)]
        rfl
      cases hcr : isCRLF (sl s i)
      · rw [if_neg (by simp), row_at s (by omega) i hi k (by omega)]
        simp only [Option.bind_some]
        rw [hcr, if_neg (by simp)] at hstep0
        have hz := mk_size ((sl s i).take (lenRow (sl s i)))
        rw [List.length_take, sl_len, Nat.min_eq_left hrl] at hz
        have hlen : ((sl s i).take (lenRow (sl s i))).length = lenRow (sl s i) := by rw [List.length_take, sl_len, Nat.min_eq_left hrl]
        rw [hz]
        have hirl : i + lenRow (sl s i) ≤ s.size := by omega
        generalize lenRow (sl s i) = rl at *
        generalize htd : (sl s i).take rl = t at *
        by_cases h998 : 998 < rl
        · rw [if_pos (by omega)]
          rw [if_pos h998] at hstep0
          rw [hstep0]
          have hw : wrap64 ((i : Int) + 998) = ((i + 998 : Nat) : Int) := by unfold wrap64; omega
          rw [hw]
          rfl
        · rw [if_neg (by omega)]
          rw [if_neg h998] at hstep0
          have hw : wrap64 ((i : Int) + (rl : Int)) = ((i + rl : Nat) : Int) := by unfold wrap64; omega
          rw [hw, ends_crlf s (i + rl) (Nat.lt_of_lt_of_le hs (by decide)) hirl]
          simp only [Option.bind_some]
          cases hc2 : isCRLF (sl s (i + rl))
          · rw [if_neg (by simp)]
            rw [hc2, if_pos rfl] at hstep0
            rw [hstep0]
            rfl
          · rw [if_pos rfl]
            rw [hc2, if_neg (by simp)] at hstep0
            have hend : i + rl + 2 ≤ s.size := by
              have := crlf_len hc2
              rw [sl_len] at this
              exact end_of this
            have hw2 : wrap64 (((i + rl : Nat) : Int) + 2) = ((i + rl + 2 : Nat) : Int) := wadd (i + rl) 2 (small_of hirl hs)
            cases t with
            | nil =>
              exfalso
              simp only [List.length_nil] at hlen
              subst hlen
              rw [Nat.add_zero, hcr] at hc2
              cases hc2
            | cons ch tl =>
              simp only [List.length_cons] at hlen
              have hb0 : bt (mk (ch :: tl)) 0 = (ch.toNat : Int) := bt_mk (ch :: tl) 0 (by simp)
              rw [if_pos (by omega), hb0, blank_head ch tl]
              simp only [Option.bind_some]
              cases hbl : blankB (ch :: tl)
              · rw [if_neg (by simp)]
                rw [hbl, if_neg (by simp)] at hstep0
                rw [bad_mk (ch :: tl) (by simp only [List.length_cons]; omega) k (by simp only [List.length_cons]; omega)]
                simp only [Option.bind_some]
                have hcle := badAt_le 11 (ch :: tl)
                simp only [List.length_cons] at hcle
                generalize badAt 11 (ch :: tl) = cb at *
                have hwc : wrap64 ((i : Int) + (cb : Int)) = ((i + cb : Nat) : Int) := by unfold wrap64; omega
                obtain ⟨k, rfl⟩ : ∃ m, k = m + 1 := ⟨k - 1, by omega⟩
                by_cases c0 : cb = 0
                · rw [if_pos (by omega)]
                  rw [if_pos (.inl c0)] at hstep0
                  rw [hstep0]
                  simp only [posthornref16_Parse.j1, if_true, hwc]
                  rfl
                · rw [if_neg (by omega)]
                  by_cases c1 : cb = rl
                  · rw [if_pos (by omega)]
                    rw [if_pos (.inr (.inl c1))] at hstep0
                    rw [hstep0]
                    simp only [posthornref16_Parse.j1, if_true, hwc]
                    rfl
                  · have hbt := bt_mk (ch :: tl) cb (by simp only [List.length_cons]; omega)
                    rw [if_neg (by omega), if_pos (by omega), if_pos (by omega), hbt]
                    by_cases c2 : (ch :: tl).getD cb 0 = 58
                    · rw [if_neg (by simp only [c0, c1, c2]; simp)] at hstep0
                      have h58 : ((((ch :: tl).getD cb 0).toNat : Int) != 58) = false := by rw [c2]; rfl
                      rw [h58]
                      simp only [posthornref16_Parse.j1, Bool.false_eq_true, if_false]
                      by_cases c3 : acc.length = 4096
                      · rw [if_pos (show ((acc.length : Nat) : Int) = 4096 by rw [c3]; rfl)]
                        rw [if_pos c3] at hstep0
                        rw [hstep0]
                        rfl
                      · rw [if_neg (fun (e : ((acc.length : Nat) : Int) = 4096) => c3 (Int.ofNat.inj (show Int.ofNat acc.length = Int.ofNat 4096 from e)))]
                        rw [if_neg c3] at hstep0
                        have hwd : wrap64 ((cb : Int) + 1) = ((cb + 1 : Nat) : Int) := by unfold wrap64; omega
                        have hz2 := mk_size (ch :: tl)
                        simp only [List.length_cons] at hz2
                        have HZ2 := Lib.hid hz2
                        have HWD := Lib.hid hwd
                        clear hz2 hwd
                        rw [if_pos (by omega), if_pos (by omega), HWD.out, if_pos (by omega), if_pos (by omega), if_pos (show acc.length < 4398046511104 from Nat.lt_of_le_of_lt hal (by decide)), HZ2.out, hlen, hw, hw2, hstep0]
                        have e1 : (mk (ch :: tl)).extract 0 (cb : Int).toNat = ⟨((ch :: tl).take cb).toArray⟩ := by
                          rw [Int.toNat_natCast, extract_mk]
                          rfl
                        have e2 : (mk (ch :: tl)).extract ((cb + 1 : Nat) : Int).toNat rl = ⟨((ch :: tl).drop (cb + 1)).toArray⟩ := by
                          rw [Int.toNat_natCast, extract_mk]
                          show mk (((ch :: tl).drop (cb + 1)).take (rl - (cb + 1))) = mk ((ch :: tl).drop (cb + 1))
                          rw [List.take_of_length_le (by rw [List.length_drop]; simp only [List.length_cons]; omega)]
                        rw [e1, e2]
                        refine ih (i + rl + 2) _ (by clear c3 hal hw hw2 hwc; omega) hend (by rw [List.length_append]; exact Nat.lt_of_le_of_ne hal c3) ?_ k (by clear c3 hal hw hw2 hwc; omega)
                        intro f hf
                        rcases List.mem_append.1 hf with hf | hf
                        · have := hab f hf
                          clear c3 hal hw hw2 hwc
                          omega
                        · rw [List.mem_singleton.1 hf]
                          show ((ch :: tl).take cb).toArray.size + ((ch :: tl).drop (cb + 1)).toArray.size ≤ i + rl + 2
                          rw [List.size_toArray, List.size_toArray, List.length_take, List.length_drop]
                          simp only [List.length_cons]
                          clear c3 hal hw hw2 hwc
                          omega
                    · rw [if_pos (.inr (.inr c2))] at hstep0
                      have h58 : ((((ch :: tl).getD cb 0).toNat : Int) != 58) = true := bne_iff_ne.2 (fun e => c2 (UInt8.toNat_inj.1 (show ((ch :: tl).getD cb 0).toNat = 58 by omega)))
                      rw [h58, hstep0]
                      simp only [posthornref16_Parse.j1, if_true, hwc]
                      rfl
              · rw [if_pos rfl]
                rw [hbl, if_pos rfl] at hstep0
                rw [blanks_mk (ch :: tl) (by simp only [List.length_cons]; omega) k (by simp only [List.length_cons]; omega)]
                simp only [Option.bind_some]
                cases hbb : blanksB (ch :: tl)
                · rw [if_neg (by simp)]
                  by_cases hacc : acc = []
                  · rw [if_pos (.inl hacc)] at hstep0
                    rw [if_pos (by rw [hacc]; rfl), hstep0]
                    rfl
                  · rw [if_neg (by rw [hbb]; simp [hacc])] at hstep0
                    have hal0 : acc.length ≠ 0 := fun e => hacc (List.eq_nil_of_length_eq_zero e)
                    have hwn : wrap64 ((acc.length : Int) - 1) = ((acc.length - 1 : Nat) : Int) := by unfold wrap64; omega
                    have hm : rd_T30 acc ((acc.length - 1 : Nat) : Int) ∈ acc := by
                      unfold rd_T30
                      rw [List.getD_eq_getElem?_getD, Int.toNat_natCast, List.getElem?_eq_getElem (by omega)]
                      exact List.getElem_mem _
                    have hbd := hab _ hm
                    have hcat : (rd_T30 acc ((acc.length - 1 : Nat) : Int)).f1 ++ (⟨#[13, 10]⟩ : ByteArray) ++ mk (ch :: tl) = ⟨((rd_T30 acc ((acc.length - 1 : Nat) : Int)).f1.data.toList ++ [13, 10] ++ (ch :: tl)).toArray⟩ := by
                      apply ByteArray.ext
                      simp [mk]
                    have hsz1 : ((rd_T30 acc ((acc.length - 1 : Nat) : Int)).f1 ++ (⟨#[13, 10]⟩ : ByteArray)).size = (rd_T30 acc ((acc.length - 1 : Nat) : Int)).f1.size + 2 := by rw [ByteArray.size_append]; rfl
                    rw [if_neg (by omega), hwn, if_pos (by omega), if_pos (by omega), if_pos (by omega), if_pos (by rw [hsz1]; omega), hcat, hw2, hstep0, Int.toNat_natCast]
                    refine ih (i + rl + 2) (bump acc (ch :: tl)) (by omega) hend (by rw [bump_length]; exact hal) ?_ k (by omega)
                    intro f hf
                    unfold bump at hf
                    rcases List.mem_or_eq_of_mem_set hf with hf | rfl
                    · have := hab f hf; omega
                    · have e : (⟨((rd_T30 acc ((acc.length - 1 : Nat) : Int)).f1.data.toList ++ [13, 10] ++ (ch :: tl)).toArray⟩ : ByteArray).size = (rd_T30 acc ((acc.length - 1 : Nat) : Int)).f1.size + 2 + (tl.length + 1) := by
                        show (((rd_T30 acc ((acc.length - 1 : Nat) : Int)).f1.data.toList ++ [13, 10] ++ (ch :: tl)).toArray).size = _
                        rw [List.size_toArray, List.length_append, List.length_append, data_length]
                        rfl
                      simp only [e]
                      omega
                · rw [if_pos rfl]
                  rw [if_pos (.inr hbb)] at hstep0
                  rw [hstep0]
                  rfl
      · rw [if_pos rfl]
        have hz0 : lenRow (sl s i) = 0 := by
          obtain ⟨c, hc, _⟩ := sl_cons s i hlt
          rw [hc] at hcr ⊢
          cases hd : sl s (i + 1) with
          | nil =>
            rw [hd] at hcr
            have := crlf_len hcr
            simp at this
          | cons d l =>
            rw [hd, crlf_cons, Bool.and_eq_true, beq_iff_eq, beq_iff_eq] at hcr
            unfold lenRow
            rw [if_pos (.inl hcr.1)]
        rw [if_pos ⟨hz0, hcr⟩] at hstep0
        rw [hstep0]
        have hw : wrap64 ((i : Int) + 2) = ((i + 2 : Nat) : Int) := by unfold wrap64; omega
        rw [hw]
        rfl
/-- the reference's Parse -/
theorem parse_f (s : ByteArray) (hs : s.size < 1000000001) : ∃ k, posthornref16_Parse.f k (bytesOf s) = some ((parseV s.data.toList).1, ((parseV s.data.toList).2.1 : Int), (parseV s.data.toList).2.2.1, ((parseV s.data.toList).2.2.2 : Int)) := by
  have e : strOfNums (bytesOf s) = s := by
    unfold strOfNums bytesOf
    apply ByteArray.ext
    apply Array.toList_inj.1
    simp [List.map_map, Function.comp_def]
  refine ⟨4 * (s.size + 1) + s.size + 21, ?_⟩
  unfold posthornref16_Parse.f parseV
  rw [e, data_length]
  exact go_loop s hs (s.size + 1) 0 [] (by omega) (by omega) (by decide) (by simp) _ (by omega)
end Go.Proofs.YtammhcfifnffeaaDoor.ParsePure
