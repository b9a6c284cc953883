/- posthornref17.bytes: the Q coding. -/
import Derived.Test.YtcnhnpkbklakoaaDoorHexRef
namespace Go.Proofs.YtcnhnpkbklakoaaDoor.Word
open Go.RowKit Go.Shelf Go.Proofs.YtcnhnpkbklakoaaDoorW.PrintWords Go.Proofs.YtcnhnpkbklakoaaDoorW.PrintLast Go.Proofs.YtcnhnpkbklakoaaDoorW.PrintMore Go.Proofs.YtcnhnpkbklakoaaDoor.PWordEncodes
open Go.Proofs.YtcnhnpkbklakoaaDoor.Code Go.Proofs.YtcnhnpkbklakoaaDoor.Runes Go.Proofs.YtcnhnpkbklakoaaDoor.Pieces Go.Proofs.YtcnhnpkbklakoaaDoor.Unhex
attribute [local go_sem] max2_int min2_int max_two min_two max_three min_three max_four min_four
set_option linter.unusedVariables false
set_option linter.unusedSimpArgs false
theorem hexR_bounds (l : List UInt8) (h : ¬ hexR l < 0) : 0 ≤ hexR l ∧ hexR l ≤ 255 ∧ ∃ a b r, l = a :: b :: r := by
  match l with
  | [] => exact absurd (by decide) h
  | [x] => exact absurd (show (-1 : Int) < 0 by decide) h
  | a :: b :: r =>
    have ha := hexI_le a
    have hb := hexI_le b
    simp only [hexR] at h ⊢
    split at h
    · exact absurd (by decide) h
    · rename_i hn
      rw [if_neg hn]
      exact ⟨by omega, by omega, a, b, r, rfl⟩
theorem qGo_eq (l : List UInt8) (k : Nat) (d : List Int) : qGo (61 :: l) k d = if hexR l < 0 then ([], (k : Int)) else qGo (l.drop 2) (k + 3) (d ++ [hexR l]) := by
  match l with
  | [] => rfl
  | [x] => simp [qGo, hexR]
  | a :: b :: r =>
    have ha := hexI_eq a
    have hb := hexI_eq b
    have ra := hexI_le a
    have rb := hexI_le b
    simp only [qGo, hexR, List.drop_succ_cons, List.drop_zero]
    rw [if_neg (by decide), if_pos trivial]
    have da : ∀ c : UInt8, hexB c = true → 0 ≤ hexD c := fun c h => (hexD_range c h).1
    cases hA : hexB a
    · rw [hA] at ha
      simp only [Bool.false_eq_true, if_false] at ha
      rw [if_neg (by simp), if_pos (Or.inl (by omega))]
      rfl
    · rw [hA] at ha
      simp only [if_true] at ha
      cases hB : hexB b
      · rw [hB] at hb
        simp only [Bool.false_eq_true, if_false] at hb
        rw [if_neg (by simp), if_pos (Or.inr (by omega))]
        rfl
      · rw [hB] at hb
        simp only [if_true] at hb
        have h1 := da a hA
        have h2 := da b hB
        rw [if_pos ⟨rfl, rfl⟩, if_neg (by omega), if_neg (by omega), ha, hb]
set_option maxHeartbeats 8000000 in
set_option maxRecDepth 100000 in
theorem refbytesQ_calls (t : ByteArray) (c : UInt8) (hc : c = 81 ∨ c = 113) (w : World) (ht : t.size ≤ 3000000000) :
    Calls Tryd.prog 37 #[.string ⟨#[c]⟩, .string t] w fun e w' => ∃ V, e = .returned (.tuple #[V, .int .i64 (qGo t.data.toList 0 []).2]) ∧ w'.ownsRow w.heap.size 5 1 V (qGo t.data.toList 0 []).1.length (nums .u8 (qGo t.data.toList 0 []).1) ∧ Below w.heap.size w w' := by
  have HSM : Hid (∀ W, Calls Tryd.prog 60 #[.string ⟨#[c]⟩] W fun e w' => e = .returned (.string ⟨#[113]⟩) ∧ Below W.heap.size W w') := Lib.hid (fun W => by
    have h := small_calls ⟨#[c]⟩ W (by show 1 ≤ _; decide)
    have e : lowV ⟨#[c]⟩ = ⟨#[113]⟩ := by rcases hc with rfl | rfl <;> kernel_rfl
    rwa [e] at h)
  have HHX := Lib.hid (fun (k : Nat) W => hexref_calls (t.extract k t.size) W (by rw [ByteArray.size_extract]; omega))
  obtain ⟨D, hD⟩ : ∃ D, D = qGo t.data.toList 0 [] := ⟨_, rfl⟩
  rw [← hD]
  have HD := Lib.hid hD
  clear hD hc
  go_enter Tryd.func37, Tryd.ntmps37
  go_wp2_with fail
  refine (HSM.out w).mono ?_
  rintro e w1 ⟨rfl, hb1⟩
  have HB1 := Lib.hid hb1
  clear hb1
  go_wp2
  go_loopw [8, 9] (fun o v wr => ∃ (k : Nat) (d : List Int), k ≤ t.size ∧ v = .int .i64 k ∧ D = qGo (t.data.toList.drop k) k d ∧ wr.ownsRow w.heap.size 5 1 o d.length (nums .u8 d) ∧ Below w.heap.size w wr ∧ d.length ≤ k) (fun _ v _ => t.size - (intOf v).toNat)
  case atStart => exact ⟨0, [], by omega, rfl, by rw [List.drop_zero]; exact HD.out, own_nil _ _ _ _, HB1.out, by simp⟩
  case round =>
    obtain ⟨k, d, hk, rfl, hd, hO, hB, hdk⟩ := hrel
    have hz : w.heap.size ≤ wr.heap.size := hB.size
    have HDD := Lib.hid hd
    have HO := Lib.hid hO
    have HB := Lib.hid hB
    clear hd hO hB
    by_cases hlt : k < t.size
    · obtain ⟨c, hc⟩ : ∃ c : UInt8, t[k]'hlt = c := ⟨_, rfl⟩
      have hcons := drop_cons t k hlt
      rw [hc] at hcons
      have HC := Lib.hid hcons
      have hc256 := c.toNat_lt
      have HCC := Lib.hid hc
      clear hcons hc
      by_cases h95 : c = 95
      · subst h95
        clear hc256
        have q0 : t[k]'hlt = 95 := HCC.out
        go_wp2_with (at_builtin; refine print_append_row (w0 := wr.alloc (.cells #[.int .u8 32] 5)) w.heap.size rfl (.tmp 51) (.tmp 53) 39 5 .u8 1 rfl Tryd.underlying39 info5 (by decide) _ d [(32 : Int)] _ 1 1 rfl rfl ?ho ?hr ?hb ?hbase ?hl ?_)
        case ho => exact HO.out.alloc _
        case hr => exact reads_lit _ 5 .u8 [(32 : Int)] (by simp)
        case hb => exact Below.refl _ _
        case hbase => rw [World.size_alloc]; omega
        case hl => omega
        intro v7 w7 ho7 hb7 hg7 hat7
        have HO7 := Lib.hid ho7
        have HB7 := Lib.hid ((HB.out.alloc hz _).trans hb7)
        clear ho7 hb7 hg7 hat7
        go_wp2
        go_roundw
        case rel => exact ⟨k + 1, d ++ [(32 : Int)], by omega, by go_num, by rw [HDD.out, HC.out, qGo_under], by rw [List.length_append]; exact HO7.out, HB7.out, by rw [List.length_append]; simp; omega⟩
        case measure => simp [intOf]; omega
      · have q1 : ((c.toNat : Int) == 95) = false := beq_eq_false_iff_ne.2 (fun e => h95 (UInt8.toNat_inj.1 (by rw [show (95 : UInt8).toNat = 95 from rfl]; omega)))
        by_cases h61 : c = 61
        · subst h61
          clear hc256 q1
          have q0 : t[k]'hlt = 61 := HCC.out
          have hsl : ∀ W : World, (Instr.slice 9 (.string t) (some (.int .i64 ((k : Int) + 1))) none none).run Tryd.prog W = .ok (.string (t.extract (k + 1) t.size)) W := by
            intro W
            rw [run_slice_string_from_if W 9 t .i64 _ Tryd.underlying9, if_pos ⟨by omega, by omega⟩]
            rfl
          have hext : (t.extract (k + 1) t.size).data.toList = t.data.toList.drop (k + 1) := by
            rw [Lib.extract_data, List.take_of_length_le (by rw [List.length_drop, data_length]; exact Nat.le_refl _)]
          have hh := HHX.out (k + 1)
          rw [hext] at hh
          have hq : D = if hexR (t.data.toList.drop (k + 1)) < 0 then ([], (k : Int)) else qGo (t.data.toList.drop (k + 3)) (k + 3) (d ++ [hexR (t.data.toList.drop (k + 1))]) := by
            rw [HDD.out, HC.out, qGo_eq, List.drop_drop]
          obtain ⟨v, hv⟩ : ∃ v, v = hexR (t.data.toList.drop (k + 1)) := ⟨_, rfl⟩
          have hbd : ¬ v < 0 → 0 ≤ v ∧ v ≤ 255 ∧ k + 3 ≤ t.size := fun h => by
            rw [hv] at h
            obtain ⟨x1, x2, a, b, r, x3⟩ := hexR_bounds _ h
            refine ⟨by rw [hv]; exact x1, by rw [hv]; exact x2, ?_⟩
            have := congrArg List.length x3
            rw [List.length_drop, data_length] at this
            simp only [List.length_cons] at this
            omega
          rw [← hv] at hh hq
          have HH := Lib.hid hh
          have HQ := Lib.hid hq
          clear hv hh hq hext
          go_wp2_with fail
          refine (HH.out wr).mono ?_
          rintro e w2 ⟨rfl, hb2⟩
          have HB2 := Lib.hid (HB.out.trans (hb2.mono hz))
          have HO2 := Lib.hid (pw_own_below HO.out hb2)
          have hz2 : w.heap.size ≤ w2.heap.size := HB2.out.size
          clear hb2
          by_cases hv0 : v < 0
          · have hfin : D = ([], (k : Int)) := by rw [HQ.out, if_pos hv0]
            subst hfin
            go_wp2
            refine bodyPost_ret (results_list (rs := [.tmp 4, .tmp 5]) rfl (by simp) (.tmp (.tmp .nil))) rfl ?_
            exact ⟨_, rfl, own_nil _ _ _ _, HB2.out⟩
          · obtain ⟨v1, v2, hk3⟩ := hbd (by omega)
            have hfin : D = qGo (t.data.toList.drop (k + 3)) (k + 3) (d ++ [v]) := by rw [HQ.out, if_neg (by omega)]
            have HF := Lib.hid hfin
            have hmod : v % 256 = v := by omega
            clear hfin hbd
            go_wp2_with (at_builtin; refine print_append_row (w0 := w2.alloc (.cells #[.int .u8 v] 5)) w.heap.size rfl (.tmp 51) (.tmp 53) 39 5 .u8 1 rfl Tryd.underlying39 info5 (by decide) _ d [v] _ 1 1 rfl rfl ?ho ?hr ?hb ?hbase ?hl ?_)
            case ho => exact HO2.out.alloc _
            case hr => exact reads_lit _ 5 .u8 [v] (by simp)
            case hb => exact Below.refl _ _
            case hbase => rw [World.size_alloc]; omega
            case hl => omega
            intro v7 w7 ho7 hb7 hg7 hat7
            have HO7 := Lib.hid ho7
            have HB7 := Lib.hid ((HB2.out.alloc hz2 _).trans hb7)
            clear ho7 hb7 hg7 hat7
            go_wp2
            go_roundw
            case rel => exact ⟨k + 3, d ++ [v], by omega, by go_num, by rw [HF.out], by rw [List.length_append]; exact HO7.out, HB7.out, by rw [List.length_append]; simp; omega⟩
            case measure => simp [intOf]; omega
        · have q2 : ((c.toNat : Int) == 61) = false := beq_eq_false_iff_ne.2 (fun e => h61 (UInt8.toNat_inj.1 (by rw [show (61 : UInt8).toNat = 61 from rfl]; omega)))
          have q0 : t[k]'hlt = c := HCC.out
          go_wp2_with (at_builtin; refine print_append_row (w0 := wr.alloc (.cells #[.int .u8 (c.toNat : Int)] 5)) w.heap.size rfl (.tmp 51) (.tmp 53) 39 5 .u8 1 rfl Tryd.underlying39 info5 (by decide) _ d [(c.toNat : Int)] _ 1 1 rfl rfl ?ho ?hr ?hb ?hbase ?hl ?_)
          case ho => exact HO.out.alloc _
          case hr => exact reads_lit _ 5 .u8 [(c.toNat : Int)] (by simp)
          case hb => exact Below.refl _ _
          case hbase => rw [World.size_alloc]; omega
          case hl => omega
          intro v7 w7 ho7 hb7 hg7 hat7
          have HO7 := Lib.hid ho7
          have HB7 := Lib.hid ((HB.out.alloc hz _).trans hb7)
          clear ho7 hb7 hg7 hat7
          go_wp2
          go_roundw
          case rel => exact ⟨k + 1, d ++ [(c.toNat : Int)], by omega, by go_num, by rw [HDD.out, HC.out, qGo_other _ _ _ _ h95 h61], by rw [List.length_append]; exact HO7.out, HB7.out, by rw [List.length_append]; simp; omega⟩
          case measure => simp [intOf]; omega
    · obtain rfl : k = t.size := by omega
      have hfin : D = (d, -1) := by
        rw [HDD.out, List.drop_eq_nil_of_le (by rw [data_length]; exact Nat.le_refl _)]
        rfl
      subst hfin
      go_wp2
      refine bodyPost_ret (results_list (rs := [.tmp 4, .tmp 5]) rfl (by simp) (.tmp (.tmp .nil))) rfl ?_
      exact ⟨_, rfl, HO.out, HB.out⟩
end Go.Proofs.YtcnhnpkbklakoaaDoor.Word
