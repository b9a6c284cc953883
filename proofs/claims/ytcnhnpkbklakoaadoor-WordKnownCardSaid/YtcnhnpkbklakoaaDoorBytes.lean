/- word.encoded.bytes by contract. -/
import Derived.Test.YtcnhnpkbklakoaaDoorCut
import Derived.Test.YtcnhnpkbklakoaaDoorUnhex
import Derived.Deep.QuietTactic
import Derived.BigQuiet
namespace Go.Proofs.YtcnhnpkbklakoaaDoor.Word
open Go.RowKit Go.Proofs.YtcnhnpkbklakoaaDoorW.PrintWords Go.Proofs.YtcnhnpkbklakoaaDoorW.PrintLast Go.Proofs.YtcnhnpkbklakoaaDoorW.PrintMore Go.Proofs.YtcnhnpkbklakoaaDoor.PWordEncodes
open Go.Proofs.YtcnhnpkbklakoaaDoor.Code Go.Proofs.YtcnhnpkbklakoaaDoor.Runes Go.Proofs.YtcnhnpkbklakoaaDoor.Unhex
attribute [local go_sem] max2_int min2_int max_two min_two max_three min_three max_four min_four
set_option linter.unusedVariables false
set_option linter.unusedSimpArgs false
def hexB (x : UInt8) : Bool := Octet.isIn 4 x.toNat
/-- the bytes of a text in Q, or the place that is wrong (below 0: none) -/
def qGo : List UInt8 → Nat → List Int → List Int × Int
  | [], _, out => (out, -1)
  | [c], i, out => if c = 95 then (out ++ [32], -1) else if c = 61 then ([], i) else (out ++ [(c.toNat : Int)], -1)
  | [c, d], i, out => if c = 95 then qGo [d] (i + 1) (out ++ [32]) else if c = 61 then ([], i) else qGo [d] (i + 1) (out ++ [(c.toNat : Int)])
  | c :: a :: b :: r, i, out =>
    if c = 95 then qGo (a :: b :: r) (i + 1) (out ++ [32]) else
    if c = 61 then (if hexB a = true ∧ hexB b = true then qGo r (i + 3) (out ++ [16 * hexD a + hexD b]) else ([], i)) else
    qGo (a :: b :: r) (i + 1) (out ++ [(c.toNat : Int)])
theorem qGo_under (r : List UInt8) (i : Nat) (out : List Int) : qGo (95 :: r) i out = qGo r (i + 1) (out ++ [32]) := by
  match r with
  | [] => simp [qGo]
  | [d] => simp only [qGo, if_true]
  | a :: b :: r => simp only [qGo, if_true]
theorem qGo_other (c : UInt8) (r : List UInt8) (i : Nat) (out : List Int) (h1 : c ≠ 95) (h2 : c ≠ 61) : qGo (c :: r) i out = qGo r (i + 1) (out ++ [(c.toNat : Int)]) := by
  match r with
  | [] => simp only [qGo, if_neg h1, if_neg h2]
  | [d] => simp only [qGo, if_neg h1, if_neg h2]
  | a :: b :: r => simp only [qGo, if_neg h1, if_neg h2]
theorem qGo_hex (a b : UInt8) (r : List UInt8) (i : Nat) (out : List Int) (ha : hexB a = true) (hb : hexB b = true) : qGo (61 :: a :: b :: r) i out = qGo r (i + 3) (out ++ [16 * hexD a + hexD b]) := by
  rw [qGo, if_neg (by decide), if_pos rfl, if_pos ⟨ha, hb⟩]
theorem qGo_bad (r : List UInt8) (i : Nat) (out : List Int) (h : Octet.badAt 4 r < 2) : qGo (61 :: r) i out = ([], (i : Int)) := by
  match r, h with
  | [], _ => rfl
  | [d], _ => rfl
  | a :: b :: r, h =>
    rw [qGo, if_neg (by decide), if_pos rfl, if_neg]
    rintro ⟨ha, hb⟩
    unfold hexB at ha hb
    unfold Octet.badAt at h
    rw [List.findIdx_cons, ha] at h
    simp only [Bool.not_true, cond_false] at h
    rw [List.findIdx_cons, hb] at h
    simp only [Bool.not_true, cond_false] at h
    omega
theorem bad_two (r : List UInt8) (h : ¬ Octet.badAt 4 r < 2) : ∃ a b r', r = a :: b :: r' ∧ hexB a = true ∧ hexB b = true := by
  match r, h with
  | [], h => exact absurd (show Octet.badAt 4 [] < 2 by decide) h
  | [d], h =>
    have := Octet.badAt_le 4 [d]
    simp only [List.length_cons, List.length_nil] at this
    omega
  | a :: b :: r, h =>
    refine ⟨a, b, r, rfl, ?_⟩
    unfold hexB
    unfold Octet.badAt at h
    cases ha : Octet.isIn 4 a.toNat
    · rw [List.findIdx_cons, ha] at h
      simp at h
    · rw [List.findIdx_cons, ha] at h
      simp only [Bool.not_true, cond_false] at h
      cases hb : Octet.isIn 4 b.toNat
      · rw [List.findIdx_cons, hb] at h
        simp at h
      · exact ⟨rfl, rfl⟩
def unB (t : List UInt8) : List Int × Int := if (unV t).2.1 ≠ 0 then ([], ((unV t).2.2 : Int)) else ((unV t).1, -1)
set_option maxHeartbeats 4000000 in
set_option maxRecDepth 100000 in
theorem bytesB_calls (ch t : ByteArray) (c : UInt8) (hc : c = 66 ∨ c = 98) (w : World) (ht : t.size ≤ 3000000000) :
    Calls Tryd.prog 26 #[.agg #[.string ch, .string ⟨#[c]⟩, .string t]] w fun e w' => ∃ V, e = .returned (.tuple #[V, .int .i64 (unB t.data.toList).2]) ∧ w'.ownsRow w.heap.size 5 1 V (unB t.data.toList).1.length (nums .u8 (unB t.data.toList).1) ∧ Below w.heap.size w w' := by
  have hu25 := Tryd.underlying25
  have hu42 := Tryd.underlying42
  have HU := Lib.hid (fun W => unbase64_calls t W ht)
  have hB0 := (Below.refl w.heap.size w).alloc (Nat.le_refl _) (.cells #[.string ch, .string ⟨#[c]⟩, .string t] 42)
  obtain ⟨D, hD⟩ : ∃ D, D = unB t.data.toList := ⟨_, rfl⟩
  rw [← hD]
  obtain ⟨d0, w0⟩ := D
  have HD := Lib.hid hD
  have HB0 := Lib.hid hB0
  clear hD hB0
  rcases hc with rfl | rfl
  all_goals
    go_enter Tryd.func26, Tryd.ntmps26
    go_wp2_with fail
    refine (HU.out _).mono ?_
    rintro e w1 ⟨V, d, er, at_, hv, rfl, ho, hb⟩
    have HO := Lib.hid ho
    have HB := Lib.hid (HB0.out.trans (hb.mono HB0.out.size))
    have HE : Hid ((d0, w0) = if er ≠ 0 then ([], (at_ : Int)) else (d, -1)) := Lib.hid (by rw [HD.out]; unfold unB; rw [hv])
    have hbz := hb.size
    clear hv ho hb
    have hz1 : w.heap.size + 1 ≤ w1.heap.size := by
      have := hbz
      simp at this
      exact this
    by_cases he : er = 0
    · subst he
      have hdd := HE.out
      rw [if_neg (fun h => h rfl)] at hdd
      obtain ⟨rfl, rfl⟩ := Prod.mk.inj hdd
      clear hdd
      go_wp2
      refine bodyPost_ret (results_list (rs := [.tmp 2, .tmp 3]) rfl (by simp) (.tmp (.tmp .nil))) rfl ?_
      exact ⟨_, rfl, (own_low HO.out (by simp)).alloc _, HB.out.alloc HB.out.size _⟩
    · have hdd := HE.out
      rw [if_pos he] at hdd
      obtain ⟨rfl, rfl⟩ := Prod.mk.inj hdd
      clear hdd
      have heb : (er == 0) = false := by simpa using he
      have heb' : (er != 0) = true := by simpa using he
      go_wp2
      go_quiet (fail)
      go_wp2
      refine bodyPost_ret (results_list (rs := [.tmp 2, .tmp 3]) rfl (by simp) (.tmp (.tmp .nil))) rfl ?_
      exact ⟨_, rfl, own_nil _ _ _ _, below_drewN' (HB.out.alloc HB.out.size _) _⟩
theorem drop_cons (t : ByteArray) (k : Nat) (h : k < t.size) : t.data.toList.drop k = t[k]'h :: t.data.toList.drop (k + 1) := Code.drop_at t k h
theorem two_bytes (t : ByteArray) (k : Nat) (a b : UInt8) (r : List UInt8) (h : t.data.toList.drop k = a :: b :: r) : k + 2 ≤ t.size ∧ t.extract k (k + 2) = two2 a b := by
  have hl := congrArg List.length h
  rw [List.length_drop, data_length] at hl
  simp only [List.length_cons] at hl
  refine ⟨by omega, ?_⟩
  apply ByteArray.ext
  apply Array.ext'
  rw [Lib.extract_data, h, show k + 2 - k = 2 by omega]
  rfl
set_option maxHeartbeats 8000000 in
set_option maxRecDepth 100000 in
theorem bytesQ_calls (ch t : ByteArray) (c : UInt8) (hc : c = 81 ∨ c = 113) (w : World) (ht : t.size ≤ 3000000000) (hT : Octet.Laid w) :
    Calls Tryd.prog 26 #[.agg #[.string ch, .string ⟨#[c]⟩, .string t]] w fun e w' => ∃ V, e = .returned (.tuple #[V, .int .i64 (qGo t.data.toList 0 []).2]) ∧ w'.ownsRow w.heap.size 5 1 V (qGo t.data.toList 0 []).1.length (nums .u8 (qGo t.data.toList 0 []).1) ∧ Below w.heap.size w w' := by
  have hu25 := Tryd.underlying25
  have hu42 := Tryd.underlying42
  obtain ⟨W0, hW0⟩ : ∃ W0, W0 = w.alloc (.cells #[.string ch, .string ⟨#[c]⟩, .string t] 42) := ⟨_, rfl⟩
  have hsz : W0.heap.size = w.heap.size + 1 := by rw [hW0]; simp
  have hbox : W0.heap[w.heap.size]? = some (.cells #[.string ch, .string ⟨#[c]⟩, .string t] 42 (0, 0)) := by rw [hW0]; exact heap_alloc_new w _
  have hBw : Below w.heap.size w W0 := by rw [hW0]; exact (Below.refl _ _).alloc (Nat.le_refl _) _
  have HX := Lib.hid hbox
  have HBW := Lib.hid hBw
  have HSZ := Lib.hid hsz
  have HT := Lib.hid hT
  obtain ⟨D, hD⟩ : ∃ D, D = qGo t.data.toList 0 [] := ⟨_, rfl⟩
  rw [← hD]
  have HD := Lib.hid hD
  have HW0 := Lib.hid hW0
  clear hbox hBw hsz hT hD hW0
  rcases hc with rfl | rfl
  all_goals
    go_enter Tryd.func26, Tryd.ntmps26
    go_wp2
    rw [← HW0.out]
    go_loopw [6, 7] (fun o v wr => ∃ (k : Nat) (d : List Int), k ≤ t.size ∧ v = .int .i64 k ∧ D = qGo (t.data.toList.drop k) k d ∧ wr.ownsRow (w.heap.size + 1) 5 1 o d.length (nums .u8 d) ∧ Below (w.heap.size + 1) W0 wr ∧ d.length ≤ k) (fun _ v _ => t.size - (intOf v).toNat)
    case atStart => exact ⟨0, [], by omega, rfl, by rw [List.drop_zero]; exact HD.out, own_nil _ _ _ _, Below.refl _ _, by simp⟩
    case round =>
      obtain ⟨k, d, hk, rfl, hd, hO, hB, hdk⟩ := hrel
      have hX := (hB.block w.heap.size (by omega)).trans HX.out
      have x2 := blk_cell hX 2
      have hz : w.heap.size + 1 ≤ wr.heap.size := by have := hB.size; have := HSZ.out; omega
      have HDD := Lib.hid hd
      have HO := Lib.hid hO
      have HB := Lib.hid hB
      clear hd hO hB hX
      by_cases hlt : k < t.size
      · obtain ⟨c, hc⟩ : ∃ c : UInt8, t[k]'hlt = c := ⟨_, rfl⟩
        have hcons := drop_cons t k hlt
        rw [hc] at hcons
        have HC := Lib.hid hcons
        have hc256 := c.toNat_lt
        have HCC := Lib.hid hc
        clear hcons hc
        by_cases h95 : c = 95
        · subst h95
          clear hc256
          have q0 : t[k]'hlt = 95 := HCC.out
          go_wp2_with (at_builtin; refine print_append_row (w0 := wr.alloc (.cells #[.int .u8 32] 5)) (w.heap.size + 1) rfl (.tmp 50) (.tmp 51) 39 5 .u8 1 rfl Tryd.underlying39 info5 (by decide) _ d [(32 : Int)] _ 1 1 rfl rfl ?ho ?hr ?hb ?hbase ?hl ?_)
          case ho => exact HO.out.alloc _
          case hr => exact reads_lit _ 5 .u8 [(32 : Int)] (by simp)
          case hb => exact Below.refl _ _
          case hbase => rw [World.size_alloc]; omega
          case hl => omega
          intro v7 w7 ho7 hb7 hg7 hat7
          have HO7 := Lib.hid ho7
          have HB7 := Lib.hid ((HB.out.alloc hz _).trans hb7)
          clear ho7 hb7 hg7 hat7
          go_wp2
          go_roundw
          case rel => exact ⟨k + 1, d ++ [(32 : Int)], by omega, by go_num, by rw [HDD.out, HC.out, qGo_under], by rw [List.length_append]; exact HO7.out, HB7.out, by rw [List.length_append]; simp; omega⟩
          case measure => simp [intOf]; omega
        · have q1 : ((c.toNat : Int) == 95) = false := beq_eq_false_iff_ne.2 (fun e => h95 (UInt8.toNat_inj.1 (by rw [show (95 : UInt8).toNat = 95 from rfl]; omega)))
          by_cases h61 : c = 61
          · subst h61
            clear hc256 q1
            have q0 : t[k]'hlt = 61 := HCC.out
            have HS := Lib.hid (Octet.SpanFrom_calls 4 (by decide) (by decide) t (k + 1) (by omega) (by omega) wr (HT.out.below HT.out.size (HBW.out.trans (HB.out.mono (by omega)))))
            obtain ⟨n, hn⟩ : ∃ n, n = Octet.badAt 4 (t.data.toList.drop (k + 1)) := ⟨_, rfl⟩
            rw [← hn] at HS
            have hnle : n ≤ t.size - (k + 1) := by rw [hn]; exact Nat.le_trans (Octet.badAt_le _ _) (by rw [List.length_drop, data_length]; exact Nat.le_refl _)
            by_cases hbad : n < 2
            · have hfin : D = ([], (k : Int)) := by rw [HDD.out, HC.out]; exact qGo_bad _ _ _ (by rw [← hn]; exact hbad)
              subst hfin
              have HN := Lib.hid hn
              clear hn
              go_wp2_with fail
              refine HS.out.mono ?_
              rintro e w2 ⟨rfl, hb2⟩
              have hlt2 : ((k + 1 + n : Nat) : Int) < (k : Int) + 3 := by omega
              have hlt3 : decide (((k + 1 + n : Nat) : Int) < (k : Int) + 3) = true := decide_eq_true hlt2
              have HB2 := Lib.hid (HBW.out.trans ((HB.out.trans (hb2.mono hz)).mono (by omega)))
              obtain ⟨j, hj⟩ : ∃ j, j = k + 1 + n := ⟨_, rfl⟩
              rw [← hj] at hlt2 hlt3 ⊢
              clear hb2 hj
              go_wp2
              refine bodyPost_ret (results_list (rs := [.tmp 2, .tmp 3]) rfl (by simp) (.tmp (.tmp .nil))) rfl ?_
              exact ⟨_, rfl, own_nil _ _ _ _, HB2.out⟩
            · obtain ⟨a, b, r, hr, ha, hb⟩ := bad_two _ (by rw [← hn]; exact hbad)
              obtain ⟨hk3, hext⟩ := two_bytes t (k + 1) a b r hr
              have hsl : ∀ W : World, (Instr.slice 9 (.string t) (some (.int .i64 ((k : Int) + 1))) (some (.int .i64 ((k : Int) + 3))) none).run Tryd.prog W = .ok (.string (two2 a b)) W := by
                intro W
                rw [run_slice_string_if W 9 t .i64 .i64 _ _ Tryd.underlying9, if_pos ⟨by omega, by omega⟩, if_pos ⟨by omega, by omega⟩, ← hext]
                rfl
              have hfin : D = qGo r (k + 3) (d ++ [16 * hexD a + hexD b]) := by rw [HDD.out, HC.out, hr]; exact qGo_hex _ _ _ _ _ ha hb
              have hr3 : t.data.toList.drop (k + 3) = r := by
                have := congrArg (List.drop 2) hr
                rw [List.drop_drop] at this
                exact this
              have HF := Lib.hid hfin
              have HR3 := Lib.hid hr3
              have HU := Lib.hid (unhex_calls a b ha hb)
              clear hfin hr3 hr hext hn
              go_wp2_with fail
              refine HS.out.mono ?_
              rintro e w2 ⟨rfl, hb2⟩
              have hge3 : decide (((k + 1 + n : Nat) : Int) < (k : Int) + 3) = false := decide_eq_false (by omega)
              have HB2 := Lib.hid (HB.out.trans (hb2.mono hz))
              have HBW2 := Lib.hid (HBW.out.trans ((HB.out.trans (hb2.mono hz)).mono (by omega)))
              have HO2 := Lib.hid (pw_own_below HO.out hb2)
              have hX2 := (HB2.out.block w.heap.size (by omega)).trans HX.out
              have y2 := blk_cell hX2 2
              have hz2 : w.heap.size + 1 ≤ w2.heap.size := by have := hb2.size; omega
              obtain ⟨j, hj⟩ : ∃ j, j = k + 1 + n := ⟨_, rfl⟩
              rw [← hj] at hge3 ⊢
              clear hb2 hj hX2
              go_wp2_with fail
              refine (HU.out w2 (HT.out.below HT.out.size HBW2.out)).mono ?_
              rintro e w3 ⟨V, rfl, ho3, hb3⟩
              obtain ⟨A, cp, rfl, hR3⟩ := own_reads ho3
              have HB3 := Lib.hid (HB2.out.trans (hb3.mono hz2))
              have HR4 := Lib.hid hR3
              have HO3 := Lib.hid (pw_own_below HO2.out hb3)
              have hz3 : w.heap.size + 1 ≤ w3.heap.size := by have := hb3.size; omega
              clear ho3 hb3 hR3
              go_wp2_with (at_builtin; refine print_append_row (w0 := w3.alloc (.cells #[.int .i64 0, .int .i64 0] 25)) (w.heap.size + 1) rfl (.tmp 75) (.tmp 76) 39 5 .u8 1 rfl Tryd.underlying39 info5 (by decide) _ d [16 * hexD a + hexD b] _ 1 _ rfl rfl ?ho ?hr ?hb ?hbase ?hl ?_)
              case ho => exact HO3.out.alloc _
              case hr => exact HR4.out.allocS _
              case hb => exact Below.refl _ _
              case hbase => rw [World.size_alloc]; omega
              case hl => omega
              intro v7 w7 ho7 hb7 hg7 hat7
              have HO7 := Lib.hid ho7
              have HB7 := Lib.hid ((HB3.out.alloc hz3 _).trans hb7)
              clear ho7 hb7 hg7 hat7
              go_wp2
              go_roundw
              case rel => exact ⟨k + 3, d ++ [16 * hexD a + hexD b], by omega, by go_num, by rw [HF.out, HR3.out], by rw [List.length_append]; exact HO7.out, HB7.out, by rw [List.length_append]; simp; omega⟩
              case measure => simp [intOf]; omega
          · have q2 : ((c.toNat : Int) == 61) = false := beq_eq_false_iff_ne.2 (fun e => h61 (UInt8.toNat_inj.1 (by rw [show (61 : UInt8).toNat = 61 from rfl]; omega)))
            have q0 : t[k]'hlt = c := HCC.out
            go_wp2_with (at_builtin; refine print_append_row (w0 := wr.alloc (.cells #[.int .u8 (c.toNat : Int)] 5)) (w.heap.size + 1) rfl (.tmp 41) (.tmp 46) 39 5 .u8 1 rfl Tryd.underlying39 info5 (by decide) _ d [(c.toNat : Int)] _ 1 1 rfl rfl ?ho ?hr ?hb ?hbase ?hl ?_)
            case ho => exact HO.out.alloc _
            case hr => exact reads_lit _ 5 .u8 [(c.toNat : Int)] (by simp)
            case hb => exact Below.refl _ _
            case hbase => rw [World.size_alloc]; omega
            case hl => omega
            intro v7 w7 ho7 hb7 hg7 hat7
            have HO7 := Lib.hid ho7
            have HB7 := Lib.hid ((HB.out.alloc hz _).trans hb7)
            clear ho7 hb7 hg7 hat7
            go_wp2
            go_roundw
            case rel => exact ⟨k + 1, d ++ [(c.toNat : Int)], by omega, by go_num, by rw [HDD.out, HC.out, qGo_other _ _ _ _ h95 h61], by rw [List.length_append]; exact HO7.out, HB7.out, by rw [List.length_append]; simp; omega⟩
            case measure => simp [intOf]; omega
      · obtain rfl : k = t.size := by omega
        have hfin : D = (d, -1) := by rw [HDD.out, List.drop_eq_nil_of_le (by rw [data_length]; exact Nat.le_refl _)]; rfl
        subst hfin
        go_wp2
        refine bodyPost_ret (results_list (rs := [.tmp 2, .tmp 3]) rfl (by simp) (.tmp (.tmp .nil))) rfl ?_
        exact ⟨_, rfl, own_low HO.out (by omega), HBW.out.trans (HB.out.mono (by omega))⟩
end Go.Proofs.YtcnhnpkbklakoaaDoor.Word
