/- octet.Unhex of two digits by contract. -/
import Derived.Test.YtcnhnpkbklakoaaDoorPieces
import Derived.Test.YtcnhnpkbklakoaaDoorOctetMore
import Derived.StillTailTactics
namespace Go.Proofs.YtcnhnpkbklakoaaDoor.Unhex
open Go.RowKit Go.Proofs.YtcnhnpkbklakoaaDoorW.PrintWords Go.Proofs.YtcnhnpkbklakoaaDoorW.PrintLast Go.Proofs.YtcnhnpkbklakoaaDoorW.PrintMore Go.Proofs.YtcnhnpkbklakoaaDoor.PWordEncodes
open Go.Proofs.YtcnhnpkbklakoaaDoor.Code Go.Proofs.YtcnhnpkbklakoaaDoor.Pieces
attribute [local go_sem] max2_int min2_int max_two min_two max_three min_three max_four min_four
set_option linter.unusedVariables false
set_option linter.unusedSimpArgs false
theorem isIn4_all : ∀ n : Fin 256, Octet.isIn 4 n.val = decide ((48 ≤ n.val ∧ n.val ≤ 57) ∨ (65 ≤ n.val ∧ n.val ≤ 70) ∨ (97 ≤ n.val ∧ n.val ≤ 102)) := by decide +kernel
theorem isIn4 (x : UInt8) : Octet.isIn 4 x.toNat = decide ((48 ≤ x.toNat ∧ x.toNat ≤ 57) ∨ (65 ≤ x.toNat ∧ x.toNat ≤ 70) ∨ (97 ≤ x.toNat ∧ x.toNat ≤ 102)) := isIn4_all ⟨x.toNat, x.toNat_lt⟩
/-- what a digit says -/
def hexD (x : UInt8) : Int := if x.toNat ≤ 57 then x.toNat - 48 else if x.toNat ≤ 70 then x.toNat - 55 else x.toNat - 87
theorem hexD_range (x : UInt8) (h : Octet.isIn 4 x.toNat = true) : 0 ≤ hexD x ∧ hexD x ≤ 15 := by
  rw [isIn4, decide_eq_true_eq] at h
  unfold hexD
  split
  · omega
  · split <;> omega
theorem ret_u8 {a b : Int} (h : a = b) : Ending.returned (.int .u8 a) = .returned (.int .u8 b) := by rw [h]
set_option maxHeartbeats 2000000 in
theorem upper_same (n : Nat) (hn : n < 256) (w : World) : Calls Tryd.prog 74 #[.int .u8 (n : Int)] w fun e w' => e = .returned (.int .u8 (if 97 ≤ n ∧ n ≤ 122 then (n : Int) - 32 else n)) ∧ w' = w := by
  by_cases h1 : 97 ≤ n
  · by_cases h2 : n ≤ 122
    · rw [if_pos ⟨h1, h2⟩]
      have q1 : decide ((97 : Int) ≤ (n : Int)) = true := decide_eq_true (by omega)
      have q2 : decide ((n : Int) ≤ 122) = true := decide_eq_true (by omega)
      go_enter Tryd.func74, Tryd.ntmps74
      go_wp2
      go_ret
      exact ⟨ret_u8 (by omega), rfl⟩
    · rw [if_neg (fun h => h2 h.2)]
      have q1 : decide ((97 : Int) ≤ (n : Int)) = true := decide_eq_true (by omega)
      have q2 : decide ((n : Int) ≤ 122) = false := decide_eq_false (by omega)
      go_enter Tryd.func74, Tryd.ntmps74
      go_wp2
      go_ret
      exact ⟨rfl, rfl⟩
  · rw [if_neg (fun h => h1 h.1)]
    have q1 : decide ((97 : Int) ≤ (n : Int)) = false := decide_eq_false (by omega)
    go_enter Tryd.func74, Tryd.ntmps74
    go_wp2
    go_ret
    exact ⟨rfl, rfl⟩
set_option maxHeartbeats 2000000 in
theorem value_same (x : UInt8) (h : Octet.isIn 4 x.toNat = true) (w : World) : Calls Tryd.prog 79 #[.int .u8 (x.toNat : Int)] w fun e w' => e = .returned (.int .u8 (hexD x)) ∧ w' = w := by
  rw [isIn4, decide_eq_true_eq] at h
  have hx := x.toNat_lt
  have HU := Lib.hid (fun w => upper_same x.toNat hx w)
  obtain ⟨v, hv⟩ : ∃ v, v = hexD x := ⟨_, rfl⟩
  rw [← hv]
  unfold hexD at hv
  generalize x.toNat = n at h hx HU hv ⊢
  obtain ⟨u, hu⟩ : ∃ u : Nat, (if 97 ≤ n ∧ n ≤ 122 then (n : Int) - 32 else n) = (u : Int) := by
    split
    · exact ⟨n - 32, by omega⟩
    · exact ⟨n, rfl⟩
  rw [hu] at HU
  have hc : (65 ≤ u ∧ u ≤ 70 ∧ v = (u : Int) - 55) ∨ (48 ≤ u ∧ u ≤ 57 ∧ v = (u : Int) - 48) := by
    rcases h with h | h | h
    · right
      rw [if_neg (by omega)] at hu
      rw [if_pos (by omega)] at hv
      omega
    · left
      rw [if_neg (by omega)] at hu
      rw [if_neg (by omega), if_pos (by omega)] at hv
      omega
    · left
      rw [if_pos (by omega)] at hu
      rw [if_neg (by omega), if_neg (by omega)] at hv
      omega
  clear hu hv h
  rcases hc with ⟨h1, h2, rfl⟩ | ⟨h1, h2, rfl⟩
  · have q1 : decide ((65 : Int) ≤ (u : Int)) = true := decide_eq_true (by omega)
    go_enter Tryd.func79, Tryd.ntmps79
    go_wp2_with fail
    refine (HU.out _).mono ?_
    rintro e w' ⟨rfl, rfl⟩
    go_wp2
    go_ret
    exact ⟨ret_u8 (by omega), rfl⟩
  · have q1 : decide ((65 : Int) ≤ (u : Int)) = false := decide_eq_false (by omega)
    go_enter Tryd.func79, Tryd.ntmps79
    go_wp2_with fail
    refine (HU.out _).mono ?_
    rintro e w' ⟨rfl, rfl⟩
    go_wp2
    go_ret
    exact ⟨rfl, rfl⟩
theorem wrap_u8 (x : Int) (h0 : 0 ≤ x) (h1 : x < 256) : IntKind.u8.wrap x = x := by
  have : IntKind.u8.wrap x = x % 256 := rfl
  rw [this]
  omega
def two2 (a b : UInt8) : ByteArray := ⟨#[a, b]⟩
theorem badAt_two (a b : UInt8) (ha : Octet.isIn 4 a.toNat = true) (hb : Octet.isIn 4 b.toNat = true) : Octet.badAt 4 (two2 a b).data.toList = 2 := by
  show Octet.badAt 4 [a, b] = 2
  exact Octet.badAt_all (s := [a, b]) (fun j x h => by
    match j, h with
    | 0, h => cases h; exact ha
    | 1, h => cases h; exact hb)
set_option maxHeartbeats 4000000 in
set_option maxRecDepth 100000 in
theorem unhex_calls (a b : UInt8) (ha : Octet.isIn 4 a.toNat = true) (hb : Octet.isIn 4 b.toNat = true) (w : World) (hT : Octet.Laid w) :
    Calls Tryd.prog 52 #[.string (two2 a b)] w fun e w' => ∃ V, e = .returned (.tuple #[V, .agg #[.int .i64 0, .int .i64 0]]) ∧ w'.ownsRow w.heap.size 5 1 V 1 (nums .u8 [16 * hexD a + hexD b]) ∧ Below w.heap.size w w' := by
  have hu25 := Tryd.underlying25
  have HBAD := Lib.hid (fun W (h : Octet.Laid W) => Octet.Bad_calls 4 (by decide) (by decide) (two2 a b) (show 2 ≤ _ by decide) W h)
  rw [badAt_two a b ha hb] at HBAD
  have HT := Lib.hid hT
  have HVA := Lib.hid (value_same a ha)
  have HVB := Lib.hid (value_same b hb)
  have HRA := Lib.hid (hexD_range a ha)
  have HRB := Lib.hid (hexD_range b hb)
  clear hT ha hb
  unfold two2 at HBAD ⊢
  obtain ⟨i0, hi, hz0, hz1, hz2⟩ := info_parts info5
  go_enter Tryd.func52, Tryd.ntmps52
  obtain ⟨W0, hW0⟩ : ∃ W0, W0 = w.alloc (.cells #[.int .i64 0, .int .i64 0] 25) := ⟨_, rfl⟩
  have hsz : W0.heap.size = w.heap.size + 1 := by rw [hW0]; simp
  have hbox : W0.heap[w.heap.size]? = some (.cells #[.int .i64 0, .int .i64 0] 25 (0, 0)) := by rw [hW0]; exact heap_alloc_new w _
  have hBw : Below w.heap.size w W0 := by rw [hW0]; exact (Below.refl _ _).alloc (Nat.le_refl _) _
  have HX := Lib.hid hbox
  have HBW := Lib.hid hBw
  have HW0 := Lib.hid hW0
  have HSZ := Lib.hid hsz
  clear hbox hBw hsz
  go_wp2_with fail
  rw [← HW0.out]
  refine (HBAD.out _ (HT.out.below HT.out.size HBW.out)).mono ?_
  rintro e w1 ⟨rfl, hb1⟩
  clear hW0
  have hb2 := (hb1.block _ (by have := HSZ.out; omega)).trans HX.out
  have HX2 := Lib.hid hb2
  have HBA := Lib.hid (HBW.out.trans (hb1.mono (by have := HSZ.out; omega)))
  have hIR : w.heap.size < w1.heap.size := by have := HSZ.out; have := hb1.size; omega
  clear hb2 hb1
  go_wp2_with (at_make; refine wpList_make_own _ rfl _ _ 39 rfl w1.heap.size 5 i0 _ 1 Tryd.underlying39 hi hz0 hz1 _ _ _ 1 rfl rfl (by omega) ?b2 ?b3 (Nat.le_refl _) ?_)
  case b2 => rw [hz2]; omega
  case b3 => unfold maxLen; omega
  intro w2 hown2 hgrow2
  have hB2 : Below w1.heap.size w1 w2 := (Below.refl w1.heap.size w1).grown hgrow2 (Nat.le_refl _) (fun k h => by cases h)
  have HOW := Lib.hid hown2
  have HBWR := Lib.hid hB2
  clear hown2 hgrow2 hB2
  go_wp2
  go_loopw [5, 6] (fun o v wr => (v = .int .i64 0 ∧ o = .slice (some ⟨w1.heap.size, 0, none⟩) 0 1 ∧ wr = w2) ∨ (v = .int .i64 2 ∧ wr.ownsRow w1.heap.size 5 1 o 1 (nums .u8 [16 * hexD a + hexD b]) ∧ Below w1.heap.size w1 wr)) (fun _ v _ => 2 - (intOf v).toNat)
  case atStart => exact Or.inl ⟨rfl, rfl, rfl⟩
  case round =>
    rcases hrel with ⟨rfl, rfl, rfl⟩ | ⟨rfl, hO, hB⟩
    · have q1 : IntKind.i64.wrap 1 = 1 := by decide
      have q2 : IntKind.u8.wrap (hexD a * 16) = hexD a * 16 := wrap_u8 _ (by have := HRA.out; omega) (by have := HRA.out; omega)
      have q3 : bits .or .u8 (hexD a * 16) (hexD b) = 16 * hexD a + hexD b := by
        rw [u8_or4 _ _ (by have := HRA.out; omega) (by omega) (by have := HRA.out; omega) (by have := HRB.out; omega) (by have := HRB.out; omega)]
        omega
      go_wp2
      refine start_ (n := 15) (S := fun w' => True) (ds := [12, 13]) #[false, false, false, false, false, false, false, false, false, false, false, false, false, false, false] (by kernel_rfl) rfl rfl trivial (fun hHeld => ?_)
      generalize hdr : wr.drew = w2 at hHeld ⊢
      have HO2 := Lib.hid (show w2.ownsRow w1.heap.size 5 1 (.slice (some ⟨w1.heap.size, 0, none⟩) 0 1) 0 (nums .u8 []) from hdr ▸ HOW.out)
      have HB2 := Lib.hid (show Below w1.heap.size w1 w2 from hdr ▸ below_drew1 HBWR.out)
      have hsz2 := HB2.out.size
      refine pure_ (i := 0) (N := some 30) (v := ?_) (a' := ?_) #[true, false, false, false, false, false, false, false, false, false, false, false, false, false, false] rfl rfl (by kernel_rfl) (fun _ _ _ h => h) (Or.inl ⟨by rfl, ?_⟩) ?_ ?_
      rotate_left
      · intro w'
        go_simp
        with_reducible rfl
      rotate_left
      · simp only [Act.put, List.setIfInBounds_toArray, List.set_cons_zero, List.set_cons_succ, i64_w, i32_w]
        rfl
      refine pure_ (i := 1) (N := some 31) (v := ?_) (a' := ?_) #[true, true, false, false, false, false, false, false, false, false, false, false, false, false, false] rfl rfl (by kernel_rfl) (fun _ _ _ h => h) (Or.inl ⟨by rfl, ?_⟩) ?_ ?_
      rotate_left
      · intro w'
        go_simp
        with_reducible rfl
      rotate_left
      · simp only [Act.put, List.setIfInBounds_toArray, List.set_cons_zero, List.set_cons_succ, i64_w, i32_w]
        rfl
      refine pure_ (i := 2) (N := some 32) (v := ?_) (a' := ?_) #[true, true, true, false, false, false, false, false, false, false, false, false, false, false, false] rfl rfl (by kernel_rfl) (fun _ _ _ h => h) (Or.inl ⟨by rfl, ?_⟩) ?_ ?_
      rotate_left
      · intro w'
        go_simp
        with_reducible rfl
      rotate_left
      · simp only [Act.put, List.setIfInBounds_toArray, List.set_cons_zero, List.set_cons_succ, i64_w, i32_w]
        rfl
      refine pure_ (i := 6) (N := some 36) (v := ?_) (a' := ?_) #[true, true, true, false, false, false, true, false, false, false, false, false, false, false, false] rfl rfl (by kernel_rfl) (fun _ _ _ h => h) (Or.inl ⟨by rfl, ?_⟩) ?_ ?_
      rotate_left
      · intro w'
        go_simp
        with_reducible rfl
      rotate_left
      · simp only [Act.put, List.setIfInBounds_toArray, List.set_cons_zero, List.set_cons_succ, i64_w, i32_w]
        rfl
      refine pure_ (i := 7) (N := some 37) (v := ?_) (a' := ?_) #[true, true, true, false, false, false, true, true, false, false, false, false, false, false, false] rfl rfl (by kernel_rfl) (fun _ _ _ h => h) (Or.inl ⟨by rfl, ?_⟩) ?_ ?_
      rotate_left
      · intro w'
        go_simp
        with_reducible rfl
      rotate_left
      · simp only [Act.put, List.setIfInBounds_toArray, List.set_cons_zero, List.set_cons_succ, i64_w, i32_w]
        rfl
      refine pure_ (i := 8) (N := some 38) (v := ?_) (a' := ?_) #[true, true, true, false, false, false, true, true, true, false, false, false, false, false, false] rfl rfl (by kernel_rfl) (fun _ _ _ h => h) (Or.inl ⟨by rfl, ?_⟩) ?_ ?_
      rotate_left
      · intro w'
        go_simp
        with_reducible rfl
      rotate_left
      · simp only [Act.put, List.setIfInBounds_toArray, List.set_cons_zero, List.set_cons_succ, i64_w, i32_w]
        rfl
      refine take_ (i := 3) (N := some 33) (v := ?_) (a' := ?_) #[true, true, true, true, false, false, true, true, true, false, false, false, false, false, false] rfl rfl (by kernel_rfl) (fun _ _ _ h => h) (Or.inl ⟨by rfl, ?_⟩) hHeld ?_ ?_
      rotate_left
      · intro w' _
        go_simp
        with_reducible rfl
      rotate_left
      · simp only [Act.put, List.setIfInBounds_toArray, List.set_cons_zero, List.set_cons_succ, i64_w, i32_w]
        rfl
      refine take_ (i := 9) (N := some 39) (v := ?_) (a' := ?_) #[true, true, true, true, false, false, true, true, true, true, false, false, false, false, false] rfl rfl (by kernel_rfl) (fun _ _ _ h => h) (Or.inl ⟨by rfl, ?_⟩) hHeld ?_ ?_
      rotate_left
      · intro w' _
        go_simp
        with_reducible rfl
      rotate_left
      · simp only [Act.put, List.setIfInBounds_toArray, List.set_cons_zero, List.set_cons_succ, i64_w, i32_w]
        rfl
      refine one_ (i := 4) (N := some 34) #[true, true, true, true, true, false, true, true, true, true, false, false, false, false, false] rfl rfl (by kernel_rfl) (by decide) (fun K hK => ?_)
      refine goes_ Tryd.func79 (by kernel_rfl) rfl #[.int .u8 (a.toNat : Int)] (by rfl) rfl rfl (by simp only [List.map_toArray, List.map_cons, List.map_nil]; rfl) ?_
      with_reducible refine (HVA.out w2).mono ?_
      rintro e w2 ⟨rfl, rfl⟩
      refine ⟨_, rfl, ?_⟩
      refine hK.out _ _ trivial (fun hHeld => ?_)
      clear hK K
      refine norm_ (a' := ?_) ?_ ?_
      rotate_left
      · show Act.put _ (some 34) _ = _
        simp only [Act.put, List.setIfInBounds_toArray, List.set_cons_zero, List.set_cons_succ, i64_w, i32_w]
        rfl
      refine pure_ (i := 5) (N := some 35) (v := ?_) (a' := ?_) #[true, true, true, true, true, true, true, true, true, true, false, false, false, false, false] rfl rfl (by kernel_rfl) (fun _ _ _ h => h) (Or.inl ⟨by rfl, ?_⟩) ?_ ?_
      rotate_left
      · intro w'
        go_simp
        with_reducible rfl
      rotate_left
      · simp only [Act.put, List.setIfInBounds_toArray, List.set_cons_zero, List.set_cons_succ, i64_w, i32_w]
        rfl
      refine one_ (i := 10) (N := some 40) #[true, true, true, true, true, true, true, true, true, true, true, false, false, false, false] rfl rfl (by kernel_rfl) (by decide) (fun K hK => ?_)
      refine goes_ Tryd.func79 (by kernel_rfl) rfl #[.int .u8 (b.toNat : Int)] (by rfl) rfl rfl (by simp only [List.map_toArray, List.map_cons, List.map_nil]; rfl) ?_
      with_reducible refine (HVB.out w2).mono ?_
      rintro e w2 ⟨rfl, rfl⟩
      refine ⟨_, rfl, ?_⟩
      refine hK.out _ _ trivial (fun hHeld => ?_)
      clear hK K
      refine norm_ (a' := ?_) ?_ ?_
      rotate_left
      · show Act.put _ (some 40) _ = _
        simp only [Act.put, List.setIfInBounds_toArray, List.set_cons_zero, List.set_cons_succ, i64_w, i32_w]
        rfl
      refine pure_ (i := 11) (N := some 41) (v := ?_) (a' := ?_) #[true, true, true, true, true, true, true, true, true, true, true, true, false, false, false] rfl rfl (by kernel_rfl) (fun _ _ _ h => h) (Or.inl ⟨by rfl, ?_⟩) ?_ ?_
      rotate_left
      · intro w'
        go_simp
        with_reducible rfl
      rotate_left
      · simp only [Act.put, List.setIfInBounds_toArray, List.set_cons_zero, List.set_cons_succ, i64_w, i32_w]
        rfl
      refine last_ (i := 12) (N := some 42) #[true, true, true, true, true, true, true, true, true, true, true, true, true, false, false] rfl rfl (by kernel_rfl) (by decide) (fun K hK => ?_)
      refine value_ (w1 := ?_) (v := ?_) (by rfl) rfl ?_ ?_
      rotate_left 2
      · go_simp
        constructor
        · rfl
        · rfl
      refine hK.out _ _ ?_
      clear hK K
      refine norm_ (a' := ?_) ?_ ?_
      rotate_left
      · show Act.put _ (some 42) _ = _
        simp only [Act.put, List.setIfInBounds_toArray, List.set_cons_zero, List.set_cons_succ, i64_w, i32_w]
        rfl
      refine last_ (i := 13) (N := some 43) #[true, true, true, true, true, true, true, true, true, true, true, true, true, true, false] rfl rfl (by kernel_rfl) (by decide) (fun K hK => ?_)
      refine step_append_lies _ (by rfl) (.tmp 30) (.tmp 42) 39 (by rfl) w1.heap.size 5 i0 _ 1 1 Tryd.underlying39 hi hz0 hz1 hz2 rfl (by decide) _ 0 (nums .u8 []) (by rfl) (HO2.out.alloc _) ⟨w2.heap.size, 0, none⟩ 1 1 (nums .u8 [16 * hexD a + hexD b]) (by rfl) rfl (news_lit _ _ _) (nums_one _) (by decide) (by unfold maxLen; omega) (by omega) (by simp; omega) _ rfl ?_
      intro g cap w4 hown4 hgrow4 hat4 hlt4
      refine hK.out _ _ ?_
      clear hK K
      refine norm_ (a' := ?_) ?_ ?_
      rotate_left
      · show Act.put _ (some 43) _ = _
        simp only [Act.put, List.setIfInBounds_toArray, List.set_cons_zero, List.set_cons_succ, i64_w, i32_w]
        rfl
      refine pure_ (i := 14) (N := some 5) (v := ?_) (a' := ?_) #[true, true, true, true, true, true, true, true, true, true, true, true, true, true, true] rfl rfl (by kernel_rfl) (fun _ _ _ h => h) (Or.inl ⟨by rfl, ?_⟩) ?_ ?_
      rotate_left
      · intro w'
        go_simp
        with_reducible rfl
      rotate_left
      · simp only [Act.put, List.setIfInBounds_toArray, List.set_cons_zero, List.set_cons_succ, i64_w, i32_w]
        rfl
      refine done_ (by kernel_rfl) ?_
      have hB4 : Below w1.heap.size w1 w4 := (HB2.out.alloc hsz2 _).grown hgrow4 (by have := hgrow4.size; simp at this; have := hsz2; simp; omega) (fun k hk => own_base HO2.out k hk)
      rw [← Code.nums_append, List.nil_append] at hown4
      have HO4 := Lib.hid hown4
      have HB4 := Lib.hid hB4
      clear hown4 hgrow4 hat4 hlt4 hB4 q1 q2 q3 hHeld HO2 HB2
      go_wp2
      go_roundw
      case rel => exact Or.inr ⟨rfl, HO4.out, HB4.out⟩
      case measure => simp [intOf]
    · have hX5 := (hB.block _ hIR).trans HX2.out
      have b0 := blk_cell hX5 0
      have b1 := blk_cell hX5 1
      have g0 := blk_frozen hX5 0
      have g1 := blk_frozen hX5 1
      have HX5 := Lib.hid hX5
      have HO := Lib.hid hO
      have HB := Lib.hid hB
      clear hX5 hO hB
      go_wp2
      refine bodyPost_ret (results_list (rs := [.tmp 2, .cell 3 25]) rfl (by simp) (.tmp (.cell w.heap.size 25 #[.int .i64 0, .int .i64 0] (0, 0) _ rfl (blk_put (blk_put HX5.out 0 (.int .i64 0) rfl) 1 (.int .i64 0) rfl) Tryd.underlying25 rfl (by kernel_rfl) .nil))) rfl ?_
      have hbw := HBA.out.trans (HB.out.mono (Nat.le_of_lt hIR))
      have hnb : some w.heap.size ≠ u5.ownBlock := fun e => by have := own_base HO.out _ e.symm; omega
      exact ⟨_, rfl, own_setCell (own_setCell (own_low HO.out (by omega)) (p := ⟨w.heap.size, 0, none⟩) hnb _) (p := ⟨w.heap.size, 1, none⟩) hnb _, ((hbw.setCell (p := ⟨w.heap.size, 0, none⟩) (Nat.le_refl _) _).setCell (p := ⟨w.heap.size, 1, none⟩) (Nat.le_refl _) _)⟩
end Go.Proofs.YtcnhnpkbklakoaaDoor.Unhex
