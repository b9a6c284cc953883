/- word.cut by contract. -/
import Derived.Test.YtcnhnpkbklakoaaDoorEncode
import Derived.Lib.SplitLaws
import Derived.Laws.DeepStrings4
import Derived.RegionTactic
import Derived.ChangeAlike
namespace Go.Proofs.YtcnhnpkbklakoaaDoor.Word
open Go.RowKit Go.Proofs.YtcnhnpkbklakoaaDoorW.PrintWords Go.Proofs.YtcnhnpkbklakoaaDoorW.PrintLast Go.Proofs.YtcnhnpkbklakoaaDoorW.PrintMore Go.Proofs.YtcnhnpkbklakoaaDoor.PWordEncodes
open Go.Proofs.YtcnhnpkbklakoaaDoor.Code Go.Proofs.YtcnhnpkbklakoaaDoor.Runes
attribute [local go_sem] max2_int min2_int max_two min_two max_three min_three max_four min_four
set_option linter.unusedVariables false
set_option linter.unusedSimpArgs false
def bodyV (s : ByteArray) : ByteArray := s.extract 2 (s.size - 2)
def partsV (b : ByteArray) : List ByteArray := Lib.splitB ⟨#[63]⟩ 0 (Lib.countB b ⟨#[63]⟩) b
theorem partsV_length (b : ByteArray) : (partsV b).length = Lib.countB b ⟨#[63]⟩ + 1 := Lib.splitB_all ⟨#[63]⟩ (by decide) 0 _ b rfl
def E0 : ByteArray := ⟨#[]⟩
def shownB (x : UInt8) : Bool := decide (33 ≤ x.toNat) && decide (x.toNat ≤ 126)
def cutM (s : ByteArray) : List ByteArray → ByteArray × ByteArray × ByteArray × Bool
  | [p0, p1, p2] =>
    if p0.toList = [] then (E0, E0, E0, false) else
    if ¬ p1.size = 1 then (E0, E0, E0, false) else
    if Lib.indexByte [66, 98, 81, 113] (p1.data.toList.headD 0) < 0 then (E0, E0, E0, false) else
    if s.data.toList.all shownB = true then (p0, p1, p2, true) else (E0, E0, E0, false)
  | _ => (E0, E0, E0, false)
theorem cutM_three (s p0 p1 p2 : ByteArray) : cutM s [p0, p1, p2] = if p0.toList = [] then (E0, E0, E0, false) else
    if ¬ p1.size = 1 then (E0, E0, E0, false) else
    if Lib.indexByte [66, 98, 81, 113] (p1.data.toList.headD 0) < 0 then (E0, E0, E0, false) else
    if s.data.toList.all shownB = true then (p0, p1, p2, true) else (E0, E0, E0, false) := rfl
/-- a word's parts: charset, coding, text; is it one? -/
def cutV (s : ByteArray) : ByteArray × ByteArray × ByteArray × Bool :=
  if s.size < 4 then (E0, E0, E0, false) else
  if ¬ (s.extract 0 2).toList = [61, 63] then (E0, E0, E0, false) else
  if ((s.extract (s.size - 2) s.size).toList == [63, 61]) = false then (E0, E0, E0, false) else
  cutM s (partsV (bodyV s))
theorem one_byte (p : ByteArray) (h : p.size = 1) : p = ⟨#[p.data.toList.headD 0]⟩ := by
  apply ByteArray.ext
  apply Array.ext'
  have h' : p.data.toList.length = 1 := h
  match e : p.data.toList, h' with
  | [c], _ => rfl
theorem contains4 (c : UInt8) (W : World) : Calls Tryd.prog 45 #[.string ⟨#[66, 98, 81, 113]⟩, .string ⟨#[c]⟩] W fun e w' => e = .returned (.bool (decide (0 ≤ Lib.indexByte [66, 98, 81, 113] c))) ∧ w' = W := Tryd.strings_Contains_one ⟨#[66, 98, 81, 113]⟩ c W
theorem info42 : (Tryd.prog.info? 42).map (fun i => (i.zero, i.size, i.bytes)) = some (some (.agg #[.string ⟨#[]⟩, .string ⟨#[]⟩, .string ⟨#[]⟩]), 3, 48) := by kernel_rfl
theorem after_split (w w2 : World) (L : List ByteArray) (h : w2 = (w.alloc (.cells #[.string ⟨#[]⟩, .string ⟨#[]⟩, .string ⟨#[]⟩] 42)).alloc (.cells (L.map Value.string).toArray 9)) :
    w2.heap[w.heap.size]? = some (.cells #[.string ⟨#[]⟩, .string ⟨#[]⟩, .string ⟨#[]⟩] 42 (0, 0)) ∧ (∀ (j : Nat) x, L[j]? = some x → w2.cell? ⟨w.heap.size + 1, j, none⟩ = some (.string x)) ∧ Below w.heap.size w w2 := by
  subst h
  refine ⟨?_, ?_, ((Below.refl _ _).alloc (Nat.le_refl _) _).alloc (by simp) _⟩
  · rw [heap_alloc_old _ _ (by simp)]
    exact heap_alloc_new w _
  · intro j x hj
    have hz : (w.alloc (.cells #[.string ⟨#[]⟩, .string ⟨#[]⟩, .string ⟨#[]⟩] 42)).heap.size = w.heap.size + 1 := by simp
    have := blk_cell (hz ▸ heap_alloc_new (w.alloc (.cells #[.string ⟨#[]⟩, .string ⟨#[]⟩, .string ⟨#[]⟩] 42)) (.cells (L.map Value.string).toArray 9)) j
    rw [this]
    simp [hj]
set_option maxHeartbeats 4000000 in
set_option maxRecDepth 100000 in
theorem cut_calls (s : ByteArray) (m : Int) (w : World) (hs : s.size ≤ 3000000000) (hm : w.cell? ⟨1, 0, none⟩ = some (.int .i64 m)) :
    Calls Tryd.prog 23 #[.string s] w fun e w' => e = .returned (.tuple #[.agg #[.string (cutV s).1, .string (cutV s).2.1, .string (cutV s).2.2.1], .bool (cutV s).2.2.2]) ∧ Below w.heap.size w w' := by
  have hu42 := Tryd.underlying42
  have hsz1 := World.block_lt_of_cell? w _ hm
  have HM := Lib.hid hm
  clear hm
  by_cases h4 : s.size < 4
  · have he : cutV s = (E0, E0, E0, false) := by unfold cutV; rw [if_pos h4]
    rw [he]
    clear he
    go_enter Tryd.func23, Tryd.ntmps23
    go_wp2
    refine bodyPost_ret (v := .tuple #[.agg #[.string ⟨#[]⟩, .string ⟨#[]⟩, .string ⟨#[]⟩], .bool false]) (by simp [results, Tryd.results23, go_sem]) rfl ?_
    exact ⟨rfl, (Below.refl _ _).alloc (Nat.le_refl _) _⟩
  have h5 : (2 : Int) ≤ (s.size : Int) - 2 := by omega
  have h4b : decide ((s.size : Int) < 4) = false := decide_eq_false (by omega)
  have h6 : ((s.size : Int) - 2).toNat = s.size - 2 := by omega
  by_cases hA : ¬ (s.extract 0 2).toList = [61, 63]
  · have he : cutV s = (E0, E0, E0, false) := by unfold cutV; rw [if_neg h4, if_pos hA]
    rw [he]
    clear he
    go_enter Tryd.func23, Tryd.ntmps23
    go_wp2
    refine bodyPost_ret (v := .tuple #[.agg #[.string ⟨#[]⟩, .string ⟨#[]⟩, .string ⟨#[]⟩], .bool false]) (by simp [results, Tryd.results23, go_sem]) rfl ?_
    exact ⟨rfl, (Below.refl _ _).alloc (Nat.le_refl _) _⟩
  replace hA := Decidable.not_not.1 hA
  cases hZ : ((s.extract (s.size - 2) s.size).toList == [63, 61])
  · have he : cutV s = (E0, E0, E0, false) := by unfold cutV; rw [if_neg h4, if_neg (fun h => h hA), if_pos hZ]
    rw [he]
    clear he
    go_enter Tryd.func23, Tryd.ntmps23
    go_wp2
    refine bodyPost_ret (v := .tuple #[.agg #[.string ⟨#[]⟩, .string ⟨#[]⟩, .string ⟨#[]⟩], .bool false]) (by simp [results, Tryd.results23, go_sem]) rfl ?_
    exact ⟨rfl, (Below.refl _ _).alloc (Nat.le_refl _) _⟩
  have hsl : ∀ W : World, (Instr.slice 9 (.string s) (some (.int .i64 2)) (some (.int .i64 ((s.size : Int) - 2))) none).run Tryd.prog W = .ok (.string (bodyV s)) W := by
    intro W
    rw [run_slice_string_if W 9 s .i64 .i64 2 _ Tryd.underlying9, if_pos ⟨by omega, by omega⟩, if_pos ⟨by omega, by omega⟩, h6]
    rfl
  have hbs : (bodyV s).size ≤ s.size := by unfold bodyV; rw [ByteArray.size_extract]; omega
  obtain ⟨B, hB⟩ : ∃ B, B = bodyV s := ⟨_, rfl⟩
  rw [← hB] at hsl hbs
  have HBV := Lib.hid hB
  have HSP := Lib.hid (fun (W : World) (h : W.cell? ⟨1, 0, none⟩ = some (.int .i64 m)) => Tryd.strings_Split B ⟨#[63]⟩ m W (by omega) h (by decide))
  obtain ⟨N, hN⟩ : ∃ N, Lib.countB B ⟨#[63]⟩ + 1 = N := ⟨_, rfl⟩
  obtain ⟨L, hL⟩ : ∃ L, Lib.splitB ⟨#[63]⟩ 0 (Lib.countB B ⟨#[63]⟩) B = L := ⟨_, rfl⟩
  have hLN : L.length = N := by rw [← hL, ← hN]; exact partsV_length B
  rw [hN, hL] at HSP
  have hcv : cutV s = cutM s L := by
    have : partsV (bodyV s) = L := by unfold partsV; rw [← hB, hL]
    unfold cutV
    rw [if_neg h4, if_neg (fun h => h hA), if_neg (by rw [hZ]; decide), this]
  have hC : (w.alloc (.cells #[.string ⟨#[]⟩, .string ⟨#[]⟩, .string ⟨#[]⟩] 42)).cell? ⟨1, 0, none⟩ = some (.int .i64 m) := by
    rw [← HM.out]
    exact ((Below.refl w.heap.size w).alloc (Nat.le_refl _) _).cell hsz1
  have HCV := Lib.hid hcv
  have HLN := Lib.hid hLN
  have HC := Lib.hid hC
  clear hB hN hL hcv hLN hC
  by_cases h3 : ¬ N = 3
  · have he : cutV s = (E0, E0, E0, false) := by
      rw [HCV.out]
      have := HLN.out
      match L, this with
      | [], _ => rfl
      | [_], _ => rfl
      | [_, _], _ => rfl
      | [_, _, _], h => exact absurd h.symm h3
      | _ :: _ :: _ :: _ :: _, _ => rfl
    rw [he]
    have hn3 : ((N : Int) == 3) = false := by simpa using fun e => h3 (by omega)
    have hn3' : (N == 3) = false := by simpa using h3
    have hn3'' : ¬ (N : Int) = 3 := by omega
    clear he h3
    go_enter Tryd.func23, Tryd.ntmps23
    go_wp2_with fail
    refine (HSP.out _ HC.out).mono ?_
    rintro e w2 ⟨rfl, hw2⟩
    have hW := after_split w w2 L hw2
    have hX := hW.1
    have b0 := blk_cell hX 0
    have b1 := blk_cell hX 1
    have b2 := blk_cell hX 2
    have g0 := blk_frozen hX 0
    have g1 := blk_frozen hX 1
    have g2 := blk_frozen hX 2
    have HX := Lib.hid hX
    have HP := Lib.hid hW.2.1
    have HB := Lib.hid hW.2.2
    clear hW hX hw2
    go_wp2
    refine bodyPost_ret (results_list (rs := [.cell 2 42, .tmp 3]) rfl (by simp) (.cell w.heap.size 42 #[.string ⟨#[]⟩, .string ⟨#[]⟩, .string ⟨#[]⟩] (0, 0) _ rfl (blk_put (blk_put (blk_put HX.out 0 (.string ⟨#[]⟩) rfl) 1 (.string ⟨#[]⟩) rfl) 2 (.string ⟨#[]⟩) rfl) Tryd.underlying42 rfl (by kernel_rfl) (.tmp .nil))) rfl ?_
    exact ⟨rfl, ((HB.out.setCell (p := ⟨w.heap.size, 0, none⟩) (Nat.le_refl _) _).setCell (p := ⟨w.heap.size, 1, none⟩) (Nat.le_refl _) _).setCell (p := ⟨w.heap.size, 2, none⟩) (Nat.le_refl _) _⟩
  replace h3 := Decidable.not_not.1 h3
  have hl3 := HLN.out
  subst h3
  match L, hl3 with
  | [p0, p1, p2], _ =>
  clear HLN
  by_cases hp0 : p0.toList = []
  · have he : cutV s = (E0, E0, E0, false) := by rw [HCV.out, cutM_three]; rw [if_pos hp0]
    rw [he]
    clear he hl3
    have hp0' : p0.toList.isEmpty = true := by rw [hp0]; rfl
    go_enter Tryd.func23, Tryd.ntmps23
    go_wp2_with fail
    refine (HSP.out _ HC.out).mono ?_
    rintro e w2 ⟨rfl, hw2⟩
    have hW := after_split w w2 [p0, p1, p2] hw2
    have hX := hW.1
    have b0 := blk_cell hX 0
    have b1 := blk_cell hX 1
    have b2 := blk_cell hX 2
    have g0 := blk_frozen hX 0
    have g1 := blk_frozen hX 1
    have g2 := blk_frozen hX 2
    have HX := Lib.hid hX
    have HP := Lib.hid hW.2.1
    have HB := Lib.hid hW.2.2
    clear hW hX hw2
    have z0 := HP.out 0 _ rfl
    have z1 := HP.out 1 _ rfl
    have z2 := HP.out 2 _ rfl
    go_wp2
    refine bodyPost_ret (results_list (rs := [.cell 2 42, .tmp 3]) rfl (by simp) (.cell w.heap.size 42 #[.string ⟨#[]⟩, .string ⟨#[]⟩, .string ⟨#[]⟩] (0, 0) _ rfl (blk_put (blk_put (blk_put HX.out 0 (.string ⟨#[]⟩) rfl) 1 (.string ⟨#[]⟩) rfl) 2 (.string ⟨#[]⟩) rfl) Tryd.underlying42 rfl (by kernel_rfl) (.tmp .nil))) rfl ?_
    exact ⟨rfl, ((HB.out.setCell (p := ⟨w.heap.size, 0, none⟩) (Nat.le_refl _) _).setCell (p := ⟨w.heap.size, 1, none⟩) (Nat.le_refl _) _).setCell (p := ⟨w.heap.size, 2, none⟩) (Nat.le_refl _) _⟩
  have hp0' : p0.toList.isEmpty = false := by cases h : p0.toList with | nil => exact absurd h hp0 | cons => rfl
  by_cases hp1 : ¬ p1.size = 1
  · have he : cutV s = (E0, E0, E0, false) := by rw [HCV.out, cutM_three]; rw [if_neg hp0, if_pos hp1]
    rw [he]
    clear he hl3
    have hp1' : ((p1.size : Int) == 1) = false := by simpa using fun e => hp1 (by omega)
    go_enter Tryd.func23, Tryd.ntmps23
    go_wp2_with fail
    refine (HSP.out _ HC.out).mono ?_
    rintro e w2 ⟨rfl, hw2⟩
    have hW := after_split w w2 [p0, p1, p2] hw2
    have hX := hW.1
    have b0 := blk_cell hX 0
    have b1 := blk_cell hX 1
    have b2 := blk_cell hX 2
    have g0 := blk_frozen hX 0
    have g1 := blk_frozen hX 1
    have g2 := blk_frozen hX 2
    have HX := Lib.hid hX
    have HP := Lib.hid hW.2.1
    have HB := Lib.hid hW.2.2
    clear hW hX hw2
    have z0 := HP.out 0 _ rfl
    have z1 := HP.out 1 _ rfl
    have z2 := HP.out 2 _ rfl
    go_wp2
    refine bodyPost_ret (results_list (rs := [.cell 2 42, .tmp 3]) rfl (by simp) (.cell w.heap.size 42 #[.string ⟨#[]⟩, .string ⟨#[]⟩, .string ⟨#[]⟩] (0, 0) _ rfl (blk_put (blk_put (blk_put HX.out 0 (.string ⟨#[]⟩) rfl) 1 (.string ⟨#[]⟩) rfl) 2 (.string ⟨#[]⟩) rfl) Tryd.underlying42 rfl (by kernel_rfl) (.tmp .nil))) rfl ?_
    exact ⟨rfl, ((HB.out.setCell (p := ⟨w.heap.size, 0, none⟩) (Nat.le_refl _) _).setCell (p := ⟨w.heap.size, 1, none⟩) (Nat.le_refl _) _).setCell (p := ⟨w.heap.size, 2, none⟩) (Nat.le_refl _) _⟩
  replace hp1 := Decidable.not_not.1 hp1
  obtain ⟨c, hc⟩ : ∃ c, p1.data.toList.headD 0 = c := ⟨_, rfl⟩
  have hpc : p1 = ⟨#[c]⟩ := by rw [← hc]; exact one_byte p1 hp1
  subst hpc
  have hct := fun W => contains4 c W
  by_cases hin : Lib.indexByte [66, 98, 81, 113] c < 0
  · have he : cutV s = (E0, E0, E0, false) := by rw [HCV.out, cutM_three]; rw [if_neg hp0, if_neg (fun h => h hp1), if_pos (by rw [hc]; exact hin)]
    have hd : decide (0 ≤ Lib.indexByte [66, 98, 81, 113] c) = false := decide_eq_false (by omega)
    rw [hd] at hct
    have HCT := Lib.hid hct
    rw [he]
    clear he hl3 hc hp1 hct hd hin
    go_enter Tryd.func23, Tryd.ntmps23
    go_wp2_with fail
    refine (HSP.out _ HC.out).mono ?_
    rintro e w2 ⟨rfl, hw2⟩
    have hW := after_split w w2 [p0, ⟨#[c]⟩, p2] hw2
    have hX := hW.1
    have b0 := blk_cell hX 0
    have b1 := blk_cell hX 1
    have b2 := blk_cell hX 2
    have g0 := blk_frozen hX 0
    have g1 := blk_frozen hX 1
    have g2 := blk_frozen hX 2
    have HX := Lib.hid hX
    have HP := Lib.hid hW.2.1
    have HB := Lib.hid hW.2.2
    clear hW hX hw2
    have z0 := HP.out 0 _ rfl
    have z1 := HP.out 1 _ rfl
    have z2 := HP.out 2 _ rfl
    go_wp2_with fail
    refine (HCT.out _).mono ?_
    rintro e w3 ⟨rfl, rfl⟩
    go_wp2
    refine bodyPost_ret (results_list (rs := [.cell 2 42, .tmp 3]) rfl (by simp) (.cell w.heap.size 42 #[.string ⟨#[]⟩, .string ⟨#[]⟩, .string ⟨#[]⟩] (0, 0) _ rfl (blk_put (blk_put (blk_put HX.out 0 (.string ⟨#[]⟩) rfl) 1 (.string ⟨#[]⟩) rfl) 2 (.string ⟨#[]⟩) rfl) Tryd.underlying42 rfl (by kernel_rfl) (.tmp .nil))) rfl ?_
    exact ⟨rfl, ((HB.out.setCell (p := ⟨w.heap.size, 0, none⟩) (Nat.le_refl _) _).setCell (p := ⟨w.heap.size, 1, none⟩) (Nat.le_refl _) _).setCell (p := ⟨w.heap.size, 2, none⟩) (Nat.le_refl _) _⟩
  have hd : decide (0 ≤ Lib.indexByte [66, 98, 81, 113] c) = true := decide_eq_true (by omega)
  rw [hd] at hct
  have HCT := Lib.hid hct
  obtain ⟨ok, hok⟩ : ∃ ok, s.data.toList.all shownB = ok := ⟨_, rfl⟩
  have he : cutV s = if ok = true then (p0, ⟨#[c]⟩, p2, true) else (E0, E0, E0, false) := by rw [HCV.out, cutM_three]; rw [if_neg hp0, if_neg (fun h => h hp1), if_neg (by rw [hc]; exact hin), hok]
  rw [he]
  have HOK := Lib.hid hok
  clear he hl3 hc hp1 hct hd hin hok
  go_enter Tryd.func23, Tryd.ntmps23
  go_wp2_with fail
  refine (HSP.out _ HC.out).mono ?_
  rintro e w2 ⟨rfl, hw2⟩
  have hW := after_split w w2 [p0, ⟨#[c]⟩, p2] hw2
  have hX := hW.1
  have b0 := blk_cell hX 0
  have b1 := blk_cell hX 1
  have b2 := blk_cell hX 2
  have g0 := blk_frozen hX 0
  have g1 := blk_frozen hX 1
  have g2 := blk_frozen hX 2
  have HX := Lib.hid hX
  have HP := Lib.hid hW.2.1
  have HB := Lib.hid hW.2.2
  clear hW hX hw2
  have z0 := HP.out 0 _ rfl
  have z1 := HP.out 1 _ rfl
  have z2 := HP.out 2 _ rfl
  go_wp2_with fail
  refine (HCT.out _).mono ?_
  rintro e w3 ⟨rfl, rfl⟩
  go_wp2
  go_loop [55] (fun v => ∃ k : Nat, k ≤ s.size ∧ v = .int .i64 k ∧ ∀ (j : Nat) b, j < k → s.data.toList[j]? = some b → shownB b = true) (fun v => s.size - (intOf v).toNat)
  case atStart => exact ⟨0, by omega, rfl, fun j b h => by omega⟩
  case round =>
    obtain ⟨k, hk, rfl, hall⟩ := hrel
    have HALL := Lib.hid hall
    clear hall
    by_cases hlt : k < s.size
    · obtain ⟨x, hx⟩ : ∃ x : UInt8, s[k]'hlt = x := ⟨_, rfl⟩
      have hxl : s.data.toList[k]? = some x := by rw [← hx]; exact Lib.data_getElem? s k hlt
      have HXL := Lib.hid hxl
      have hx256 := x.toNat_lt
      clear hxl
      by_cases hsh : 33 ≤ x.toNat ∧ x.toNat ≤ 126
      · have q1 : decide ((x.toNat : Int) < 33) = false := decide_eq_false (by omega)
        have q2 : decide ((126 : Int) < (x.toNat : Int)) = false := decide_eq_false (by omega)
        go_wp2
        go_round
        case rel =>
          refine ⟨k + 1, by omega, by go_num, fun j b h hb => ?_⟩
          rcases Nat.lt_or_ge j k with h' | h'
          · exact HALL.out j b h' hb
          · obtain rfl : j = k := by omega
            rw [HXL.out] at hb
            cases hb
            simp only [shownB, Bool.and_eq_true, decide_eq_true_eq]
            exact hsh
        case measure => simp [intOf]; omega
      · have hokf : ok = false := by
          rw [← HOK.out, List.all_eq_false]
          exact ⟨x, List.mem_of_getElem? HXL.out, by simp only [shownB, Bool.and_eq_true, decide_eq_true_eq]; exact hsh⟩
        subst hokf
        by_cases hlo : x.toNat < 33
        · have q1 : decide ((x.toNat : Int) < 33) = true := decide_eq_true (by omega)
          go_wp2
          refine bodyPost_ret (results_list (rs := [.cell 2 42, .tmp 3]) rfl (by simp) (.cell w.heap.size 42 #[.string ⟨#[]⟩, .string ⟨#[]⟩, .string ⟨#[]⟩] (0, 0) _ rfl (blk_put (blk_put (blk_put HX.out 0 (.string ⟨#[]⟩) rfl) 1 (.string ⟨#[]⟩) rfl) 2 (.string ⟨#[]⟩) rfl) Tryd.underlying42 rfl (by kernel_rfl) (.tmp .nil))) rfl ?_
          exact ⟨rfl, ((HB.out.setCell (p := ⟨w.heap.size, 0, none⟩) (Nat.le_refl _) _).setCell (p := ⟨w.heap.size, 1, none⟩) (Nat.le_refl _) _).setCell (p := ⟨w.heap.size, 2, none⟩) (Nat.le_refl _) _⟩
        · have q1 : decide ((x.toNat : Int) < 33) = false := decide_eq_false (by omega)
          have q2 : decide ((126 : Int) < (x.toNat : Int)) = true := decide_eq_true (by omega)
          go_wp2
          refine bodyPost_ret (results_list (rs := [.cell 2 42, .tmp 3]) rfl (by simp) (.cell w.heap.size 42 #[.string ⟨#[]⟩, .string ⟨#[]⟩, .string ⟨#[]⟩] (0, 0) _ rfl (blk_put (blk_put (blk_put HX.out 0 (.string ⟨#[]⟩) rfl) 1 (.string ⟨#[]⟩) rfl) 2 (.string ⟨#[]⟩) rfl) Tryd.underlying42 rfl (by kernel_rfl) (.tmp .nil))) rfl ?_
          exact ⟨rfl, ((HB.out.setCell (p := ⟨w.heap.size, 0, none⟩) (Nat.le_refl _) _).setCell (p := ⟨w.heap.size, 1, none⟩) (Nat.le_refl _) _).setCell (p := ⟨w.heap.size, 2, none⟩) (Nat.le_refl _) _⟩
    · have hokt : ok = true := by
        rw [← HOK.out, List.all_eq_true]
        intro b hb
        obtain ⟨j, hj⟩ := List.mem_iff_getElem?.1 hb
        have hjs : j < s.size := by
          obtain ⟨h, _⟩ := List.getElem?_eq_some_iff.1 hj
          rw [data_length] at h
          exact h
        exact HALL.out j b (by omega) hj
      subst hokt
      obtain rfl : k = s.size := by omega
      go_wp2
      go_region
      go_wp2
      refine bodyPost_ret (results_list (rs := [.cell 2 42, .tmp 3]) rfl (by simp) (.cell w.heap.size 42 #[.string p0, .string ⟨#[c]⟩, .string p2] (0, 0) _ rfl (blk_put (blk_put (blk_put HX.out 0 (.string p0) rfl) 1 (.string ⟨#[c]⟩) rfl) 2 (.string p2) rfl) Tryd.underlying42 rfl (by kernel_rfl) (.tmp .nil))) rfl ?_
      exact ⟨rfl, (((HB.out.setCell (p := ⟨w.heap.size, 0, none⟩) (Nat.le_refl _) _).setCell (p := ⟨w.heap.size, 1, none⟩) (Nat.le_refl _) _).setCell (p := ⟨w.heap.size, 2, none⟩) (Nat.le_refl _) _).drew⟩
end Go.Proofs.YtcnhnpkbklakoaaDoor.Word
