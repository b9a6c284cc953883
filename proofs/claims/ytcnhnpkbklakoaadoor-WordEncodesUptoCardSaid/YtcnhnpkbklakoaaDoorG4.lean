/- word.Decode, word.Needs and wakes by contract. -/
import Derived.Test.YtcnhnpkbklakoaaDoorG3
import Derived.Lib.SplitLaws
import Derived.Laws.DeepStrings4
import Derived.RegionTactic
import Derived.ChangeAlike
import Derived.Test.YtcnhnpkbklakoaaDoorG1
import Derived.Deep.QuietTactic
import Derived.BigQuiet
import Derived.Test.YtcnhnpkbklakoaaDoorG2
import Derived.Laws.Cover4
import Derived.Laws.Closers25b
import Derived.KernelRfl
import Derived.Laws.StructEq
/- word.cut by contract. -/
namespace Go.Proofs.YtcnhnpkbklakoaaDoor.Word
open Go.RowKit Go.Proofs.YtcnhnpkbklakoaaDoorW.PrintWords Go.Proofs.YtcnhnpkbklakoaaDoorW.PrintLast Go.Proofs.YtcnhnpkbklakoaaDoorW.PrintMore Go.Proofs.YtcnhnpkbklakoaaDoor.PWordEncodes
open Go.Proofs.YtcnhnpkbklakoaaDoor.Code Go.Proofs.YtcnhnpkbklakoaaDoor.Runes
attribute [local go_sem] max2_int min2_int max_two min_two max_three min_three max_four min_four
set_option linter.unusedVariables false
set_option linter.unusedSimpArgs false
def bodyV (s : ByteArray) : ByteArray := s.extract 2 (s.size - 2)
def partsV (b : ByteArray) : List ByteArray := Lib.splitB ⟨#[63]⟩ 0 (Lib.countB b ⟨#[63]⟩) b
theorem partsV_length (b : ByteArray) : (partsV b).length = Lib.countB b ⟨#[63]⟩ + 1 := Lib.splitB_all ⟨#[63]⟩ (by decide) 0 _ b rfl
def E0 : ByteArray := ⟨#[]⟩
def shownB (x : UInt8) : Bool := decide (33 ≤ x.toNat) && decide (x.toNat ≤ 126)
def cutM (s : ByteArray) : List ByteArray → ByteArray × ByteArray × ByteArray × Bool
  | [p0, p1, p2] =>
    if p0.toList = [] then (E0, E0, E0, false) else
    if ¬ p1.size = 1 then (E0, E0, E0, false) else
    if Lib.indexByte [66, 98, 81, 113] (p1.data.toList.headD 0) < 0 then (E0, E0, E0, false) else
    if s.data.toList.all shownB = true then (p0, p1, p2, true) else (E0, E0, E0, false)
  | _ => (E0, E0, E0, false)
theorem cutM_three (s p0 p1 p2 : ByteArray) : cutM s [p0, p1, p2] = if p0.toList = [] then (E0, E0, E0, false) else
    if ¬ p1.size = 1 then (E0, E0, E0, false) else
    if Lib.indexByte [66, 98, 81, 113] (p1.data.toList.headD 0) < 0 then (E0, E0, E0, false) else
    if s.data.toList.all shownB = true then (p0, p1, p2, true) else (E0, E0, E0, false) := rfl
/-- a word's parts: charset, coding, text; is it one? -/
def cutV (s : ByteArray) : ByteArray × ByteArray × ByteArray × Bool :=
  if s.size < 4 then (E0, E0, E0, false) else
  if ¬ (s.extract 0 2).toList = [61, 63] then (E0, E0, E0, false) else
  if ((s.extract (s.size - 2) s.size).toList == [63, 61]) = false then (E0, E0, E0, false) else
  cutM s (partsV (bodyV s))
theorem one_byte (p : ByteArray) (h : p.size = 1) : p = ⟨#[p.data.toList.headD 0]⟩ := by
  apply ByteArray.ext
  apply Array.ext'
  have h' : p.data.toList.length = 1 := h
  match e : p.data.toList, h' with
  | [c], _ => rfl
theorem contains4 (c : UInt8) (W : World) : Calls Tryd.prog 45 #[.string ⟨#[66, 98, 81, 113]⟩, .string ⟨#[c]⟩] W fun e w' => e = .returned (.bool (decide (0 ≤ Lib.indexByte [66, 98, 81, 113] c))) ∧ w' = W := Tryd.strings_Contains_one ⟨#[66, 98, 81, 113]⟩ c W
theorem info42 : (Tryd.prog.info? 42).map (fun i => (i.zero, i.size, i.bytes)) = some (some (.agg #[.string ⟨#[]⟩, .string ⟨#[]⟩, .string ⟨#[]⟩]), 3, 48) := by kernel_rfl
theorem after_split (w w2 : World) (L : List ByteArray) (h : w2 = (w.alloc (.cells #[.string ⟨#[]⟩, .string ⟨#[]⟩, .string ⟨#[]⟩] 42)).alloc (.cells (L.map Value.string).toArray 9)) :
    w2.heap[w.heap.size]? = some (.cells #[.string ⟨#[]⟩, .string ⟨#[]⟩, .string ⟨#[]⟩] 42 (0, 0)) ∧ (∀ (j : Nat) x, L[j]? = some x → w2.cell? ⟨w.heap.size + 1, j, none⟩ = some (.string x)) ∧ Below w.heap.size w w2 := by
  subst h
  refine ⟨?_, ?_, ((Below.refl _ _).alloc (Nat.le_refl _) _).alloc (by simp) _⟩
  · rw [heap_alloc_old _ _ (by simp)]
    exact heap_alloc_new w _
  · intro j x hj
    have hz : (w.alloc (.cells #[.string ⟨#[]⟩, .string ⟨#[]⟩, .string ⟨#[]⟩] 42)).heap.size = w.heap.size + 1 := by simp
    have := blk_cell (hz ▸ heap_alloc_new (w.alloc (.cells #[.string ⟨#[]⟩, .string ⟨#[]⟩, .string ⟨#[]⟩] 42)) (.cells (L.map Value.string).toArray 9)) j
    rw [this]
    simp [hj]
set_option maxHeartbeats 4000000 in
set_option maxRecDepth 100000 in
theorem cut_calls (s : ByteArray) (m : Int) (w : World) (hs : s.size ≤ 3000000000) (hm : w.cell? ⟨1, 0, none⟩ = some (.int .i64 m)) :
    Calls Tryd.prog 23 #[.string s] w fun e w' => e = .returned (.tuple #[.agg #[.string (cutV s).1, .string (cutV s).2.1, .string (cutV s).2.2.1], .bool (cutV s).2.2.2]) ∧ Below w.heap.size w w' := by
  have hu42 := Tryd.underlying42
  have hsz1 := World.block_lt_of_cell? w _ hm
  have HM := Lib.hid hm
  clear hm
  by_cases h4 : s.size < 4
  · have he : cutV s = (E0, E0, E0, false) := by unfold cutV; rw [if_pos h4]
    rw [he]
    clear he
    go_enter Tryd.func23, Tryd.ntmps23
    go_wp2
    refine bodyPost_ret (v := .tuple #[.agg #[.string ⟨#[]⟩, .string ⟨#[]⟩, .string ⟨#[]⟩], .bool false]) (by simp [results, Tryd.results23, go_sem]) rfl ?_
    exact ⟨rfl, (Below.refl _ _).alloc (Nat.le_refl _) _⟩
  have h5 : (2 : Int) ≤ (s.size : Int) - 2 := by omega
  have h4b : decide ((s.size : Int) < 4) = false := decide_eq_false (by omega)
  have h6 : ((s.size : Int) - 2).toNat = s.size - 2 := by omega
  by_cases hA : ¬ (s.extract 0 2).toList = [61, 63]
  · have he : cutV s = (E0, E0, E0, false) := by unfold cutV; rw [if_neg h4, if_pos hA]
    rw [he]
    clear he
    go_enter Tryd.func23, Tryd.ntmps23
    go_wp2
    refine bodyPost_ret (v := .tuple #[.agg #[.string ⟨#[]⟩, .string ⟨#[]⟩, .string ⟨#[]⟩], .bool false]) (by simp [results, Tryd.results23, go_sem]) rfl ?_
    exact ⟨rfl, (Below.refl _ _).alloc (Nat.le_refl _) _⟩
  replace hA := Decidable.not_not.1 hA
  cases hZ : ((s.extract (s.size - 2) s.size).toList == [63, 61])
  · have he : cutV s = (E0, E0, E0, false) := by unfold cutV; rw [if_neg h4, if_neg (fun h => h hA), if_pos hZ]
    rw [he]
    clear he
    go_enter Tryd.func23, Tryd.ntmps23
    go_wp2
    refine bodyPost_ret (v := .tuple #[.agg #[.string ⟨#[]⟩, .string ⟨#[]⟩, .string ⟨#[]⟩], .bool false]) (by simp [results, Tryd.results23, go_sem]) rfl ?_
    exact ⟨rfl, (Below.refl _ _).alloc (Nat.le_refl _) _⟩
  have hsl : ∀ W : World, (Instr.slice 9 (.string s) (some (.int .i64 2)) (some (.int .i64 ((s.size : Int) - 2))) none).run Tryd.prog W = .ok (.string (bodyV s)) W := by
    intro W
    rw [run_slice_string_if W 9 s .i64 .i64 2 _ Tryd.underlying9, if_pos ⟨by omega, by omega⟩, if_pos ⟨by omega, by omega⟩, h6]
    rfl
  have hbs : (bodyV s).size ≤ s.size := by unfold bodyV; rw [ByteArray.size_extract]; omega
  obtain ⟨B, hB⟩ : ∃ B, B = bodyV s := ⟨_, rfl⟩
  rw [← hB] at hsl hbs
  have HBV := Lib.hid hB
  have HSP := Lib.hid (fun (W : World) (h : W.cell? ⟨1, 0, none⟩ = some (.int .i64 m)) => Tryd.strings_Split B ⟨#[63]⟩ m W (by omega) h (by decide))
  obtain ⟨N, hN⟩ : ∃ N, Lib.countB B ⟨#[63]⟩ + 1 = N := ⟨_, rfl⟩
  obtain ⟨L, hL⟩ : ∃ L, Lib.splitB ⟨#[63]⟩ 0 (Lib.countB B ⟨#[63]⟩) B = L := ⟨_, rfl⟩
  have hLN : L.length = N := by rw [← hL, ← hN]; exact partsV_length B
  rw [hN, hL] at HSP
  have hcv : cutV s = cutM s L := by
    have : partsV (bodyV s) = L := by unfold partsV; rw [← hB, hL]
    unfold cutV
    rw [if_neg h4, if_neg (fun h => h hA), if_neg (by rw [hZ]; decide), this]
  have hC : (w.alloc (.cells #[.string ⟨#[]⟩, .string ⟨#[]⟩, .string ⟨#[]⟩] 42)).cell? ⟨1, 0, none⟩ = some (.int .i64 m) := by
    rw [← HM.out]
    exact ((Below.refl w.heap.size w).alloc (Nat.le_refl _) _).cell hsz1
  have HCV := Lib.hid hcv
  have HLN := Lib.hid hLN
  have HC := Lib.hid hC
  clear hB hN hL hcv hLN hC
  by_cases h3 : ¬ N = 3
  · have he : cutV s = (E0, E0, E0, false) := by
      rw [HCV.out]
      have := HLN.out
      match L, this with
      | [], _ => rfl
      | [_], _ => rfl
      | [_, _], _ => rfl
      | [_, _, _], h => exact absurd h.symm h3
      | _ :: _ :: _ :: _ :: _, _ => rfl
    rw [he]
    have hn3 : ((N : Int) == 3) = false := by simpa using fun e => h3 (by omega)
    have hn3' : (N == 3) = false := by simpa using h3
    have hn3'' : ¬ (N : Int) = 3 := by omega
    clear he h3
    go_enter Tryd.func23, Tryd.ntmps23
    go_wp2_with fail
    refine (HSP.out _ HC.out).mono ?_
    rintro e w2 ⟨rfl, hw2⟩
    have hW := after_split w w2 L hw2
    have hX := hW.1
    have b0 := blk_cell hX 0
    have b1 := blk_cell hX 1
    have b2 := blk_cell hX 2
    have g0 := blk_frozen hX 0
    have g1 := blk_frozen hX 1
    have g2 := blk_frozen hX 2
    have HX := Lib.hid hX
    have HP := Lib.hid hW.2.1
    have HB := Lib.hid hW.2.2
    clear hW hX hw2
    go_wp2
    refine bodyPost_ret (results_list (rs := [.cell 2 42, .tmp 3]) rfl (by simp) (.cell w.heap.size 42 #[.string ⟨#[]⟩, .string ⟨#[]⟩, .string ⟨#[]⟩] (0, 0) _ rfl (blk_put (blk_put (blk_put HX.out 0 (.string ⟨#[]⟩) rfl) 1 (.string ⟨#[]⟩) rfl) 2 (.string ⟨#[]⟩) rfl) Tryd.underlying42 rfl (by kernel_rfl) (.tmp .nil))) rfl ?_
    exact ⟨rfl, ((HB.out.setCell (p := ⟨w.heap.size, 0, none⟩) (Nat.le_refl _) _).setCell (p := ⟨w.heap.size, 1, none⟩) (Nat.le_refl _) _).setCell (p := ⟨w.heap.size, 2, none⟩) (Nat.le_refl _) _⟩
  replace h3 := Decidable.not_not.1 h3
  have hl3 := HLN.out
  subst h3
  match L, hl3 with
  | [p0, p1, p2], _ =>
  clear HLN
  by_cases hp0 : p0.toList = []
  · have he : cutV s = (E0, E0, E0, false) := by rw [HCV.out, cutM_three]; rw [if_pos hp0]
    rw [he]
    clear he hl3
    have hp0' : p0.toList.isEmpty = true := by rw [hp0]; rfl
    go_enter Tryd.func23, Tryd.ntmps23
    go_wp2_with fail
    refine (HSP.out _ HC.out).mono ?_
    rintro e w2 ⟨rfl, hw2⟩
    have hW := after_split w w2 [p0, p1, p2] hw2
    have hX := hW.1
    have b0 := blk_cell hX 0
    have b1 := blk_cell hX 1
    have b2 := blk_cell hX 2
    have g0 := blk_frozen hX 0
    have g1 := blk_frozen hX 1
    have g2 := blk_frozen hX 2
    have HX := Lib.hid hX
    have HP := Lib.hid hW.2.1
    have HB := Lib.hid hW.2.2
    clear hW hX hw2
    have z0 := HP.out 0 _ rfl
    have z1 := HP.out 1 _ rfl
    have z2 := HP.out 2 _ rfl
    go_wp2
    refine bodyPost_ret (results_list (rs := [.cell 2 42, .tmp 3]) rfl (by simp) (.cell w.heap.size 42 #[.string ⟨#[]⟩, .string ⟨#[]⟩, .string ⟨#[]⟩] (0, 0) _ rfl (blk_put (blk_put (blk_put HX.out 0 (.string ⟨#[]⟩) rfl) 1 (.string ⟨#[]⟩) rfl) 2 (.string ⟨#[]⟩) rfl) Tryd.underlying42 rfl (by kernel_rfl) (.tmp .nil))) rfl ?_
    exact ⟨rfl, ((HB.out.setCell (p := ⟨w.heap.size, 0, none⟩) (Nat.le_refl _) _).setCell (p := ⟨w.heap.size, 1, none⟩) (Nat.le_refl _) _).setCell (p := ⟨w.heap.size, 2, none⟩) (Nat.le_refl _) _⟩
  have hp0' : p0.toList.isEmpty = false := by cases h : p0.toList with | nil => exact absurd h hp0 | cons => rfl
  by_cases hp1 : ¬ p1.size = 1
  · have he : cutV s = (E0, E0, E0, false) := by rw [HCV.out, cutM_three]; rw [if_neg hp0, if_pos hp1]
    rw [he]
    clear he hl3
    have hp1' : ((p1.size : Int) == 1) = false := by simpa using fun e => hp1 (by omega)
    go_enter Tryd.func23, Tryd.ntmps23
    go_wp2_with fail
    refine (HSP.out _ HC.out).mono ?_
    rintro e w2 ⟨rfl, hw2⟩
    have hW := after_split w w2 [p0, p1, p2] hw2
    have hX := hW.1
    have b0 := blk_cell hX 0
    have b1 := blk_cell hX 1
    have b2 := blk_cell hX 2
    have g0 := blk_frozen hX 0
    have g1 := blk_frozen hX 1
    have g2 := blk_frozen hX 2
    have HX := Lib.hid hX
    have HP := Lib.hid hW.2.1
    have HB := Lib.hid hW.2.2
    clear hW hX hw2
    have z0 := HP.out 0 _ rfl
    have z1 := HP.out 1 _ rfl
    have z2 := HP.out 2 _ rfl
    go_wp2
    refine bodyPost_ret (results_list (rs := [.cell 2 42, .tmp 3]) rfl (by simp) (.cell w.heap.size 42 #[.string ⟨#[]⟩, .string ⟨#[]⟩, .string ⟨#[]⟩] (0, 0) _ rfl (blk_put (blk_put (blk_put HX.out 0 (.string ⟨#[]⟩) rfl) 1 (.string ⟨#[]⟩) rfl) 2 (.string ⟨#[]⟩) rfl) Tryd.underlying42 rfl (by kernel_rfl) (.tmp .nil))) rfl ?_
    exact ⟨rfl, ((HB.out.setCell (p := ⟨w.heap.size, 0, none⟩) (Nat.le_refl _) _).setCell (p := ⟨w.heap.size, 1, none⟩) (Nat.le_refl _) _).setCell (p := ⟨w.heap.size, 2, none⟩) (Nat.le_refl _) _⟩
  replace hp1 := Decidable.not_not.1 hp1
  obtain ⟨c, hc⟩ : ∃ c, p1.data.toList.headD 0 = c := ⟨_, rfl⟩
  have hpc : p1 = ⟨#[c]⟩ := by rw [← hc]; exact one_byte p1 hp1
  subst hpc
  have hct := fun W => contains4 c W
  by_cases hin : Lib.indexByte [66, 98, 81, 113] c < 0
  · have he : cutV s = (E0, E0, E0, false) := by rw [HCV.out, cutM_three]; rw [if_neg hp0, if_neg (fun h => h hp1), if_pos (by rw [hc]; exact hin)]
    have hd : decide (0 ≤ Lib.indexByte [66, 98, 81, 113] c) = false := decide_eq_false (by omega)
    rw [hd] at hct
    have HCT := Lib.hid hct
    rw [he]
    clear he hl3 hc hp1 hct hd hin
    go_enter Tryd.func23, Tryd.ntmps23
    go_wp2_with fail
    refine (HSP.out _ HC.out).mono ?_
    rintro e w2 ⟨rfl, hw2⟩
    have hW := after_split w w2 [p0, ⟨#[c]⟩, p2] hw2
    have hX := hW.1
    have b0 := blk_cell hX 0
    have b1 := blk_cell hX 1
    have b2 := blk_cell hX 2
    have g0 := blk_frozen hX 0
    have g1 := blk_frozen hX 1
    have g2 := blk_frozen hX 2
    have HX := Lib.hid hX
    have HP := Lib.hid hW.2.1
    have HB := Lib.hid hW.2.2
    clear hW hX hw2
    have z0 := HP.out 0 _ rfl
    have z1 := HP.out 1 _ rfl
    have z2 := HP.out 2 _ rfl
    go_wp2_with fail
    refine (HCT.out _).mono ?_
    rintro e w3 ⟨rfl, rfl⟩
    go_wp2
    refine bodyPost_ret (results_list (rs := [.cell 2 42, .tmp 3]) rfl (by simp) (.cell w.heap.size 42 #[.string ⟨#[]⟩, .string ⟨#[]⟩, .string ⟨#[]⟩] (0, 0) _ rfl (blk_put (blk_put (blk_put HX.out 0 (.string ⟨#[]⟩) rfl) 1 (.string ⟨#[]⟩) rfl) 2 (.string ⟨#[]⟩) rfl) Tryd.underlying42 rfl (by kernel_rfl) (.tmp .nil))) rfl ?_
    exact ⟨rfl, ((HB.out.setCell (p := ⟨w.heap.size, 0, none⟩) (Nat.le_refl _) _).setCell (p := ⟨w.heap.size, 1, none⟩) (Nat.le_refl _) _).setCell (p := ⟨w.heap.size, 2, none⟩) (Nat.le_refl _) _⟩
  have hd : decide (0 ≤ Lib.indexByte [66, 98, 81, 113] c) = true := decide_eq_true (by omega)
  rw [hd] at hct
  have HCT := Lib.hid hct
  obtain ⟨ok, hok⟩ : ∃ ok, s.data.toList.all shownB = ok := ⟨_, rfl⟩
  have he : cutV s = if ok = true then (p0, ⟨#[c]⟩, p2, true) else (E0, E0, E0, false) := by rw [HCV.out, cutM_three]; rw [if_neg hp0, if_neg (fun h => h hp1), if_neg (by rw [hc]; exact hin), hok]
  rw [he]
  have HOK := Lib.hid hok
  clear he hl3 hc hp1 hct hd hin hok
  go_enter Tryd.func23, Tryd.ntmps23
  go_wp2_with fail
  refine (HSP.out _ HC.out).mono ?_
  rintro e w2 ⟨rfl, hw2⟩
  have hW := after_split w w2 [p0, ⟨#[c]⟩, p2] hw2
  have hX := hW.1
  have b0 := blk_cell hX 0
  have b1 := blk_cell hX 1
  have b2 := blk_cell hX 2
  have g0 := blk_frozen hX 0
  have g1 := blk_frozen hX 1
  have g2 := blk_frozen hX 2
  have HX := Lib.hid hX
  have HP := Lib.hid hW.2.1
  have HB := Lib.hid hW.2.2
  clear hW hX hw2
  have z0 := HP.out 0 _ rfl
  have z1 := HP.out 1 _ rfl
  have z2 := HP.out 2 _ rfl
  go_wp2_with fail
  refine (HCT.out _).mono ?_
  rintro e w3 ⟨rfl, rfl⟩
  go_wp2
  go_loop [55] (fun v => ∃ k : Nat, k ≤ s.size ∧ v = .int .i64 k ∧ ∀ (j : Nat) b, j < k → s.data.toList[j]? = some b → shownB b = true) (fun v => s.size - (intOf v).toNat)
  case atStart => exact ⟨0, by omega, rfl, fun j b h => by omega⟩
  case round =>
    obtain ⟨k, hk, rfl, hall⟩ := hrel
    have HALL := Lib.hid hall
    clear hall
    by_cases hlt : k < s.size
    · obtain ⟨x, hx⟩ : ∃ x : UInt8, s[k]'hlt = x := ⟨_, rfl⟩
      have hxl : s.data.toList[k]? = some x := by rw [← hx]; exact Lib.data_getElem? s k hlt
      have HXL := Lib.hid hxl
      have hx256 := x.toNat_lt
      clear hxl
      by_cases hsh : 33 ≤ x.toNat ∧ x.toNat ≤ 126
      · have q1 : decide ((x.toNat : Int) < 33) = false := decide_eq_false (by omega)
        have q2 : decide ((126 : Int) < (x.toNat : Int)) = false := decide_eq_false (by omega)
        go_wp2
        go_round
        case rel =>
          refine ⟨k + 1, by omega, by go_num, fun j b h hb => ?_⟩
          rcases Nat.lt_or_ge j k with h' | h'
          · exact HALL.out j b h' hb
          · obtain rfl : j = k := by omega
            rw [HXL.out] at hb
            cases hb
            simp only [shownB, Bool.and_eq_true, decide_eq_true_eq]
            exact hsh
        case measure => simp [intOf]; omega
      · have hokf : ok = false := by
          rw [← HOK.out, List.all_eq_false]
          exact ⟨x, List.mem_of_getElem? HXL.out, by simp only [shownB, Bool.and_eq_true, decide_eq_true_eq]; exact hsh⟩
        subst hokf
        by_cases hlo : x.toNat < 33
        · have q1 : decide ((x.toNat : Int) < 33) = true := decide_eq_true (by omega)
          go_wp2
          refine bodyPost_ret (results_list (rs := [.cell 2 42, .tmp 3]) rfl (by simp) (.cell w.heap.size 42 #[.string ⟨#[]⟩, .string ⟨#[]⟩, .string ⟨#[]⟩] (0, 0) _ rfl (blk_put (blk_put (blk_put HX.out 0 (.string ⟨#[]⟩) rfl) 1 (.string ⟨#[]⟩) rfl) 2 (.string ⟨#[]⟩) rfl) Tryd.underlying42 rfl (by kernel_rfl) (.tmp .nil))) rfl ?_
          exact ⟨rfl, ((HB.out.setCell (p := ⟨w.heap.size, 0, none⟩) (Nat.le_refl _) _).setCell (p := ⟨w.heap.size, 1, none⟩) (Nat.le_refl _) _).setCell (p := ⟨w.heap.size, 2, none⟩) (Nat.le_refl _) _⟩
        · have q1 : decide ((x.toNat : Int) < 33) = false := decide_eq_false (by omega)
          have q2 : decide ((126 : Int) < (x.toNat : Int)) = true := decide_eq_true (by omega)
          go_wp2
          refine bodyPost_ret (results_list (rs := [.cell 2 42, .tmp 3]) rfl (by simp) (.cell w.heap.size 42 #[.string ⟨#[]⟩, .string ⟨#[]⟩, .string ⟨#[]⟩] (0, 0) _ rfl (blk_put (blk_put (blk_put HX.out 0 (.string ⟨#[]⟩) rfl) 1 (.string ⟨#[]⟩) rfl) 2 (.string ⟨#[]⟩) rfl) Tryd.underlying42 rfl (by kernel_rfl) (.tmp .nil))) rfl ?_
          exact ⟨rfl, ((HB.out.setCell (p := ⟨w.heap.size, 0, none⟩) (Nat.le_refl _) _).setCell (p := ⟨w.heap.size, 1, none⟩) (Nat.le_refl _) _).setCell (p := ⟨w.heap.size, 2, none⟩) (Nat.le_refl _) _⟩
    · have hokt : ok = true := by
        rw [← HOK.out, List.all_eq_true]
        intro b hb
        obtain ⟨j, hj⟩ := List.mem_iff_getElem?.1 hb
        have hjs : j < s.size := by
          obtain ⟨h, _⟩ := List.getElem?_eq_some_iff.1 hj
          rw [data_length] at h
          exact h
        exact HALL.out j b (by omega) hj
      subst hokt
      obtain rfl : k = s.size := by omega
      go_wp2
      go_region
      go_wp2
      refine bodyPost_ret (results_list (rs := [.cell 2 42, .tmp 3]) rfl (by simp) (.cell w.heap.size 42 #[.string p0, .string ⟨#[c]⟩, .string p2] (0, 0) _ rfl (blk_put (blk_put (blk_put HX.out 0 (.string p0) rfl) 1 (.string ⟨#[c]⟩) rfl) 2 (.string p2) rfl) Tryd.underlying42 rfl (by kernel_rfl) (.tmp .nil))) rfl ?_
      exact ⟨rfl, (((HB.out.setCell (p := ⟨w.heap.size, 0, none⟩) (Nat.le_refl _) _).setCell (p := ⟨w.heap.size, 1, none⟩) (Nat.le_refl _) _).setCell (p := ⟨w.heap.size, 2, none⟩) (Nat.le_refl _) _).drew⟩
end Go.Proofs.YtcnhnpkbklakoaaDoor.Word
/- word.encoded.bytes by contract. -/
namespace Go.Proofs.YtcnhnpkbklakoaaDoor.Word
open Go.RowKit Go.Proofs.YtcnhnpkbklakoaaDoorW.PrintWords Go.Proofs.YtcnhnpkbklakoaaDoorW.PrintLast Go.Proofs.YtcnhnpkbklakoaaDoorW.PrintMore Go.Proofs.YtcnhnpkbklakoaaDoor.PWordEncodes
open Go.Proofs.YtcnhnpkbklakoaaDoor.Code Go.Proofs.YtcnhnpkbklakoaaDoor.Runes Go.Proofs.YtcnhnpkbklakoaaDoor.Unhex
attribute [local go_sem] max2_int min2_int max_two min_two max_three min_three max_four min_four
set_option linter.unusedVariables false
set_option linter.unusedSimpArgs false
def hexB (x : UInt8) : Bool := Octet.isIn 4 x.toNat
/-- the bytes of a text in Q, or the place that is wrong (below 0: none) -/
def qGo : List UInt8 → Nat → List Int → List Int × Int
  | [], _, out => (out, -1)
  | [c], i, out => if c = 95 then (out ++ [32], -1) else if c = 61 then ([], i) else (out ++ [(c.toNat : Int)], -1)
  | [c, d], i, out => if c = 95 then qGo [d] (i + 1) (out ++ [32]) else if c = 61 then ([], i) else qGo [d] (i + 1) (out ++ [(c.toNat : Int)])
  | c :: a :: b :: r, i, out =>
    if c = 95 then qGo (a :: b :: r) (i + 1) (out ++ [32]) else
    if c = 61 then (if hexB a = true ∧ hexB b = true then qGo r (i + 3) (out ++ [16 * hexD a + hexD b]) else ([], i)) else
    qGo (a :: b :: r) (i + 1) (out ++ [(c.toNat : Int)])
theorem qGo_under (r : List UInt8) (i : Nat) (out : List Int) : qGo (95 :: r) i out = qGo r (i + 1) (out ++ [32]) := by
  match r with
  | [] => simp [qGo]
  | [d] => simp only [qGo, if_true]
  | a :: b :: r => simp only [qGo, if_true]
theorem qGo_other (c : UInt8) (r : List UInt8) (i : Nat) (out : List Int) (h1 : c ≠ 95) (h2 : c ≠ 61) : qGo (c :: r) i out = qGo r (i + 1) (out ++ [(c.toNat : Int)]) := by
  match r with
  | [] => simp only [qGo, if_neg h1, if_neg h2]
  | [d] => simp only [qGo, if_neg h1, if_neg h2]
  | a :: b :: r => simp only [qGo, if_neg h1, if_neg h2]
theorem qGo_hex (a b : UInt8) (r : List UInt8) (i : Nat) (out : List Int) (ha : hexB a = true) (hb : hexB b = true) : qGo (61 :: a :: b :: r) i out = qGo r (i + 3) (out ++ [16 * hexD a + hexD b]) := by
  rw [qGo, if_neg (by decide), if_pos rfl, if_pos ⟨ha, hb⟩]
theorem qGo_bad (r : List UInt8) (i : Nat) (out : List Int) (h : Octet.badAt 4 r < 2) : qGo (61 :: r) i out = ([], (i : Int)) := by
  match r, h with
  | [], _ => rfl
  | [d], _ => rfl
  | a :: b :: r, h =>
    rw [qGo, if_neg (by decide), if_pos rfl, if_neg]
    rintro ⟨ha, hb⟩
    unfold hexB at ha hb
    unfold Octet.badAt at h
    rw [List.findIdx_cons, ha] at h
    simp only [Bool.not_true, cond_false] at h
    rw [List.findIdx_cons, hb] at h
    simp only [Bool.not_true, cond_false] at h
    omega
theorem bad_two (r : List UInt8) (h : ¬ Octet.badAt 4 r < 2) : ∃ a b r', r = a :: b :: r' ∧ hexB a = true ∧ hexB b = true := by
  match r, h with
  | [], h => exact absurd (show Octet.badAt 4 [] < 2 by decide) h
  | [d], h =>
    have := Octet.badAt_le 4 [d]
    simp only [List.length_cons, List.length_nil] at this
    omega
  | a :: b :: r, h =>
    refine ⟨a, b, r, rfl, ?_⟩
    unfold hexB
    unfold Octet.badAt at h
    cases ha : Octet.isIn 4 a.toNat
    · rw [List.findIdx_cons, ha] at h
      simp at h
    · rw [List.findIdx_cons, ha] at h
      simp only [Bool.not_true, cond_false] at h
      cases hb : Octet.isIn 4 b.toNat
      · rw [List.findIdx_cons, hb] at h
        simp at h
      · exact ⟨rfl, rfl⟩
def unB (t : List UInt8) : List Int × Int := if (unV t).2.1 ≠ 0 then ([], ((unV t).2.2 : Int)) else ((unV t).1, -1)
set_option maxHeartbeats 4000000 in
set_option maxRecDepth 100000 in
theorem bytesB_calls (ch t : ByteArray) (c : UInt8) (hc : c = 66 ∨ c = 98) (w : World) (ht : t.size ≤ 3000000000) :
    Calls Tryd.prog 26 #[.agg #[.string ch, .string ⟨#[c]⟩, .string t]] w fun e w' => ∃ V, e = .returned (.tuple #[V, .int .i64 (unB t.data.toList).2]) ∧ w'.ownsRow w.heap.size 5 1 V (unB t.data.toList).1.length (nums .u8 (unB t.data.toList).1) ∧ Below w.heap.size w w' := by
  have hu25 := Tryd.underlying25
  have hu42 := Tryd.underlying42
  have HU := Lib.hid (fun W => unbase64_calls t W ht)
  have hB0 := (Below.refl w.heap.size w).alloc (Nat.le_refl _) (.cells #[.string ch, .string ⟨#[c]⟩, .string t] 42)
  obtain ⟨D, hD⟩ : ∃ D, D = unB t.data.toList := ⟨_, rfl⟩
  rw [← hD]
  obtain ⟨d0, w0⟩ := D
  have HD := Lib.hid hD
  have HB0 := Lib.hid hB0
  clear hD hB0
  rcases hc with rfl | rfl
  all_goals
    go_enter Tryd.func26, Tryd.ntmps26
    go_wp2_with fail
    refine (HU.out _).mono ?_
    rintro e w1 ⟨V, d, er, at_, hv, rfl, ho, hb⟩
    have HO := Lib.hid ho
    have HB := Lib.hid (HB0.out.trans (hb.mono HB0.out.size))
    have HE : Hid ((d0, w0) = if er ≠ 0 then ([], (at_ : Int)) else (d, -1)) := Lib.hid (by rw [HD.out]; unfold unB; rw [hv])
    have hbz := hb.size
    clear hv ho hb
    have hz1 : w.heap.size + 1 ≤ w1.heap.size := by
      have := hbz
      simp at this
      exact this
    by_cases he : er = 0
    · subst he
      have hdd := HE.out
      rw [if_neg (fun h => h rfl)] at hdd
      obtain ⟨rfl, rfl⟩ := Prod.mk.inj hdd
      clear hdd
      go_wp2
      refine bodyPost_ret (results_list (rs := [.tmp 2, .tmp 3]) rfl (by simp) (.tmp (.tmp .nil))) rfl ?_
      exact ⟨_, rfl, (own_low HO.out (by simp)).alloc _, HB.out.alloc HB.out.size _⟩
    · have hdd := HE.out
      rw [if_pos he] at hdd
      obtain ⟨rfl, rfl⟩ := Prod.mk.inj hdd
      clear hdd
      have heb : (er == 0) = false := by simpa using he
      have heb' : (er != 0) = true := by simpa using he
      go_wp2
      go_quiet (fail)
      go_wp2
      refine bodyPost_ret (results_list (rs := [.tmp 2, .tmp 3]) rfl (by simp) (.tmp (.tmp .nil))) rfl ?_
      exact ⟨_, rfl, own_nil _ _ _ _, below_drewN' (HB.out.alloc HB.out.size _) _⟩
theorem drop_cons (t : ByteArray) (k : Nat) (h : k < t.size) : t.data.toList.drop k = t[k]'h :: t.data.toList.drop (k + 1) := Code.drop_at t k h
theorem two_bytes (t : ByteArray) (k : Nat) (a b : UInt8) (r : List UInt8) (h : t.data.toList.drop k = a :: b :: r) : k + 2 ≤ t.size ∧ t.extract k (k + 2) = two2 a b := by
  have hl := congrArg List.length h
  rw [List.length_drop, data_length] at hl
  simp only [List.length_cons] at hl
  refine ⟨by omega, ?_⟩
  apply ByteArray.ext
  apply Array.ext'
  rw [Lib.extract_data, h, show k + 2 - k = 2 by omega]
  rfl
set_option maxHeartbeats 8000000 in
set_option maxRecDepth 100000 in
theorem bytesQ_calls (ch t : ByteArray) (c : UInt8) (hc : c = 81 ∨ c = 113) (w : World) (ht : t.size ≤ 3000000000) (hT : Octet.Laid w) :
    Calls Tryd.prog 26 #[.agg #[.string ch, .string ⟨#[c]⟩, .string t]] w fun e w' => ∃ V, e = .returned (.tuple #[V, .int .i64 (qGo t.data.toList 0 []).2]) ∧ w'.ownsRow w.heap.size 5 1 V (qGo t.data.toList 0 []).1.length (nums .u8 (qGo t.data.toList 0 []).1) ∧ Below w.heap.size w w' := by
  have hu25 := Tryd.underlying25
  have hu42 := Tryd.underlying42
  obtain ⟨W0, hW0⟩ : ∃ W0, W0 = w.alloc (.cells #[.string ch, .string ⟨#[c]⟩, .string t] 42) := ⟨_, rfl⟩
  have hsz : W0.heap.size = w.heap.size + 1 := by rw [hW0]; simp
  have hbox : W0.heap[w.heap.size]? = some (.cells #[.string ch, .string ⟨#[c]⟩, .string t] 42 (0, 0)) := by rw [hW0]; exact heap_alloc_new w _
  have hBw : Below w.heap.size w W0 := by rw [hW0]; exact (Below.refl _ _).alloc (Nat.le_refl _) _
  have HX := Lib.hid hbox
  have HBW := Lib.hid hBw
  have HSZ := Lib.hid hsz
  have HT := Lib.hid hT
  obtain ⟨D, hD⟩ : ∃ D, D = qGo t.data.toList 0 [] := ⟨_, rfl⟩
  rw [← hD]
  have HD := Lib.hid hD
  have HW0 := Lib.hid hW0
  clear hbox hBw hsz hT hD hW0
  rcases hc with rfl | rfl
  all_goals
    go_enter Tryd.func26, Tryd.ntmps26
    go_wp2
    rw [← HW0.out]
    go_loopw [6, 7] (fun o v wr => ∃ (k : Nat) (d : List Int), k ≤ t.size ∧ v = .int .i64 k ∧ D = qGo (t.data.toList.drop k) k d ∧ wr.ownsRow (w.heap.size + 1) 5 1 o d.length (nums .u8 d) ∧ Below (w.heap.size + 1) W0 wr ∧ d.length ≤ k) (fun _ v _ => t.size - (intOf v).toNat)
    case atStart => exact ⟨0, [], by omega, rfl, by rw [List.drop_zero]; exact HD.out, own_nil _ _ _ _, Below.refl _ _, by simp⟩
    case round =>
      obtain ⟨k, d, hk, rfl, hd, hO, hB, hdk⟩ := hrel
      have hX := (hB.block w.heap.size (by omega)).trans HX.out
      have x2 := blk_cell hX 2
      have hz : w.heap.size + 1 ≤ wr.heap.size := by have := hB.size; have := HSZ.out; omega
      have HDD := Lib.hid hd
      have HO := Lib.hid hO
      have HB := Lib.hid hB
      clear hd hO hB hX
      by_cases hlt : k < t.size
      · obtain ⟨c, hc⟩ : ∃ c : UInt8, t[k]'hlt = c := ⟨_, rfl⟩
        have hcons := drop_cons t k hlt
        rw [hc] at hcons
        have HC := Lib.hid hcons
        have hc256 := c.toNat_lt
        have HCC := Lib.hid hc
        clear hcons hc
        by_cases h95 : c = 95
        · subst h95
          clear hc256
          have q0 : t[k]'hlt = 95 := HCC.out
          go_wp2_with (at_builtin; refine print_append_row (w0 := wr.alloc (.cells #[.int .u8 32] 5)) (w.heap.size + 1) rfl (.tmp 50) (.tmp 51) 39 5 .u8 1 rfl Tryd.underlying39 info5 (by decide) _ d [(32 : Int)] _ 1 1 rfl rfl ?ho ?hr ?hb ?hbase ?hl ?_)
          case ho => exact HO.out.alloc _
          case hr => exact reads_lit _ 5 .u8 [(32 : Int)] (by simp)
          case hb => exact Below.refl _ _
          case hbase => rw [World.size_alloc]; omega
          case hl => omega
          intro v7 w7 ho7 hb7 hg7 hat7
          have HO7 := Lib.hid ho7
          have HB7 := Lib.hid ((HB.out.alloc hz _).trans hb7)
          clear ho7 hb7 hg7 hat7
          go_wp2
          go_roundw
          case rel => exact ⟨k + 1, d ++ [(32 : Int)], by omega, by go_num, by rw [HDD.out, HC.out, qGo_under], by rw [List.length_append]; exact HO7.out, HB7.out, by rw [List.length_append]; simp; omega⟩
          case measure => simp [intOf]; omega
        · have q1 : ((c.toNat : Int) == 95) = false := beq_eq_false_iff_ne.2 (fun e => h95 (UInt8.toNat_inj.1 (by rw [show (95 : UInt8).toNat = 95 from rfl]; omega)))
          by_cases h61 : c = 61
          · subst h61
            clear hc256 q1
            have q0 : t[k]'hlt = 61 := HCC.out
            have HS := Lib.hid (Octet.SpanFrom_calls 4 (by decide) (by decide) t (k + 1) (by omega) (by omega) wr (HT.out.below HT.out.size (HBW.out.trans (HB.out.mono (by omega)))))
            obtain ⟨n, hn⟩ : ∃ n, n = Octet.badAt 4 (t.data.toList.drop (k + 1)) := ⟨_, rfl⟩
            rw [← hn] at HS
            have hnle : n ≤ t.size - (k + 1) := by rw [hn]; exact Nat.le_trans (Octet.badAt_le _ _) (by rw [List.length_drop, data_length]; exact Nat.le_refl _)
            by_cases hbad : n < 2
            · have hfin : D = ([], (k : Int)) := by rw [HDD.out, HC.out]; exact qGo_bad _ _ _ (by rw [← hn]; exact hbad)
              subst hfin
              have HN := Lib.hid hn
              clear hn
              go_wp2_with fail
              refine HS.out.mono ?_
              rintro e w2 ⟨rfl, hb2⟩
              have hlt2 : ((k + 1 + n : Nat) : Int) < (k : Int) + 3 := by omega
              have hlt3 : decide (((k + 1 + n : Nat) : Int) < (k : Int) + 3) = true := decide_eq_true hlt2
              have HB2 := Lib.hid (HBW.out.trans ((HB.out.trans (hb2.mono hz)).mono (by omega)))
              obtain ⟨j, hj⟩ : ∃ j, j = k + 1 + n := ⟨_, rfl⟩
              rw [← hj] at hlt2 hlt3 ⊢
              clear hb2 hj
              go_wp2
              refine bodyPost_ret (results_list (rs := [.tmp 2, .tmp 3]) rfl (by simp) (.tmp (.tmp .nil))) rfl ?_
              exact ⟨_, rfl, own_nil _ _ _ _, HB2.out⟩
            · obtain ⟨a, b, r, hr, ha, hb⟩ := bad_two _ (by rw [← hn]; exact hbad)
              obtain ⟨hk3, hext⟩ := two_bytes t (k + 1) a b r hr
              have hsl : ∀ W : World, (Instr.slice 9 (.string t) (some (.int .i64 ((k : Int) + 1))) (some (.int .i64 ((k : Int) + 3))) none).run Tryd.prog W = .ok (.string (two2 a b)) W := by
                intro W
                rw [run_slice_string_if W 9 t .i64 .i64 _ _ Tryd.underlying9, if_pos ⟨by omega, by omega⟩, if_pos ⟨by omega, by omega⟩, ← hext]
                rfl
              have hfin : D = qGo r (k + 3) (d ++ [16 * hexD a + hexD b]) := by rw [HDD.out, HC.out, hr]; exact qGo_hex _ _ _ _ _ ha hb
              have hr3 : t.data.toList.drop (k + 3) = r := by
                have := congrArg (List.drop 2) hr
                rw [List.drop_drop] at this
                exact this
              have HF := Lib.hid hfin
              have HR3 := Lib.hid hr3
              have HU := Lib.hid (unhex_calls a b ha hb)
              clear hfin hr3 hr hext hn
              go_wp2_with fail
              refine HS.out.mono ?_
              rintro e w2 ⟨rfl, hb2⟩
              have hge3 : decide (((k + 1 + n : Nat) : Int) < (k : Int) + 3) = false := decide_eq_false (by omega)
              have HB2 := Lib.hid (HB.out.trans (hb2.mono hz))
              have HBW2 := Lib.hid (HBW.out.trans ((HB.out.trans (hb2.mono hz)).mono (by omega)))
              have HO2 := Lib.hid (pw_own_below HO.out hb2)
              have hX2 := (HB2.out.block w.heap.size (by omega)).trans HX.out
              have y2 := blk_cell hX2 2
              have hz2 : w.heap.size + 1 ≤ w2.heap.size := by have := hb2.size; omega
              obtain ⟨j, hj⟩ : ∃ j, j = k + 1 + n := ⟨_, rfl⟩
              rw [← hj] at hge3 ⊢
              clear hb2 hj hX2
              go_wp2_with fail
              refine (HU.out w2 (HT.out.below HT.out.size HBW2.out)).mono ?_
              rintro e w3 ⟨V, rfl, ho3, hb3⟩
              obtain ⟨A, cp, rfl, hR3⟩ := own_reads ho3
              have HB3 := Lib.hid (HB2.out.trans (hb3.mono hz2))
              have HR4 := Lib.hid hR3
              have HO3 := Lib.hid (pw_own_below HO2.out hb3)
              have hz3 : w.heap.size + 1 ≤ w3.heap.size := by have := hb3.size; omega
              clear ho3 hb3 hR3
              go_wp2_with (at_builtin; refine print_append_row (w0 := w3.alloc (.cells #[.int .i64 0, .int .i64 0] 25)) (w.heap.size + 1) rfl (.tmp 75) (.tmp 76) 39 5 .u8 1 rfl Tryd.underlying39 info5 (by decide) _ d [16 * hexD a + hexD b] _ 1 _ rfl rfl ?ho ?hr ?hb ?hbase ?hl ?_)
              case ho => exact HO3.out.alloc _
              case hr => exact HR4.out.allocS _
              case hb => exact Below.refl _ _
              case hbase => rw [World.size_alloc]; omega
              case hl => omega
              intro v7 w7 ho7 hb7 hg7 hat7
              have HO7 := Lib.hid ho7
              have HB7 := Lib.hid ((HB3.out.alloc hz3 _).trans hb7)
              clear ho7 hb7 hg7 hat7
              go_wp2
              go_roundw
              case rel => exact ⟨k + 3, d ++ [16 * hexD a + hexD b], by omega, by go_num, by rw [HF.out, HR3.out], by rw [List.length_append]; exact HO7.out, HB7.out, by rw [List.length_append]; simp; omega⟩
              case measure => simp [intOf]; omega
          · have q2 : ((c.toNat : Int) == 61) = false := beq_eq_false_iff_ne.2 (fun e => h61 (UInt8.toNat_inj.1 (by rw [show (61 : UInt8).toNat = 61 from rfl]; omega)))
            have q0 : t[k]'hlt = c := HCC.out
            go_wp2_with (at_builtin; refine print_append_row (w0 := wr.alloc (.cells #[.int .u8 (c.toNat : Int)] 5)) (w.heap.size + 1) rfl (.tmp 41) (.tmp 46) 39 5 .u8 1 rfl Tryd.underlying39 info5 (by decide) _ d [(c.toNat : Int)] _ 1 1 rfl rfl ?ho ?hr ?hb ?hbase ?hl ?_)
            case ho => exact HO.out.alloc _
            case hr => exact reads_lit _ 5 .u8 [(c.toNat : Int)] (by simp)
            case hb => exact Below.refl _ _
            case hbase => rw [World.size_alloc]; omega
            case hl => omega
            intro v7 w7 ho7 hb7 hg7 hat7
            have HO7 := Lib.hid ho7
            have HB7 := Lib.hid ((HB.out.alloc hz _).trans hb7)
            clear ho7 hb7 hg7 hat7
            go_wp2
            go_roundw
            case rel => exact ⟨k + 1, d ++ [(c.toNat : Int)], by omega, by go_num, by rw [HDD.out, HC.out, qGo_other _ _ _ _ h95 h61], by rw [List.length_append]; exact HO7.out, HB7.out, by rw [List.length_append]; simp; omega⟩
            case measure => simp [intOf]; omega
      · obtain rfl : k = t.size := by omega
        have hfin : D = (d, -1) := by rw [HDD.out, List.drop_eq_nil_of_le (by rw [data_length]; exact Nat.le_refl _)]; rfl
        subst hfin
        go_wp2
        refine bodyPost_ret (results_list (rs := [.tmp 2, .tmp 3]) rfl (by simp) (.tmp (.tmp .nil))) rfl ?_
        exact ⟨_, rfl, own_low HO.out (by omega), HBW.out.trans (HB.out.mono (by omega))⟩
end Go.Proofs.YtcnhnpkbklakoaaDoor.Word
/- word.means by contract. (The steps of its regions: printed by tools/means.py.) -/
namespace Go.Proofs.YtcnhnpkbklakoaaDoor.Word
open Go.RowKit Go.Proofs.YtcnhnpkbklakoaaDoorW.PrintWords Go.Proofs.YtcnhnpkbklakoaaDoorW.PrintLast Go.Proofs.YtcnhnpkbklakoaaDoorW.PrintMore Go.Proofs.YtcnhnpkbklakoaaDoor.PWordEncodes
open Go.Proofs.YtcnhnpkbklakoaaDoor.Code Go.Proofs.YtcnhnpkbklakoaaDoor.Runes Go.Proofs.YtcnhnpkbklakoaaDoor.Pieces
attribute [local go_sem] max2_int min2_int max_two min_two max_three min_three max_four min_four
set_option linter.unusedVariables false
set_option linter.unusedSimpArgs false
/-- a charset's name -/
def nameV (ch : ByteArray) : ByteArray := upV ⟨(Lib.cut ch.data.toList [42]).1.toArray⟩
def natsOf (b : List UInt8) : List Int := b.map fun (x : UInt8) => (x.toNat : Int)
def utf8N : List UInt8 := [85, 84, 70, 45, 56]
def asciiN : List UInt8 := [85, 83, 45, 65, 83, 67, 73, 73]
def isoN : List UInt8 := [73, 83, 79, 45, 56, 56, 53, 57, 45, 49]
/-- what bytes mean in a charset -/
def meansV (ch : ByteArray) (b : List UInt8) : ByteArray × Bool × Bool :=
  if (nameV ch).toList = utf8N then (strOfNums (natsOf b), true, runesBad b == b.length) else
  if (nameV ch).toList = asciiN then (strOfNums (natsOf b), true, Octet.badAt 13 b == b.length) else
  if (nameV ch).toList = isoN then (runesBytes (natsOf b), true, true) else (⟨#[]⟩, false, false)
theorem runes_str (W : World) {A : Option Addr} {n c : Nat} {xs : List Int} (h : Kd.C (Kd.int .i32) W A n xs) (hx : xs.length = n) : (convert 50 9 (.slice A n c)).run Tryd.prog W = .ok (.string (runesBytes xs)) W := by
  cases A with
  | none =>
    have : n = 0 := by
      have := Kd.reads_of_C (enc := Value.int .i32) (d := (0 : Int)) (h1 := fun _ => rfl) h
      by_cases h0 : 0 < n
      · obtain ⟨ad, e, _⟩ := this.2.2 h0
        cases e
      · omega
    subst this
    rw [run_convert_runes_nil W 50 9 21 _ _ Tryd.underlying50 Tryd.underlying21 Tryd.underlying9, List.eq_nil_of_length_eq_zero hx]
    rfl
  | some a =>
    have hr := Kd.reads_of_C (enc := Value.int .i32) (d := (0 : Int)) (h1 := fun _ => rfl) h
    rw [run_convert_runes W 50 9 21 a n c xs (by omega) Tryd.underlying50 Tryd.underlying21 Tryd.underlying9 (fun j hj => by
      obtain ⟨ad, e, hc⟩ := hr.2.2 (by omega)
      cases e
      exact hc j (by omega)), List.take_of_length_le (by omega)]
theorem int_beq (a b : Nat) : ((a : Int) == (b : Int)) = (a == b) := by
  rw [Bool.eq_iff_iff]
  simp only [beq_iff_eq]
  omega
theorem ret_three {s : ByteArray} {x a b : Bool} (h : a = b) : Ending.returned (.tuple #[.string s, .bool x, .bool a]) = .returned (.tuple #[.string s, .bool x, .bool b]) := by rw [h]
theorem wrap_i32 (x : Int) (h0 : -2147483648 ≤ x) (h1 : x < 2147483648) : IntKind.i32.wrap x = x := by
  rw [IntKind.wrap_i32]; omega
theorem byte_rune (x : UInt8) (W : World) : (convert 5 21 (.int .u8 (x.toNat : Int))).run Tryd.prog W = .ok (.int .i32 (x.toNat : Int)) W := by
  have hx := x.toNat_lt
  have h1 : IntKind.i32.wrap (x.toNat : Int) = x.toNat := wrap_i32 _ (by omega) (by omega)
  simp [convert, run_underlying Tryd.underlying5, run_underlying Tryd.underlying21, h1, Conv.intToInt]
set_option maxHeartbeats 8000000 in
set_option maxRecDepth 100000 in
theorem means_calls (ch : ByteArray) (A : Option Addr) (cp n : Nat) (b : List UInt8) (m : Int) (hn : b.length = n) (w : World) (hr : Kd.C (Kd.int .u8) w A n (b.map fun (x : UInt8) => (x.toNat : Int))) (hcp : n ≤ cp) (hch : ch.size ≤ 3000000000) (hbn : n ≤ 3000000000) (hm : w.cell? ⟨1, 0, none⟩ = some (.int .i64 m)) (hT : Octet.Laid w) :
    Calls Tryd.prog 25 #[.string ch, .slice A n cp] w fun e w' => e = .returned (.tuple #[.string (meansV ch b).1, .bool (meansV ch b).2.1, .bool (meansV ch b).2.2]) ∧ Below w.heap.size w w' := by
  obtain ⟨c1, hc1⟩ : ∃ c1 : ByteArray, (⟨(Lib.cut ch.data.toList [42]).1.toArray⟩ : ByteArray) = c1 := ⟨_, rfl⟩
  have hc1s : c1.size ≤ ch.size := by
    rw [← hc1]
    show (Lib.cut ch.data.toList [42]).1.length ≤ ch.data.toList.length
    unfold Lib.cut
    split
    · simp only [List.length_take]; omega
    · exact Nat.le_refl _
  obtain ⟨N, hN⟩ : ∃ N, upV c1 = N := ⟨_, rfl⟩
  have hname : nameV ch = N := by unfold nameV; rw [hc1, hN]
  obtain ⟨T, hT1⟩ : ∃ T, strOfNums (natsOf b) = T := ⟨_, rfl⟩
  have HTE := Lib.hid (show strOfNums (b.map fun (x : UInt8) => (x.toNat : Int)) = T from hT1)
  have HCUT := Lib.hid (fun W (h : W.cell? ⟨1, 0, none⟩ = some (.int .i64 m)) => Tryd.strings_Cut ch ⟨#[42]⟩ m W (by omega) h)
  have HUP := Lib.hid (fun W => Upper_calls c1 W (by omega))
  have HCH := Lib.hid hc1
  have HN := Lib.hid hN
  have HT := Lib.hid hT
  have HR := Lib.hid hr
  have HM := Lib.hid hm
  have HNL := Lib.hid hn
  clear hT hr hm hc1s hc1 hN hn
  by_cases h1 : N.toList = utf8N
  · have hV : meansV ch b = (T, true, runesBad b == b.length) := by unfold meansV; rw [hname, if_pos h1, hT1]
    rw [hV]
    clear hV hname hT1
    have q1 : (N.toList == [85, 84, 70, 45, 56]) = true := by rw [h1]; rfl
    have q1' : N.toList = [85, 84, 70, 45, 56] := h1
    clear h1
    go_enter Tryd.func25, Tryd.ntmps25
    go_wp2_with fail
    refine (HCUT.out _ HM.out).mono ?_
    rintro e w1 ⟨rfl, k1, rfl⟩
    rw [HCH.out]
    go_wp2_with fail
    refine (HUP.out _).mono ?_
    rintro e w2 ⟨rfl, hb2⟩
    rw [HN.out]
    have hB12 : Below w.heap.size w w2 := (below_drewN' (Below.refl w.heap.size w) k1).trans hb2
    have HB2 := Lib.hid hB12
    have HC2 := Lib.hid (Kd.C_below HR.out hB12)
    clear hb2 hB12
    have zc := HTE.out ▸ str_of w2.drew (c := cp) HC2.out
    go_wp2
    refine start_ (n := 10) (S := fun w' => (convert 39 9 (.slice A n cp)).run Tryd.prog w' = .ok (.string T) w') (ds := []) #[false, false, false, false, false, false, false, false, false, false] (by kernel_rfl) rfl rfl (zc) (fun hHeld => ?_)
    generalize hdr : w2.drew = wd at hHeld ⊢
    have HCD := Lib.hid (show Kd.C (Kd.int .u8) wd A n (b.map fun (x : UInt8) => (x.toNat : Int)) from hdr ▸ HC2.out)
    have HBD := Lib.hid (show Below w.heap.size w wd from hdr ▸ below_drew1 HB2.out)
    refine pure_ (i := 0) (N := some 20) (v := ?_) (a' := ?_) #[true, false, false, false, false, false, false, false, false, false] rfl rfl (by kernel_rfl) (fun _ _ _ h => h) (Or.inl ⟨by rfl, ?_⟩) ?_ ?_
    rotate_left
    · intro w'
      go_simp
      with_reducible rfl
    rotate_left
    · simp only [Act.put, List.setIfInBounds_toArray, List.set_cons_zero, List.set_cons_succ, i64_w, i32_w]
      rfl
    refine pure_ (i := 2) (N := some 22) (v := ?_) (a' := ?_) #[true, false, true, false, false, false, false, false, false, false] rfl rfl (by kernel_rfl) (fun _ _ _ h => h) (Or.inl ⟨by rfl, ?_⟩) ?_ ?_
    rotate_left
    · intro w'
      go_simp
      with_reducible rfl
    rotate_left
    · simp only [Act.put, List.setIfInBounds_toArray, List.set_cons_zero, List.set_cons_succ, i64_w, i32_w]
      rfl
    refine pure_ (i := 4) (N := some 24) (v := ?_) (a' := ?_) #[true, false, true, false, true, false, false, false, false, false] rfl rfl (by kernel_rfl) (fun _ _ _ h => h) (Or.inl ⟨by rfl, ?_⟩) ?_ ?_
    rotate_left
    · intro w'
      go_simp
      with_reducible rfl
    rotate_left
    · simp only [Act.put, List.setIfInBounds_toArray, List.set_cons_zero, List.set_cons_succ, i64_w, i32_w]
      rfl
    refine pure_ (i := 5) (N := some 25) (v := ?_) (a' := ?_) #[true, false, true, false, true, true, false, false, false, false] rfl rfl (by kernel_rfl) (fun _ _ _ h => h) (Or.inl ⟨by rfl, ?_⟩) ?_ ?_
    rotate_left
    · intro w'
      go_simp
      with_reducible rfl
    rotate_left
    · simp only [Act.put, List.setIfInBounds_toArray, List.set_cons_zero, List.set_cons_succ, i64_w, i32_w]
      rfl
    refine take_ (i := 1) (N := some 21) (v := ?_) (a' := ?_) #[true, true, true, false, true, true, false, false, false, false] rfl rfl (by kernel_rfl) (fun _ _ _ h => h) (Or.inl ⟨by rfl, ?_⟩) hHeld ?_ ?_
    rotate_left
    · intro w' s0
      go_simp
      with_reducible rfl
    rotate_left
    · simp only [Act.put, List.setIfInBounds_toArray, List.set_cons_zero, List.set_cons_succ, i64_w, i32_w]
      rfl
    refine one_ (i := 3) (N := some 23) #[true, true, true, true, true, true, false, false, false, false] rfl rfl (by kernel_rfl) (by decide) (fun K hK => ?_)
    refine goes_ Tryd.func48 (by kernel_rfl) rfl #[.slice A n cp] (by rfl) rfl rfl (by simp only [List.map_toArray, List.map_cons, List.map_nil]; rfl) ?_
    with_reducible refine (Runes.badB_calls A cp n b HNL.out wd HCD.out hcp (by omega)).mono ?_
    rintro e w3 ⟨rfl, hb3⟩
    refine ⟨_, rfl, ?_⟩
    have HC3 := Lib.hid (Kd.C_below HCD.out hb3)
    have HB3 := Lib.hid (HBD.out.trans (hb3.mono HBD.out.size))
    refine hK.out _ _ ((HTE.out ▸ str_of w3 HC3.out)) (fun hHeld => ?_)
    clear hK K
    refine norm_ (a' := ?_) ?_ ?_
    rotate_left
    · show Act.put _ (some 23) _ = _
      simp only [Act.put, List.setIfInBounds_toArray, List.set_cons_zero, List.set_cons_succ, i64_w, i32_w]
      rfl
    refine pure_ (i := 6) (N := some 26) (v := ?_) (a' := ?_) #[true, true, true, true, true, true, true, false, false, false] rfl rfl (by kernel_rfl) (fun _ _ _ h => h) (Or.inl ⟨by rfl, ?_⟩) ?_ ?_
    rotate_left
    · intro w'
      go_simp
      with_reducible rfl
    rotate_left
    · simp only [Act.put, List.setIfInBounds_toArray, List.set_cons_zero, List.set_cons_succ, i64_w, i32_w]
      rfl
    refine pure_ (i := 7) (N := some 4) (v := ?_) (a' := ?_) #[true, true, true, true, true, true, true, true, false, false] rfl rfl (by kernel_rfl) (fun _ _ _ h => h) (Or.inl ⟨by rfl, ?_⟩) ?_ ?_
    rotate_left
    · intro w'
      go_simp
      with_reducible rfl
    rotate_left
    · simp only [Act.put, List.setIfInBounds_toArray, List.set_cons_zero, List.set_cons_succ, i64_w, i32_w]
      rfl
    refine pure_ (i := 8) (N := some 5) (v := ?_) (a' := ?_) #[true, true, true, true, true, true, true, true, true, false] rfl rfl (by kernel_rfl) (fun _ _ _ h => h) (Or.inl ⟨by rfl, ?_⟩) ?_ ?_
    rotate_left
    · intro w'
      go_simp
      with_reducible rfl
    rotate_left
    · simp only [Act.put, List.setIfInBounds_toArray, List.set_cons_zero, List.set_cons_succ, i64_w, i32_w]
      rfl
    refine pure_ (i := 9) (N := some 6) (v := ?_) (a' := ?_) #[true, true, true, true, true, true, true, true, true, true] rfl rfl (by kernel_rfl) (fun _ _ _ h => h) (Or.inl ⟨by rfl, ?_⟩) ?_ ?_
    rotate_left
    · intro w'
      go_simp
      with_reducible rfl
    rotate_left
    · simp only [Act.put, List.setIfInBounds_toArray, List.set_cons_zero, List.set_cons_succ, i64_w, i32_w]
      rfl
    refine done_ (by kernel_rfl) ?_

    go_wp2
    go_ret3
    exact ⟨ret_three (by rw [HNL.out]; exact int_beq _ _), HB3.out⟩
  have q1 : (N.toList == [85, 84, 70, 45, 56]) = false := by simpa [utf8N] using h1
  have q1' : ¬ N.toList = [85, 84, 70, 45, 56] := h1
  by_cases h2 : N.toList = asciiN
  · have hV : meansV ch b = (T, true, Octet.badAt 13 b == b.length) := by unfold meansV; rw [hname, if_neg h1, if_pos h2, hT1]
    rw [hV]
    clear hV hname hT1 q1 q1'
    have q2 : (N.toList == [85, 83, 45, 65, 83, 67, 73, 73]) = true := by rw [h2]; rfl
    have q2' : N.toList = [85, 83, 45, 65, 83, 67, 73, 73] := h2
    clear h1 h2
    go_enter Tryd.func25, Tryd.ntmps25
    go_wp2_with fail
    refine (HCUT.out _ HM.out).mono ?_
    rintro e w1 ⟨rfl, k1, rfl⟩
    rw [HCH.out]
    go_wp2_with fail
    refine (HUP.out _).mono ?_
    rintro e w2 ⟨rfl, hb2⟩
    rw [HN.out]
    have hB12 : Below w.heap.size w w2 := (below_drewN' (Below.refl w.heap.size w) k1).trans hb2
    have HB2 := Lib.hid hB12
    have HC2 := Lib.hid (Kd.C_below HR.out hB12)
    clear hb2 hB12
    have zc := HTE.out ▸ str_of w2.drew (c := cp) HC2.out
    go_wp2
    refine start_ (n := 10) (S := fun w' => (convert 39 9 (.slice A n cp)).run Tryd.prog w' = .ok (.string T) w') (ds := []) #[false, false, false, false, false, false, false, false, false, false] (by kernel_rfl) rfl rfl (zc) (fun hHeld => ?_)
    generalize hdr : w2.drew = wd at hHeld ⊢
    have HCD := Lib.hid (show Kd.C (Kd.int .u8) wd A n (b.map fun (x : UInt8) => (x.toNat : Int)) from hdr ▸ HC2.out)
    have HBD := Lib.hid (show Below w.heap.size w wd from hdr ▸ below_drew1 HB2.out)
    refine pure_ (i := 0) (N := some 29) (v := ?_) (a' := ?_) #[true, false, false, false, false, false, false, false, false, false] rfl rfl (by kernel_rfl) (fun _ _ _ h => h) (Or.inl ⟨by rfl, ?_⟩) ?_ ?_
    rotate_left
    · intro w'
      go_simp
      with_reducible rfl
    rotate_left
    · simp only [Act.put, List.setIfInBounds_toArray, List.set_cons_zero, List.set_cons_succ, i64_w, i32_w]
      rfl
    refine pure_ (i := 2) (N := some 31) (v := ?_) (a' := ?_) #[true, false, true, false, false, false, false, false, false, false] rfl rfl (by kernel_rfl) (fun _ _ _ h => h) (Or.inl ⟨by rfl, ?_⟩) ?_ ?_
    rotate_left
    · intro w'
      go_simp
      with_reducible rfl
    rotate_left
    · simp only [Act.put, List.setIfInBounds_toArray, List.set_cons_zero, List.set_cons_succ, i64_w, i32_w]
      rfl
    refine pure_ (i := 4) (N := some 33) (v := ?_) (a' := ?_) #[true, false, true, false, true, false, false, false, false, false] rfl rfl (by kernel_rfl) (fun _ _ _ h => h) (Or.inl ⟨by rfl, ?_⟩) ?_ ?_
    rotate_left
    · intro w'
      go_simp
      with_reducible rfl
    rotate_left
    · simp only [Act.put, List.setIfInBounds_toArray, List.set_cons_zero, List.set_cons_succ, i64_w, i32_w]
      rfl
    refine pure_ (i := 5) (N := some 34) (v := ?_) (a' := ?_) #[true, false, true, false, true, true, false, false, false, false] rfl rfl (by kernel_rfl) (fun _ _ _ h => h) (Or.inl ⟨by rfl, ?_⟩) ?_ ?_
    rotate_left
    · intro w'
      go_simp
      with_reducible rfl
    rotate_left
    · simp only [Act.put, List.setIfInBounds_toArray, List.set_cons_zero, List.set_cons_succ, i64_w, i32_w]
      rfl
    refine take_ (i := 1) (N := some 30) (v := ?_) (a' := ?_) #[true, true, true, false, true, true, false, false, false, false] rfl rfl (by kernel_rfl) (fun _ _ _ h => h) (Or.inl ⟨by rfl, ?_⟩) hHeld ?_ ?_
    rotate_left
    · intro w' s0
      go_simp
      with_reducible rfl
    rotate_left
    · simp only [Act.put, List.setIfInBounds_toArray, List.set_cons_zero, List.set_cons_succ, i64_w, i32_w]
      rfl
    refine one_ (i := 3) (N := some 32) #[true, true, true, true, true, true, false, false, false, false] rfl rfl (by kernel_rfl) (by decide) (fun K hK => ?_)
    refine goes_ Tryd.func49 (by kernel_rfl) rfl #[.int .i64 13, .slice A n cp] (by rfl) rfl rfl (by simp only [List.map_toArray, List.map_cons, List.map_nil]; rfl) ?_
    with_reducible refine (Octet.BadB_calls 13 (by decide) (by decide) A cp n b HNL.out wd HCD.out hcp (by omega) (HT.out.below HT.out.size HBD.out)).mono ?_
    rintro e w3 ⟨rfl, hb3⟩
    refine ⟨_, rfl, ?_⟩
    have HC3 := Lib.hid (Kd.C_below HCD.out hb3)
    have HB3 := Lib.hid (HBD.out.trans (hb3.mono HBD.out.size))
    refine hK.out _ _ ((HTE.out ▸ str_of w3 HC3.out)) (fun hHeld => ?_)
    clear hK K
    refine norm_ (a' := ?_) ?_ ?_
    rotate_left
    · show Act.put _ (some 32) _ = _
      simp only [Act.put, List.setIfInBounds_toArray, List.set_cons_zero, List.set_cons_succ, i64_w, i32_w]
      rfl
    refine pure_ (i := 6) (N := some 35) (v := ?_) (a' := ?_) #[true, true, true, true, true, true, true, false, false, false] rfl rfl (by kernel_rfl) (fun _ _ _ h => h) (Or.inl ⟨by rfl, ?_⟩) ?_ ?_
    rotate_left
    · intro w'
      go_simp
      with_reducible rfl
    rotate_left
    · simp only [Act.put, List.setIfInBounds_toArray, List.set_cons_zero, List.set_cons_succ, i64_w, i32_w]
      rfl
    refine pure_ (i := 7) (N := some 4) (v := ?_) (a' := ?_) #[true, true, true, true, true, true, true, true, false, false] rfl rfl (by kernel_rfl) (fun _ _ _ h => h) (Or.inl ⟨by rfl, ?_⟩) ?_ ?_
    rotate_left
    · intro w'
      go_simp
      with_reducible rfl
    rotate_left
    · simp only [Act.put, List.setIfInBounds_toArray, List.set_cons_zero, List.set_cons_succ, i64_w, i32_w]
      rfl
    refine pure_ (i := 8) (N := some 5) (v := ?_) (a' := ?_) #[true, true, true, true, true, true, true, true, true, false] rfl rfl (by kernel_rfl) (fun _ _ _ h => h) (Or.inl ⟨by rfl, ?_⟩) ?_ ?_
    rotate_left
    · intro w'
      go_simp
      with_reducible rfl
    rotate_left
    · simp only [Act.put, List.setIfInBounds_toArray, List.set_cons_zero, List.set_cons_succ, i64_w, i32_w]
      rfl
    refine pure_ (i := 9) (N := some 6) (v := ?_) (a' := ?_) #[true, true, true, true, true, true, true, true, true, true] rfl rfl (by kernel_rfl) (fun _ _ _ h => h) (Or.inl ⟨by rfl, ?_⟩) ?_ ?_
    rotate_left
    · intro w'
      go_simp
      with_reducible rfl
    rotate_left
    · simp only [Act.put, List.setIfInBounds_toArray, List.set_cons_zero, List.set_cons_succ, i64_w, i32_w]
      rfl
    refine done_ (by kernel_rfl) ?_

    go_wp2
    go_ret3
    exact ⟨ret_three (by rw [HNL.out]; exact int_beq _ _), HB3.out⟩
  have q2 : (N.toList == [85, 83, 45, 65, 83, 67, 73, 73]) = false := by simpa [asciiN] using h2
  have q2' : ¬ N.toList = [85, 83, 45, 65, 83, 67, 73, 73] := h2
  by_cases h3 : N.toList = isoN
  · have hV : meansV ch b = (runesBytes (natsOf b), true, true) := by unfold meansV; rw [hname, if_neg h1, if_neg h2, if_pos h3]
    rw [hV]
    clear hV hname hT1 q1 q1' q2 q2'
    have q3 : (N.toList == [73, 83, 79, 45, 56, 56, 53, 57, 45, 49]) = true := by rw [h3]; rfl
    have q3' : N.toList = [73, 83, 79, 45, 56, 56, 53, 57, 45, 49] := h3
    clear h1 h2 h3
    go_enter Tryd.func25, Tryd.ntmps25
    go_wp2_with fail
    refine (HCUT.out _ HM.out).mono ?_
    rintro e w1 ⟨rfl, k1, rfl⟩
    rw [HCH.out]
    go_wp2_with fail
    refine (HUP.out _).mono ?_
    rintro e w2 ⟨rfl, hb2⟩
    rw [HN.out]
    have hB12 : Below w.heap.size w w2 := (below_drewN' (Below.refl w.heap.size w) k1).trans hb2
    have HB2 := Lib.hid hB12
    have HC2 := Lib.hid (Kd.C_below HR.out hB12)
    clear hb2 hB12
    go_wp2
    go_loopw [7, 40] (fun o v wr => ∃ (k : Nat), k ≤ n ∧ v = .int .i64 k ∧ wr.ownsRow w2.heap.size 21 1 o ((natsOf b).take k).length (nums .i32 ((natsOf b).take k)) ∧ Below w2.heap.size w2 wr) (fun _ v _ => n - (intOf v).toNat)
    case atStart => exact ⟨0, by omega, rfl, own_nil _ _ _ _, Below.refl _ _⟩
    case round =>
      obtain ⟨k, hk, rfl, hO, hB⟩ := hrel
      have HO := Lib.hid hO
      have HB := Lib.hid hB
      have hz : w2.heap.size ≤ wr.heap.size := HB.out.size
      clear hO hB
      by_cases hlt : k < n
      · obtain ⟨x, hx⟩ : ∃ x, b[k]? = some x := ⟨_, List.getElem?_eq_getElem (by have := HNL.out; omega)⟩
        obtain ⟨B, off, rfl, hat⟩ := atI_of_C HC2.out (by omega)
        have hxn : (natsOf b)[k]? = some (x.toNat : Int) := by unfold natsOf; rw [List.getElem?_map, hx]; rfl
        have y0 := hat k _ hxn
        have x0 := (HB.out.cell (World.block_lt_of_cell? w2 _ y0)).trans y0
        have hx256 := x.toNat_lt
        have HTK := Lib.hid (show (natsOf b).take (k + 1) = (natsOf b).take k ++ [(x.toNat : Int)] by rw [List.take_add_one, hxn]; rfl)
        have hkl : ((natsOf b).take k).length ≤ n := by rw [List.length_take]; omega
        have hcv : ∀ W, (convert 5 21 (.int .u8 (x.toNat : Int))).run Tryd.prog W = .ok (.int .i32 (x.toNat : Int)) W := fun W => byte_rune x W
        clear hx hat y0 hxn
        go_wp2_with (at_builtin; refine print_append_row (w0 := wr.alloc (.cells #[.int .i32 (x.toNat : Int)] 21)) w2.heap.size rfl (.tmp 44) (.tmp 47) 50 21 .i32 4 rfl Tryd.underlying50 info21 (by decide) _ ((natsOf b).take k) [(x.toNat : Int)] _ 1 1 rfl rfl ?ho ?hr ?hb ?hbase ?hl ?_)
        case ho => exact HO.out.alloc _
        case hr => exact reads_lit _ 21 .i32 [(x.toNat : Int)] (by simp)
        case hb => exact Below.refl _ _
        case hbase => rw [World.size_alloc]; omega
        case hl => omega
        intro v7 w7 ho7 hb7 hg7 hat7
        have HO7 := Lib.hid ho7
        have HB7 := Lib.hid ((HB.out.alloc hz _).trans hb7)
        clear ho7 hb7 hg7 hat7
        go_wp2
        go_roundw
        case rel => exact ⟨k + 1, by omega, by go_num, by rw [HTK.out, List.length_append, List.length_take]; exact HO7.out, HB7.out⟩
        case measure => simp [intOf]; omega
      · obtain rfl : k = n := by omega
        have htk : (natsOf b).take k = natsOf b := List.take_of_length_le (by unfold natsOf; rw [List.length_map, HNL.out]; exact Nat.le_refl _)
        have hO9 := HO.out
        rw [htk] at hO9
        obtain ⟨A9, c9, rfl, _, hC9⟩ := own_CR rfl hO9
        have q9 := runes_str wr (c := c9) hC9 rfl
        clear hC9 htk hO9 HO
        go_wp2
        go_ret3
        exact ⟨rfl, HB2.out.trans (HB.out.mono HB2.out.size)⟩
  · have hV : meansV ch b = (⟨#[]⟩, false, false) := by unfold meansV; rw [hname, if_neg h1, if_neg h2, if_neg h3]
    have q3 : (N.toList == [73, 83, 79, 45, 56, 56, 53, 57, 45, 49]) = false := by simpa [isoN] using h3
    have q3' : ¬ N.toList = [73, 83, 79, 45, 56, 56, 53, 57, 45, 49] := h3
    rw [hV]
    clear hV hname hT1 h1 h2 h3
    go_enter Tryd.func25, Tryd.ntmps25
    go_wp2_with fail
    refine (HCUT.out _ HM.out).mono ?_
    rintro e w1 ⟨rfl, k1, rfl⟩
    rw [HCH.out]
    go_wp2_with fail
    refine (HUP.out _).mono ?_
    rintro e w2 ⟨rfl, hb2⟩
    rw [HN.out]
    have hB12 : Below w.heap.size w w2 := (below_drewN' (Below.refl w.heap.size w) k1).trans hb2
    have HB2 := Lib.hid hB12
    have HC2 := Lib.hid (Kd.C_below HR.out hB12)
    clear hb2 hB12
    go_wp2
    go_ret3
    exact ⟨rfl, HB2.out⟩
end Go.Proofs.YtcnhnpkbklakoaaDoor.Word
/- word.Needs by contract. -/
namespace Go.Proofs.YtcnhnpkbklakoaaDoor.Word
open Go.RowKit Go.Proofs.YtcnhnpkbklakoaaDoorW.PrintWords Go.Proofs.YtcnhnpkbklakoaaDoorW.PrintLast Go.Proofs.YtcnhnpkbklakoaaDoorW.PrintMore Go.Proofs.YtcnhnpkbklakoaaDoor.PWordEncodes
open Go.Proofs.YtcnhnpkbklakoaaDoor.Code Go.Proofs.YtcnhnpkbklakoaaDoor.Runes Go.Proofs.YtcnhnpkbklakoaaDoor.Pieces
attribute [local go_sem] max2_int min2_int max_two min_two max_three min_three max_four min_four
set_option linter.unusedVariables false
set_option linter.unusedSimpArgs false
/-- the word that begins at a place or behind the blanks there: its begin, its end -/
def wAt (s : ByteArray) (i : Nat) : Nat := rowV s i true
def eAt (s : ByteArray) (i : Nat) : Nat := rowV s (wAt s i) false
def needsGo (s : ByteArray) : Nat → Nat → Bool
  | 0, _ => false
  | d + 1, i => if i < s.size then (if (cutV (s.extract (wAt s i) (eAt s i))).2.2.2 = true then true else needsGo s d (eAt s i)) else false
def needsV (s : ByteArray) : Bool := if Octet.badAt 12 s.data.toList < s.size then true else needsGo s s.size 0
theorem rowV_more (s : ByteArray) (i : Nat) (b : Bool) (h : i < s.size) (hb : (blankB (s[i]'h) == b) = true) : i < rowV s i b := by
  unfold rowV
  rw [Code.drop_at s i h, List.takeWhile_cons, if_pos hb]
  simp
theorem at_le (s : ByteArray) (i : Nat) (h : i ≤ s.size) : i ≤ wAt s i ∧ wAt s i ≤ eAt s i ∧ eAt s i ≤ s.size := by
  have h1 := rowV_le s i true h
  have h2 := rowV_le s (wAt s i) false h1.2
  exact ⟨h1.1, h2.1, h2.2⟩
theorem eAt_more (s : ByteArray) (i : Nat) (h : i < s.size) : i < eAt s i := by
  have hl := at_le s i (Nat.le_of_lt h)
  cases hb : blankB (s[i]'h)
  · by_cases hw : i < wAt s i
    · omega
    · have hwi : wAt s i = i := by omega
      have := rowV_more s i false h (by rw [hb]; rfl)
      unfold eAt
      rw [hwi]
      exact this
  · have : i < wAt s i := rowV_more s i true h (by rw [hb]; rfl)
    omega
theorem needsGo_end (s : ByteArray) (d i : Nat) (h : ¬ i < s.size) : needsGo s d i = false := by
  cases d with
  | zero => rfl
  | succ d => rw [needsGo, if_neg h]
theorem slice_str (s : ByteArray) (i j : Nat) (hij : i ≤ j) (hj : j ≤ s.size) (W : World) : (Instr.slice 9 (.string s) (some (.int .i64 (i : Int))) (some (.int .i64 (j : Int))) none).run Tryd.prog W = .ok (.string (s.extract i j)) W := by
  rw [run_slice_string_if W 9 s .i64 .i64 _ _ Tryd.underlying9, if_pos ⟨by omega, by omega⟩, if_pos ⟨by omega, by omega⟩]
  rfl
theorem drawn_below {w w' : World} (h : Drawn0 w w') : Below w.heap.size w w' := h.below
set_option maxHeartbeats 8000000 in
set_option maxRecDepth 100000 in
theorem needs_calls (s : ByteArray) (m : Int) (w : World) (hs : s.size ≤ 3000000000) (hm : w.cell? ⟨1, 0, none⟩ = some (.int .i64 m)) (hT : Octet.Laid w) :
    Calls Tryd.prog 13 #[.string s] w fun e w' => e = .returned (.bool (needsV s)) ∧ Below w.heap.size w w' := by
  have hu42 := Tryd.underlying42
  have h1lt := World.block_lt_of_cell? w _ hm
  have HM := Lib.hid hm
  have HT := Lib.hid hT
  have HBAD := Lib.hid (Octet.Bad_calls 12 (by decide) (by decide) s (by omega) w hT)
  obtain ⟨n, hn⟩ : ∃ n, Octet.badAt 12 s.data.toList = n := ⟨_, rfl⟩
  have hnv : needsV s = if n < s.size then true else needsGo s s.size 0 := by unfold needsV; rw [hn]
  obtain ⟨b, hb⟩ : ∃ b, b = needsV s := ⟨_, rfl⟩
  rw [← hb]
  rw [hn] at HBAD
  rw [hnv] at hb
  have HN := Lib.hid hb
  clear hm hT hn hnv hb
  by_cases hlt : n < s.size
  · have hbt : b = true := by rw [HN.out, if_pos hlt]
    subst hbt
    go_enter Tryd.func13, Tryd.ntmps13
    go_wp2_with fail
    refine HBAD.out.mono ?_
    rintro e w1 ⟨rfl, hb1⟩
    go_wp2
    go_ret
    exact ⟨rfl, hb1⟩
  · have HG := Lib.hid (show b = needsGo s s.size 0 by rw [HN.out, if_neg hlt])
    go_enter Tryd.func13, Tryd.ntmps13
    go_wp2_with fail
    refine HBAD.out.mono ?_
    rintro e w1 ⟨rfl, hb1⟩
    have HB1 := Lib.hid hb1
    clear hb1
    go_wp2
    go_loopw [3] (fun v wr => ∃ (k d : Nat), k ≤ s.size ∧ v = .int .i64 k ∧ s.size - k ≤ d ∧ b = needsGo s d k ∧ Below w.heap.size w wr) (fun v _ => s.size - (intOf v).toNat)
    case atStart => exact ⟨0, s.size, by omega, rfl, by omega, HG.out, HB1.out⟩
    case round =>
      obtain ⟨k, d, hk, rfl, hd, hg, hB⟩ := hrel
      have HGG := Lib.hid hg
      have HB := Lib.hid hB
      clear hg hB
      by_cases hlk : k < s.size
      · obtain ⟨d, rfl⟩ : ∃ d', d = d' + 1 := ⟨d - 1, by omega⟩
        have hla := at_le s k hk
        have hmo := eAt_more s k hlk
        obtain ⟨W, hW⟩ : ∃ W, W = wAt s k := ⟨_, rfl⟩
        obtain ⟨E, hE⟩ : ∃ E, E = eAt s k := ⟨_, rfl⟩
        rw [← hW, ← hE] at hla
        rw [← hE] at hmo
        have hb' : b = if (cutV (s.extract W E)).2.2.2 = true then true else needsGo s d E := by rw [HGG.out, needsGo, if_pos hlk, ← hW, ← hE]
        have HR1 := Lib.hid (show Calls Tryd.prog 22 #[.string s, .int .i64 (k : Int), .bool true] wr fun e w' => e = .returned (.int .i64 (W : Nat)) ∧ Drawn0 wr w' from hW ▸ row_calls s k true wr hk (by omega))
        have HR2 := Lib.hid (fun w2 => (show Calls Tryd.prog 22 #[.string s, .int .i64 (W : Int), .bool false] w2 fun e w' => e = .returned (.int .i64 (E : Nat)) ∧ Drawn0 w2 w' by rw [hE, eAt, ← hW]; exact row_calls s W false w2 (by omega) (by omega)))
        have hsl := fun W' => slice_str s W E hla.2.1 hla.2.2 W'
        obtain ⟨x, hx⟩ : ∃ x, x = s.extract W E := ⟨_, rfl⟩
        rw [← hx] at hsl hb'
        have hxs : x.size ≤ s.size := by rw [hx, ByteArray.size_extract]; omega
        have HBB := Lib.hid hb'
        clear hW hE hx hb'
        go_wp2_with fail
        refine HR1.out.mono ?_
        rintro e w2 ⟨rfl, hd2⟩
        have hb2 := HB.out.trans ((drawn_below hd2).mono HB.out.size)
        have HB2 := Lib.hid hb2
        clear hd2 hb2
        go_wp2_with fail
        refine (HR2.out _).mono ?_
        rintro e w3 ⟨rfl, hd3⟩
        have hb3 := HB2.out.trans ((drawn_below hd3).mono HB2.out.size)
        have HB3 := Lib.hid hb3
        clear hd3 hb3
        go_wp2_with fail
        refine (cut_calls x m w3 (by omega) ((HB3.out.cell h1lt).trans HM.out)).mono ?_
        rintro e w4 ⟨rfl, hb4⟩
        have HB4 := Lib.hid (HB3.out.trans (hb4.mono HB3.out.size))
        clear hb4
        obtain ⟨c, hc⟩ : ∃ c, c = cutV x := ⟨_, rfl⟩
        rw [← hc]
        have HCC := Lib.hid hc
        clear hc
        obtain ⟨c0, c1, c2, c3⟩ := c
        have HB5 := Lib.hid (HB4.out.alloc HB4.out.size (.cells #[.string c0, .string c1, .string c2] 42))
        cases c3
        · have HF := Lib.hid (show b = needsGo s d E by rw [HBB.out, ← HCC.out]; rfl)
          go_wp2
          go_roundw
          case rel => exact ⟨E, d, by omega, by go_num, by omega, HF.out, HB5.out⟩
          case measure => simp [intOf]; omega
        · have hbt : b = true := by rw [HBB.out, ← HCC.out]; rfl
          subst hbt
          go_wp2
          go_ret
          exact ⟨rfl, HB5.out⟩
      · have hbf : b = false := by rw [HGG.out, needsGo_end _ _ _ hlk]
        subst hbf
        go_wp2
        go_ret
        exact ⟨rfl, HB.out⟩
end Go.Proofs.YtcnhnpkbklakoaaDoor.Word
/- word.Decode: what it stands on. -/
namespace Go.Proofs.YtcnhnpkbklakoaaDoor.Word
open Go.RowKit Go.Proofs.YtcnhnpkbklakoaaDoorW.PrintWords Go.Proofs.YtcnhnpkbklakoaaDoorW.PrintLast Go.Proofs.YtcnhnpkbklakoaaDoorW.PrintMore Go.Proofs.YtcnhnpkbklakoaaDoor.PWordEncodes
open Go.Proofs.YtcnhnpkbklakoaaDoor.Code Go.Proofs.YtcnhnpkbklakoaaDoor.Runes Go.Proofs.YtcnhnpkbklakoaaDoor.Pieces Go.Proofs.YtcnhnpkbklakoaaDoor.Unhex
attribute [local go_sem] max2_int min2_int max_two min_two max_three min_three max_four min_four
set_option linter.unusedVariables false
set_option linter.unusedSimpArgs false
def ByteL (l : List Int) : Prop := ∀ x ∈ l, 0 ≤ x ∧ x < 256
theorem ByteL.app {l m : List Int} (h : ByteL l) (k : ByteL m) : ByteL (l ++ m) := fun x hx => by
  rcases List.mem_append.1 hx with h' | h'
  · exact h x h'
  · exact k x h'
theorem ByteL.one {a : Int} (h : 0 ≤ a ∧ a < 256) : ByteL [a] := fun x hx => by
  rw [List.mem_singleton] at hx
  subst hx
  exact h
theorem ByteL.nil : ByteL [] := fun x hx => by cases hx
def u8s (l : List Int) : List UInt8 := l.map fun n => UInt8.ofNat n.toNat
theorem natsOf_u8s {l : List Int} (h : ByteL l) : natsOf (u8s l) = l := by
  unfold natsOf u8s
  rw [List.map_map]
  conv => rhs; rw [← List.map_id l]
  apply List.map_congr_left
  intro x hx
  have := h x hx
  simp only [Function.comp, UInt8.toNat_ofNat', id]
  omega
theorem u8s_length (l : List Int) : (u8s l).length = l.length := by simp [u8s]
theorem qGo_props : ∀ (n : Nat) (t : List UInt8), t.length ≤ n → ∀ (i : Nat) (out : List Int), ByteL out →
    ByteL (qGo t i out).1 ∧ (qGo t i out).1.length ≤ out.length + t.length ∧ ((qGo t i out).2 = -1 ∨ 0 ≤ (qGo t i out).2 ∧ (qGo t i out).2 ≤ (i : Int) + t.length)
  | n, [], _, i, out, h => ⟨h, Nat.le_refl _, Or.inl rfl⟩
  | 0, c :: r, hn, _, _, _ => by simp at hn
  | n + 1, c :: r, hn, i, out, h => by
    simp only [List.length_cons] at hn
    have hc := c.toNat_lt
    by_cases h1 : c = 95
    · subst h1
      rw [qGo_under]
      obtain ⟨a, b, d⟩ := qGo_props n r (by omega) (i + 1) (out ++ [32]) (h.app (ByteL.one (by omega)))
      refine ⟨a, ?_, ?_⟩
      · rw [List.length_append] at b; simp only [List.length_cons, List.length_nil] at b ⊢; omega
      · simp only [List.length_cons]
        rcases d with d | d
        · exact Or.inl d
        · right; omega
    · by_cases h2 : c = 61
      · subst h2
        by_cases hb : Octet.badAt 4 r < 2
        · rw [qGo_bad r i out hb]
          refine ⟨ByteL.nil, by simp, Or.inr ⟨by simp, by simp only [List.length_cons]; omega⟩⟩
        · obtain ⟨a, b, r', rfl, ha, hbb⟩ := bad_two r hb
          rw [qGo_hex a b r' i out ha hbb]
          have r1 := hexD_range a ha
          have r2 := hexD_range b hbb
          simp only [List.length_cons] at hn
          obtain ⟨p, q, s⟩ := qGo_props n r' (by omega) (i + 3) (out ++ [16 * hexD a + hexD b]) (h.app (ByteL.one (by omega)))
          refine ⟨p, ?_, ?_⟩
          · rw [List.length_append] at q; simp only [List.length_cons, List.length_nil] at q ⊢; omega
          · simp only [List.length_cons]
            rcases s with s | s
            · exact Or.inl s
            · right; omega
      · rw [qGo_other c r i out h1 h2]
        obtain ⟨a, b, d⟩ := qGo_props n r (by omega) (i + 1) (out ++ [(c.toNat : Int)]) (h.app (ByteL.one (by omega)))
        refine ⟨a, ?_, ?_⟩
        · rw [List.length_append] at b; simp only [List.length_cons, List.length_nil] at b ⊢; omega
        · simp only [List.length_cons]
          rcases d with d | d
          · exact Or.inl d
          · right; omega
theorem grp_byte (q0 q1 q2 q3 : Int) : ByteL (grp q0 q1 q2 q3) := by
  have h0 : 0 ≤ b0 q0 q1 ∧ b0 q0 q1 < 256 := ⟨bits_lo_u8 _ _ _, by have := bits_hi_u8 .or (q0 * 4 % 256) (q1 / 16); unfold b0; omega⟩
  have h1 : 0 ≤ b1 q1 q2 ∧ b1 q1 q2 < 256 := ⟨bits_lo_u8 _ _ _, by have := bits_hi_u8 .or (q1 * 16 % 256) (q2 / 4); unfold b1; omega⟩
  have h2 : 0 ≤ b2 q2 q3 ∧ b2 q2 q3 < 256 := ⟨bits_lo_u8 _ _ _, by have := bits_hi_u8 .or (q2 * 64 % 256) q3; unfold b2; omega⟩
  unfold grp
  split
  · exact ByteL.one h0
  · split
    · exact (ByteL.one h0).app (ByteL.one h1)
    · exact (ByteL.one h0).app ((ByteL.one h1).app (ByteL.one h2))
theorem takeV_byte (s : St) (d : List Int) (c : Nat) (h : ByteL d) : ByteL (takeV s d c).2.1 := by
  unfold takeV
  split
  · exact h
  · split
    · exact h
    · exact h.app (grp_byte _ _ _ _)
theorem unGo_props : ∀ (t : List UInt8) (i : Nat) (s : St) (d : List Int), Okay s → ByteL d →
    ByteL (unGo t i s d).1 ∧ (unGo t i s d).1.length ≤ d.length + 3 * t.length ∧ (unGo t i s d).2.2 ≤ i + t.length
  | [], i, s, d, h, hd => by
    rw [unGo_nil]
    split
    · exact ⟨ByteL.nil, by simp, by simp⟩
    · exact ⟨hd, by simp, by simp⟩
  | c :: r, i, s, d, h, hd => by
    rw [unGo_cons]
    obtain ⟨k1, k2⟩ := okay_take h d c
    split
    · exact ⟨ByteL.nil, by simp, by simp⟩
    · obtain ⟨a, b, e⟩ := unGo_props r (i + 1) _ _ k1 (takeV_byte s d c.toNat hd)
      refine ⟨a, ?_, ?_⟩
      · simp only [List.length_cons]; omega
      · simp only [List.length_cons]; omega
theorem okay0 : Okay st0 := ⟨by decide, ⟨by decide, by decide⟩, ⟨by decide, by decide⟩⟩
theorem unB_props (t : List UInt8) : ByteL (unB t).1 ∧ (unB t).1.length ≤ 3 * t.length ∧ ((unB t).2 = -1 ∨ 0 ≤ (unB t).2 ∧ (unB t).2 ≤ t.length) := by
  obtain ⟨a, b, e⟩ := unGo_props t 0 st0 [] okay0 ByteL.nil
  unfold unB unV
  split
  · exact ⟨ByteL.nil, by simp, Or.inr ⟨by simp, by simp only; omega⟩⟩
  · exact ⟨a, by simpa using b, Or.inl rfl⟩
/-- the bytes of a text in a coding -/
def bytesV (co tx : ByteArray) : List Int × Int := if co.data.toList.headD 0 = 66 ∨ co.data.toList.headD 0 = 98 then unB tx.data.toList else qGo tx.data.toList 0 []
theorem bytesV_props (co tx : ByteArray) : ByteL (bytesV co tx).1 ∧ (bytesV co tx).1.length ≤ 3 * tx.size ∧ ((bytesV co tx).2 = -1 ∨ 0 ≤ (bytesV co tx).2 ∧ (bytesV co tx).2 ≤ tx.size) := by
  have hl : tx.data.toList.length = tx.size := data_length tx
  unfold bytesV
  split
  · have := unB_props tx.data.toList
    rw [hl] at this
    exact this
  · obtain ⟨a, b, c⟩ := qGo_props _ tx.data.toList (Nat.le_refl _) 0 [] ByteL.nil
    rw [hl] at b c
    refine ⟨a, by simp at b; omega, ?_⟩
    rcases c with c | c
    · exact Or.inl c
    · right; omega
theorem in_codings (c : UInt8) (h : ¬ Lib.indexByte [66, 98, 81, 113] c < 0) : (c = 66 ∨ c = 98) ∨ (c = 81 ∨ c = 113) := by
  by_cases h1 : c = 66
  · exact Or.inl (Or.inl h1)
  · by_cases h2 : c = 98
    · exact Or.inl (Or.inr h2)
    · by_cases h3 : c = 81
      · exact Or.inr (Or.inl h3)
      · by_cases h4 : c = 113
        · exact Or.inr (Or.inr h4)
        · exfalso
          apply h
          have e1 : ((66 : UInt8) == c) = false := beq_eq_false_iff_ne.2 (fun e => h1 e.symm)
          have e2 : ((98 : UInt8) == c) = false := beq_eq_false_iff_ne.2 (fun e => h2 e.symm)
          have e3 : ((81 : UInt8) == c) = false := beq_eq_false_iff_ne.2 (fun e => h3 e.symm)
          have e4 : ((113 : UInt8) == c) = false := beq_eq_false_iff_ne.2 (fun e => h4 e.symm)
          simp [Lib.indexByte, e1, e2, e3, e4]
theorem splitB_sizes (sep : ByteArray) : ∀ (k : Nat) (s : ByteArray), ∀ x ∈ Lib.splitB sep 0 k s, x.size ≤ s.size
  | 0, s, x, hx => by
    rw [Lib.splitB_zero, List.mem_singleton] at hx
    subst hx
    exact Nat.le_refl _
  | k + 1, s, x, hx => by
    unfold Lib.splitB at hx
    split at hx
    · rw [List.mem_singleton] at hx
      subst hx
      exact Nat.le_refl _
    · rcases List.mem_cons.1 hx with rfl | hx
      · rw [ByteArray.size_extract]; omega
      · have := splitB_sizes sep k _ x hx
        rw [ByteArray.size_extract] at this
        omega
/-- what a word that is cut says of its parts -/
theorem cutV_props (s c0 c1 c2 : ByteArray) (h : (c0, c1, c2, true) = cutV s) : c0.size ≤ s.size ∧ c2.size ≤ s.size ∧ ∃ c, c1 = ⟨#[c]⟩ ∧ ((c = 66 ∨ c = 98) ∨ (c = 81 ∨ c = 113)) := by
  unfold cutV at h
  split at h
  · cases h
  · split at h
    · cases h
    · split at h
      · cases h
      · have hbs : (bodyV s).size ≤ s.size := by unfold bodyV; rw [ByteArray.size_extract]; omega
        have hm := splitB_sizes ⟨#[63]⟩ (Lib.countB (bodyV s) ⟨#[63]⟩) (bodyV s)
        change ∀ x ∈ partsV (bodyV s), _ at hm
        generalize partsV (bodyV s) = L at h hm
        match L, h, hm with
        | [], h, _ => cases h
        | [_], h, _ => cases h
        | [_, _], h, _ => cases h
        | _ :: _ :: _ :: _ :: _, h, _ => cases h
        | [p0, p1, p2], h, hm =>
          rw [cutM_three] at h
          split at h
          · cases h
          · split at h
            · cases h
            · rename_i hp1
              split at h
              · cases h
              · rename_i hin
                split at h
                · cases h
                  have m0 := hm c0 (by simp)
                  have m2 := hm c2 (by simp)
                  exact ⟨by omega, by omega, _, one_byte c1 (Decidable.not_not.1 hp1), in_codings _ hin⟩
                · cases h
theorem bytes_calls (ch t : ByteArray) (c : UInt8) (hc : (c = 66 ∨ c = 98) ∨ (c = 81 ∨ c = 113)) (w : World) (ht : t.size ≤ 3000000000) (hT : Octet.Laid w) :
    Calls Tryd.prog 26 #[.agg #[.string ch, .string ⟨#[c]⟩, .string t]] w fun e w' => ∃ V, e = .returned (.tuple #[V, .int .i64 (bytesV ⟨#[c]⟩ t).2]) ∧ w'.ownsRow w.heap.size 5 1 V (bytesV ⟨#[c]⟩ t).1.length (nums .u8 (bytesV ⟨#[c]⟩ t).1) ∧ Below w.heap.size w w' := by
  rcases hc with hc | hc
  · have : bytesV ⟨#[c]⟩ t = unB t.data.toList := by unfold bytesV; rw [if_pos (by exact hc)]
    rw [this]
    exact bytesB_calls ch t c hc w ht
  · have : bytesV ⟨#[c]⟩ t = qGo t.data.toList 0 [] := by
      unfold bytesV
      rw [if_neg]
      show ¬ (c = 66 ∨ c = 98)
      rcases hc with rfl | rfl <;> decide
    rw [this]
    exact bytesQ_calls ch t c hc w ht hT
set_option maxHeartbeats 2000000 in
set_option maxRecDepth 100000 in
/-- the closure that tells an error -/
theorem badc_calls (er a W : Int) (b7 : Nat) (w : World) (h7 : w.heap[b7]? = some (.cells #[.int .i64 W] 3 (0, 0))) (h0 : 0 ≤ W ∧ W ≤ 3000000000) (h1 : 0 ≤ a ∧ a ≤ 9000000000) :
    Calls Tryd.prog 24 #[.int .i64 er, .int .i64 a, .pointer (some ⟨b7, 0, none⟩)] w fun e w' => e = .returned (.tuple #[.string ⟨#[]⟩, .agg #[.int .i64 er, .int .i64 (W + a)]]) ∧ Below w.heap.size w w' := by
  have hu25 := Tryd.underlying25
  have hlt : b7 < w.heap.size := blk_lt h7
  have x7 := blk_cell h7 0
  go_enter Tryd.func24, Tryd.ntmps24
  go_wp2
  go_region
  go_wp2
  exact bodyPost_ret (v := .tuple #[.string ⟨#[]⟩, .agg #[.int .i64 er, .int .i64 (W + a)]]) (by simp [results, Tryd.results24, go_sem]) rfl ⟨rfl, ((Below.refl _ _).alloc (Nat.le_refl _) _).drew⟩
/-- word.Decode: the text, the error, its place -/
def decGo (s : ByteArray) : Nat → Nat → List Int → Bool → ByteArray × Int × Int
  | 0, _, out, _ => (strOfNums out, 0, 0)
  | d + 1, i, out, last =>
    if i < s.size then
      if (cutV (s.extract (wAt s i) (eAt s i))).2.2.2 = false then decGo s d (eAt s i) ((out ++ bytesOf (s.extract i (wAt s i))) ++ bytesOf (s.extract (wAt s i) (eAt s i))) false else
      if (meansV (cutV (s.extract (wAt s i) (eAt s i))).1 []).2.1 = false then (E0, 171, (wAt s i : Int) + 2) else
      if 0 ≤ (bytesV (cutV (s.extract (wAt s i) (eAt s i))).2.1 (cutV (s.extract (wAt s i) (eAt s i))).2.2.1).2 then
        (E0, 170, (wAt s i : Int) + (((cutV (s.extract (wAt s i) (eAt s i))).1.size : Int) + 5 + (bytesV (cutV (s.extract (wAt s i) (eAt s i))).2.1 (cutV (s.extract (wAt s i) (eAt s i))).2.2.1).2)) else
      if (meansV (cutV (s.extract (wAt s i) (eAt s i))).1 (u8s (bytesV (cutV (s.extract (wAt s i) (eAt s i))).2.1 (cutV (s.extract (wAt s i) (eAt s i))).2.2.1).1)).2.2 = false then
        (E0, 170, (wAt s i : Int) + (((cutV (s.extract (wAt s i) (eAt s i))).1.size : Int) + 5)) else
      decGo s d (eAt s i) ((if last = true then out else out ++ bytesOf (s.extract i (wAt s i))) ++ bytesOf (meansV (cutV (s.extract (wAt s i) (eAt s i))).1 (u8s (bytesV (cutV (s.extract (wAt s i) (eAt s i))).2.1 (cutV (s.extract (wAt s i) (eAt s i))).2.2.1).1)).1) true
    else (strOfNums out, 0, 0)
def wdecV (s : ByteArray) : ByteArray × Int × Int := decGo s s.size 0 [] false
theorem decGo_end (s : ByteArray) (d i : Nat) (out : List Int) (last : Bool) (h : ¬ i < s.size) : decGo s d i out last = (strOfNums out, 0, 0) := by
  cases d with
  | zero => rfl
  | succ d => rw [decGo, if_neg h]
theorem foldl_runes (l : List Int) : ∀ a : ByteArray, (l.foldl (fun r n => r ++ Utf8.encode n) a).size ≤ a.size + 4 * l.length := foldl_size_le l
theorem meansV_size (ch : ByteArray) (b : List UInt8) : (meansV ch b).1.size ≤ 4 * b.length := by
  have hl : (natsOf b).length = b.length := by simp [natsOf]
  unfold meansV
  split
  · rw [strOfNums_size, hl]; omega
  · split
    · rw [strOfNums_size, hl]; omega
    · split
      · have := runesBytes_size_le (natsOf b)
        rw [hl] at this
        exact this
      · exact Nat.zero_le _
end Go.Proofs.YtcnhnpkbklakoaaDoor.Word
/- word.Decode by contract. -/
namespace Go.Proofs.YtcnhnpkbklakoaaDoor.Word
open Go.RowKit Go.Proofs.YtcnhnpkbklakoaaDoorW.PrintWords Go.Proofs.YtcnhnpkbklakoaaDoorW.PrintLast Go.Proofs.YtcnhnpkbklakoaaDoorW.PrintMore Go.Proofs.YtcnhnpkbklakoaaDoor.PWordEncodes
open Go.Proofs.YtcnhnpkbklakoaaDoor.Code Go.Proofs.YtcnhnpkbklakoaaDoor.Runes Go.Proofs.YtcnhnpkbklakoaaDoor.Pieces Go.Proofs.YtcnhnpkbklakoaaDoor.Unhex
attribute [local go_sem] max2_int min2_int max_two min_two max_three min_three max_four min_four
set_option linter.unusedVariables false
set_option linter.unusedSimpArgs false
theorem own_ne_blk {w : World} {b e z n g t : Nat} {v : Value} {xs : List Value} {cs : Array Value} (h : w.ownsRow b e z v n xs) (hg : w.heap[g]? = some (.cells cs t (0, 0))) (hne : e ≠ t) : some g ≠ v.ownBlock := by
  intro he
  rcases h.2 with ⟨rfl, _⟩ | ⟨g', cap, cur, rfl, _, hh, _⟩
  · simp [Value.ownBlock] at he
  · have : g' = g := by simpa [Value.ownBlock] using he.symm
    subst this
    have := hh.symm.trans hg
    simp only [Option.some.injEq, Obj.cells.injEq] at this
    exact hne this.2.1
set_option maxHeartbeats 16000000 in
set_option maxRecDepth 100000 in
theorem wdecode_calls (s : ByteArray) (m : Int) (w : World) (hs : s.size ≤ 1000000000) (hm : w.cell? ⟨1, 0, none⟩ = some (.int .i64 m)) (hT : Octet.Laid w) :
    Calls Tryd.prog 11 #[.string s] w fun e w' => e = .returned (.tuple #[.string (wdecV s).1, .agg #[.int .i64 (wdecV s).2.1, .int .i64 (wdecV s).2.2]]) ∧ Below w.heap.size w w' := by
  have hu25 := Tryd.underlying25
  have hu42 := Tryd.underlying42
  have h1lt := World.block_lt_of_cell? w _ hm
  obtain ⟨W0, hW0⟩ : ∃ W0, W0 = w.alloc (.cells #[.int .i64 0, .int .i64 0] 25) := ⟨_, rfl⟩
  have hsz : W0.heap.size = w.heap.size + 1 := by rw [hW0]; simp
  have hbox : W0.heap[w.heap.size]? = some (.cells #[.int .i64 0, .int .i64 0] 25 (0, 0)) := by rw [hW0]; exact heap_alloc_new w _
  have hBw : Below w.heap.size w W0 := by rw [hW0]; exact (Below.refl _ _).alloc (Nat.le_refl _) _
  have HX := Lib.hid hbox
  have HBW := Lib.hid hBw
  have HSZ := Lib.hid hsz
  have HM := Lib.hid ((hBw.cell h1lt).trans hm)
  have HT := Lib.hid (hT.below hT.size hBw)
  obtain ⟨R, hR⟩ : ∃ R, R = wdecV s := ⟨_, rfl⟩
  rw [← hR]
  obtain ⟨r0, r1, r2⟩ := R
  have HR := Lib.hid (show (r0, r1, r2) = decGo s s.size 0 [] false from hR)
  have HW0 := Lib.hid hW0
  clear hbox hBw hsz hm hT hR hW0
  go_enter Tryd.func11, Tryd.ntmps11
  go_wp2
  rw [← HW0.out]
  go_loopw [4, 5, 6] (fun o l v wr => ∃ (k d : Nat) (out : List Int) (last : Bool), k ≤ s.size ∧ v = .int .i64 k ∧ l = .bool last ∧ s.size - k ≤ d ∧ (r0, r1, r2) = decGo s d k out last ∧ wr.ownsRow (w.heap.size + 1) 5 1 o out.length (nums .u8 out) ∧ Below (w.heap.size + 1) W0 wr ∧ out.length ≤ 12 * k) (fun _ _ v _ => s.size - (intOf v).toNat)
  case atStart => exact ⟨0, s.size, [], false, by omega, rfl, rfl, by omega, HR.out, own_nil _ _ _ _, Below.refl _ _, by simp⟩
  case round =>
    obtain ⟨k, d, out, last, hk, rfl, rfl, hd, hg, hO, hB, hlen⟩ := hrel
    have HGG := Lib.hid hg
    have HO := Lib.hid hO
    have HB := Lib.hid hB
    have HLEN := Lib.hid hlen
    have hz : w.heap.size + 1 ≤ wr.heap.size := by have := hB.size; have := HSZ.out; omega
    clear hg hO hB hlen
    by_cases hlk : k < s.size
    · obtain ⟨d, rfl⟩ : ∃ d', d = d' + 1 := ⟨d - 1, by omega⟩
      have hla := at_le s k hk
      have hmo := eAt_more s k hlk
      have hgo := HGG.out
      rw [decGo, if_pos hlk] at hgo
      obtain ⟨W, hW⟩ : ∃ W, W = wAt s k := ⟨_, rfl⟩
      obtain ⟨E, hE⟩ : ∃ E, E = eAt s k := ⟨_, rfl⟩
      rw [← hW, ← hE] at hla
      rw [← hE] at hmo
      rw [← hW, ← hE] at hgo
      have HR1 := Lib.hid (show Calls Tryd.prog 22 #[.string s, .int .i64 (k : Int), .bool true] wr fun e w' => e = .returned (.int .i64 (W : Nat)) ∧ Drawn0 wr w' from hW ▸ row_calls s k true wr hk (by omega))
      have HR2 := Lib.hid (fun w2 => (show Calls Tryd.prog 22 #[.string s, .int .i64 (W : Int), .bool false] w2 fun e w' => e = .returned (.int .i64 (E : Nat)) ∧ Drawn0 w2 w' by rw [hE, eAt, ← hW]; exact row_calls s W false w2 (by omega) (by omega)))
      have hsl := fun W' => slice_str s W E hla.2.1 hla.2.2 W'
      have hsg := fun W' => slice_str s k W hla.1 (by omega) W'
      obtain ⟨x, hx⟩ : ∃ x, x = s.extract W E := ⟨_, rfl⟩
      obtain ⟨G, hG⟩ : ∃ G, G = s.extract k W := ⟨_, rfl⟩
      rw [← hx] at hsl hgo
      rw [← hG] at hsg hgo
      have hxs : x.size ≤ E - W := by rw [hx, ByteArray.size_extract]; omega
      have hGs : G.size ≤ W - k := by rw [hG, ByteArray.size_extract]; omega
      obtain ⟨C, hC⟩ : ∃ C, C = cutV x := ⟨_, rfl⟩
      have hCx := cut_calls x m
      rw [← hC] at hgo hCx
      obtain ⟨c0, c1, c2, c3⟩ := C
      have HCT := Lib.hid hCx
      have HG := Lib.hid hgo
      have HCV := Lib.hid hC
      have hla1 := hla.1
      have hla2 := hla.2.1
      have hla3 := hla.2.2
      clear hW hE hx hG hgo hC hCx hla
      go_wp2_with fail
      refine HR1.out.mono ?_
      rintro e w2 ⟨rfl, hd2⟩
      have HB2 := Lib.hid (HB.out.trans ((drawn_below hd2).mono hz))
      have HO2 := Lib.hid (pw_own_below HO.out (drawn_below hd2))
      have hz2 : w.heap.size + 1 ≤ w2.heap.size := by have := (drawn_below hd2).size; omega
      clear hd2
      go_wp2_with fail
      refine (HR2.out _).mono ?_
      rintro e w3 ⟨rfl, hd3⟩
      have hb3 := drawn_below hd3
      have hb3z := hb3.size
      rw [World.size_alloc] at hb3z
      have H73 := Lib.hid ((hb3.block w2.heap.size (by rw [World.size_alloc]; omega)).trans (heap_alloc_new w2 (.cells #[.int .i64 W] 3)))
      have HB3 := Lib.hid ((HB2.out.alloc hz2 (.cells #[.int .i64 W] 3)).trans (hb3.mono (by rw [World.size_alloc]; omega)))
      have HO3 := Lib.hid (pw_own_below (HO2.out.alloc (.cells #[.int .i64 W] 3)) hb3)
      have hz3 : w.heap.size + 1 ≤ w3.heap.size := by omega
      have hb7 : w2.heap.size < w3.heap.size := by omega
      obtain ⟨b7, hb7e⟩ : ∃ b7, b7 = w2.heap.size := ⟨_, rfl⟩
      rw [← hb7e] at H73 hb7 ⊢
      have x7 := blk_cell H73.out 0
      clear hd3 hb3 hb3z hb7e
      go_wp2_with fail
      refine (HCT.out w3 (by omega) ((HB3.out.cell (by have h : 1 < w.heap.size := h1lt; show 1 < w.heap.size + 1; omega)).trans HM.out)).mono ?_
      rintro e w4 ⟨rfl, hb4⟩
      clear x7
      have hb4z := hb4.size
      have HB4a := Lib.hid ((HB3.out.trans (hb4.mono hz3)).alloc (by omega) (.cells #[.string c0, .string c1, .string c2] 42))
      have HO4a := Lib.hid ((pw_own_below HO3.out hb4).alloc (.cells #[.string c0, .string c1, .string c2] 42))
      have H74a := Lib.hid ((heap_alloc_old w4 (.cells #[.string c0, .string c1, .string c2] 42) (show b7 < w4.heap.size by omega)).trans ((hb4.block b7 hb7).trans H73.out))
      have H10a := Lib.hid (heap_alloc_new w4 (.cells #[.string c0, .string c1, .string c2] 42))
      have hz4 : w.heap.size + 1 ≤ w4.heap.size := by omega
      have hb74 : b7 < w4.heap.size := by omega
      clear hb4 hb4z
      cases c3
      · have HF := Lib.hid (show (r0, r1, r2) = decGo s d E ((out ++ bytesOf G) ++ bytesOf x) false from HG.out)
        have x7 := blk_cell H74a.out 0
        have HZ : Hid (w.heap.size + 1 ≤ (w4.alloc (.cells #[.string c0, .string c1, .string c2] 42)).heap.size) := Lib.hid (by rw [World.size_alloc]; omega)
        go_wp2_with (at_builtin; refine print_append_str (w0 := w4.alloc (.cells #[.string c0, .string c1, .string c2] 42)) (w.heap.size + 1) rfl (.tmp 47) (.tmp 48) 39 9 5 rfl Tryd.underlying39 Tryd.underlying9 info5 _ (out) (G) rfl rfl ?ho ?hb ?hbase ?hl ?_)
        case ho => (first | exact HO4a.out | (have h := HO4a.out; rw [← List.length_append] at h; exact h))
        case hb => exact Below.refl _ _
        case hbase => exact HZ.out
        case hl => have := HLEN.out; (try rw [List.length_append, bytesOf_length]); omega
        intro v7 w7 ho7 hb7' hg7
        have HO7 := Lib.hid ho7
        have HB7 := Lib.hid (HB4a.out.trans hb7')
        have h77 := (hg7.block b7 (by rw [World.size_alloc]; omega) (own_ne_blk HO4a.out H74a.out (by decide))).trans H74a.out
        have x7' := blk_cell h77 0
        have HZ7 := Lib.hid (show w.heap.size + 1 ≤ w7.heap.size by have := HB7.out.size; have := HSZ.out; omega)
        clear ho7 hb7' hg7 x7 h77
        have HZ := HZ7
        go_wp2_with (at_builtin; refine print_append_str (w0 := w7) (w.heap.size + 1) rfl (.tmp 50) (.tmp 54) 39 9 5 rfl Tryd.underlying39 Tryd.underlying9 info5 _ (out ++ bytesOf G) (x) rfl rfl ?ho ?hb ?hbase ?hl ?_)
        case ho => (first | exact HO7.out | (have h := HO7.out; rw [← List.length_append] at h; exact h))
        case hb => exact Below.refl _ _
        case hbase => exact HZ.out
        case hl => have := HLEN.out; (try rw [List.length_append, bytesOf_length]); omega
        intro v8 w8 ho8 hb8 hg8
        have HO8 := Lib.hid ho8
        have HB8 := Lib.hid (HB7.out.trans hb8)
        clear ho8 hb8 hg8 x7'
        go_wp2
        go_roundw
        case rel => exact ⟨E, d, (out ++ bytesOf G) ++ bytesOf x, false, by omega, by go_num, rfl, by omega, HF.out, (by simpa using HO8.out), HB8.out, by have := HLEN.out; rw [List.length_append, List.length_append, bytesOf_length, bytesOf_length]; omega⟩
        case measure => simp [intOf]; omega
      · obtain ⟨hc0s, hc2s, c, rfl, hcc⟩ := cutV_props x c0 c1 c2 HCV.out
        have hg := HG.out
        simp only [if_false, Bool.true_eq_false] at hg
        obtain ⟨M, hM⟩ : ∃ M, M = meansV c0 [] := ⟨_, rfl⟩
        obtain ⟨BV, hBV⟩ : ∃ BV, BV = bytesV ⟨#[c]⟩ c2 := ⟨_, rfl⟩
        rw [← hM, ← hBV] at hg
        obtain ⟨bl, bw⟩ := BV
        obtain ⟨M2, hM2⟩ : ∃ M2, M2 = meansV c0 (u8s bl) := ⟨_, rfl⟩
        simp only at hg
        rw [← hM2] at hg
        obtain ⟨m0, m1, m2⟩ := M
        obtain ⟨t0, t1, t2⟩ := M2
        simp only at hg
        obtain ⟨hbl, hbn, hbw⟩ := bytesV_props ⟨#[c]⟩ c2
        rw [← hBV] at hbl hbn hbw
        simp only at hbl hbn hbw
        have ht0 : t0.size ≤ 4 * bl.length := by
          have := meansV_size c0 (u8s bl)
          rw [← hM2, u8s_length] at this
          exact this
        have HGO := Lib.hid hg
        have HMM := Lib.hid hM
        have HM2 := Lib.hid hM2
        have HBV := Lib.hid hBV
        have HBL := Lib.hid hbl
        have HBWR := Lib.hid hbw
        have HC := Lib.hid hcc
        clear hg hM hM2 hBV hbl hbw hcc HG HCV
        obtain ⟨WC, hWC⟩ : ∃ WC, WC = w4.alloc (.cells #[.string c0, .string ⟨#[c]⟩, .string c2] 42) := ⟨_, rfl⟩
        obtain ⟨b10, hb10⟩ : ∃ b10, b10 = w4.heap.size := ⟨_, rfl⟩
        have hzc : w.heap.size + 1 ≤ WC.heap.size := by rw [hWC, World.size_alloc]; omega
        have hb7c : b7 < WC.heap.size := by rw [hWC, World.size_alloc]; omega
        have hb10c : b10 < WC.heap.size := by rw [hWC, hb10, World.size_alloc]; omega
        rw [← hWC] at HB4a HO4a H74a H10a
        rw [← hb10] at H10a
        have HWC := Lib.hid hWC
        have HB10 := Lib.hid hb10
        clear hWC hb10
        go_wp2_with fail
        rw [← HWC.out]
        refine (means_calls c0 none 0 0 [] m rfl WC (Kd.C_nil _ _) (Nat.le_refl _) (by omega) (by omega) ((HB4a.out.cell (by have h : 1 < w.heap.size := h1lt; show 1 < w.heap.size + 1; omega)).trans HM.out) (HT.out.below (by have := HT.out.size; omega) HB4a.out)).mono ?_
        rintro e w5 ⟨rfl, hb5⟩
        rw [← HMM.out, ← HB10.out]
        have hz5 : w.heap.size + 1 ≤ w5.heap.size := by have := hb5.size; omega
        have HB5 := Lib.hid (HB4a.out.trans (hb5.mono hzc))
        have HO5 := Lib.hid (pw_own_below HO4a.out hb5)
        have H75 := Lib.hid ((hb5.block b7 hb7c).trans H74a.out)
        have H105 := Lib.hid ((hb5.block b10 hb10c).trans H10a.out)
        have y0 := blk_cell H105.out 0
        have y1 := blk_cell H105.out 1
        have y2 := blk_cell H105.out 2
        have x7 := blk_cell H75.out 0
        have hb75 : b7 < w5.heap.size := by have := hb5.size; omega
        have hb105 : b10 < w5.heap.size := by have := hb5.size; omega
        clear hb5
        cases m1
        · have hg := HGO.out
          simp only [if_true] at hg
          cases hg
          go_wp2_with fail
          refine (badc_calls 171 2 W b7 w5 H75.out (by omega) (by omega)).mono ?_
          rintro e w6 ⟨rfl, hb6⟩
          have HB6 := Lib.hid (HB5.out.trans (hb6.mono hz5))
          clear hb6 y0 y1 y2 x7
          have hX6 := (HB6.out.block w.heap.size (by omega)).trans HX.out
          have e0 := blk_cell hX6 0
          have e1 := blk_cell hX6 1
          have f0 := blk_frozen hX6 0
          have f1 := blk_frozen hX6 1
          have HX6 := Lib.hid hX6
          clear hX6
          go_wp2
          refine bodyPost_ret (results_list (rs := [.tmp 2, .cell 3 25]) rfl (by simp) (.tmp (.cell w.heap.size 25 #[.int .i64 (171), .int .i64 ((W : Int) + 2)] (0, 0) _ rfl (blk_put (blk_put HX6.out 0 (.int .i64 (171)) rfl) 1 (.int .i64 ((W : Int) + 2)) rfl) Tryd.underlying25 rfl (by kernel_rfl) .nil))) rfl ?_
          exact ⟨rfl, ((HBW.out.trans (HB6.out.mono (by omega))).setCell (p := ⟨w.heap.size, 0, none⟩) (Nat.le_refl _) _).setCell (p := ⟨w.heap.size, 1, none⟩) (Nat.le_refl _) _⟩
        · have hg := HGO.out
          simp only [if_false, Bool.true_eq_false] at hg
          have HG2 := Lib.hid hg
          clear hg
          go_wp2_with fail
          refine (bytes_calls c0 c2 c HC.out w5 (by omega) (HT.out.below (by have := HT.out.size; omega) HB5.out)).mono ?_
          rintro e w6 ⟨V, rfl, ho6, hb6⟩
          rw [← HBV.out] at ho6 ⊢
          obtain ⟨A, cp, rfl, hcp, hC6⟩ := own_C rfl ho6
          have hz6 : w.heap.size + 1 ≤ w6.heap.size := by have := hb6.size; omega
          have HB6 := Lib.hid (HB5.out.trans (hb6.mono hz5))
          have HO6 := Lib.hid (pw_own_below HO5.out hb6)
          have H76 := Lib.hid ((hb6.block b7 hb75).trans H75.out)
          have H106 := Lib.hid ((hb6.block b10 hb105).trans H105.out)
          have HC6 := Lib.hid (show Kd.C (Kd.int .u8) w6 A bl.length ((u8s bl).map fun (x : UInt8) => (x.toNat : Int)) by
            have := natsOf_u8s HBL.out
            unfold natsOf at this
            rw [this]
            exact hC6)
          have hb76 : b7 < w6.heap.size := by have := hb6.size; omega
          have hb106 : b10 < w6.heap.size := by have := hb6.size; omega
          clear y0 y1 y2 x7 ho6 hb6 hC6
          have y0 := blk_cell H106.out 0
          have x7 := blk_cell H76.out 0
          by_cases hw : 0 ≤ bw
          · have hg := HG2.out
            rw [if_pos hw] at hg
            have hbw2 : bw ≤ c2.size := by rcases HBWR.out with h | h <;> omega
            cases hg
            go_wp2_with fail
            refine (badc_calls 170 ((c0.size : Int) + 5 + bw) W b7 w6 H76.out (by omega) (by omega)).mono ?_
            rintro e w7 ⟨rfl, hb7'⟩
            have HB6 := Lib.hid (HB6.out.trans (hb7'.mono hz6))
            clear hb7' y0 x7
            have hX6 := (HB6.out.block w.heap.size (by omega)).trans HX.out
            have e0 := blk_cell hX6 0
            have e1 := blk_cell hX6 1
            have f0 := blk_frozen hX6 0
            have f1 := blk_frozen hX6 1
            have HX6 := Lib.hid hX6
            clear hX6
            go_wp2
            refine bodyPost_ret (results_list (rs := [.tmp 2, .cell 3 25]) rfl (by simp) (.tmp (.cell w.heap.size 25 #[.int .i64 (170), .int .i64 ((W : Int) + ((c0.size : Int) + 5 + bw))] (0, 0) _ rfl (blk_put (blk_put HX6.out 0 (.int .i64 (170)) rfl) 1 (.int .i64 ((W : Int) + ((c0.size : Int) + 5 + bw))) rfl) Tryd.underlying25 rfl (by kernel_rfl) .nil))) rfl ?_
            exact ⟨rfl, ((HBW.out.trans (HB6.out.mono (by omega))).setCell (p := ⟨w.heap.size, 0, none⟩) (Nat.le_refl _) _).setCell (p := ⟨w.heap.size, 1, none⟩) (Nat.le_refl _) _⟩
          · have hg := HG2.out
            rw [if_neg hw] at hg
            have hwb : bw < 0 := by omega
            have HG3 := Lib.hid hg
            clear hg
            go_wp2_with fail
            refine (means_calls c0 A cp bl.length (u8s bl) m (u8s_length bl) w6 HC6.out hcp (by omega) (by omega) ((HB6.out.cell (by have h : 1 < w.heap.size := h1lt; show 1 < w.heap.size + 1; omega)).trans HM.out) (HT.out.below (by have := HT.out.size; omega) HB6.out)).mono ?_
            rintro e w7 ⟨rfl, hb7'⟩
            rw [← HM2.out]
            have hz7 : w.heap.size + 1 ≤ w7.heap.size := by have := hb7'.size; omega
            have HB7 := Lib.hid (HB6.out.trans (hb7'.mono hz6))
            have HO7 := Lib.hid (pw_own_below HO6.out hb7')
            have H77 := Lib.hid ((hb7'.block b7 hb76).trans H76.out)
            clear hb7' y0 x7
            have x7 := blk_cell H77.out 0
            cases t2
            · have hg := HG3.out
              simp only [if_true] at hg
              cases hg
              go_wp2_with fail
              refine (badc_calls 170 ((c0.size : Int) + 5) W b7 w7 H77.out (by omega) (by omega)).mono ?_
              rintro e w8 ⟨rfl, hb8⟩
              have HB6 := Lib.hid (HB7.out.trans (hb8.mono hz7))
              clear hb8 x7
              have hX6 := (HB6.out.block w.heap.size (by omega)).trans HX.out
              have e0 := blk_cell hX6 0
              have e1 := blk_cell hX6 1
              have f0 := blk_frozen hX6 0
              have f1 := blk_frozen hX6 1
              have HX6 := Lib.hid hX6
              clear hX6
              go_wp2
              refine bodyPost_ret (results_list (rs := [.tmp 2, .cell 3 25]) rfl (by simp) (.tmp (.cell w.heap.size 25 #[.int .i64 (170), .int .i64 ((W : Int) + ((c0.size : Int) + 5))] (0, 0) _ rfl (blk_put (blk_put HX6.out 0 (.int .i64 (170)) rfl) 1 (.int .i64 ((W : Int) + ((c0.size : Int) + 5))) rfl) Tryd.underlying25 rfl (by kernel_rfl) .nil))) rfl ?_
              exact ⟨rfl, ((HBW.out.trans (HB6.out.mono (by omega))).setCell (p := ⟨w.heap.size, 0, none⟩) (Nat.le_refl _) _).setCell (p := ⟨w.heap.size, 1, none⟩) (Nat.le_refl _) _⟩
            · have HZ := Lib.hid hz7
              cases last
              · have HF := Lib.hid (show (r0, r1, r2) = decGo s d E ((out ++ bytesOf G) ++ bytesOf t0) true from HG3.out)
                go_wp2_with (at_builtin; refine print_append_str (w0 := w7) (w.heap.size + 1) rfl (.tmp 105) (.tmp 106) 39 9 5 rfl Tryd.underlying39 Tryd.underlying9 info5 _ (out) (G) rfl rfl ?ho ?hb ?hbase ?hl ?_)
                case ho => (first | exact HO7.out | (have h := HO7.out; rw [← List.length_append] at h; exact h))
                case hb => exact Below.refl _ _
                case hbase => exact HZ.out
                case hl => have := HLEN.out; (try rw [List.length_append, bytesOf_length]); omega
                intro v8 w8 ho8 hb8 hg8
                have HO8 := Lib.hid ho8
                have HB8 := Lib.hid (HB7.out.trans hb8)
                have HZ := Lib.hid (show w.heap.size + 1 ≤ w8.heap.size by have := HB8.out.size; have := HSZ.out; omega)
                clear ho8 hb8 hg8 x7
                go_wp2_with (at_builtin; refine print_append_str (w0 := w8) (w.heap.size + 1) rfl (.tmp 108) (.tmp 109) 39 9 5 rfl Tryd.underlying39 Tryd.underlying9 info5 _ (out ++ bytesOf G) (t0) rfl rfl ?ho ?hb ?hbase ?hl ?_)
                case ho => (first | exact HO8.out | (have h := HO8.out; rw [← List.length_append] at h; exact h))
                case hb => exact Below.refl _ _
                case hbase => exact HZ.out
                case hl => have := HLEN.out; (try rw [List.length_append, bytesOf_length]); omega
                intro v9 w9 ho9 hb9 hg9
                have HO9 := Lib.hid ho9
                have HB9 := Lib.hid (HB8.out.trans hb9)
                clear ho9 hb9 hg9
                go_wp2
                go_roundw
                case rel => exact ⟨E, d, (out ++ bytesOf G) ++ bytesOf t0, true, by omega, by go_num, rfl, by omega, HF.out, (by simpa using HO9.out), HB9.out, by have := HLEN.out; rw [List.length_append, List.length_append, bytesOf_length, bytesOf_length]; omega⟩
                case measure => simp [intOf]; omega
              · have HF := Lib.hid (show (r0, r1, r2) = decGo s d E (out ++ bytesOf t0) true from HG3.out)
                go_wp2_with (at_builtin; refine print_append_str (w0 := w7) (w.heap.size + 1) rfl (.tmp 108) (.tmp 109) 39 9 5 rfl Tryd.underlying39 Tryd.underlying9 info5 _ (out) (t0) rfl rfl ?ho ?hb ?hbase ?hl ?_)
                case ho => (first | exact HO7.out | (have h := HO7.out; rw [← List.length_append] at h; exact h))
                case hb => exact Below.refl _ _
                case hbase => exact HZ.out
                case hl => have := HLEN.out; (try rw [List.length_append, bytesOf_length]); omega
                intro v8 w8 ho8 hb8 hg8
                have HO8 := Lib.hid ho8
                have HB8 := Lib.hid (HB7.out.trans hb8)
                clear ho8 hb8 hg8 x7
                go_wp2
                go_roundw
                case rel => exact ⟨E, d, out ++ bytesOf t0, true, by omega, by go_num, rfl, by omega, HF.out, (by simpa using HO8.out), HB8.out, by have := HLEN.out; rw [List.length_append, bytesOf_length]; omega⟩
                case measure => simp [intOf]; omega
    · have hfin : (r0, r1, r2) = (strOfNums out, (0 : Int), (0 : Int)) := by rw [HGG.out, decGo_end _ _ _ _ _ hlk]
      cases hfin
      obtain ⟨A9, c9, rfl, _, hC9⟩ := own_C rfl HO.out
      have q9 := str_of wr (c := c9) hC9
      have hX6 := (HB.out.block w.heap.size (by omega)).trans HX.out
      have e0 := blk_cell hX6 0
      have e1 := blk_cell hX6 1
      have f0 := blk_frozen hX6 0
      have f1 := blk_frozen hX6 1
      have HX6 := Lib.hid hX6
      clear hX6 hC9
      go_wp2
      refine bodyPost_ret (results_list (rs := [.tmp 2, .cell 3 25]) rfl (by simp) (.tmp (.cell w.heap.size 25 #[.int .i64 0, .int .i64 0] (0, 0) _ rfl (blk_put (blk_put HX6.out 0 (.int .i64 0) rfl) 1 (.int .i64 0) rfl) Tryd.underlying25 rfl (by kernel_rfl) .nil))) rfl ?_
      exact ⟨rfl, ((HBW.out.trans (HB.out.mono (by omega))).setCell (p := ⟨w.heap.size, 0, none⟩) (Nat.le_refl _) _).setCell (p := ⟨w.heap.size, 1, none⟩) (Nat.le_refl _) _⟩
end Go.Proofs.YtcnhnpkbklakoaaDoor.Word
/- posthornlaw17.wakes by contract. -/
namespace Go.Proofs.YtcnhnpkbklakoaaDoor.Word
open Go.RowKit Go.Proofs.YtcnhnpkbklakoaaDoorW.PrintWords Go.Proofs.YtcnhnpkbklakoaaDoorW.PrintLast Go.Proofs.YtcnhnpkbklakoaaDoorW.PrintMore Go.Proofs.YtcnhnpkbklakoaaDoor.PWordEncodes
open Go.Proofs.YtcnhnpkbklakoaaDoor.Code Go.Proofs.YtcnhnpkbklakoaaDoor.Runes Go.Proofs.YtcnhnpkbklakoaaDoor.Pieces Go.Proofs.YtcnhnpkbklakoaaDoor.Unhex
attribute [local go_sem] max2_int min2_int max_two min_two max_three min_three max_four min_four
set_option linter.unusedVariables false
set_option linter.unusedSimpArgs false
def runesF (s : ByteArray) : Nat → Nat → List Int
  | 0, _ => []
  | d + 1, i => if i < s.size then ((Utf8.decode s i).1 : Int) :: runesF s d (i + (Utf8.decode s i).2) else []
theorem runesF_eq (s : ByteArray) : ∀ (d i : Nat), s.size - i ≤ d → runesF s d i = runesAt s i
  | 0, i, h => by rw [runesF, runesAt_ge s i (by omega)]
  | d + 1, i, h => by
    by_cases hi : i < s.size
    · have hp := decode_pos s i
      rw [runesF, if_pos hi, runesAt_lt s i hi, runesF_eq s d _ (by omega)]
    · rw [runesF, if_neg hi, runesAt_ge s i hi]
theorem decV_good (t : ByteArray) (L : List Int) (hb : runesBad t.data.toList = t.size) (h : runesF t t.size 0 = L) : decV t = (L, 0, 0) := by
  unfold decV
  rw [hb, if_neg (Nat.lt_irrefl _), ← runesF_eq t t.size 0 (by omega), h]
theorem encV_good (t : ByteArray) (L : List Int) (R : ByteArray × Int) (short : Bool) (hb : runesBad t.data.toList = t.size) (h : runesF t t.size 0 = L)
    (hR : (if L = [] then (⟨#[]⟩, 0) else if short = true ∧ (inQV L).size < (inBV L).size then (inQV L, 0) else (inBV L, 0)) = R) : encV t short = R := by
  unfold encV
  rw [decV_good t L hb h]
  exact hR
theorem enc1 : encV ⟨#[71, 114, 195, 188, 195, 159, 101]⟩ true = (⟨#[61, 63, 85, 84, 70, 45, 56, 63, 66, 63, 82, 51, 76, 68, 118, 77, 79, 102, 90, 81, 61, 61, 63, 61]⟩, 0) := encV_good _ [71, 114, 252, 223, 101] _ _ (by kernel_rfl) (by kernel_rfl) (by kernel_rfl)
theorem enc2 : encV ⟨#[97, 98, 99, 100, 101, 102, 103, 104, 105]⟩ true = (⟨#[61, 63, 85, 84, 70, 45, 56, 63, 81, 63, 97, 98, 99, 100, 101, 102, 103, 104, 105, 63, 61]⟩, 0) := encV_good _ [97, 98, 99, 100, 101, 102, 103, 104, 105] _ _ (by kernel_rfl) (by kernel_rfl) (by kernel_rfl)
theorem dec1 : wdecV ⟨#[97, 32, 61, 63, 117, 116, 102, 45, 56, 63, 113, 63, 98, 63, 61, 32, 32, 61, 63, 85, 84, 70, 45, 56, 63, 66, 63, 89, 119, 61, 61, 63, 61, 32, 100]⟩ = (⟨#[97, 32, 98, 99, 32, 100]⟩, 0, 0) := by kernel_rfl
theorem nd1 : needsV ⟨#[195, 169]⟩ = true := by kernel_rfl
theorem nd2 : needsV ⟨#[97, 32, 98]⟩ = false := by kernel_rfl
set_option maxHeartbeats 4000000 in
set_option maxRecDepth 100000 in
theorem wakes_calls (m : Int) (w : World) (hm : w.cell? ⟨1, 0, none⟩ = some (.int .i64 m)) (hT : Octet.Laid w) :
    Calls Tryd.prog 10 #[] w fun e w' => e = .returned (.bool true) ∧ Below w.heap.size w w' := by
  have hu25 := Tryd.underlying25
  have h1lt := World.block_lt_of_cell? w _ hm
  have HM := Lib.hid hm
  have HT := Lib.hid hT
  have HE1 := Lib.hid (enc1 ▸ encode_calls ⟨#[71, 114, 195, 188, 195, 159, 101]⟩ true w (by decide) hT)
  have HE2 := Lib.hid (fun W h => enc2 ▸ encode_calls ⟨#[97, 98, 99, 100, 101, 102, 103, 104, 105]⟩ true W (by decide) h)
  have HD := Lib.hid (fun W h k => dec1 ▸ wdecode_calls ⟨#[97, 32, 61, 63, 117, 116, 102, 45, 56, 63, 113, 63, 98, 63, 61, 32, 32, 61, 63, 85, 84, 70, 45, 56, 63, 66, 63, 89, 119, 61, 61, 63, 61, 32, 100]⟩ m W (by decide) h k)
  have HN1 := Lib.hid (fun W h k => nd1 ▸ needs_calls ⟨#[195, 169]⟩ m W (by decide) h k)
  have HN2 := Lib.hid (fun W h k => nd2 ▸ needs_calls ⟨#[97, 32, 98]⟩ m W (by decide) h k)
  clear hm hT
  go_enter Tryd.func10, Tryd.ntmps10
  go_wp2_with fail
  refine HE1.out.mono ?_
  rintro e w1 ⟨rfl, hb1⟩
  have HB1 := Lib.hid hb1
  clear hb1
  go_wp2_with fail
  refine (HE2.out w1 (HT.out.below HT.out.size HB1.out)).mono ?_
  rintro e w2 ⟨rfl, hb2⟩
  have HB2 := Lib.hid (HB1.out.trans (hb2.mono HB1.out.size))
  clear hb2
  go_wp2_with fail
  refine (HD.out w2 ((HB2.out.cell h1lt).trans HM.out) (HT.out.below HT.out.size HB2.out)).mono ?_
  rintro e w3 ⟨rfl, hb3⟩
  have HB3 := Lib.hid (HB2.out.trans (hb3.mono HB2.out.size))
  have HB4 := Lib.hid (HB3.out.alloc HB3.out.size (.cells #[.int .i64 0, .int .i64 0] 25))
  clear hb3
  go_wp2_with fail
  refine (HN1.out _ ((HB4.out.cell h1lt).trans HM.out) (HT.out.below HT.out.size HB4.out)).mono ?_
  rintro e w5 ⟨rfl, hb5⟩
  have HB5 := Lib.hid (HB4.out.trans (hb5.mono HB4.out.size))
  clear hb5
  go_wp2_with fail
  refine (HN2.out _ ((HB5.out.cell h1lt).trans HM.out) (HT.out.below HT.out.size HB5.out)).mono ?_
  rintro e w6 ⟨rfl, hb6⟩
  go_wp2
  go_ret
  exact ⟨rfl, HB5.out.trans (hb6.mono HB5.out.size)⟩
end Go.Proofs.YtcnhnpkbklakoaaDoor.Word
