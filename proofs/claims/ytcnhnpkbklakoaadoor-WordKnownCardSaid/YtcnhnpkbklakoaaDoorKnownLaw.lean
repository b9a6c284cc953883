/- posthornlaw17.WordKnown: its walk. -/
import Derived.Test.YtcnhnpkbklakoaaDoorWakes
import Derived.Laws.StructEq
namespace Go.Proofs.YtcnhnpkbklakoaaDoor.Word
open Go.RowKit Go.Proofs.YtcnhnpkbklakoaaDoorW.PrintWords Go.Proofs.YtcnhnpkbklakoaaDoorW.PrintLast Go.Proofs.YtcnhnpkbklakoaaDoorW.PrintMore Go.Proofs.YtcnhnpkbklakoaaDoor.PWordEncodes
open Go.Proofs.YtcnhnpkbklakoaaDoor.Code Go.Proofs.YtcnhnpkbklakoaaDoor.Runes Go.Proofs.YtcnhnpkbklakoaaDoor.Pieces
attribute [local go_sem] max2_int min2_int max_two min_two max_three min_three max_four min_four
set_option linter.unusedVariables false
set_option linter.unusedSimpArgs false
theorem row0 : wdecV ⟨#[61, 63, 105, 115, 111, 45, 56, 56, 53, 57, 45, 49, 63, 81, 63, 99, 97, 102, 61, 101, 57, 95, 97, 117, 63, 61]⟩ = (⟨#[99, 97, 102, 195, 169, 32, 97, 117]⟩, 0, 0) := by kernel_rfl
theorem row1 : wdecV ⟨#[61, 63, 117, 115, 45, 97, 115, 99, 105, 105, 42, 101, 110, 63, 113, 63, 120, 61, 51, 68, 63, 61]⟩ = (⟨#[120, 61]⟩, 0, 0) := by kernel_rfl
theorem row2 : wdecV ⟨#[]⟩ = (⟨#[]⟩, 0, 0) := by kernel_rfl
theorem row3 : wdecV ⟨#[61, 63, 120, 63, 81, 63, 97, 63, 61]⟩ = (⟨#[]⟩, 171, 2) := by kernel_rfl
theorem row4 : wdecV ⟨#[61, 63, 85, 84, 70, 45, 56, 63, 66, 63, 89, 81, 63, 61]⟩ = (⟨#[]⟩, 170, 12) := by kernel_rfl
theorem row5 : wdecV ⟨#[61, 63, 85, 84, 70, 45, 56, 63, 81, 63, 97, 61, 52, 63, 61]⟩ = (⟨#[]⟩, 170, 11) := by kernel_rfl
theorem row6 : wdecV ⟨#[61, 63, 85, 84, 70, 45, 56, 63, 81, 63, 61, 70, 70, 63, 61]⟩ = (⟨#[]⟩, 170, 10) := by kernel_rfl
theorem row7 : wdecV ⟨#[61, 63, 117, 115, 45, 97, 115, 99, 105, 105, 63, 113, 63, 61, 56, 48, 63, 61]⟩ = (⟨#[]⟩, 170, 13) := by kernel_rfl
theorem row8 : wdecV ⟨#[61, 63, 85, 84, 70, 45, 56, 63, 88, 63, 97, 63, 61]⟩ = (⟨#[61, 63, 85, 84, 70, 45, 56, 63, 88, 63, 97, 63, 61]⟩, 0, 0) := by kernel_rfl
theorem row9 : wdecV ⟨#[120, 61, 63, 85, 84, 70, 45, 56, 63, 81, 63, 97, 63, 61]⟩ = (⟨#[120, 61, 63, 85, 84, 70, 45, 56, 63, 81, 63, 97, 63, 61]⟩, 0, 0) := by kernel_rfl
theorem row10 : wdecV ⟨#[61, 63, 85, 84, 70, 45, 56, 63, 81, 63, 97, 32, 98, 63, 61]⟩ = (⟨#[61, 63, 85, 84, 70, 45, 56, 63, 81, 63, 97, 32, 98, 63, 61]⟩, 0, 0) := by kernel_rfl
theorem row11 : wdecV ⟨#[61, 63, 63, 81, 63, 97, 63, 61]⟩ = (⟨#[61, 63, 63, 81, 63, 97, 63, 61]⟩, 0, 0) := by kernel_rfl
theorem row12 : wdecV ⟨#[61, 63, 85, 84, 70, 45, 56, 63, 81, 63, 63, 61]⟩ = (⟨#[]⟩, 0, 0) := by kernel_rfl
theorem row13 : wdecV ⟨#[255, 32, 0]⟩ = (⟨#[255, 32, 0]⟩, 0, 0) := by kernel_rfl
def T14 : List (ByteArray × ByteArray × Int × Int) := [(⟨#[61, 63, 105, 115, 111, 45, 56, 56, 53, 57, 45, 49, 63, 81, 63, 99, 97, 102, 61, 101, 57, 95, 97, 117, 63, 61]⟩, ⟨#[99, 97, 102, 195, 169, 32, 97, 117]⟩, 0, 0), (⟨#[61, 63, 117, 115, 45, 97, 115, 99, 105, 105, 42, 101, 110, 63, 113, 63, 120, 61, 51, 68, 63, 61]⟩, ⟨#[120, 61]⟩, 0, 0), (⟨#[]⟩, ⟨#[]⟩, 0, 0), (⟨#[61, 63, 120, 63, 81, 63, 97, 63, 61]⟩, ⟨#[]⟩, 171, 2), (⟨#[61, 63, 85, 84, 70, 45, 56, 63, 66, 63, 89, 81, 63, 61]⟩, ⟨#[]⟩, 170, 12), (⟨#[61, 63, 85, 84, 70, 45, 56, 63, 81, 63, 97, 61, 52, 63, 61]⟩, ⟨#[]⟩, 170, 11), (⟨#[61, 63, 85, 84, 70, 45, 56, 63, 81, 63, 61, 70, 70, 63, 61]⟩, ⟨#[]⟩, 170, 10), (⟨#[61, 63, 117, 115, 45, 97, 115, 99, 105, 105, 63, 113, 63, 61, 56, 48, 63, 61]⟩, ⟨#[]⟩, 170, 13), (⟨#[61, 63, 85, 84, 70, 45, 56, 63, 88, 63, 97, 63, 61]⟩, ⟨#[61, 63, 85, 84, 70, 45, 56, 63, 88, 63, 97, 63, 61]⟩, 0, 0), (⟨#[120, 61, 63, 85, 84, 70, 45, 56, 63, 81, 63, 97, 63, 61]⟩, ⟨#[120, 61, 63, 85, 84, 70, 45, 56, 63, 81, 63, 97, 63, 61]⟩, 0, 0), (⟨#[61, 63, 85, 84, 70, 45, 56, 63, 81, 63, 97, 32, 98, 63, 61]⟩, ⟨#[61, 63, 85, 84, 70, 45, 56, 63, 81, 63, 97, 32, 98, 63, 61]⟩, 0, 0), (⟨#[61, 63, 63, 81, 63, 97, 63, 61]⟩, ⟨#[61, 63, 63, 81, 63, 97, 63, 61]⟩, 0, 0), (⟨#[61, 63, 85, 84, 70, 45, 56, 63, 81, 63, 63, 61]⟩, ⟨#[]⟩, 0, 0), (⟨#[255, 32, 0]⟩, ⟨#[255, 32, 0]⟩, 0, 0)]
theorem T14_all : ∀ x ∈ T14, wdecV x.1 = x.2 ∧ x.1.size ≤ 100 := by
  intro x hx
  simp only [T14, List.mem_cons, List.not_mem_nil, or_false] at hx
  rcases hx with rfl | rfl | rfl | rfl | rfl | rfl | rfl | rfl | rfl | rfl | rfl | rfl | rfl | rfl
  · exact ⟨row0, by decide⟩
  · exact ⟨row1, by decide⟩
  · exact ⟨row2, by decide⟩
  · exact ⟨row3, by decide⟩
  · exact ⟨row4, by decide⟩
  · exact ⟨row5, by decide⟩
  · exact ⟨row6, by decide⟩
  · exact ⟨row7, by decide⟩
  · exact ⟨row8, by decide⟩
  · exact ⟨row9, by decide⟩
  · exact ⟨row10, by decide⟩
  · exact ⟨row11, by decide⟩
  · exact ⟨row12, by decide⟩
  · exact ⟨row13, by decide⟩
def cells4 (x : ByteArray × ByteArray × Int × Int) : List Value := [.string x.1, .string x.2.1, .int .i64 x.2.2.1, .int .i64 x.2.2.2]
theorem at4 : ∀ (l : List (ByteArray × ByteArray × Int × Int)) (k : Nat) (x), l[k]? = some x → ∀ i, i < 4 → (l.flatMap cells4)[k * 4 + i]? = (cells4 x)[i]?
  | [], k, x, h => by simp at h
  | y :: l, 0, x, h => by
    simp only [List.getElem?_cons_zero, Option.some.injEq] at h
    subst h
    intro i hi
    rw [List.flatMap_cons, List.getElem?_append_left (by simp [cells4]; omega), Nat.zero_mul, Nat.zero_add]
  | y :: l, k + 1, x, h => by
    rw [List.getElem?_cons_succ] at h
    intro i hi
    have := at4 l k x h i hi
    rw [List.flatMap_cons, List.getElem?_append_right (by simp [cells4]; omega), ← this]
    congr 1
    simp [cells4]
    omega
theorem kenc0 : encV ⟨#[97, 32, 98, 195, 169]⟩ true = (⟨#[61, 63, 85, 84, 70, 45, 56, 63, 66, 63, 89, 83, 66, 105, 119, 54, 107, 61, 63, 61]⟩, 0) := encV_good _ [97, 32, 98, 233] _ _ (by kernel_rfl) (by kernel_rfl) (by kernel_rfl)
theorem kenc1 : encV ⟨#[]⟩ true = (⟨#[]⟩, 0) := encV_good _ [] _ _ (by kernel_rfl) (by kernel_rfl) (by kernel_rfl)
theorem kenc2 : encV ⟨#[97, 255]⟩ true = (⟨#[]⟩, 50) := by kernel_rfl
theorem kneed0 : needsV ⟨#[61, 63]⟩ = false := by kernel_rfl
theorem kneed1 : needsV ⟨#[61, 63, 120, 63, 113, 63, 63, 61]⟩ = true := by kernel_rfl
theorem kneed2 : needsV ⟨#[97, 13]⟩ = true := by kernel_rfl
theorem kneed3 : needsV ⟨#[]⟩ = false := by kernel_rfl
theorem kneed4 : needsV ⟨#[97, 9, 98]⟩ = false := by kernel_rfl
set_option maxHeartbeats 8000000 in
set_option maxRecDepth 100000 in
theorem known_calls (m : Int) (w : World) (hm : w.cell? ⟨1, 0, none⟩ = some (.int .i64 m)) (hT : Octet.Laid w) :
    Calls Tryd.prog 3 #[] w fun e w' => e = .returned (.bool true) ∧ Below w.heap.size w w' := by
  have hu25 := Tryd.underlying25
  have hu26 := Tryd.underlying26
  have h1lt := World.block_lt_of_cell? w _ hm
  have HM := Lib.hid hm
  have HT := Lib.hid hT
  have HW := Lib.hid (wakes_calls m w hm hT)
  have HE0 := Lib.hid (fun W h => kenc0 ▸ encode_calls ⟨#[97, 32, 98, 195, 169]⟩ true W (by decide) h)
  have HE1 := Lib.hid (fun W h => kenc1 ▸ encode_calls ⟨#[]⟩ true W (by decide) h)
  have HE2 := Lib.hid (fun W h => kenc2 ▸ encode_calls ⟨#[97, 255]⟩ true W (by decide) h)
  have HN0 := Lib.hid (fun W h k => kneed0 ▸ needs_calls ⟨#[61, 63]⟩ m W (by decide) h k)
  have HN1 := Lib.hid (fun W h k => kneed1 ▸ needs_calls ⟨#[61, 63, 120, 63, 113, 63, 63, 61]⟩ m W (by decide) h k)
  have HN2 := Lib.hid (fun W h k => kneed2 ▸ needs_calls ⟨#[97, 13]⟩ m W (by decide) h k)
  have HN3 := Lib.hid (fun W h k => kneed3 ▸ needs_calls ⟨#[]⟩ m W (by decide) h k)
  have HN4 := Lib.hid (fun W h k => kneed4 ▸ needs_calls ⟨#[97, 9, 98]⟩ m W (by decide) h k)
  clear hm hT
  go_enter Tryd.func3, Tryd.ntmps3
  go_wp2_with fail
  refine HW.out.mono ?_
  rintro e w1 ⟨rfl, hb1⟩
  have HB1 := Lib.hid hb1
  clear hb1
  go_wp2
  go_loopw [45] (fun v wr => ∃ k : Nat, k ≤ 14 ∧ v = .int .i64 k ∧ Below (w1.heap.size + 1) (w1.alloc (.cells (T14.flatMap cells4).toArray 26)) wr) (fun v _ => 14 - (intOf v).toNat)
  case atStart => exact ⟨0, by omega, rfl, Below.refl _ _⟩
  case round =>
    obtain ⟨k, hk, rfl, hB⟩ := hrel
    have hz : w1.heap.size + 1 ≤ wr.heap.size := by have := hB.size; rw [World.size_alloc] at this; exact this
    have hX := (hB.block w1.heap.size (by omega)).trans (heap_alloc_new w1 _)
    have HB := Lib.hid (((HB1.out.alloc HB1.out.size (.cells (T14.flatMap cells4).toArray 26)).trans (hB.mono (by have := HB1.out.size; omega))))
    have HBB := Lib.hid hB
    by_cases hlt : k < 14
    · obtain ⟨x, hx⟩ : ∃ x, T14[k]? = some x := ⟨_, List.getElem?_eq_getElem (by exact hlt)⟩
      obtain ⟨hxd, hxs⟩ := T14_all x (List.mem_of_getElem? hx)
      have hat := at4 T14 k x hx
      have c0 := (blk_cell hX (k * 4 + 0)).trans ((List.getElem?_toArray ..).trans (hat 0 (by omega)))
      have c1 := (blk_cell hX (k * 4 + 1)).trans ((List.getElem?_toArray ..).trans (hat 1 (by omega)))
      have c2 := (blk_cell hX (k * 4 + 2)).trans ((List.getElem?_toArray ..).trans (hat 2 (by omega)))
      have c3 := (blk_cell hX (k * 4 + 3)).trans ((List.getElem?_toArray ..).trans (hat 3 (by omega)))
      obtain ⟨s, want, er, pl⟩ := x
      simp only [cells4, List.getElem?_cons_zero, List.getElem?_cons_succ, Nat.add_zero] at c0 c1 c2 c3
      have HD := Lib.hid (fun W h k' => hxd ▸ wdecode_calls s m W (Nat.le_trans hxs (by decide)) h k')
      clear hX hB hx hxd hxs hat
      have HB2 := Lib.hid (HB.out.alloc (by have := HB1.out.size; omega) (.cells #[.string s, .string want, .int .i64 er, .int .i64 pl] 26))
      go_wp2_with fail
      refine (HD.out _ ((HB2.out.cell h1lt).trans HM.out) (HT.out.below HT.out.size HB2.out)).mono ?_
      rintro e w3 ⟨rfl, hb3⟩
      have hb3z := hb3.size
      rw [World.size_alloc] at hb3z
      have hX3 := (hb3.block wr.heap.size (by rw [World.size_alloc]; omega)).trans (heap_alloc_new wr (.cells #[.string s, .string want, .int .i64 er, .int .i64 pl] 26))
      have y0 := blk_cell hX3 0
      have y1 := blk_cell hX3 1
      have y2 := blk_cell hX3 2
      have y3 := blk_cell hX3 3
      have HB3 := Lib.hid ((HBB.out.alloc (by omega) (.cells #[.string s, .string want, .int .i64 er, .int .i64 pl] 26)).trans (hb3.mono (by rw [World.size_alloc]; omega)))
      have hlt3 : wr.heap.size < w3.heap.size := by omega
      clear hb3 hX3 c0 c1 c2 c3 hb3z
      simp only [List.getElem?_toArray, List.getElem?_cons_succ, List.getElem?_cons_zero] at y0 y1 y2 y3
      go_wp2
      go_roundw
      case rel => exact ⟨k + 1, by omega, by go_num, HB3.out.alloc (by omega) _⟩
      case measure => simp [intOf]; omega
    · obtain rfl : k = 14 := by omega
      clear hX hB
      go_wp2_with fail
      refine (HE0.out wr (HT.out.below HT.out.size HB.out)).mono ?_
      rintro e v1 ⟨rfl, hb⟩
      have HC1 := Lib.hid (HB.out.trans (hb.mono HB.out.size))
      clear hb
      go_wp2_with fail
      refine (HE1.out v1 (HT.out.below HT.out.size HC1.out)).mono ?_
      rintro e v2 ⟨rfl, hb⟩
      have HC2 := Lib.hid (HC1.out.trans (hb.mono HC1.out.size))
      clear hb
      go_wp2_with fail
      refine (HE2.out v2 (HT.out.below HT.out.size HC2.out)).mono ?_
      rintro e v3 ⟨rfl, hb⟩
      have HC3 := Lib.hid (HC2.out.trans (hb.mono HC2.out.size))
      clear hb
      go_wp2_with fail
      refine (HN0.out v3 ((HC3.out.cell h1lt).trans HM.out) (HT.out.below HT.out.size HC3.out)).mono ?_
      rintro e v4 ⟨rfl, hb⟩
      have HC4 := Lib.hid (HC3.out.trans (hb.mono HC3.out.size))
      clear hb
      go_wp2_with fail
      refine (HN1.out v4 ((HC4.out.cell h1lt).trans HM.out) (HT.out.below HT.out.size HC4.out)).mono ?_
      rintro e v5 ⟨rfl, hb⟩
      have HC5 := Lib.hid (HC4.out.trans (hb.mono HC4.out.size))
      clear hb
      go_wp2_with fail
      refine (HN2.out v5 ((HC5.out.cell h1lt).trans HM.out) (HT.out.below HT.out.size HC5.out)).mono ?_
      rintro e v6 ⟨rfl, hb⟩
      have HC6 := Lib.hid (HC5.out.trans (hb.mono HC5.out.size))
      clear hb
      go_wp2_with fail
      refine (HN3.out v6 ((HC6.out.cell h1lt).trans HM.out) (HT.out.below HT.out.size HC6.out)).mono ?_
      rintro e v7 ⟨rfl, hb⟩
      have HC7 := Lib.hid (HC6.out.trans (hb.mono HC6.out.size))
      clear hb
      go_wp2_with fail
      refine (HN4.out v7 ((HC7.out.cell h1lt).trans HM.out) (HT.out.below HT.out.size HC7.out)).mono ?_
      rintro e v8 ⟨rfl, hb⟩
      have HC8 := Lib.hid (HC7.out.trans (hb.mono HC7.out.size))
      clear hb
      go_wp2
      go_ret
      exact ⟨rfl, HC8.out⟩
end Go.Proofs.YtcnhnpkbklakoaaDoor.Word
