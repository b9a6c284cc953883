/- posthornlaw17.wakes by contract. -/
import Derived.Test.YtcnhnpkbklakoaaDoorWDecode
import Derived.KernelRfl
import Derived.Laws.StructEq
namespace Go.Proofs.YtcnhnpkbklakoaaDoor.Word
open Go.RowKit Go.Proofs.YtcnhnpkbklakoaaDoorW.PrintWords Go.Proofs.YtcnhnpkbklakoaaDoorW.PrintLast Go.Proofs.YtcnhnpkbklakoaaDoorW.PrintMore Go.Proofs.YtcnhnpkbklakoaaDoor.PWordEncodes
open Go.Proofs.YtcnhnpkbklakoaaDoor.Code Go.Proofs.YtcnhnpkbklakoaaDoor.Runes Go.Proofs.YtcnhnpkbklakoaaDoor.Pieces Go.Proofs.YtcnhnpkbklakoaaDoor.Unhex
attribute [local go_sem] max2_int min2_int max_two min_two max_three min_three max_four min_four
set_option linter.unusedVariables false
set_option linter.unusedSimpArgs false
def runesF (s : ByteArray) : Nat → Nat → List Int
  | 0, _ => []
  | d + 1, i => if i < s.size then ((Utf8.decode s i).1 : Int) :: runesF s d (i + (Utf8.decode s i).2) else []
theorem runesF_eq (s : ByteArray) : ∀ (d i : Nat), s.size - i ≤ d → runesF s d i = runesAt s i
  | 0, i, h => by rw [runesF, runesAt_ge s i (by omega)]
  | d + 1, i, h => by
    by_cases hi : i < s.size
    · have hp := decode_pos s i
      rw [runesF, if_pos hi, runesAt_lt s i hi, runesF_eq s d _ (by omega)]
    · rw [runesF, if_neg hi, runesAt_ge s i hi]
theorem decV_good (t : ByteArray) (L : List Int) (hb : runesBad t.data.toList = t.size) (h : runesF t t.size 0 = L) : decV t = (L, 0, 0) := by
  unfold decV
  rw [hb, if_neg (Nat.lt_irrefl _), ← runesF_eq t t.size 0 (by omega), h]
theorem encV_good (t : ByteArray) (L : List Int) (R : ByteArray × Int) (short : Bool) (hb : runesBad t.data.toList = t.size) (h : runesF t t.size 0 = L)
    (hR : (if L = [] then (⟨#[]⟩, 0) else if short = true ∧ (inQV L).size < (inBV L).size then (inQV L, 0) else (inBV L, 0)) = R) : encV t short = R := by
  unfold encV
  rw [decV_good t L hb h]
  exact hR
theorem enc1 : encV ⟨#[71, 114, 195, 188, 195, 159, 101]⟩ true = (⟨#[61, 63, 85, 84, 70, 45, 56, 63, 66, 63, 82, 51, 76, 68, 118, 77, 79, 102, 90, 81, 61, 61, 63, 61]⟩, 0) := encV_good _ [71, 114, 252, 223, 101] _ _ (by kernel_rfl) (by kernel_rfl) (by kernel_rfl)
theorem enc2 : encV ⟨#[97, 98, 99, 100, 101, 102, 103, 104, 105]⟩ true = (⟨#[61, 63, 85, 84, 70, 45, 56, 63, 81, 63, 97, 98, 99, 100, 101, 102, 103, 104, 105, 63, 61]⟩, 0) := encV_good _ [97, 98, 99, 100, 101, 102, 103, 104, 105] _ _ (by kernel_rfl) (by kernel_rfl) (by kernel_rfl)
theorem dec1 : wdecV ⟨#[97, 32, 61, 63, 117, 116, 102, 45, 56, 63, 113, 63, 98, 63, 61, 32, 32, 61, 63, 85, 84, 70, 45, 56, 63, 66, 63, 89, 119, 61, 61, 63, 61, 32, 100]⟩ = (⟨#[97, 32, 98, 99, 32, 100]⟩, 0, 0) := by kernel_rfl
theorem nd1 : needsV ⟨#[195, 169]⟩ = true := by kernel_rfl
theorem nd2 : needsV ⟨#[97, 32, 98]⟩ = false := by kernel_rfl
set_option maxHeartbeats 4000000 in
set_option maxRecDepth 100000 in
theorem wakes_calls (m : Int) (w : World) (hm : w.cell? ⟨1, 0, none⟩ = some (.int .i64 m)) (hT : Octet.Laid w) :
    Calls Tryd.prog 10 #[] w fun e w' => e = .returned (.bool true) ∧ Below w.heap.size w w' := by
  have hu25 := Tryd.underlying25
  have h1lt := World.block_lt_of_cell? w _ hm
  have HM := Lib.hid hm
  have HT := Lib.hid hT
  have HE1 := Lib.hid (enc1 ▸ encode_calls ⟨#[71, 114, 195, 188, 195, 159, 101]⟩ true w (by decide) hT)
  have HE2 := Lib.hid (fun W h => enc2 ▸ encode_calls ⟨#[97, 98, 99, 100, 101, 102, 103, 104, 105]⟩ true W (by decide) h)
  have HD := Lib.hid (fun W h k => dec1 ▸ wdecode_calls ⟨#[97, 32, 61, 63, 117, 116, 102, 45, 56, 63, 113, 63, 98, 63, 61, 32, 32, 61, 63, 85, 84, 70, 45, 56, 63, 66, 63, 89, 119, 61, 61, 63, 61, 32, 100]⟩ m W (by decide) h k)
  have HN1 := Lib.hid (fun W h k => nd1 ▸ needs_calls ⟨#[195, 169]⟩ m W (by decide) h k)
  have HN2 := Lib.hid (fun W h k => nd2 ▸ needs_calls ⟨#[97, 32, 98]⟩ m W (by decide) h k)
  clear hm hT
  go_enter Tryd.func10, Tryd.ntmps10
  go_wp2_with fail
  refine HE1.out.mono ?_
  rintro e w1 ⟨rfl, hb1⟩
  have HB1 := Lib.hid hb1
  clear hb1
  go_wp2_with fail
  refine (HE2.out w1 (HT.out.below HT.out.size HB1.out)).mono ?_
  rintro e w2 ⟨rfl, hb2⟩
  have HB2 := Lib.hid (HB1.out.trans (hb2.mono HB1.out.size))
  clear hb2
  go_wp2_with fail
  refine (HD.out w2 ((HB2.out.cell h1lt).trans HM.out) (HT.out.below HT.out.size HB2.out)).mono ?_
  rintro e w3 ⟨rfl, hb3⟩
  have HB3 := Lib.hid (HB2.out.trans (hb3.mono HB2.out.size))
  have HB4 := Lib.hid (HB3.out.alloc HB3.out.size (.cells #[.int .i64 0, .int .i64 0] 25))
  clear hb3
  go_wp2_with fail
  refine (HN1.out _ ((HB4.out.cell h1lt).trans HM.out) (HT.out.below HT.out.size HB4.out)).mono ?_
  rintro e w5 ⟨rfl, hb5⟩
  have HB5 := Lib.hid (HB4.out.trans (hb5.mono HB4.out.size))
  clear hb5
  go_wp2_with fail
  refine (HN2.out _ ((HB5.out.cell h1lt).trans HM.out) (HT.out.below HT.out.size HB5.out)).mono ?_
  rintro e w6 ⟨rfl, hb6⟩
  go_wp2
  go_ret
  exact ⟨rfl, HB5.out.trans (hb6.mono HB5.out.size)⟩
end Go.Proofs.YtcnhnpkbklakoaaDoor.Word
