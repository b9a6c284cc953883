/- posthornref17.hex. -/
import Derived.Test.YtcnhnpkbklakoaaDoorSmall
import Derived.Test.YtcnhnpkbklakoaaDoorShelf
namespace Go.Proofs.YtcnhnpkbklakoaaDoor.Word
open Go.RowKit Go.Shelf Go.Proofs.YtcnhnpkbklakoaaDoorW.PrintWords Go.Proofs.YtcnhnpkbklakoaaDoorW.PrintLast Go.Proofs.YtcnhnpkbklakoaaDoorW.PrintMore Go.Proofs.YtcnhnpkbklakoaaDoor.PWordEncodes
open Go.Proofs.YtcnhnpkbklakoaaDoor.Code Go.Proofs.YtcnhnpkbklakoaaDoor.Runes Go.Proofs.YtcnhnpkbklakoaaDoor.Pieces Go.Proofs.YtcnhnpkbklakoaaDoor.Unhex
attribute [local go_sem] max2_int min2_int max_two min_two max_three min_three max_four min_four
set_option linter.unusedVariables false
set_option linter.unusedSimpArgs false
def hexDigits : List UInt8 := [48, 49, 50, 51, 52, 53, 54, 55, 56, 57, 97, 98, 99, 100, 101, 102]
def hexI (c : UInt8) : Int := Lib.indexByte [48, 49, 50, 51, 52, 53, 54, 55, 56, 57, 97, 98, 99, 100, 101, 102] (lowB c)
theorem hexI_all : ∀ n : Fin 256, hexI (UInt8.ofNat n.val) = if hexB (UInt8.ofNat n.val) = true then hexD (UInt8.ofNat n.val) else -1 := by decide +kernel
theorem hexI_eq (c : UInt8) : hexI c = if hexB c = true then hexD c else -1 := by
  have h := hexI_all ⟨c.toNat, c.toNat_lt⟩
  simpa using h
def hexR (l : List UInt8) : Int := match l with
  | a :: b :: _ => if hexI a < 0 ∨ hexI b < 0 then -1 else 16 * hexI a + hexI b
  | _ => -1
theorem hexI_le (c : UInt8) : -1 ≤ hexI c ∧ hexI c ≤ 15 := by
  have h : ∀ n : Fin 256, -1 ≤ hexI (UInt8.ofNat n.val) ∧ hexI (UInt8.ofNat n.val) ≤ 15 := by decide +kernel
  simpa using h ⟨c.toNat, c.toNat_lt⟩
theorem lowV_size (s : ByteArray) : (lowV s).size = s.size := by
  show (s.data.toList.map lowB).length = _
  rw [List.length_map, data_length]
theorem lowV_at (s : ByteArray) (k : Nat) (h : k < (lowV s).size) (h2 : k < s.size) : (lowV s)[k]'h = lowB (s[k]'h2) := by
  have e1 := Lib.data_getElem? (lowV s) k h
  have e2 : (lowV s).data.toList = s.data.toList.map lowB := by simp [lowV]
  rw [e2, List.getElem?_map, Lib.data_getElem? s k h2] at e1
  exact (Option.some.inj e1).symm
theorem low_two (s : ByteArray) (a b : UInt8) (r : List UInt8) (hr : s.data.toList = a :: b :: r) : ∃ (L : ByteArray) (hz : 2 ≤ L.size), L = lowV s ∧ L[0]'(by omega) = lowB a ∧ L[1]'(by omega) = lowB b := by
  have hl := data_length s
  rw [hr] at hl
  simp only [List.length_cons] at hl
  have hz := lowV_size s
  refine ⟨lowV s, by omega, rfl, ?_, ?_⟩
  · rw [lowV_at s 0 _ (by omega)]
    have : s.data.toList[0]? = some (s[0]'(by omega)) := Lib.data_getElem? s 0 (by omega)
    rw [hr] at this
    simp only [List.getElem?_cons_zero, Option.some.injEq] at this
    rw [← this]
  · rw [lowV_at s 1 _ (by omega)]
    have : s.data.toList[1]? = some (s[1]'(by omega)) := Lib.data_getElem? s 1 (by omega)
    rw [hr] at this
    simp only [List.getElem?_cons_zero, List.getElem?_cons_succ, Option.some.injEq] at this
    rw [← this]
set_option maxHeartbeats 4000000 in
set_option maxRecDepth 100000 in
theorem hexref_calls (s : ByteArray) (w : World) (hs : s.size ≤ 3000000000) :
    Calls Tryd.prog 62 #[.string s] w fun e w' => e = .returned (.int .i64 (hexR s.data.toList)) ∧ Below w.heap.size w w' := by
  have hl := data_length s
  by_cases h2 : s.size < 2
  · have he : hexR s.data.toList = -1 := by
      match h : s.data.toList with
      | [] => rfl
      | [_] => rfl
      | _ :: _ :: _ => rw [h] at hl; simp at hl; omega
    rw [he]
    clear hl
    go_enter Tryd.func62, Tryd.ntmps62
    go_wp2
    go_ret
    exact ⟨rfl, Below.refl _ _⟩
  · obtain ⟨a, b, r, hr⟩ : ∃ a b r, s.data.toList = a :: b :: r := by
      match h : s.data.toList with
      | [] => rw [h] at hl; simp at hl; omega
      | [_] => rw [h] at hl; simp at hl; omega
      | a :: b :: r => exact ⟨a, b, r, rfl⟩
    have HS := Lib.hid (fun W => small_calls s W hs)
    obtain ⟨L, hz, hL, ha, hb⟩ := low_two s a b r hr
    rw [← hL] at HS
    have ia := hexI_le a
    have ib := hexI_le b
    have HIA := Lib.hid (fun W => (Tryd.strings_IndexByte ⟨#[48, 49, 50, 51, 52, 53, 54, 55, 56, 57, 97, 98, 99, 100, 101, 102]⟩ ((lowB a).toNat : Int) W))
    have HIB := Lib.hid (fun W => (Tryd.strings_IndexByte ⟨#[48, 49, 50, 51, 52, 53, 54, 55, 56, 57, 97, 98, 99, 100, 101, 102]⟩ ((lowB b).toNat : Int) W))
    have e1 : ∀ c : UInt8, Lib.indexByte (⟨#[48, 49, 50, 51, 52, 53, 54, 55, 56, 57, 97, 98, 99, 100, 101, 102]⟩ : ByteArray).data.toList (((lowB c).toNat : Int)).toNat.toUInt8 = hexI c := fun c => by
      show Lib.indexByte _ (UInt8.ofNat ((lowB c).toNat : Int).toNat) = _
      rw [Int.toNat_natCast, UInt8.ofNat_toNat]
      rfl
    rw [e1] at HIA HIB
    rw [hr]
    obtain ⟨p, hp⟩ : ∃ p, p = hexI a := ⟨_, rfl⟩
    obtain ⟨q, hq⟩ : ∃ q, q = hexI b := ⟨_, rfl⟩
    have hres : hexR (a :: b :: r) = if p < 0 ∨ q < 0 then -1 else 16 * p + q := by rw [hp, hq]; rfl
    obtain ⟨R, hR⟩ : ∃ R, R = hexR (a :: b :: r) := ⟨_, rfl⟩
    rw [← hR]
    have HR := Lib.hid (hR.trans hres)
    clear hR
    rw [← hp] at HIA ia
    rw [← hq] at HIB ib
    clear hp hq hL e1 hl hres hr
    go_enter Tryd.func62, Tryd.ntmps62
    go_wp2_with fail
    refine (HS.out w).mono ?_
    rintro e w1 ⟨rfl, hb1⟩
    have HB1 := Lib.hid hb1
    clear hb1
    go_wp2_with fail
    refine (HIA.out w1).mono ?_
    rintro e w2 ⟨rfl, rfl⟩
    go_wp2_with fail
    refine (HS.out w2).mono ?_
    rintro e w3 ⟨rfl, hb3⟩
    have HB3 := Lib.hid (HB1.out.trans (hb3.mono HB1.out.size))
    clear hb3
    go_wp2_with fail
    refine (HIB.out w3).mono ?_
    rintro e w4 ⟨rfl, rfl⟩
    by_cases hp : p < 0
    · have hRe : R = -1 := by rw [HR.out, if_pos (Or.inl hp)]
      subst hRe
      go_wp2
      go_ret
      exact ⟨rfl, HB3.out⟩
    · by_cases hq : q < 0
      · have hRe : R = -1 := by rw [HR.out, if_pos (Or.inr hq)]
        subst hRe
        go_wp2
        go_ret
        exact ⟨rfl, HB3.out⟩
      · have hRe : R = 16 * p + q := by rw [HR.out, if_neg (by omega)]
        subst hRe
        go_wp2
        go_ret
        exact ⟨rfl, HB3.out⟩
end Go.Proofs.YtcnhnpkbklakoaaDoor.Word
