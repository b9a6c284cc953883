/- A charset's name: the reference's (small letters) against word's (capitals). -/
import Derived.Test.YtcnhnpkbklakoaaDoorSmall
namespace Go.Proofs.YtcnhnpkbklakoaaDoor.Word
open Go.RowKit Go.Proofs.YtcnhnpkbklakoaaDoor.Code Go.Proofs.YtcnhnpkbklakoaaDoor.Runes Go.Proofs.YtcnhnpkbklakoaaDoor.Pieces
theorem up_low (x : UInt8) : upB (lowB x) = upB x := by
  have h : ∀ n : Fin 256, upB (lowB (UInt8.ofNat n.val)) = upB (UInt8.ofNat n.val) := by decide +kernel
  simpa using h ⟨x.toNat, x.toNat_lt⟩
theorem low_up (x : UInt8) : lowB (upB x) = lowB x := by
  have h : ∀ n : Fin 256, lowB (upB (UInt8.ofNat n.val)) = lowB (UInt8.ofNat n.val) := by decide +kernel
  simpa using h ⟨x.toNat, x.toNat_lt⟩
theorem lows_iff (l t u : List UInt8) (h1 : t.map upB = u) (h2 : u.map lowB = t) : l.map lowB = t ↔ l.map upB = u := by
  constructor
  · intro h
    rw [← h1, ← h, List.map_map]
    exact List.map_congr_left fun x _ => (up_low x).symm
  · intro h
    rw [← h2, ← h, List.map_map]
    exact List.map_congr_left fun x _ => (low_up x).symm
theorem cut_star : ∀ (l : List UInt8), (Lib.cut l [42]).1 = l.takeWhile fun x => x != 42 := by
  have hi : ∀ (l : List UInt8), (0 ≤ Lib.index l [42] → l.take (Lib.index l [42]).toNat = l.takeWhile fun x => x != 42) ∧ (Lib.index l [42] < 0 → l = l.takeWhile fun x => x != 42) ∧ -1 ≤ Lib.index l [42] := by
    intro l
    induction l with
    | nil => exact ⟨fun h => absurd h (by decide), fun _ => rfl, by decide⟩
    | cons b l ih =>
      obtain ⟨i1, i2, i3⟩ := ih
      by_cases hb : b = 42
      · subst hb
        have e : Lib.index (42 :: l) [42] = 0 := by simp [Lib.index]
        rw [e]
        exact ⟨fun _ => by simp, fun h => absurd h (by decide), by decide⟩
      · have hp : ([42] : List UInt8).isPrefixOf (b :: l) = false := by
          simp [List.isPrefixOf]
          exact fun h => hb h.symm
        have hb2 : (b != 42) = true := bne_iff_ne.2 hb
        rw [List.takeWhile_cons, if_pos hb2]
        by_cases hn : Lib.index l [42] = -1
        · have e : Lib.index (b :: l) [42] = -1 := by simp [Lib.index, hp, hn]
          rw [e]
          exact ⟨fun h => absurd h (by decide), fun _ => by rw [← i2 (by omega)], by decide⟩
        · have e : Lib.index (b :: l) [42] = Lib.index l [42] + 1 := by simp [Lib.index, hp, hn]
          rw [e]
          refine ⟨fun h => ?_, fun h => by omega, by omega⟩
          rw [show (Lib.index l [42] + 1).toNat = (Lib.index l [42]).toNat + 1 by omega, List.take_succ_cons, i1 (by omega)]
  intro l
  obtain ⟨i1, i2, _⟩ := hi l
  unfold Lib.cut
  by_cases h : 0 ≤ Lib.index l [42]
  · rw [if_pos h]
    exact i1 h
  · rw [if_neg h]
    exact i2 (by omega)
theorem take_star (s : ByteArray) : (s.extract 0 (starAt s)).data.toList = s.data.toList.takeWhile fun x => x != 42 := by
  rw [Lib.extract_data, List.drop_zero, Nat.sub_zero]
  unfold starAt
  have h := List.takeWhile_append_dropWhile (p := fun x : UInt8 => x != 42) (l := s.data.toList)
  conv => lhs; arg 2; rw [← h]
  exact List.take_left
theorem name_iff (s : ByteArray) (t u : List UInt8) (h1 : t.map upB = u) (h2 : u.map lowB = t) : (nameR s).data.toList = t ↔ (nameV s).data.toList = u := by
  have e1 : (nameR s).data.toList = (s.data.toList.takeWhile fun x => x != 42).map lowB := by
    unfold nameR lowV
    rw [← take_star]
  have e2 : (nameV s).data.toList = (s.data.toList.takeWhile fun x => x != 42).map upB := by
    unfold nameV upV
    rw [← cut_star]
  rw [e1, e2]
  exact lows_iff _ _ _ h1 h2
end Go.Proofs.YtcnhnpkbklakoaaDoor.Word
