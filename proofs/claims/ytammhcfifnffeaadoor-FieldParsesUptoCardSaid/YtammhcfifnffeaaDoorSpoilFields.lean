/- The function spoilFields by contract. -/
import Derived.Test.YtammhcfifnffeaaDoorSpoil
import Derived.Test.YtammhcfifnffeaaDoorHand
namespace Go.Proofs.YtammhcfifnffeaaDoor.SpoilFields
open Go.Proofs.YtammhcfifnffeaaDoor.Spoil Go.Proofs.YtammhcfifnffeaaDoor.Hand Go.RowKit Go.Proofs.YtammhcfifnffeaaDoorW.PrintWords Go.Proofs.YtammhcfifnffeaaDoor.PFieldPrints
set_option linter.unusedVariables false
set_option linter.unusedSimpArgs false

theorem made_one : ∀ u ∈ (madeCells (Value.agg #[.string ⟨#[]⟩, .string ⟨#[]⟩]).cells (70 * 2)).toList, u.oneCell' = true := by decide +kernel

set_option maxHeartbeats 4000000 in
set_option maxRecDepth 100000 in
theorem spoilF_calls (b : Nat) (A : Option Addr) (n c : Nat) (w : World) (hown : ∃ xs, w.ownsRow b 30 2 (.slice A n c) n xs) (hb : b ≤ w.heap.size) (hn : (n + 90) * 32 ≤ 140737488355328) :
    Calls Tryd.prog 25 #[.slice A n c] w fun e w' => (∃ u, e = .returned u) ∧ Spoilt w w' (.slice A n c) := by
  obtain ⟨i0, hi, hz0, hz1, hz2⟩ := info_parts info30
  have hform := own_form hown
  have HBY := Lib.hid (show ∀ m, m ≤ 90 → (n + m) * 32 ≤ 140737488355328 from fun m hm => by omega)
  have HML := Lib.hid (show ∀ m, m ≤ 90 → n + m ≤ maxLen from fun m hm => by unfold maxLen; omega)
  have HO := Lib.hid hown
  have HF := Lib.hid hform
  have hn2 : n ≤ 140737488355328 := by omega
  clear hown hform hn
  go_enter Tryd.func25, Tryd.ntmps25
  go_wp2
  go_loopw [7] (fun v wr => ∃ k : Nat, k ≤ n ∧ v = .int .i64 k ∧ Spoilt w wr (.slice A n c)) (fun v _ => n - (intOf v).toNat)
  case atStart => exact ⟨0, by omega, rfl, .refl _ _⟩
  case round =>
    obtain ⟨k, hk, rfl, hS⟩ := hrel
    by_cases hlt : k < n
    · obtain ⟨g, hA, hg⟩ : ∃ g, A = some ⟨g, 0, none⟩ ∧ (Value.slice A n c).ownBlock = some g := by
        rcases HF.out with ⟨h, h0⟩ | ⟨g, cap, h, _⟩
        · omega
        · cases h
          exact ⟨g, rfl, rfl⟩
      subst hA
      obtain ⟨u, hu, hf⟩ := own_cell_at (hS.shaped.own HO.out) (k * 2) (by omega)
      obtain ⟨u2, hu2, hf2⟩ := own_cell_at (hS.shaped.own HO.out) (k * 2 + 1) (by omega)
      have hg' := Lib.hid hg
      clear hg
      go_wp2
      go_roundw
      case rel => exact ⟨k + 1, by omega, by go_num, (hS.set _ _ (.inl hg'.out) _).set _ _ (.inl hg'.out) _⟩
      case measure => simp [intOf]; omega
    · obtain rfl : k = n := by omega
      go_wp2
      go_loopw [3, 16] (fun v i wr => ∃ (m : Nat) (A' : Option Addr) (c' : Nat), m ≤ 20 ∧ i = .int .i64 m ∧ v = .slice A' (k + m) c' ∧ (∃ xs, wr.ownsRow b 30 2 v (k + m) xs) ∧ Spoilt w wr (.slice A k c) ∧ (v.ownBlock = (Value.slice A k c).ownBlock ∨ ∃ q, v.ownBlock = some q ∧ w.heap.size ≤ q)) (fun _ i _ => 20 - (intOf i).toNat)
      case atStart => exact ⟨0, A, c, by omega, rfl, rfl, hS.shaped.own HO.out, hS, .inl rfl⟩
      case round =>
        obtain ⟨m, A', c', hm, rfl, rfl, ho, hS2, hq⟩ := hrel
        by_cases hlt2 : m < 20
        · have HQ := Lib.hid hq
          clear hq
          obtain ⟨xs0, ho⟩ := ho
          have hsz := hS2.grown.size
          go_wp2_with (at_builtin; refine wpList_append_shaped _ rfl (.tmp 18) (.tmp 20) 22 rfl b 30 i0 _ 2 32 Tryd.underlying22 hi hz0 hz1 hz2 rfl (by decide) _ (k + m) rfl ⟨_, ho.alloc _⟩ ⟨wr.heap.size, 0, none⟩ 1 1 [.string ⟨#[33]⟩, .string ⟨#[]⟩] rfl rfl (news_two _ _ _ _) (one_two _ _) (HML.out (m + 1) (by omega)) (HBY.out (m + 1) (by omega)) (Nat.le_trans hb (Nat.le_trans hsz (by simp))) ?_; intro v' w2 hown2 hg2 hsh2 hat2)
          obtain ⟨ys, hys⟩ := hown2
          obtain ⟨A2, c2, rfl⟩ := own_slice hys
          have hS3 : Spoilt w w2 (.slice A k c) := (hS2.below (below_alloc (Below.refl _ _) _)).grow hg2 hsh2 HQ.out
          have hq3 : (Value.slice A2 (k + m + 1) c2).ownBlock = (Value.slice A k c).ownBlock ∨ ∃ q, (Value.slice A2 (k + m + 1) c2).ownBlock = some q ∧ w.heap.size ≤ q := by
            rcases hat2 with h | h
            · rw [h]; exact HQ.out
            · exact .inr ⟨_, h, by simp; omega⟩
          have HQ3 := Lib.hid hq3
          clear hg2 hsh2 hat2 hq3 HQ ho hS2
          go_wp2
          go_roundw
          case rel => exact ⟨m + 1, A2, c2, by omega, by go_num, rfl, ⟨ys, hys⟩, hS3, HQ3.out⟩
          case measure => simp [intOf]; omega
        · obtain rfl : m = 20 := by omega
          clear hq ho
          have HS2 := Lib.hid (hS2.shaped.own HO.out)
          have hsz := hS2.grown.size
          have hm1 := made_one
          have HM1 := Lib.hid hm1
          clear hm1
          go_wp2_with (at_make; refine wpList_make_full _ rfl _ _ 22 rfl b 30 i0 _ 2 Tryd.underlying22 hi hz0 hz1 .i64 .i64 70 70 70 rfl rfl (by omega) (by omega) (by omega) (by unfold maxLen; omega) (by omega) ?_)
          intro w3 hown3 hg3
          have hS3 : Spoilt w w3 (.slice A k c) := hS2.below ((Below.refl _ _).grown hg3 (Nat.le_refl _) (fun q h => by cases h))
          have hsz3 := hS3.grown.size
          have HS3 := Lib.hid (hS3.shaped.own HO.out)
          have HC3 := Lib.hid (hown3.cells rfl)
          clear hown3 hg3 HS2 hS2
          go_wp2_with (at_builtin; refine wpList_append_shaped _ rfl (.tmp 24) (.tmp 25) 22 rfl b 30 i0 _ 2 32 Tryd.underlying22 hi hz0 hz1 hz2 rfl (by decide) _ k rfl HS3.out _ 70 70 _ rfl (by rw [Array.length_toList, size_madeCells]) HC3.out HM1.out (HML.out 70 (by omega)) (HBY.out 70 (by omega)) (by omega) ?_)
          intro v' w4 ys4 hys4 hg4 hsh4 hat4
          have hown4 : ∃ ys, w4.ownsRow b 30 2 v' (k + 70) ys := ⟨ys4, hys4⟩
          have hS4 : Spoilt w w4 (.slice A k c) := hS3.grow hg4 hsh4 (.inl rfl)
          have hq4 : v'.ownBlock = (Value.slice A k c).ownBlock ∨ w.heap.size ≤ w3.heap.size ∧ v'.ownBlock = some w3.heap.size := by
            rcases hat4 with h | h
            · exact .inl h
            · exact .inr ⟨hsz3, h⟩
          rcases own_form hown4 with ⟨_, h0⟩ | ⟨g, cap, rfl, _, _, _⟩
          · omega
          obtain ⟨u, hu, hf⟩ := own_cell_at hown4 0 (by omega)
          obtain ⟨u2, hu2, hf2⟩ := own_cell_at hown4 1 (by omega)
          have HQ4 : Hid ((Value.slice A k c).ownBlock = some g ∨ w.heap.size ≤ g) := Lib.hid (by
            rcases hq4 with h | ⟨h1, h2⟩
            · exact .inl h.symm
            · simp only [Value.ownBlock, Option.some.injEq] at h2
              exact .inr (by omega))
          clear hown4 hys4 hg4 hsh4 hat4 hq4 HC3 HM1 HS3 hS3
          go_wp2
          go_end0
          exact ⟨⟨_, rfl⟩, (hS4.set _ _ HQ4.out _).set _ _ HQ4.out _⟩
end Go.Proofs.YtammhcfifnffeaaDoor.SpoilFields
