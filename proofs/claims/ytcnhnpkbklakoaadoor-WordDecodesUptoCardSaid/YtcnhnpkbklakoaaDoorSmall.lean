/- posthornref17.small, name, hex. -/
import Derived.Test.YtcnhnpkbklakoaaDoorG4
import Derived.Laws.IdiomStrings
import Derived.Lib.SmallJoins
namespace Go.Proofs.YtcnhnpkbklakoaaDoor.Word
open Go.RowKit Go.Shelf Go.Proofs.YtcnhnpkbklakoaaDoorW.PrintWords Go.Proofs.YtcnhnpkbklakoaaDoorW.PrintLast Go.Proofs.YtcnhnpkbklakoaaDoorW.PrintMore Go.Proofs.YtcnhnpkbklakoaaDoor.PWordEncodes
open Go.Proofs.YtcnhnpkbklakoaaDoor.Code Go.Proofs.YtcnhnpkbklakoaaDoor.Runes Go.Proofs.YtcnhnpkbklakoaaDoor.Pieces
attribute [local go_sem] max2_int min2_int max_two min_two max_three min_three max_four min_four
set_option linter.unusedVariables false
set_option linter.unusedSimpArgs false
def lowB (x : UInt8) : UInt8 := if 65 ≤ x.toNat ∧ x.toNat ≤ 90 then x + 32 else x
def lowV (s : ByteArray) : ByteArray := ⟨(s.data.toList.map lowB).toArray⟩
theorem conv_bytes (s : ByteArray) (w : World) : ∃ W1 cap m cs, (convert 9 39 (.string s)).run Tryd.prog w = .ok (.slice (some ⟨w.heap.size, 0, none⟩) s.size cap) W1 ∧ W1.heap[w.heap.size]? = some (.cells cs 5 (m, m + 1)) ∧ s.size ≤ m ∧
    (∀ j (hj : j < s.size), cs[j]? = some (.int .u8 ((s[j]'hj).toNat : Int))) ∧ Below w.heap.size w W1 ∧ W1.heap.size = w.heap.size + 1 := by
  refine ⟨_, _, (bytesRow s (grownCap w s.size 0 5)).size, bytesRow s (grownCap w s.size 0 5), run_bytes_of_string w 9 39 5 s Tryd.underlying9 Tryd.underlying39 Tryd.underlying5, ?_, ?_, ?_, ?_, ?_⟩
  · show (w.heap.push _)[w.heap.size]? = _
    simp
  · unfold bytesRow
    rw [Array.size_append, Array.size_map]
    exact Nat.le_add_right _ _
  · intro j hj
    exact bytesRow_at s _ j hj
  · exact ((Below.refl _ _).drew).alloc (Nat.le_refl _) _
  · show (w.heap.push _).size = _
    simp
theorem not_frozen {w : World} {g m i : Nat} {cs : Array Value} {t : TypeId} (h : w.heap[g]? = some (.cells cs t (m, m + 1))) (hi : i < m) : w.frozen? ⟨g, i, none⟩ = false := by
  simp [World.frozen?, h]
  omega
theorem cellB {w : World} {g : Nat} {cs : Array Value} {t : TypeId} {fr : Nat × Nat} (h : w.heap[g]? = some (.cells cs t fr)) (i : Nat) : w.cell? ⟨g, i, none⟩ = cs[i]? := by simp [World.cell?, h]
theorem lowB_in {x : UInt8} (h : 65 ≤ x.toNat) (h2 : x.toNat ≤ 90) : ((lowB x).toNat : Int) = (x.toNat : Int) + 32 := by
  unfold lowB
  rw [if_pos ⟨h, h2⟩, UInt8.toNat_add]
  have : (32 : UInt8).toNat = 32 := rfl
  omega
theorem lowB_out {x : UInt8} (h : ¬ (65 ≤ x.toNat ∧ x.toNat ≤ 90)) : lowB x = x := by
  unfold lowB
  rw [if_neg h]
set_option maxHeartbeats 4000000 in
set_option maxRecDepth 100000 in
theorem small_calls (s : ByteArray) (w : World) (hs : s.size ≤ 3000000000) :
    Calls Tryd.prog 60 #[.string s] w fun e w' => e = .returned (.string (lowV s)) ∧ Below w.heap.size w w' := by
  obtain ⟨W1, cap, m, cs, hrun, hg, hm, hcs, hb, hz⟩ := conv_bytes s w
  have HG := Lib.hid hg
  have HCS := Lib.hid hcs
  have HB := Lib.hid hb
  clear hg hcs hb
  go_enter Tryd.func60, Tryd.ntmps60
  go_wp2
  go_loopw [9] (fun v wr => ∃ (k : Nat) (ds : Array Value), k ≤ s.size ∧ v = .int .i64 k ∧ wr.heap[w.heap.size]? = some (.cells ds 5 (m, m + 1)) ∧ Below w.heap.size w wr ∧
    (∀ j (hj : j < s.size), ds[j]? = some (.int .u8 (((if j < k then lowB (s[j]'hj) else s[j]'hj).toNat : Nat) : Int)))) (fun v _ => s.size - (intOf v).toNat)
  case atStart => exact ⟨0, cs, Nat.zero_le _, rfl, HG.out, HB.out, fun j hj => by rw [if_neg (by omega)]; exact HCS.out j hj⟩
  case round =>
    obtain ⟨k, ds, hk, rfl, hg2, hb2, hds⟩ := hrel
    have HG2 := Lib.hid hg2
    have HB2 := Lib.hid hb2
    have HDS := Lib.hid hds
    clear hg2 hb2 hds
    by_cases hlt : k < s.size
    · have hc := HDS.out k hlt
      rw [if_neg (Nat.lt_irrefl _)] at hc
      obtain ⟨x, hx⟩ : ∃ x : UInt8, s[k]'hlt = x := ⟨_, rfl⟩
      rw [hx] at hc
      have HX := Lib.hid hx
      clear hx
      have hcell : wr.cell? ⟨w.heap.size, k, none⟩ = some (.int .u8 (x.toNat : Int)) := by rw [cellB HG2.out]; exact hc
      have hfr := not_frozen HG2.out (show k < m by omega)
      clear hc
      by_cases h65 : 65 ≤ x.toNat
      · by_cases h90 : x.toNat ≤ 90
        · have HLX := Lib.hid (lowB_in h65 h90)
          go_wp2
          refine ⟨⟨k + 1, ds.setIfInBounds k (.int .u8 ((x.toNat : Int) + 32)), by omega, by go_num, Go.Joins.block_setCell HG2.out _, HB2.out.setCell (Nat.le_refl _) _, fun j hj => ?_⟩, by simp [intOf]; omega⟩
          by_cases hjk : j = k
          · subst hjk
            have hlt2 : j < ds.size := (Array.getElem?_eq_some_iff.1 (HDS.out j hj)).1
            rw [if_pos (by omega), HX.out, HLX.out, Array.getElem?_setIfInBounds_self_of_lt hlt2]
          · rw [Array.getElem?_setIfInBounds_ne (by omega), HDS.out j hj]
            by_cases hj2 : j < k
            · rw [if_pos hj2, if_pos (by omega)]
            · rw [if_neg hj2, if_neg (by omega)]
        · have HLX := Lib.hid (lowB_out (x := x) (by omega))
          go_wp2
          go_roundw
          case rel => exact ⟨k + 1, ds, by omega, by go_num, HG2.out, HB2.out, fun j hj => by
            rw [HDS.out j hj]
            by_cases hjk : j = k
            · subst hjk
              rw [if_neg (Nat.lt_irrefl _), if_pos (by omega), HX.out, HLX.out]
            · by_cases hj2 : j < k
              · rw [if_pos hj2, if_pos (by omega)]
              · rw [if_neg hj2, if_neg (by omega)]⟩
          case measure => simp [intOf]; omega
      · have HLX := Lib.hid (lowB_out (x := x) (by omega))
        go_wp2
        go_roundw
        case rel => exact ⟨k + 1, ds, by omega, by go_num, HG2.out, HB2.out, fun j hj => by
          rw [HDS.out j hj]
          by_cases hjk : j = k
          · subst hjk
            rw [if_neg (Nat.lt_irrefl _), if_pos (by omega), HX.out, HLX.out]
          · by_cases hj2 : j < k
            · rw [if_pos hj2, if_pos (by omega)]
            · rw [if_neg hj2, if_neg (by omega)]⟩
        case measure => simp [intOf]; omega
    · obtain rfl : k = s.size := by omega
      have hl : (s.data.toList.map lowB).length = s.size := by rw [List.length_map, data_length]
      have hback := run_convert_bytes_back (P := Tryd.prog) wr 39 9 5 ⟨w.heap.size, 0, none⟩ cap (s.data.toList.map lowB) Tryd.underlying39 Tryd.underlying5 Tryd.underlying9 (fun j hj => by
        rw [hl] at hj
        rw [show (⟨w.heap.size, 0, none⟩ : Addr).add j = ⟨w.heap.size, j, none⟩ by simp [Addr.add] <;> omega, cellB HG2.out, HDS.out j hj, if_pos hj, List.getElem_map]
        rfl)
      rw [hl] at hback
      replace hback : (convert 39 9 (.slice (some ⟨w.heap.size, 0, none⟩) s.size cap)).run Tryd.prog wr = .ok (.string (lowV s)) wr := hback
      clear hl
      go_wp2
      go_ret
      exact ⟨rfl, HB2.out⟩
theorem slice_str0 (s : ByteArray) (j : Nat) (hj : j ≤ s.size) (W : World) : (Instr.slice 9 (.string s) none (some (.int .i64 (j : Int))) none).run Tryd.prog W = .ok (.string (s.extract 0 j)) W := by
  rw [run_slice_string_to_if W 9 s .i64 _ Tryd.underlying9, if_pos ⟨by omega, by omega⟩]
  rfl
/-- the text ahead of the first '*' -/
def starAt (s : ByteArray) : Nat := (s.data.toList.takeWhile fun x => x != 42).length
def nameR (s : ByteArray) : ByteArray := lowV (s.extract 0 (starAt s))
theorem star_go (s : ByteArray) (k : Nat) (hk : k < s.size) (hall : ∀ (j : Nat) b, j < k → s.data.toList[j]? = some b → b ≠ 42) (hx : s[k]'hk = 42) : starAt s = k := by
  have hl := data_length s
  have h : s.data.toList = s.data.toList.take k ++ (42 :: s.data.toList.drop (k + 1)) := by
    have h2 : s.data.toList.drop k = s.data.toList[k]'(by omega) :: s.data.toList.drop (k + 1) := List.drop_eq_getElem_cons (by omega)
    have h3 : s.data.toList[k]'(by omega) = 42 := by rw [← hx]; rfl
    rw [h3] at h2
    rw [← h2, List.take_append_drop]
  unfold starAt
  rw [h, List.takeWhile_append_of_pos, List.takeWhile_cons, if_neg (by decide)]
  · simp only [List.append_nil, List.length_take]; omega
  · intro x hx2
    obtain ⟨j, hj, rfl⟩ := List.mem_iff_getElem.1 hx2
    rw [List.length_take] at hj
    rw [List.getElem_take]
    exact bne_iff_ne.2 (hall j _ (by omega) (List.getElem?_eq_getElem (by omega)))
theorem star_none (s : ByteArray) (hall : ∀ (j : Nat) b, s.data.toList[j]? = some b → b ≠ 42) : starAt s = s.size := by
  unfold starAt
  rw [← data_length]
  have h : s.data.toList.takeWhile (fun x => x != 42) = s.data.toList := by
    have h2 := List.takeWhile_append_of_pos (p := fun x : UInt8 => x != 42) (l₁ := s.data.toList) (l₂ := []) ?_
    · simpa using h2
    · intro x hx
      obtain ⟨j, hj, rfl⟩ := List.mem_iff_getElem.1 hx
      exact bne_iff_ne.2 (hall j _ (List.getElem?_eq_getElem hj))
  rw [h]
set_option maxHeartbeats 4000000 in
set_option maxRecDepth 100000 in
theorem name_calls (s : ByteArray) (w : World) (hs : s.size ≤ 3000000000) :
    Calls Tryd.prog 36 #[.string s] w fun e w' => e = .returned (.string (nameR s)) ∧ Below w.heap.size w w' := by
  have HSM := Lib.hid (fun (k : Nat) (hk : k ≤ s.size) => small_calls (s.extract 0 k) w (by rw [ByteArray.size_extract]; omega))
  obtain ⟨R, hR⟩ : ∃ R, R = nameR s := ⟨_, rfl⟩
  rw [← hR]
  have HR := Lib.hid hR
  clear hR
  go_enter Tryd.func36, Tryd.ntmps36
  go_wp2
  go_loop [3] (fun v => ∃ k : Nat, k ≤ s.size ∧ v = .int .i64 k ∧ ∀ (j : Nat) b, j < k → s.data.toList[j]? = some b → b ≠ 42) (fun v => s.size - (intOf v).toNat)
  case atStart => exact ⟨0, by omega, rfl, fun j b h => by omega⟩
  case round =>
    obtain ⟨k, hk, rfl, hall⟩ := hrel
    have HALL := Lib.hid hall
    clear hall
    by_cases hlt : k < s.size
    · obtain ⟨x, hx⟩ : ∃ x : UInt8, s[k]'hlt = x := ⟨_, rfl⟩
      have hxl : s.data.toList[k]? = some x := by rw [← hx]; exact Lib.data_getElem? s k hlt
      have HXL := Lib.hid hxl
      clear hxl
      by_cases h42 : x = 42
      · have HE := Lib.hid (show R = lowV (s.extract 0 k) by rw [HR.out]; unfold nameR; rw [star_go s k hlt HALL.out (hx.trans h42)])
        subst h42
        have hsl : (Instr.slice 9 (.string s) none (some (.int .i64 (k : Int))) none).run Tryd.prog w = .ok (.string (s.extract 0 k)) w := slice_str0 s k hk w
        have HS := HSM.out k hk
        rw [← HE.out] at HS
        go_wp2_with fail
        refine HS.mono ?_
        rintro e w1 ⟨rfl, hb1⟩
        have HB1 := Lib.hid hb1
        clear hb1
        go_wp2
        go_ret
        exact ⟨rfl, HB1.out⟩
      · have hne : x.toNat ≠ 42 := fun h => h42 (by rw [← UInt8.toNat_inj]; exact h)
        have HNX : Hid (∀ (j : Nat) b, j < k + 1 → s.data.toList[j]? = some b → b ≠ 42) := Lib.hid (fun j b h hb => by
          rcases Nat.lt_or_ge j k with h' | h'
          · exact HALL.out j b h' hb
          · obtain rfl : j = k := by omega
            rw [HXL.out] at hb
            cases hb
            exact h42)
        go_wp2
        go_round
        case rel => exact ⟨k + 1, by omega, by go_num, HNX.out⟩
        case measure => simp [intOf]; omega
    · obtain rfl : k = s.size := by omega
      have HE := Lib.hid (show R = lowV (s.extract 0 s.size) by
        rw [HR.out]; unfold nameR; rw [star_none s (fun j b hb => HALL.out j b (by
          have := (List.getElem?_eq_some_iff.1 hb).1
          rw [data_length] at this
          exact this) hb)])
      have HS := HSM.out s.size (Nat.le_refl _)
      rw [← HE.out] at HS
      have hex : s.extract 0 s.size = s := by simp
      rw [hex] at HS
      go_wp2_with fail
      refine HS.mono ?_
      rintro e w1 ⟨rfl, hb1⟩
      have HB1 := Lib.hid hb1
      clear hb1
      go_wp2
      go_ret
      exact ⟨rfl, HB1.out⟩
end Go.Proofs.YtcnhnpkbklakoaaDoor.Word
