/- sasl: cram's take by contract. -/
import Derived.Test.YticjpjgfccbhlaaSteps
import Derived.Laws.DeepStrings4
import Derived.RegionTactic
namespace Go.Proofs.Yticjpjgfccbhlaa.Sasl
open Go.RowKit Go.Proofs.YticjpjgfccbhlaaW.PrintWords Go.Proofs.YticjpjgfccbhlaaW.PrintLast Go.Proofs.YticjpjgfccbhlaaW.PrintMore Go.Proofs.Yticjpjgfccbhlaa.PSaslBoth Go.Proofs.Yticjpjgfccbhlaa.Hash
attribute [local go_sem] max2_int min2_int max_two min_two max_three min_three max_four min_four
set_option linter.unusedVariables false
set_option linter.unusedSimpArgs false
def lastSp (a : ByteArray) : Int := Lib.lastIndexByte a 32
theorem lastSp_cases (a : ByteArray) : lastSp a = -1 ∨ ∃ i : Nat, i < a.size ∧ lastSp a = i := by
  rcases Lib.lastIndexByte_spec a 32 with ⟨h, _⟩ | ⟨i, h1, h2, _⟩
  · exact .inl h
  · exact .inr ⟨i, h1, h2⟩
def shownV (T S : Nat → Int) (us : List S40) (stamp nm told : ByteArray) : Bool := us.any fun u => decide (u.f0 = nm ∧ digestV T S u.f1 stamp = told)
set_option maxHeartbeats 2000000 in
set_option maxRecDepth 100000 in
theorem take_cram_bad (stamp a : ByteArray) (v : Value) (w : World) (ha : lastSp a = -1) (hs : a.size ≤ 1000000000) :
    Calls Try.prog 97 #[.agg #[.string stamp], v, .string a] w fun e w' => e = .returned (.tuple #[.nilIface, .string ⟨#[]⟩, .bool false, .int .i64 221]) ∧ Below w.heap.size w w' := by
  have HL := Lib.hid (fun W => Try.strings_LastIndex_one a ⟨#[32]⟩ rfl (by omega) W)
  have e : Lib.lastIndexByte a (((⟨#[32]⟩ : ByteArray)[0]'(by decide)).toNat : Int) = -1 := ha
  rw [e] at HL
  clear e
  go_enter Try.func97, Try.ntmps97
  go_wp2_with (go_at_call 98; refine (HL.out _).mono ?_; rintro e w1 ⟨rfl, rfl⟩)
  refine bodyPost_ret (results_list (rs := [.tmp 6, .tmp 7, .tmp 8, .tmp 9]) rfl (by simp) (.tmp (.tmp (.tmp (.tmp .nil))))) rfl ?_
  exact ⟨rfl, (Below.refl _ _).alloc (Nat.le_refl _) _⟩
set_option maxHeartbeats 2000000 in
set_option maxRecDepth 100000 in
theorem take_cram_good {T S : Nat → Int} (stamp a : ByteArray) (i : Nat) (A : Option Addr) (n c : Nat) (us : List S40) (w : World) (ht : Tabs T S w) (ha : lastSp a = i) (hia : i < a.size) (hs : a.size ≤ 1000000000) (hst : stamp.size ≤ 100000000)
    (hC : Kd.C k40 w A n us) (hn : us.length = n) (hc : n ≤ c) (hn2 : n ≤ 1000000000) (hus : ∀ u ∈ us, u.f1.size ≤ 100000000) :
    Calls Try.prog 97 #[.agg #[.string stamp], .slice A n c, .string a] w fun e w' => e = .returned (.tuple #[.nilIface, .string (a.extract 0 i), .bool (shownV T S us stamp (a.extract 0 i) (a.extract (i + 1) a.size)), .int .i64 0]) ∧ Below w.heap.size w w' := by
  have HL := Lib.hid (fun W => Try.strings_LastIndex_one a ⟨#[32]⟩ rfl (by omega) W)
  have e : Lib.lastIndexByte a (((⟨#[32]⟩ : ByteArray)[0]'(by decide)).toNat : Int) = i := ha
  rw [e] at HL
  clear e
  obtain ⟨W0, hW0⟩ : ∃ W0, W0 = w.alloc (.cells #[.string stamp] 64) := ⟨_, rfl⟩
  have hb0 : Below w.heap.size w W0 := hW0 ▸ (Below.refl _ _).alloc (Nat.le_refl _) _
  have y0 : W0.cell? ⟨w.heap.size, 0, none⟩ = some (.string stamp) := by rw [hW0]; exact blk_cell (heap_alloc_new w (.cells #[.string stamp] 64)) 0
  have hB0 : Below W0.heap.size W0 W0 := Below.refl _ _
  have HB0 := Lib.hid hb0
  have HW0 := Lib.hid hW0
  have HC := Lib.hid (Kd.C_below hC hb0)
  have HT := Lib.hid (ht.below hb0 ht.size)
  have HY := Lib.hid y0
  clear hC hb0 hW0 y0
  go_enter Try.func97, Try.ntmps97
  go_wp2_with (go_at_call 98; refine (HL.out _).mono ?_; rintro e w1 ⟨rfl, rfl⟩)
  rw [← HW0.out]
  have w1 : wrap64 ((i : Int) + 1) = (i : Int) + 1 := by unfold wrap64; omega
  go_region
  go_wp2
  obtain ⟨nm, hnm⟩ : ∃ nm, nm = a.extract 0 i := ⟨_, rfl⟩
  obtain ⟨told, htold⟩ : ∃ told, told = a.extract (i + 1) a.size := ⟨_, rfl⟩
  simp only [← hnm, ← htold]
  have HNM := Lib.hid hnm
  have HTO := Lib.hid htold
  clear hnm htold w1
  go_loopw [28] (fun v wr => ∃ k : Nat, k ≤ n ∧ v = .int .i64 k ∧ Below W0.heap.size W0 wr ∧ shownV T S (us.take k) stamp nm told = false) (fun v _ => n - (intOf v).toNat)
  case atStart => exact ⟨0, by omega, rfl, below_drew1 (Below.refl _ _), rfl⟩
  case round =>
    obtain ⟨k, hk, rfl, hB, hbf⟩ := hrel
    have HB := Lib.hid hB
    have HBF := Lib.hid hbf
    clear hB hbf
    by_cases hlt : k < n
    · obtain ⟨u, hu⟩ : ∃ u, us[k]? = some u := ⟨_, List.getElem?_eq_getElem (by omega)⟩
      obtain ⟨ad, rfl, y0, y1⟩ := at_T40 (Kd.C_below HC.out HB.out) (k : Int) (by omega) (by omega)
      rw [rd_T40_at hu, Int.toNat_natCast] at y0 y1
      have hstep : shownV T S (us.take (k + 1)) stamp nm told = decide (u.f0 = nm ∧ digestV T S u.f1 stamp = told) := by
        have h := HBF.out
        unfold shownV at h ⊢
        rw [List.take_add_one, hu, List.any_append, h]
        simp
      have HST := Lib.hid hstep
      have HU := Lib.hid hu
      have hbz := HB.out.alloc HB.out.size (.cells #[.string u.f0, .string u.f1] 41)
      have x0 : (wr.alloc (.cells #[.string u.f0, .string u.f1] 41)).cell? ⟨w.heap.size, 0, none⟩ = some (.string stamp) := (hbz.cell (World.block_lt_of_cell? W0 _ HY.out)).trans HY.out
      have HDG := Lib.hid (digest_calls2 u.f1 stamp (wr.alloc (.cells #[.string u.f0, .string u.f1] 41)) (HT.out.below hbz HT.out.size) (hus u (List.mem_of_getElem? hu)) hst)
      have HBZ := Lib.hid hbz
      clear hbz hstep hu
      by_cases h0 : u.f0 = nm
      · subst h0
        by_cases h1 : digestV T S u.f1 stamp = told
        · have hall : shownV T S us stamp (a.extract 0 i) (a.extract (i + 1) a.size) = true := by
            rw [← HNM.out, ← HTO.out]
            unfold shownV
            exact List.any_eq_true.2 ⟨u, List.mem_of_getElem? HU.out, decide_eq_true ⟨rfl, h1⟩⟩
          have HALL := Lib.hid hall
          subst h1
          clear hall
          go_wp2_with (go_at_call 99; refine HDG.out.mono ?_; rintro e w4 ⟨rfl, hb4⟩)
          refine bodyPost_ret (results_list (rs := [.tmp 6, .tmp 7, .tmp 8, .tmp 9]) rfl (by simp) (.tmp (.tmp (.tmp (.tmp .nil))))) rfl ?_
          exact ⟨by rw [HALL.out, ← HNM.out]; rfl, HB0.out.trans ((HBZ.out.trans (hb4.mono HBZ.out.size)).mono HB0.out.size)⟩
        · have q1 : ((digestV T S u.f1 stamp).toList == told.toList) = false := by rw [eq_toList]; exact decide_eq_false h1
          go_wp2_with (go_at_call 99; refine HDG.out.mono ?_; rintro e w4 ⟨rfl, hb4⟩)
          go_roundw
          case rel => exact ⟨k + 1, by omega, by go_num, HBZ.out.trans (hb4.mono HBZ.out.size), by rw [HST.out]; simp [h1]⟩
          case measure => simp [intOf]; omega
      · have q0 : (u.f0.toList == nm.toList) = false := by rw [eq_toList]; exact decide_eq_false h0
        go_wp2
        go_roundw
        case rel => exact ⟨k + 1, by omega, by go_num, HBZ.out, by rw [HST.out]; simp [h0]⟩
        case measure => simp [intOf]; omega
    · obtain rfl : k = n := by omega
      go_wp2
      refine bodyPost_ret (results_list (rs := [.tmp 6, .tmp 7, .tmp 8, .tmp 9]) rfl (by simp) (.tmp (.tmp (.tmp (.tmp .nil))))) rfl ?_
      have hf : shownV T S us stamp (a.extract 0 i) (a.extract (i + 1) a.size) = false := by
        rw [← HNM.out, ← HTO.out, ← HBF.out, List.take_of_length_le (by omega)]
      exact ⟨by rw [hf, ← HNM.out]; rfl, HB0.out.trans (HB.out.mono HB0.out.size)⟩
end Go.Proofs.Yticjpjgfccbhlaa.Sasl
