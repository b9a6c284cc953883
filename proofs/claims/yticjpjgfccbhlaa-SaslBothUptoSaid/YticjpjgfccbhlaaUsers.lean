/- sasl: users (kinds began as printed), paired, the steps and what they ask, first: by contract. -/
import Derived.Test.YticjpjgfccbhlaaHash10
import Derived.Test.YticjpjgfccbhlaaShelf
import Derived.Laws.StructEq
namespace Go.Proofs.Yticjpjgfccbhlaa.Sasl
open Go.RowKit Go.Proofs.YticjpjgfccbhlaaW.PrintWords Go.Proofs.YticjpjgfccbhlaaW.PrintLast Go.Proofs.YticjpjgfccbhlaaW.PrintMore Go.Proofs.Yticjpjgfccbhlaa.PSaslBoth
attribute [local go_sem] max2_int min2_int max_two min_two max_three min_three max_four min_four
set_option linter.unusedVariables false
set_option linter.unusedSimpArgs false
structure S40 where
  f0 : ByteArray
  f1 : ByteArray
def z40 : S40 := ⟨(⟨#[]⟩ : ByteArray), (⟨#[]⟩ : ByteArray)⟩
def k40 : Kd S40 := Kd.iso (Kd.pair Kd.string Kd.string) (fun x : S40 => (x.f0, x.f1))
theorem k40_open {w : World} {x : S40} {cs : List Value} (h : k40.K w x cs) : cs = [.string x.f0, .string x.f1] := by
  obtain ⟨_, _, rfl, rfl, rfl⟩ := h
  exact rfl
theorem k40_openM {w : World} {base : Nat} {ok : Nat → Prop} {x : S40} {cs : List Value} (h : k40.M w base ok x cs) : cs = [.string x.f0, .string x.f1] := by
  obtain ⟨_, _, rfl, rfl, rfl⟩ := h
  exact rfl
theorem k40_mk (w : World) (x : S40)  : k40.K w x [.string x.f0, .string x.f1] := ⟨[.string x.f0], [.string x.f1], rfl, rfl, rfl⟩
theorem k40_mkM (w : World) (base : Nat) (ok : Nat → Prop) (x : S40)  : k40.M w base ok x [.string x.f0, .string x.f1] := ⟨[.string x.f0], [.string x.f1], rfl, rfl, rfl⟩
def rd_T40 (xs : List S40) (i : Int) : S40 := xs.getD i.toNat z40
theorem at_T40 {w : World} {A : Option Addr} {n : Nat} {xs : List S40} (h : Kd.C k40 w A n xs) (i : Int) (h0 : 0 ≤ i) (h1 : i < n) : ∃ ad , A = some ad ∧ w.cell? (ad.add (i.toNat * 2)) = some (.string (rd_T40 xs i).f0) ∧ w.cell? ⟨(ad.add (i.toNat * 2)).block, (ad.add (i.toNat * 2)).off + 1, none⟩ = some (.string (rd_T40 xs i).f1) := by
  obtain ⟨ad, c, e, _, hK, hc0⟩ := Kd.C_get h z40 i h0 h1
  have hc : ∀ j u, c[j]? = some u → w.cell? (ad.add (i.toNat * 2 + j)) = some u := hc0
  obtain rfl := k40_open hK
  exact ⟨ad, e, hc 0 _ rfl, by rw [← add_field _ _ 1 (by omega)]; exact hc 1 _ rfl⟩


def pairedV (us : List S40) (nm sec : ByteArray) : Bool := us.any fun u => decide (u.f0 = nm ∧ u.f1 = sec)
theorem rd_T40_at {us : List S40} {k : Nat} {u : S40} (h : us[k]? = some u) : rd_T40 us (k : Int) = u := by
  unfold rd_T40
  rw [List.getD_eq_getElem?_getD, Int.toNat_natCast, h]
  rfl
theorem equal_user (a b c d : ByteArray) (W : World) : (Op.equalIn 10000 41 (.agg #[.string a, .string b]) (.agg #[.string c, .string d])).run Try.prog W = .ok (decide (a = c ∧ b = d)) W := by
  have hs : ∀ (a c : ByteArray) W, (Op.equalIn 9999 9 (.string a) (.string c)).run Try.prog W = .ok (decide (a = c)) W := by
    intro a c W
    rw [show (9999 : Nat) = 9998 + 1 from rfl, Op.equalIn]
    simp only [Sem.run_bind, run_underlying Try.underlying9, Result.andThen_ok, Sem.run_pure]
    rw [beq_toListBytes, ByteArray.toList_eq, ByteArray.toList_eq]
    congr 1
    by_cases h : a = c
    · simp [h]
    · have h2 : ¬ a.data = c.data := fun hh => h (by cases a; cases c; simpa using hh)
      simp [h, h2]
  have hf : (Try.prog.fieldsOf 41).toList = [{ name := "Name", type := 9, offset := 0, embedded := false, tag := "", pkgPath := "", byteOffset := 0 }, { name := "Secret", type := 9, offset := 1, embedded := false, tag := "", pkgPath := "", byteOffset := 16 }] := by kernel_rfl
  have p0 : ∀ (x y : ByteArray) W, (part 9 #[.string x, .string y] 0).run Try.prog W = .ok (.string x) W := fun x y W => by kernel_rfl
  have p1 : ∀ (x y : ByteArray) W, (part 9 #[.string x, .string y] 1).run Try.prog W = .ok (.string y) W := fun x y W => by kernel_rfl
  rw [show (10000 : Nat) = 9999 + 1 from rfl, run_equalIn_struct W 9999 41 _ _ (by kernel_rfl) (by kernel_rfl), hf]
  simp only [Op.eqFields, Sem.run_bind, Sem.run_ite, p0, p1, hs, Result.andThen_ok, Sem.run_pure]
  by_cases h1 : a = c <;> by_cases h2 : b = d <;> simp [h1, h2]
set_option maxHeartbeats 2000000 in
set_option maxRecDepth 100000 in
theorem paired_calls (A : Option Addr) (n c : Nat) (us : List S40) (nm sec : ByteArray) (w : World) (hC : Kd.C k40 w A n us) (hn : us.length = n) (hc : n ≤ c) (hn2 : n ≤ 1000000000) :
    Calls Try.prog 119 #[.slice A n c, .string nm, .string sec] w fun e w' => e = .returned (.bool (pairedV us nm sec)) ∧ Below w.heap.size w w' := by
  have hu40 := Try.underlying41
  have HC := Lib.hid hC
  clear hC
  go_enter Try.func119, Try.ntmps119
  go_wp2
  go_loopw [11] (fun v wr => ∃ k : Nat, k ≤ n ∧ v = .int .i64 k ∧ Below w.heap.size w wr ∧ pairedV (us.take k) nm sec = false) (fun v _ => n - (intOf v).toNat)
  case atStart => exact ⟨0, by omega, rfl, Below.refl _ _, rfl⟩
  case round =>
    obtain ⟨k, hk, rfl, hB, hbf⟩ := hrel
    have HB := Lib.hid hB
    have HBF := Lib.hid hbf
    clear hB hbf
    by_cases hlt : k < n
    · obtain ⟨u, hu⟩ : ∃ u, us[k]? = some u := ⟨_, List.getElem?_eq_getElem (by omega)⟩
      obtain ⟨ad, rfl, y0, y1⟩ := at_T40 (Kd.C_below HC.out HB.out) (k : Int) (by omega) (by omega)
      rw [rd_T40_at hu, Int.toNat_natCast] at y0 y1
      have hstep : pairedV (us.take (k + 1)) nm sec = decide (u.f0 = nm ∧ u.f1 = sec) := by
        have h := HBF.out
        unfold pairedV at h ⊢
        rw [List.take_add_one, hu, List.any_append, h]
        simp
      have HST := Lib.hid hstep
      have HU := Lib.hid hu
      have hbz := HB.out.alloc HB.out.size (.cells #[.string u.f0, .string u.f1] 41)
      have HBZ := Lib.hid hbz
      clear hbz hstep hu
      obtain ⟨b, hb⟩ : ∃ b, b = decide (u.f0 = nm ∧ u.f1 = sec) := ⟨_, rfl⟩
      have hq : ∀ W, (Op.equalIn 10000 41 (.agg #[.string u.f0, .string u.f1]) (.agg #[.string nm, .string sec])).run Try.prog W = .ok b W := fun W => hb ▸ equal_user u.f0 u.f1 nm sec W
      rw [← hb] at HST
      have HBE := Lib.hid hb
      clear hb
      cases b with
      | true =>
        have hall : pairedV us nm sec = true := by
          have h := of_decide_eq_true HBE.out.symm
          unfold pairedV
          exact List.any_eq_true.2 ⟨u, List.mem_of_getElem? HU.out, decide_eq_true h⟩
        have HALL := Lib.hid hall
        clear hall
        go_wp2
        go_ret
        exact ⟨by rw [HALL.out]; rfl, HBZ.out⟩
      | false =>
        go_wp2
        go_roundw
        case rel => exact ⟨k + 1, by omega, by go_num, HBZ.out, HST.out⟩
        case measure => simp [intOf]; omega
    · obtain rfl : k = n := by omega
      go_wp2
      go_ret
      exact ⟨by rw [← HBF.out, List.take_of_length_le (by omega)]; rfl, HB.out⟩
end Go.Proofs.Yticjpjgfccbhlaa.Sasl
