/- word.means by contract. (The steps of its regions: printed by tools/means.py.) -/
import Derived.Test.YtcnhnpkbklakoaaDoorBytes
import Derived.Test.YtcnhnpkbklakoaaDoorRunesBadB
import Derived.Laws.Cover4
namespace Go.Proofs.YtcnhnpkbklakoaaDoor.Word
open Go.RowKit Go.Proofs.YtcnhnpkbklakoaaDoorW.PrintWords Go.Proofs.YtcnhnpkbklakoaaDoorW.PrintLast Go.Proofs.YtcnhnpkbklakoaaDoorW.PrintMore Go.Proofs.YtcnhnpkbklakoaaDoor.PWordEncodes
open Go.Proofs.YtcnhnpkbklakoaaDoor.Code Go.Proofs.YtcnhnpkbklakoaaDoor.Runes Go.Proofs.YtcnhnpkbklakoaaDoor.Pieces
attribute [local go_sem] max2_int min2_int max_two min_two max_three min_three max_four min_four
set_option linter.unusedVariables false
set_option linter.unusedSimpArgs false
/-- a charset's name -/
def nameV (ch : ByteArray) : ByteArray := upV ⟨(Lib.cut ch.data.toList [42]).1.toArray⟩
def natsOf (b : List UInt8) : List Int := b.map fun (x : UInt8) => (x.toNat : Int)
def utf8N : List UInt8 := [85, 84, 70, 45, 56]
def asciiN : List UInt8 := [85, 83, 45, 65, 83, 67, 73, 73]
def isoN : List UInt8 := [73, 83, 79, 45, 56, 56, 53, 57, 45, 49]
/-- what bytes mean in a charset -/
def meansV (ch : ByteArray) (b : List UInt8) : ByteArray × Bool × Bool :=
  if (nameV ch).toList = utf8N then (strOfNums (natsOf b), true, runesBad b == b.length) else
  if (nameV ch).toList = asciiN then (strOfNums (natsOf b), true, Octet.badAt 13 b == b.length) else
  if (nameV ch).toList = isoN then (runesBytes (natsOf b), true, true) else (⟨#[]⟩, false, false)
theorem runes_str (W : World) {A : Option Addr} {n c : Nat} {xs : List Int} (h : Kd.C (Kd.int .i32) W A n xs) (hx : xs.length = n) : (convert 50 9 (.slice A n c)).run Tryd.prog W = .ok (.string (runesBytes xs)) W := by
  cases A with
  | none =>
    have : n = 0 := by
      have := Kd.reads_of_C (enc := Value.int .i32) (d := (0 : Int)) (h1 := fun _ => rfl) h
      by_cases h0 : 0 < n
      · obtain ⟨ad, e, _⟩ := this.2.2 h0
        cases e
      · omega
    subst this
    rw [run_convert_runes_nil W 50 9 21 _ _ Tryd.underlying50 Tryd.underlying21 Tryd.underlying9, List.eq_nil_of_length_eq_zero hx]
    rfl
  | some a =>
    have hr := Kd.reads_of_C (enc := Value.int .i32) (d := (0 : Int)) (h1 := fun _ => rfl) h
    rw [run_convert_runes W 50 9 21 a n c xs (by omega) Tryd.underlying50 Tryd.underlying21 Tryd.underlying9 (fun j hj => by
      obtain ⟨ad, e, hc⟩ := hr.2.2 (by omega)
      cases e
      exact hc j (by omega)), List.take_of_length_le (by omega)]
theorem int_beq (a b : Nat) : ((a : Int) == (b : Int)) = (a == b) := by
  rw [Bool.eq_iff_iff]
  simp only [beq_iff_eq]
  omega
theorem ret_three {s : ByteArray} {x a b : Bool} (h : a = b) : Ending.returned (.tuple #[.string s, .bool x, .bool a]) = .returned (.tuple #[.string s, .bool x, .bool b]) := by rw [h]
theorem wrap_i32 (x : Int) (h0 : -2147483648 ≤ x) (h1 : x < 2147483648) : IntKind.i32.wrap x = x := by
  rw [IntKind.wrap_i32]; omega
theorem byte_rune (x : UInt8) (W : World) : (convert 5 21 (.int .u8 (x.toNat : Int))).run Tryd.prog W = .ok (.int .i32 (x.toNat : Int)) W := by
  have hx := x.toNat_lt
  have h1 : IntKind.i32.wrap (x.toNat : Int) = x.toNat := wrap_i32 _ (by omega) (by omega)
  simp [convert, run_underlying Tryd.underlying5, run_underlying Tryd.underlying21, h1, Conv.intToInt]
set_option maxHeartbeats 8000000 in
set_option maxRecDepth 100000 in
theorem means_calls (ch : ByteArray) (A : Option Addr) (cp n : Nat) (b : List UInt8) (m : Int) (hn : b.length = n) (w : World) (hr : Kd.C (Kd.int .u8) w A n (b.map fun (x : UInt8) => (x.toNat : Int))) (hcp : n ≤ cp) (hch : ch.size ≤ 3000000000) (hbn : n ≤ 3000000000) (hm : w.cell? ⟨1, 0, none⟩ = some (.int .i64 m)) (hT : Octet.Laid w) :
    Calls Tryd.prog 25 #[.string ch, .slice A n cp] w fun e w' => e = .returned (.tuple #[.string (meansV ch b).1, .bool (meansV ch b).2.1, .bool (meansV ch b).2.2]) ∧ Below w.heap.size w w' := by
  obtain ⟨c1, hc1⟩ : ∃ c1 : ByteArray, (⟨(Lib.cut ch.data.toList [42]).1.toArray⟩ : ByteArray) = c1 := ⟨_, rfl⟩
  have hc1s : c1.size ≤ ch.size := by
    rw [← hc1]
    show (Lib.cut ch.data.toList [42]).1.length ≤ ch.data.toList.length
    unfold Lib.cut
    split
    · simp only [List.length_take]; omega
    · exact Nat.le_refl _
  obtain ⟨N, hN⟩ : ∃ N, upV c1 = N := ⟨_, rfl⟩
  have hname : nameV ch = N := by unfold nameV; rw [hc1, hN]
  obtain ⟨T, hT1⟩ : ∃ T, strOfNums (natsOf b) = T := ⟨_, rfl⟩
  have HTE := Lib.hid (show strOfNums (b.map fun (x : UInt8) => (x.toNat : Int)) = T from hT1)
  have HCUT := Lib.hid (fun W (h : W.cell? ⟨1, 0, none⟩ = some (.int .i64 m)) => Tryd.strings_Cut ch ⟨#[42]⟩ m W (by omega) h)
  have HUP := Lib.hid (fun W => Upper_calls c1 W (by omega))
  have HCH := Lib.hid hc1
  have HN := Lib.hid hN
  have HT := Lib.hid hT
  have HR := Lib.hid hr
  have HM := Lib.hid hm
  have HNL := Lib.hid hn
  clear hT hr hm hc1s hc1 hN hn
  by_cases h1 : N.toList = utf8N
  · have hV : meansV ch b = (T, true, runesBad b == b.length) := by unfold meansV; rw [hname, if_pos h1, hT1]
    rw [hV]
    clear hV hname hT1
    have q1 : (N.toList == [85, 84, 70, 45, 56]) = true := by rw [h1]; rfl
    have q1' : N.toList = [85, 84, 70, 45, 56] := h1
    clear h1
    go_enter Tryd.func25, Tryd.ntmps25
    go_wp2_with fail
    refine (HCUT.out _ HM.out).mono ?_
    rintro e w1 ⟨rfl, k1, rfl⟩
    rw [HCH.out]
    go_wp2_with fail
    refine (HUP.out _).mono ?_
    rintro e w2 ⟨rfl, hb2⟩
    rw [HN.out]
    have hB12 : Below w.heap.size w w2 := (below_drewN' (Below.refl w.heap.size w) k1).trans hb2
    have HB2 := Lib.hid hB12
    have HC2 := Lib.hid (Kd.C_below HR.out hB12)
    clear hb2 hB12
    have zc := HTE.out ▸ str_of w2.drew (c := cp) HC2.out
    go_wp2
    refine start_ (n := 10) (S := fun w' => (convert 39 9 (.slice A n cp)).run Tryd.prog w' = .ok (.string T) w') (ds := []) #[false, false, false, false, false, false, false, false, false, false] (by kernel_rfl) rfl rfl (zc) (fun hHeld => ?_)
    generalize hdr : w2.drew = wd at hHeld ⊢
    have HCD := Lib.hid (show Kd.C (Kd.int .u8) wd A n (b.map fun (x : UInt8) => (x.toNat : Int)) from hdr ▸ HC2.out)
    have HBD := Lib.hid (show Below w.heap.size w wd from hdr ▸ below_drew1 HB2.out)
    refine pure_ (i := 0) (N := some 20) (v := ?_) (a' := ?_) #[true, false, false, false, false, false, false, false, false, false] rfl rfl (by kernel_rfl) (fun _ _ _ h => h) (Or.inl ⟨by rfl, ?_⟩) ?_ ?_
    rotate_left
    · intro w'
      go_simp
      with_reducible rfl
    rotate_left
    · simp only [Act.put, List.setIfInBounds_toArray, List.set_cons_zero, List.set_cons_succ, i64_w, i32_w]
      rfl
    refine pure_ (i := 2) (N := some 22) (v := ?_) (a' := ?_) #[true, false, true, false, false, false, false, false, false, false] rfl rfl (by kernel_rfl) (fun _ _ _ h => h) (Or.inl ⟨by rfl, ?_⟩) ?_ ?_
    rotate_left
    · intro w'
      go_simp
      with_reducible rfl
    rotate_left
    · simp only [Act.put, List.setIfInBounds_toArray, List.set_cons_zero, List.set_cons_succ, i64_w, i32_w]
      rfl
    refine pure_ (i := 4) (N := some 24) (v := ?_) (a' := ?_) #[true, false, true, false, true, false, false, false, false, false] rfl rfl (by kernel_rfl) (fun _ _ _ h => h) (Or.inl ⟨by rfl, ?_⟩) ?_ ?_
    rotate_left
    · intro w'
      go_simp
      with_reducible rfl
    rotate_left
    · simp only [Act.put, List.setIfInBounds_toArray, List.set_cons_zero, List.set_cons_succ, i64_w, i32_w]
      rfl
    refine pure_ (i := 5) (N := some 25) (v := ?_) (a' := ?_) #[true, false, true, false, true, true, false, false, false, false] rfl rfl (by kernel_rfl) (fun _ _ _ h => h) (Or.inl ⟨by rfl, ?_⟩) ?_ ?_
    rotate_left
    · intro w'
      go_simp
      with_reducible rfl
    rotate_left
    · simp only [Act.put, List.setIfInBounds_toArray, List.set_cons_zero, List.set_cons_succ, i64_w, i32_w]
      rfl
    refine take_ (i := 1) (N := some 21) (v := ?_) (a' := ?_) #[true, true, true, false, true, true, false, false, false, false] rfl rfl (by kernel_rfl) (fun _ _ _ h => h) (Or.inl ⟨by rfl, ?_⟩) hHeld ?_ ?_
    rotate_left
    · intro w' s0
      go_simp
      with_reducible rfl
    rotate_left
    · simp only [Act.put, List.setIfInBounds_toArray, List.set_cons_zero, List.set_cons_succ, i64_w, i32_w]
      rfl
    refine one_ (i := 3) (N := some 23) #[true, true, true, true, true, true, false, false, false, false] rfl rfl (by kernel_rfl) (by decide) (fun K hK => ?_)
    refine goes_ Tryd.func48 (by kernel_rfl) rfl #[.slice A n cp] (by rfl) rfl rfl (by simp only [List.map_toArray, List.map_cons, List.map_nil]; rfl) ?_
    with_reducible refine (Runes.badB_calls A cp n b HNL.out wd HCD.out hcp (by omega)).mono ?_
    rintro e w3 ⟨rfl, hb3⟩
    refine ⟨_, rfl, ?_⟩
    have HC3 := Lib.hid (Kd.C_below HCD.out hb3)
    have HB3 := Lib.hid (HBD.out.trans (hb3.mono HBD.out.size))
    refine hK.out _ _ ((HTE.out ▸ str_of w3 HC3.out)) (fun hHeld => ?_)
    clear hK K
    refine norm_ (a' := ?_) ?_ ?_
    rotate_left
    · show Act.put _ (some 23) _ = _
      simp only [Act.put, List.setIfInBounds_toArray, List.set_cons_zero, List.set_cons_succ, i64_w, i32_w]
      rfl
    refine pure_ (i := 6) (N := some 26) (v := ?_) (a' := ?_) #[true, true, true, true, true, true, true, false, false, false] rfl rfl (by kernel_rfl) (fun _ _ _ h => h) (Or.inl ⟨by rfl, ?_⟩) ?_ ?_
    rotate_left
    · intro w'
      go_simp
      with_reducible rfl
    rotate_left
    · simp only [Act.put, List.setIfInBounds_toArray, List.set_cons_zero, List.set_cons_succ, i64_w, i32_w]
      rfl
    refine pure_ (i := 7) (N := some 4) (v := ?_) (a' := ?_) #[true, true, true, true, true, true, true, true, false, false] rfl rfl (by kernel_rfl) (fun _ _ _ h => h) (Or.inl ⟨by rfl, ?_⟩) ?_ ?_
    rotate_left
    · intro w'
      go_simp
      with_reducible rfl
    rotate_left
    · simp only [Act.put, List.setIfInBounds_toArray, List.set_cons_zero, List.set_cons_succ, i64_w, i32_w]
      rfl
    refine pure_ (i := 8) (N := some 5) (v := ?_) (a' := ?_) #[true, true, true, true, true, true, true, true, true, false] rfl rfl (by kernel_rfl) (fun _ _ _ h => h) (Or.inl ⟨by rfl, ?_⟩) ?_ ?_
    rotate_left
    · intro w'
      go_simp
      with_reducible rfl
    rotate_left
    · simp only [Act.put, List.setIfInBounds_toArray, List.set_cons_zero, List.set_cons_succ, i64_w, i32_w]
      rfl
    refine pure_ (i := 9) (N := some 6) (v := ?_) (a' := ?_) #[true, true, true, true, true, true, true, true, true, true] rfl rfl (by kernel_rfl) (fun _ _ _ h => h) (Or.inl ⟨by rfl, ?_⟩) ?_ ?_
    rotate_left
    · intro w'
      go_simp
      with_reducible rfl
    rotate_left
    · simp only [Act.put, List.setIfInBounds_toArray, List.set_cons_zero, List.set_cons_succ, i64_w, i32_w]
      rfl
    refine done_ (by kernel_rfl) ?_

    go_wp2
    go_ret3
    exact ⟨ret_three (by rw [HNL.out]; exact int_beq _ _), HB3.out⟩
  have q1 : (N.toList == [85, 84, 70, 45, 56]) = false := by simpa [utf8N] using h1
  have q1' : ¬ N.toList = [85, 84, 70, 45, 56] := h1
  by_cases h2 : N.toList = asciiN
  · have hV : meansV ch b = (T, true, Octet.badAt 13 b == b.length) := by unfold meansV; rw [hname, if_neg h1, if_pos h2, hT1]
    rw [hV]
    clear hV hname hT1 q1 q1'
    have q2 : (N.toList == [85, 83, 45, 65, 83, 67, 73, 73]) = true := by rw [h2]; rfl
    have q2' : N.toList = [85, 83, 45, 65, 83, 67, 73, 73] := h2
    clear h1 h2
    go_enter Tryd.func25, Tryd.ntmps25
    go_wp2_with fail
    refine (HCUT.out _ HM.out).mono ?_
    rintro e w1 ⟨rfl, k1, rfl⟩
    rw [HCH.out]
    go_wp2_with fail
    refine (HUP.out _).mono ?_
    rintro e w2 ⟨rfl, hb2⟩
    rw [HN.out]
    have hB12 : Below w.heap.size w w2 := (below_drewN' (Below.refl w.heap.size w) k1).trans hb2
    have HB2 := Lib.hid hB12
    have HC2 := Lib.hid (Kd.C_below HR.out hB12)
    clear hb2 hB12
    have zc := HTE.out ▸ str_of w2.drew (c := cp) HC2.out
    go_wp2
    refine start_ (n := 10) (S := fun w' => (convert 39 9 (.slice A n cp)).run Tryd.prog w' = .ok (.string T) w') (ds := []) #[false, false, false, false, false, false, false, false, false, false] (by kernel_rfl) rfl rfl (zc) (fun hHeld => ?_)
    generalize hdr : w2.drew = wd at hHeld ⊢
    have HCD := Lib.hid (show Kd.C (Kd.int .u8) wd A n (b.map fun (x : UInt8) => (x.toNat : Int)) from hdr ▸ HC2.out)
    have HBD := Lib.hid (show Below w.heap.size w wd from hdr ▸ below_drew1 HB2.out)
    refine pure_ (i := 0) (N := some 29) (v := ?_) (a' := ?_) #[true, false, false, false, false, false, false, false, false, false] rfl rfl (by kernel_rfl) (fun _ _ _ h => h) (Or.inl ⟨by rfl, ?_⟩) ?_ ?_
    rotate_left
    · intro w'
      go_simp
      with_reducible rfl
    rotate_left
    · simp only [Act.put, List.setIfInBounds_toArray, List.set_cons_zero, List.set_cons_succ, i64_w, i32_w]
      rfl
    refine pure_ (i := 2) (N := some 31) (v := ?_) (a' := ?_) #[true, false, true, false, false, false, false, false, false, false] rfl rfl (by kernel_rfl) (fun _ _ _ h => h) (Or.inl ⟨by rfl, ?_⟩) ?_ ?_
    rotate_left
    · intro w'
      go_simp
      with_reducible rfl
    rotate_left
    · simp only [Act.put, List.setIfInBounds_toArray, List.set_cons_zero, List.set_cons_succ, i64_w, i32_w]
      rfl
    refine pure_ (i := 4) (N := some 33) (v := ?_) (a' := ?_) #[true, false, true, false, true, false, false, false, false, false] rfl rfl (by kernel_rfl) (fun _ _ _ h => h) (Or.inl ⟨by rfl, ?_⟩) ?_ ?_
    rotate_left
    · intro w'
      go_simp
      with_reducible rfl
    rotate_left
    · simp only [Act.put, List.setIfInBounds_toArray, List.set_cons_zero, List.set_cons_succ, i64_w, i32_w]
      rfl
    refine pure_ (i := 5) (N := some 34) (v := ?_) (a' := ?_) #[true, false, true, false, true, true, false, false, false, false] rfl rfl (by kernel_rfl) (fun _ _ _ h => h) (Or.inl ⟨by rfl, ?_⟩) ?_ ?_
    rotate_left
    · intro w'
      go_simp
      with_reducible rfl
    rotate_left
    · simp only [Act.put, List.setIfInBounds_toArray, List.set_cons_zero, List.set_cons_succ, i64_w, i32_w]
      rfl
    refine take_ (i := 1) (N := some 30) (v := ?_) (a' := ?_) #[true, true, true, false, true, true, false, false, false, false] rfl rfl (by kernel_rfl) (fun _ _ _ h => h) (Or.inl ⟨by rfl, ?_⟩) hHeld ?_ ?_
    rotate_left
    · intro w' s0
      go_simp
      with_reducible rfl
    rotate_left
    · simp only [Act.put, List.setIfInBounds_toArray, List.set_cons_zero, List.set_cons_succ, i64_w, i32_w]
      rfl
    refine one_ (i := 3) (N := some 32) #[true, true, true, true, true, true, false, false, false, false] rfl rfl (by kernel_rfl) (by decide) (fun K hK => ?_)
    refine goes_ Tryd.func49 (by kernel_rfl) rfl #[.int .i64 13, .slice A n cp] (by rfl) rfl rfl (by simp only [List.map_toArray, List.map_cons, List.map_nil]; rfl) ?_
    with_reducible refine (Octet.BadB_calls 13 (by decide) (by decide) A cp n b HNL.out wd HCD.out hcp (by omega) (HT.out.below HT.out.size HBD.out)).mono ?_
    rintro e w3 ⟨rfl, hb3⟩
    refine ⟨_, rfl, ?_⟩
    have HC3 := Lib.hid (Kd.C_below HCD.out hb3)
    have HB3 := Lib.hid (HBD.out.trans (hb3.mono HBD.out.size))
    refine hK.out _ _ ((HTE.out ▸ str_of w3 HC3.out)) (fun hHeld => ?_)
    clear hK K
    refine norm_ (a' := ?_) ?_ ?_
    rotate_left
    · show Act.put _ (some 32) _ = _
      simp only [Act.put, List.setIfInBounds_toArray, List.set_cons_zero, List.set_cons_succ, i64_w, i32_w]
      rfl
    refine pure_ (i := 6) (N := some 35) (v := ?_) (a' := ?_) #[true, true, true, true, true, true, true, false, false, false] rfl rfl (by kernel_rfl) (fun _ _ _ h => h) (Or.inl ⟨by rfl, ?_⟩) ?_ ?_
    rotate_left
    · intro w'
      go_simp
      with_reducible rfl
    rotate_left
    · simp only [Act.put, List.setIfInBounds_toArray, List.set_cons_zero, List.set_cons_succ, i64_w, i32_w]
      rfl
    refine pure_ (i := 7) (N := some 4) (v := ?_) (a' := ?_) #[true, true, true, true, true, true, true, true, false, false] rfl rfl (by kernel_rfl) (fun _ _ _ h => h) (Or.inl ⟨by rfl, ?_⟩) ?_ ?_
    rotate_left
    · intro w'
      go_simp
      with_reducible rfl
    rotate_left
    · simp only [Act.put, List.setIfInBounds_toArray, List.set_cons_zero, List.set_cons_succ, i64_w, i32_w]
      rfl
    refine pure_ (i := 8) (N := some 5) (v := ?_) (a' := ?_) #[true, true, true, true, true, true, true, true, true, false] rfl rfl (by kernel_rfl) (fun _ _ _ h => h) (Or.inl ⟨by rfl, ?_⟩) ?_ ?_
    rotate_left
    · intro w'
      go_simp
      with_reducible rfl
    rotate_left
    · simp only [Act.put, List.setIfInBounds_toArray, List.set_cons_zero, List.set_cons_succ, i64_w, i32_w]
      rfl
    refine pure_ (i := 9) (N := some 6) (v := ?_) (a' := ?_) #[true, true, true, true, true, true, true, true, true, true] rfl rfl (by kernel_rfl) (fun _ _ _ h => h) (Or.inl ⟨by rfl, ?_⟩) ?_ ?_
    rotate_left
    · intro w'
      go_simp
      with_reducible rfl
    rotate_left
    · simp only [Act.put, List.setIfInBounds_toArray, List.set_cons_zero, List.set_cons_succ, i64_w, i32_w]
      rfl
    refine done_ (by kernel_rfl) ?_

    go_wp2
    go_ret3
    exact ⟨ret_three (by rw [HNL.out]; exact int_beq _ _), HB3.out⟩
  have q2 : (N.toList == [85, 83, 45, 65, 83, 67, 73, 73]) = false := by simpa [asciiN] using h2
  have q2' : ¬ N.toList = [85, 83, 45, 65, 83, 67, 73, 73] := h2
  by_cases h3 : N.toList = isoN
  · have hV : meansV ch b = (runesBytes (natsOf b), true, true) := by unfold meansV; rw [hname, if_neg h1, if_neg h2, if_pos h3]
    rw [hV]
    clear hV hname hT1 q1 q1' q2 q2'
    have q3 : (N.toList == [73, 83, 79, 45, 56, 56, 53, 57, 45, 49]) = true := by rw [h3]; rfl
    have q3' : N.toList = [73, 83, 79, 45, 56, 56, 53, 57, 45, 49] := h3
    clear h1 h2 h3
    go_enter Tryd.func25, Tryd.ntmps25
    go_wp2_with fail
    refine (HCUT.out _ HM.out).mono ?_
    rintro e w1 ⟨rfl, k1, rfl⟩
    rw [HCH.out]
    go_wp2_with fail
    refine (HUP.out _).mono ?_
    rintro e w2 ⟨rfl, hb2⟩
    rw [HN.out]
    have hB12 : Below w.heap.size w w2 := (below_drewN' (Below.refl w.heap.size w) k1).trans hb2
    have HB2 := Lib.hid hB12
    have HC2 := Lib.hid (Kd.C_below HR.out hB12)
    clear hb2 hB12
    go_wp2
    go_loopw [7, 40] (fun o v wr => ∃ (k : Nat), k ≤ n ∧ v = .int .i64 k ∧ wr.ownsRow w2.heap.size 21 1 o ((natsOf b).take k).length (nums .i32 ((natsOf b).take k)) ∧ Below w2.heap.size w2 wr) (fun _ v _ => n - (intOf v).toNat)
    case atStart => exact ⟨0, by omega, rfl, own_nil _ _ _ _, Below.refl _ _⟩
    case round =>
      obtain ⟨k, hk, rfl, hO, hB⟩ := hrel
      have HO := Lib.hid hO
      have HB := Lib.hid hB
      have hz : w2.heap.size ≤ wr.heap.size := HB.out.size
      clear hO hB
      by_cases hlt : k < n
      · obtain ⟨x, hx⟩ : ∃ x, b[k]? = some x := ⟨_, List.getElem?_eq_getElem (by have := HNL.out; omega)⟩
        obtain ⟨B, off, rfl, hat⟩ := atI_of_C HC2.out (by omega)
        have hxn : (natsOf b)[k]? = some (x.toNat : Int) := by unfold natsOf; rw [List.getElem?_map, hx]; rfl
        have y0 := hat k _ hxn
        have x0 := (HB.out.cell (World.block_lt_of_cell? w2 _ y0)).trans y0
        have hx256 := x.toNat_lt
        have HTK := Lib.hid (show (natsOf b).take (k + 1) = (natsOf b).take k ++ [(x.toNat : Int)] by rw [List.take_add_one, hxn]; rfl)
        have hkl : ((natsOf b).take k).length ≤ n := by rw [List.length_take]; omega
        have hcv : ∀ W, (convert 5 21 (.int .u8 (x.toNat : Int))).run Tryd.prog W = .ok (.int .i32 (x.toNat : Int)) W := fun W => byte_rune x W
        clear hx hat y0 hxn
        go_wp2_with (at_builtin; refine print_append_row (w0 := wr.alloc (.cells #[.int .i32 (x.toNat : Int)] 21)) w2.heap.size rfl (.tmp 44) (.tmp 47) 50 21 .i32 4 rfl Tryd.underlying50 info21 (by decide) _ ((natsOf b).take k) [(x.toNat : Int)] _ 1 1 rfl rfl ?ho ?hr ?hb ?hbase ?hl ?_)
        case ho => exact HO.out.alloc _
        case hr => exact reads_lit _ 21 .i32 [(x.toNat : Int)] (by simp)
        case hb => exact Below.refl _ _
        case hbase => rw [World.size_alloc]; omega
        case hl => omega
        intro v7 w7 ho7 hb7 hg7 hat7
        have HO7 := Lib.hid ho7
        have HB7 := Lib.hid ((HB.out.alloc hz _).trans hb7)
        clear ho7 hb7 hg7 hat7
        go_wp2
        go_roundw
        case rel => exact ⟨k + 1, by omega, by go_num, by rw [HTK.out, List.length_append, List.length_take]; exact HO7.out, HB7.out⟩
        case measure => simp [intOf]; omega
      · obtain rfl : k = n := by omega
        have htk : (natsOf b).take k = natsOf b := List.take_of_length_le (by unfold natsOf; rw [List.length_map, HNL.out]; exact Nat.le_refl _)
        have hO9 := HO.out
        rw [htk] at hO9
        obtain ⟨A9, c9, rfl, _, hC9⟩ := own_CR rfl hO9
        have q9 := runes_str wr (c := c9) hC9 rfl
        clear hC9 htk hO9 HO
        go_wp2
        go_ret3
        exact ⟨rfl, HB2.out.trans (HB.out.mono HB2.out.size)⟩
  · have hV : meansV ch b = (⟨#[]⟩, false, false) := by unfold meansV; rw [hname, if_neg h1, if_neg h2, if_neg h3]
    have q3 : (N.toList == [73, 83, 79, 45, 56, 56, 53, 57, 45, 49]) = false := by simpa [isoN] using h3
    have q3' : ¬ N.toList = [73, 83, 79, 45, 56, 56, 53, 57, 45, 49] := h3
    rw [hV]
    clear hV hname hT1 h1 h2 h3
    go_enter Tryd.func25, Tryd.ntmps25
    go_wp2_with fail
    refine (HCUT.out _ HM.out).mono ?_
    rintro e w1 ⟨rfl, k1, rfl⟩
    rw [HCH.out]
    go_wp2_with fail
    refine (HUP.out _).mono ?_
    rintro e w2 ⟨rfl, hb2⟩
    rw [HN.out]
    have hB12 : Below w.heap.size w w2 := (below_drewN' (Below.refl w.heap.size w) k1).trans hb2
    have HB2 := Lib.hid hB12
    have HC2 := Lib.hid (Kd.C_below HR.out hB12)
    clear hb2 hB12
    go_wp2
    go_ret3
    exact ⟨rfl, HB2.out⟩
end Go.Proofs.YtcnhnpkbklakoaaDoor.Word
