/- posthornref17: Parts, bytes and meaning by their lists' values: contracts for Decode. -/
import Derived.Test.YtcnhnpkbklakoaaDoorMeansRef
import Derived.Test.YtcnhnpkbklakoaaDoorG5
import Derived.Test.YtcnhnpkbklakoaaDoorBadPure
import Derived.Laws.Cover4
import Derived.Test.YtcnhnpkbklakoaaDoorUnbPure
import Derived.Test.YtcnhnpkbklakoaaDoorBytesRefB
import Derived.Test.YtcnhnpkbklakoaaDoorRefNeeds
/- Latin-1: the reference's text is word's. -/
namespace Go.Proofs.YtcnhnpkbklakoaaDoor.Word
open Go.RowKit Go.Proofs.YtcnhnpkbklakoaaDoorW.PrintWords Go.Proofs.YtcnhnpkbklakoaaDoor.Code Go.Proofs.YtcnhnpkbklakoaaDoor.Runes Go.Proofs.YtcnhnpkbklakoaaDoor.Pieces
theorem latin_fold : ∀ (b : List UInt8) (a : ByteArray), ((natsOf b).foldl (fun r n => r ++ Utf8.encode n) a).data.toList = a.data.toList ++ latinL b
  | [], a => by simp [natsOf, latinL]
  | x :: b, a => by
    have e : natsOf (x :: b) = (x.toNat : Int) :: natsOf b := rfl
    have e2 : latinL (x :: b) = (Utf8.encode (x.toNat : Int)).data.toList ++ latinL b := rfl
    rw [e, List.foldl_cons, latin_fold b, e2]
    simp [ByteArray.data_append]
theorem latin_runes (b : List UInt8) : strOfNums (natsOf (latinL b)) = runesBytes (natsOf b) := by
  rw [str_natsOf]
  refine ba_ext ?_
  have h := latin_fold b ByteArray.empty
  unfold runesBytes
  rw [h]
  simp
/-- the reference's meaning at the two charsets other than UTF-8 is word's -/
theorem means_iso (ch : ByteArray) (b : List UInt8) (h1 : ¬ (nameV ch).toList = utf8N) (h2 : ¬ (nameV ch).toList = asciiN) (h3 : (nameV ch).toList = isoN) : meansV ch b = (strOfNums (natsOf (latinL b)), true, true) := by
  unfold meansV
  rw [if_neg h1, if_neg h2, if_pos h3, latin_runes]
end Go.Proofs.YtcnhnpkbklakoaaDoor.Word
/- posthornref17.meaning: UTF-8, and all three together. (The steps of its region: printed by tools/rmeans.py.) -/
namespace Go.Proofs.YtcnhnpkbklakoaaDoor.Word
open Go.RowKit Go.Shelf Go.Proofs.YtcnhnpkbklakoaaDoorW.PrintWords Go.Proofs.YtcnhnpkbklakoaaDoorW.PrintLast Go.Proofs.YtcnhnpkbklakoaaDoorW.PrintMore Go.Proofs.YtcnhnpkbklakoaaDoor.PWordDecodes
open Go.Proofs.YtcnhnpkbklakoaaDoor.Code Go.Proofs.YtcnhnpkbklakoaaDoor.Runes Go.Proofs.YtcnhnpkbklakoaaDoor.Pieces Go.Proofs.YtcnhnpkbklakoaaDoor.Unhex
attribute [local go_sem] max2_int min2_int max_two min_two max_three min_three max_four min_four
set_option linter.unusedVariables false
set_option linter.unusedSimpArgs false
theorem ret_str {s : ByteArray} {a b : Bool} (h : a = b) : Ending.returned (.tuple #[.string s, .bool a]) = .returned (.tuple #[.string s, .bool b]) := by rw [h]
set_option maxHeartbeats 8000000 in
set_option maxRecDepth 100000 in
theorem refmeans_utf (ch : ByteArray) (A : Option Addr) (cp n : Nat) (b : List UInt8) (hn : b.length = n) (w : World) (hr : Kd.C (Kd.int .u8) w A n (natsOf b)) (hcp : n ≤ cp) (hch : ch.size ≤ 3000000000) (hbn : n ≤ 3000000000)
    (h : (nameR ch).toList = [117, 116, 102, 45, 56]) :
    Calls Tryd.prog 38 #[.string ch, .slice A n cp] w fun e w' => e = .returned (.tuple #[.string (strOfNums (natsOf b)), .bool (runesBad b == b.length)]) ∧ Below w.heap.size w w' := by
  have HN := Lib.hid (fun W => name_calls ch W hch)
  obtain ⟨N, hN⟩ : ∃ N, N = nameR ch := ⟨_, rfl⟩
  rw [← hN] at HN h
  obtain ⟨kb, nb, hb1, hb2, hb3⟩ := bad_f b (by omega)
  have hbeq : (runesBad b == b.length) = ((nb : Int) == (n : Int)) := by
    rw [int_beq, Bool.eq_iff_iff, beq_iff_eq, beq_iff_eq, ← hb3, hn]
  rw [hbeq]
  have HBAD := Lib.hid (fun W (hC : Kd.C (Kd.int .u8) W A n (b.map fun (x : UInt8) => (x.toNat : Int))) => (show Calls Tryd.prog 56 #[.slice A n cp] W fun e w' => e = .returned (.int .i64 (nb : Int)) ∧ Below W.heap.size W w' from by
    have hl : (natsOf b).length = n := by rw [natsOf_len, hn]
    have h := posthornref05_Bad.calls kb A cp (natsOf b) (nb : Int) W (by rw [hl]; exact hC) (by rw [hl]; exact hcp) hb1
    rwa [hl] at h))
  obtain ⟨T, hT⟩ : ∃ T, T = strOfNums (natsOf b) := ⟨_, rfl⟩
  rw [← hT]
  have HTE := Lib.hid (show strOfNums (b.map fun (x : UInt8) => (x.toNat : Int)) = T from hT.symm)
  have HR := Lib.hid hr
  have HNL := Lib.hid hn
  have q1 : (N.toList == [117, 116, 102, 45, 56]) = true := by rw [h]; rfl
  have q1' : N.toList = [117, 116, 102, 45, 56] := h
  clear hN hT hr hn hb1 hb2 hb3 hbeq h
  go_enter Tryd.func38, Tryd.ntmps38
  go_wp2_with fail
  refine (HN.out w).mono ?_
  rintro e w1 ⟨rfl, hb1⟩
  have HB1 := Lib.hid hb1
  have HC1 := Lib.hid (Kd.C_below HR.out hb1)
  clear hb1
  have zc := HTE.out ▸ str_of w1.drew (c := cp) HC1.out
  go_wp2
  refine start_ (n := 9) (S := fun w' => (convert 39 9 (.slice A n cp)).run Tryd.prog w' = .ok (.string T) w') (ds := []) #[false, false, false, false, false, false, false, false, false] (by kernel_rfl) rfl rfl (zc) (fun hHeld => ?_)
  generalize hdr : w1.drew = wd at hHeld ⊢
  have HCD := Lib.hid (show Kd.C (Kd.int .u8) wd A n (b.map fun (x : UInt8) => (x.toNat : Int)) from hdr ▸ HC1.out)
  have HBD := Lib.hid (show Below w.heap.size w wd from hdr ▸ below_drew1 HB1.out)
  refine pure_ (i := 0) (N := some 15) (v := ?_) (a' := ?_) #[true, false, false, false, false, false, false, false, false] rfl rfl (by kernel_rfl) (fun _ _ _ h => h) (Or.inl ⟨by rfl, ?_⟩) ?_ ?_
  rotate_left
  · intro w'
    go_simp
    with_reducible rfl
  rotate_left
  · simp only [Act.put, List.setIfInBounds_toArray, List.set_cons_zero, List.set_cons_succ, i64_w, i32_w]
    rfl
  refine pure_ (i := 2) (N := some 17) (v := ?_) (a' := ?_) #[true, false, true, false, false, false, false, false, false] rfl rfl (by kernel_rfl) (fun _ _ _ h => h) (Or.inl ⟨by rfl, ?_⟩) ?_ ?_
  rotate_left
  · intro w'
    go_simp
    with_reducible rfl
  rotate_left
  · simp only [Act.put, List.setIfInBounds_toArray, List.set_cons_zero, List.set_cons_succ, i64_w, i32_w]
    rfl
  refine pure_ (i := 4) (N := some 19) (v := ?_) (a' := ?_) #[true, false, true, false, true, false, false, false, false] rfl rfl (by kernel_rfl) (fun _ _ _ h => h) (Or.inl ⟨by rfl, ?_⟩) ?_ ?_
  rotate_left
  · intro w'
    go_simp
    with_reducible rfl
  rotate_left
  · simp only [Act.put, List.setIfInBounds_toArray, List.set_cons_zero, List.set_cons_succ, i64_w, i32_w]
    rfl
  refine pure_ (i := 5) (N := some 20) (v := ?_) (a' := ?_) #[true, false, true, false, true, true, false, false, false] rfl rfl (by kernel_rfl) (fun _ _ _ h => h) (Or.inl ⟨by rfl, ?_⟩) ?_ ?_
  rotate_left
  · intro w'
    go_simp
    with_reducible rfl
  rotate_left
  · simp only [Act.put, List.setIfInBounds_toArray, List.set_cons_zero, List.set_cons_succ, i64_w, i32_w]
    rfl
  refine take_ (i := 1) (N := some 16) (v := ?_) (a' := ?_) #[true, true, true, false, true, true, false, false, false] rfl rfl (by kernel_rfl) (fun _ _ _ h => h) (Or.inl ⟨by rfl, ?_⟩) hHeld ?_ ?_
  rotate_left
  · intro w' s0
    go_simp
    with_reducible rfl
  rotate_left
  · simp only [Act.put, List.setIfInBounds_toArray, List.set_cons_zero, List.set_cons_succ, i64_w, i32_w]
    rfl
  refine one_ (i := 3) (N := some 18) #[true, true, true, true, true, true, false, false, false] rfl rfl (by kernel_rfl) (by decide) (fun K hK => ?_)
  refine goes_ Tryd.func56 (by kernel_rfl) rfl #[.slice A n cp] (by rfl) rfl rfl (by simp only [List.map_toArray, List.map_cons, List.map_nil]; rfl) ?_
  with_reducible refine (HBAD.out wd HCD.out).mono ?_
  rintro e w3 ⟨rfl, hb3⟩
  refine ⟨_, rfl, ?_⟩
  have HC3 := Lib.hid (Kd.C_below HCD.out hb3)
  have HB3 := Lib.hid (HBD.out.trans (hb3.mono HBD.out.size))
  refine hK.out _ _ ((HTE.out ▸ str_of w3 HC3.out)) (fun hHeld => ?_)
  clear hK K
  refine norm_ (a' := ?_) ?_ ?_
  rotate_left
  · show Act.put _ (some 18) _ = _
    simp only [Act.put, List.setIfInBounds_toArray, List.set_cons_zero, List.set_cons_succ, i64_w, i32_w]
    rfl
  refine pure_ (i := 6) (N := some 21) (v := ?_) (a' := ?_) #[true, true, true, true, true, true, true, false, false] rfl rfl (by kernel_rfl) (fun _ _ _ h => h) (Or.inl ⟨by rfl, ?_⟩) ?_ ?_
  rotate_left
  · intro w'
    go_simp
    with_reducible rfl
  rotate_left
  · simp only [Act.put, List.setIfInBounds_toArray, List.set_cons_zero, List.set_cons_succ, i64_w, i32_w]
    rfl
  refine pure_ (i := 7) (N := some 4) (v := ?_) (a' := ?_) #[true, true, true, true, true, true, true, true, false] rfl rfl (by kernel_rfl) (fun _ _ _ h => h) (Or.inl ⟨by rfl, ?_⟩) ?_ ?_
  rotate_left
  · intro w'
    go_simp
    with_reducible rfl
  rotate_left
  · simp only [Act.put, List.setIfInBounds_toArray, List.set_cons_zero, List.set_cons_succ, i64_w, i32_w]
    rfl
  refine pure_ (i := 8) (N := some 5) (v := ?_) (a' := ?_) #[true, true, true, true, true, true, true, true, true] rfl rfl (by kernel_rfl) (fun _ _ _ h => h) (Or.inl ⟨by rfl, ?_⟩) ?_ ?_
  rotate_left
  · intro w'
    go_simp
    with_reducible rfl
  rotate_left
  · simp only [Act.put, List.setIfInBounds_toArray, List.set_cons_zero, List.set_cons_succ, i64_w, i32_w]
    rfl
  refine done_ (by kernel_rfl) ?_

  go_wp2
  refine bodyPost_ret (results_list (rs := [.tmp 4, .tmp 5]) rfl (by simp) (.tmp (.tmp .nil))) rfl ?_
  exact ⟨rfl, HB3.out⟩
end Go.Proofs.YtcnhnpkbklakoaaDoor.Word

/- posthornref17: Parts, bytes and meaning by their lists' values: contracts for Decode. -/
namespace Go.Proofs.YtcnhnpkbklakoaaDoor.Word
open Go.RowKit Go.Shelf Go.Proofs.YtcnhnpkbklakoaaDoorW.PrintWords Go.Proofs.YtcnhnpkbklakoaaDoorW.PrintLast Go.Proofs.YtcnhnpkbklakoaaDoorW.PrintMore Go.Proofs.YtcnhnpkbklakoaaDoor.PWordDecodes
open Go.Proofs.YtcnhnpkbklakoaaDoor.Code Go.Proofs.YtcnhnpkbklakoaaDoor.Runes Go.Proofs.YtcnhnpkbklakoaaDoor.Pieces Go.Proofs.YtcnhnpkbklakoaaDoor.Unhex
theorem refparts_calls (x c0 c1 c2 : ByteArray) (h : (c0, c1, c2, true) = cutV x) (hs : x.size ≤ 1000000000) (w : World) :
    Calls Tryd.prog 35 #[.string x] w fun e w' => e = .returned (.tuple #[.string c0, .string c1, .string c2, .bool true]) ∧ Below w.heap.size w w' := by
  obtain ⟨r, hr, h1, h2⟩ := parts_f x hs
  rw [← h] at h1 h2
  have e := h2 h1
  subst e
  exact posthornref17_Parts.calls _ x c0 c1 c2 true w hr
theorem refbytes_calls (t : ByteArray) (c : UInt8) (hc : (c = 66 ∨ c = 98) ∨ (c = 81 ∨ c = 113)) (w : World) (ht : t.size ≤ 1000000000) :
    Calls Tryd.prog 37 #[.string ⟨#[c]⟩, .string t] w fun e w' => ∃ V, e = .returned (.tuple #[V, .int .i64 (bytesV ⟨#[c]⟩ t).2]) ∧ w'.ownsRow w.heap.size 5 1 V (bytesV ⟨#[c]⟩ t).1.length (nums .u8 (bytesV ⟨#[c]⟩ t).1) ∧ Below w.heap.size w w' := by
  rcases hc with hc | hc
  · have e : bytesV ⟨#[c]⟩ t = unB t.data.toList := by unfold bytesV; rw [if_pos (by exact hc)]
    rw [e]
    obtain ⟨k, L, er, a, h1, h2, h3⟩ := unb_f t (by omega)
    have h := refbytesB_calls t c hc w k L er a h1
    rw [h2, h3] at h
    exact h
  · have e : bytesV ⟨#[c]⟩ t = qGo t.data.toList 0 [] := by
      unfold bytesV
      rw [if_neg]
      show ¬ (c = 66 ∨ c = 98)
      rcases hc with rfl | rfl <;> decide
    rw [e]
    exact refbytesQ_calls t c hc w (by omega)
theorem utf_name (ch : ByteArray) : (nameR ch).toList = [117, 116, 102, 45, 56] ↔ (nameV ch).toList = utf8N := by
  rw [Lib.toList_data, Lib.toList_data]
  exact name_iff ch _ _ (by decide) (by decide)
theorem ascii_name (ch : ByteArray) : (nameR ch).toList = [117, 115, 45, 97, 115, 99, 105, 105] ↔ (nameV ch).toList = asciiN := by
  rw [Lib.toList_data, Lib.toList_data]
  exact name_iff ch _ _ (by decide) (by decide)
theorem iso_name (ch : ByteArray) : (nameR ch).toList = [105, 115, 111, 45, 56, 56, 53, 57, 45, 49] ↔ (nameV ch).toList = isoN := by
  rw [Lib.toList_data, Lib.toList_data]
  exact name_iff ch _ _ (by decide) (by decide)
theorem known_iff (ch : ByteArray) (b : List UInt8) : (meansV ch b).2.1 = true ↔ ((nameR ch).toList = [117, 116, 102, 45, 56] ∨ (nameR ch).toList = [117, 115, 45, 97, 115, 99, 105, 105] ∨ (nameR ch).toList = [105, 115, 111, 45, 56, 56, 53, 57, 45, 49]) := by
  rw [utf_name, ascii_name, iso_name]
  unfold meansV
  by_cases h1 : (nameV ch).toList = utf8N
  · rw [if_pos h1]
    exact ⟨fun _ => Or.inl h1, fun _ => rfl⟩
  · rw [if_neg h1]
    by_cases h2 : (nameV ch).toList = asciiN
    · rw [if_pos h2]
      exact ⟨fun _ => Or.inr (Or.inl h2), fun _ => rfl⟩
    · rw [if_neg h2]
      by_cases h3 : (nameV ch).toList = isoN
      · rw [if_pos h3]
        exact ⟨fun _ => Or.inr (Or.inr h3), fun _ => rfl⟩
      · rw [if_neg h3]
        constructor
        · intro h
          cases h
        · rintro (h | h | h)
          · exact absurd h h1
          · exact absurd h h2
          · exact absurd h h3
theorem isIn13_all : ∀ n : Fin 256, Octet.isIn 13 n.val = decide (n.val ≤ 127) := by decide +kernel
theorem ascii_all (b : List UInt8) : (Octet.badAt 13 b == b.length) = (b.all fun x => decide (x.toNat ≤ 127)) := by
  have e : (fun x : UInt8 => Octet.isIn 13 x.toNat) = fun x => decide (x.toNat ≤ 127) := by
    funext x
    exact isIn13_all ⟨x.toNat, x.toNat_lt⟩
  rw [Bool.eq_iff_iff, beq_iff_eq, Octet.badAt_full, e]
theorem refmeans_calls (ch : ByteArray) (A : Option Addr) (cp n : Nat) (b : List UInt8) (hn : b.length = n) (w : World) (hr : Kd.C (Kd.int .u8) w A n (natsOf b)) (hcp : n ≤ cp) (hch : ch.size ≤ 3000000000) (hbn : n ≤ 3000000000)
    (hk : (meansV ch b).2.1 = true) :
    Calls Tryd.prog 38 #[.string ch, .slice A n cp] w fun e w' => ∃ X, e = .returned (.tuple #[.string X, .bool (meansV ch b).2.2]) ∧ ((meansV ch b).2.2 = true → X = (meansV ch b).1) ∧ Below w.heap.size w w' := by
  by_cases h1 : (nameR ch).toList = [117, 116, 102, 45, 56]
  · have e : meansV ch b = (strOfNums (natsOf b), true, runesBad b == b.length) := by
      unfold meansV
      rw [if_pos ((utf_name ch).1 h1)]
    rw [e]
    refine (refmeans_utf ch A cp n b hn w hr hcp hch hbn h1).mono ?_
    rintro e w' ⟨rfl, hb⟩
    exact ⟨_, rfl, fun _ => rfl, hb⟩
  · by_cases h2 : (nameR ch).toList = [117, 115, 45, 97, 115, 99, 105, 105]
    · have e : meansV ch b = (strOfNums (natsOf b), true, b.all fun x => decide (x.toNat ≤ 127)) := by
        unfold meansV
        rw [if_neg (fun h => h1 ((utf_name ch).2 h)), if_pos ((ascii_name ch).1 h2), ascii_all]
      rw [e]
      refine (refmeans_ascii ch A cp n b hn w hr hcp hch hbn h2).mono ?_
      rintro e w' ⟨rfl, hb⟩
      refine ⟨_, rfl, fun h => ?_, hb⟩
      rw [if_pos h]
    · rcases (known_iff ch b).1 hk with h | h | h
      · exact absurd h h1
      · exact absurd h h2
      · rw [means_iso ch b (fun h => h1 ((utf_name ch).2 h)) (fun h => h2 ((ascii_name ch).2 h)) ((iso_name ch).1 h)]
        refine (refmeans_latin ch A cp n b hn w hr hcp hch hbn h1 h2).mono ?_
        rintro e w' ⟨rfl, hb⟩
        exact ⟨_, rfl, fun _ => rfl, hb⟩
end Go.Proofs.YtcnhnpkbklakoaaDoor.Word
