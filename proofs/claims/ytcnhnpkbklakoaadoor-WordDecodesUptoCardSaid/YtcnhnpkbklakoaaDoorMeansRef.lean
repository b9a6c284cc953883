/- posthornref17.meaning: US-ASCII. -/
import Derived.Test.YtcnhnpkbklakoaaDoorNamePure
import Derived.Test.YtcnhnpkbklakoaaDoorLatin
namespace Go.Proofs.YtcnhnpkbklakoaaDoor.Word
open Go.RowKit Go.Shelf Go.Proofs.YtcnhnpkbklakoaaDoorW.PrintWords Go.Proofs.YtcnhnpkbklakoaaDoorW.PrintLast Go.Proofs.YtcnhnpkbklakoaaDoorW.PrintMore Go.Proofs.YtcnhnpkbklakoaaDoor.PWordDecodes
open Go.Proofs.YtcnhnpkbklakoaaDoor.Code Go.Proofs.YtcnhnpkbklakoaaDoor.Runes Go.Proofs.YtcnhnpkbklakoaaDoor.Pieces Go.Proofs.YtcnhnpkbklakoaaDoor.Unhex
attribute [local go_sem] max2_int min2_int max_two min_two max_three min_three max_four min_four
set_option linter.unusedVariables false
set_option linter.unusedSimpArgs false
theorem rd_nats (b : List UInt8) (k : Nat) (hk : k < b.length) : rd (natsOf b) (k : Int) = ((b[k]'hk).toNat : Int) := by
  unfold rd natsOf
  simp [hk]
set_option maxHeartbeats 8000000 in
set_option maxRecDepth 100000 in
theorem refmeans_ascii (ch : ByteArray) (A : Option Addr) (cp n : Nat) (b : List UInt8) (hn : b.length = n) (w : World) (hr : Kd.C (Kd.int .u8) w A n (natsOf b)) (hcp : n ≤ cp) (hch : ch.size ≤ 3000000000) (hbn : n ≤ 3000000000)
    (h : (nameR ch).toList = [117, 115, 45, 97, 115, 99, 105, 105]) :
    Calls Tryd.prog 38 #[.string ch, .slice A n cp] w fun e w' => e = .returned (.tuple #[.string (if (b.all fun x => decide (x.toNat ≤ 127)) = true then strOfNums (natsOf b) else ⟨#[]⟩), .bool (b.all fun x => decide (x.toNat ≤ 127))]) ∧ Below w.heap.size w w' := by
  have HN := Lib.hid (fun W => name_calls ch W hch)
  obtain ⟨N, hN⟩ : ∃ N, N = nameR ch := ⟨_, rfl⟩
  rw [← hN] at HN h
  obtain ⟨T, hT⟩ : ∃ T, T = strOfNums (natsOf b) := ⟨_, rfl⟩
  rw [← hT]
  have HTE := Lib.hid hT
  obtain ⟨ok, hok⟩ : ∃ ok, ok = b.all fun x => decide (x.toNat ≤ 127) := ⟨_, rfl⟩
  rw [← hok]
  have HOK := Lib.hid hok
  have HR := Lib.hid hr
  have HNL := Lib.hid hn
  have q1 : (N.toList == [117, 116, 102, 45, 56]) = false := by rw [h]; rfl
  have q1' : ¬ N.toList = [117, 116, 102, 45, 56] := by rw [h]; decide
  have q2 : (N.toList == [117, 115, 45, 97, 115, 99, 105, 105]) = true := by rw [h]; rfl
  clear hN hT hok hr hn
  go_enter Tryd.func38, Tryd.ntmps38
  go_wp2_with fail
  refine (HN.out w).mono ?_
  rintro e w1 ⟨rfl, hb1⟩
  have HB1 := Lib.hid hb1
  have HC1 := Lib.hid (Kd.C_below HR.out hb1)
  clear hb1
  go_wp2
  go_loop [26] (fun v => ∃ k : Nat, k ≤ n ∧ v = .int .i64 k ∧ ∀ (j : Nat) x, j < k → b[j]? = some x → x.toNat ≤ 127) (fun v => n - (intOf v).toNat)
  case atStart => exact ⟨0, by omega, rfl, fun j x h => by omega⟩
  case round =>
    obtain ⟨k, hk, rfl, hall⟩ := hrel
    have HALL := Lib.hid hall
    clear hall
    by_cases hlt : k < n
    · have hkb : k < b.length := by rw [HNL.out]; exact hlt
      obtain ⟨ad, rfl, hc⟩ := Kd.at_int HC1.out (k : Int) (by omega) (by omega)
      rw [rd_nats b k hkb] at hc
      obtain ⟨x, hx⟩ : ∃ x, b[k]'hkb = x := ⟨_, rfl⟩
      rw [hx] at hc
      have hxl : b[k]? = some x := by rw [← hx]; exact List.getElem?_eq_getElem hkb
      have HXL := Lib.hid hxl
      simp only [Int.toNat_natCast] at hc
      clear hx hxl hkb
      by_cases h127 : 127 < x.toNat
      · have hof : ok = false := by
          rw [HOK.out]
          exact Bool.eq_false_iff.2 (fun ha => by
            have := List.all_eq_true.1 ha x (List.mem_of_getElem? HXL.out)
            simp at this
            omega)
        subst hof
        have q3 : decide ((127 : Int) < (x.toNat : Int)) = true := decide_eq_true (by omega)
        go_wp2
        refine bodyPost_ret (results_list (rs := [.tmp 4, .tmp 5]) rfl (by simp) (.tmp (.tmp .nil))) rfl ?_
        exact ⟨rfl, HB1.out⟩
      · have q3 : decide ((127 : Int) < (x.toNat : Int)) = false := decide_eq_false (by omega)
        have HNX : Hid (∀ (j : Nat) y, j < k + 1 → b[j]? = some y → y.toNat ≤ 127) := Lib.hid (fun j y h hb => by
          rcases Nat.lt_or_ge j k with h' | h'
          · exact HALL.out j y h' hb
          · obtain rfl : j = k := by omega
            rw [HXL.out] at hb
            cases hb
            omega)
        go_wp2
        go_round
        case rel => exact ⟨k + 1, by omega, by go_num, HNX.out⟩
        case measure => simp [intOf]; omega
    · obtain rfl : k = n := by omega
      have hot : ok = true := by
        rw [HOK.out]
        refine List.all_eq_true.2 (fun x hx => ?_)
        obtain ⟨j, hj⟩ := List.mem_iff_getElem?.1 hx
        have hjl := (List.getElem?_eq_some_iff.1 hj).1
        have := HNL.out
        exact decide_eq_true (HALL.out j x (by omega) hj)
      subst hot
      have zc := str_of w1 (c := cp) HC1.out
      rw [← HTE.out] at zc
      go_wp2
      refine bodyPost_ret (results_list (rs := [.tmp 4, .tmp 5]) rfl (by simp) (.tmp (.tmp .nil))) rfl ?_
      exact ⟨rfl, HB1.out⟩
/-- the bytes of a text in Latin-1, as UTF-8 -/
def latinL (b : List UInt8) : List UInt8 := b.flatMap fun x => (Utf8.encode (x.toNat : Int)).data.toList
theorem latin_take (b : List UInt8) (k : Nat) (h : k < b.length) : latinL (b.take (k + 1)) = latinL (b.take k) ++ (Utf8.encode ((b[k]'h).toNat : Int)).data.toList := by
  unfold latinL
  rw [List.take_succ_eq_append_getElem h, List.flatMap_append]
  simp
theorem latin_len_all : ((List.range 256).all fun n => decide ((Utf8.encode (n : Int)).data.toList.length ≤ 4)) = true := by kernel_rfl
theorem latin_len (x : UInt8) : (Utf8.encode (x.toNat : Int)).data.toList.length ≤ 4 :=
  of_decide_eq_true (List.all_eq_true.1 latin_len_all x.toNat (List.mem_range.2 x.toNat_lt))
set_option maxHeartbeats 8000000 in
set_option maxRecDepth 100000 in
theorem refmeans_latin (ch : ByteArray) (A : Option Addr) (cp n : Nat) (b : List UInt8) (hn : b.length = n) (w : World) (hr : Kd.C (Kd.int .u8) w A n (natsOf b)) (hcp : n ≤ cp) (hch : ch.size ≤ 3000000000) (hbn : n ≤ 3000000000)
    (h1 : ¬ (nameR ch).toList = [117, 116, 102, 45, 56]) (h2 : ¬ (nameR ch).toList = [117, 115, 45, 97, 115, 99, 105, 105]) :
    Calls Tryd.prog 38 #[.string ch, .slice A n cp] w fun e w' => e = .returned (.tuple #[.string (strOfNums (natsOf (latinL b))), .bool true]) ∧ Below w.heap.size w w' := by
  have HN := Lib.hid (fun W => name_calls ch W hch)
  obtain ⟨N, hN⟩ : ∃ N, N = nameR ch := ⟨_, rfl⟩
  rw [← hN] at HN h1 h2
  obtain ⟨R, hR⟩ : ∃ R, R = strOfNums (natsOf (latinL b)) := ⟨_, rfl⟩
  rw [← hR]
  have HRR := Lib.hid hR
  have HR := Lib.hid hr
  have HNL := Lib.hid hn
  have q1 : (N.toList == [117, 116, 102, 45, 56]) = false := beq_eq_false_iff_ne.2 h1
  have q2 : (N.toList == [117, 115, 45, 97, 115, 99, 105, 105]) = false := beq_eq_false_iff_ne.2 h2
  clear hN hR hr hn
  go_enter Tryd.func38, Tryd.ntmps38
  go_wp2_with fail
  refine (HN.out w).mono ?_
  rintro e w1 ⟨rfl, hb1⟩
  have HB1 := Lib.hid hb1
  have HC1 := Lib.hid (Kd.C_below HR.out hb1)
  clear hb1
  go_wp2
  go_loopw [8, 37] (fun o v wr => ∃ k : Nat, k ≤ n ∧ v = .int .i64 k ∧ wr.ownsRow w.heap.size 5 1 o (natsOf (latinL (b.take k))).length (nums .u8 (natsOf (latinL (b.take k)))) ∧ Below w.heap.size w wr ∧ (natsOf (latinL (b.take k))).length ≤ 4 * k) (fun _ v _ => n - (intOf v).toNat)
  case atStart => exact ⟨0, by omega, rfl, own_nil _ _ _ _, HB1.out, by simp [latinL, natsOf]⟩
  case round =>
    obtain ⟨k, hk, rfl, hO, hB, hdk⟩ := hrel
    have hz : w.heap.size ≤ wr.heap.size := hB.size
    have HO := Lib.hid hO
    have HB := Lib.hid hB
    clear hO hB
    by_cases hlt : k < n
    · have hkb : k < b.length := by rw [HNL.out]; exact hlt
      obtain ⟨ad, rfl, hc⟩ := Kd.at_int (Kd.C_below HR.out HB.out) (k : Int) (by omega) (by omega)
      rw [rd_nats b k hkb] at hc
      have hnx := latin_take b k hkb
      obtain ⟨x, hx⟩ : ∃ x, b[k]'hkb = x := ⟨_, rfl⟩
      rw [hx] at hc hnx
      simp only [Int.toNat_natCast] at hc
      have HNX := Lib.hid hnx
      have HW := Lib.hid (fun W => posthornref05_Write.calls (x.toNat : Int) _ W (write_latin x))
      have hel := latin_len x
      obtain ⟨E, hE⟩ : ∃ E, E = natsOf (Utf8.encode (x.toNat : Int)).data.toList := ⟨_, rfl⟩
      have HE := Lib.hid hE
      rw [← hE] at HW
      have hEl : E.length ≤ 4 := by rw [hE]; simpa [natsOf] using hel
      obtain ⟨d, hd⟩ : ∃ d, d = natsOf (latinL (b.take k)) := ⟨_, rfl⟩
      rw [← hd] at HO hdk
      have HD := Lib.hid hd
      have hx256 := x.toNat_lt
      clear hx hkb hnx hel hE hd
      go_wp2_with fail
      refine (HW.out wr).mono ?_
      rintro e w2 ⟨V, rfl, hr2, hb2⟩
      obtain ⟨A2, cp2, rfl, hR2⟩ := own_reads (Kd.own_of_R hr2)
      have HR2 := Lib.hid hR2
      have HB2 := Lib.hid (HB.out.trans (hb2.mono hz))
      have HO2 := Lib.hid (pw_own_below HO.out hb2)
      have hz2 : w.heap.size ≤ w2.heap.size := HB2.out.size
      clear hr2 hb2 hR2
      go_wp2_with (at_builtin; refine print_append_row (w0 := w2) w.heap.size rfl (.tmp 41) (.tmp 44) 39 5 .u8 1 rfl Tryd.underlying39 info5 (by decide) _ d E _ E.length _ rfl rfl ?ho ?hr ?hb ?hbase ?hl ?_)
      case ho => exact HO2.out
      case hr => exact HR2.out
      case hb => exact Below.refl _ _
      case hbase => omega
      case hl => omega
      intro v7 w7 ho7 hb7 hg7 hat7
      have HO7 := Lib.hid ho7
      have HB7 := Lib.hid (HB2.out.trans hb7)
      clear ho7 hb7 hg7 hat7
      go_wp2
      go_roundw
      case rel =>
        have e : natsOf (latinL (b.take (k + 1))) = d ++ E := by rw [HNX.out, HD.out, HE.out]; simp [natsOf]
        exact ⟨k + 1, by omega, by go_num, by rw [e, List.length_append]; exact HO7.out, HB7.out, by rw [e, List.length_append]; omega⟩
      case measure => simp [intOf]; omega
    · obtain rfl : k = n := by omega
      have ht : b.take k = b := List.take_of_length_le (by rw [HNL.out]; exact Nat.le_refl _)
      rw [ht] at HO
      have hcv := own_string (P := Tryd.prog) Tryd.underlying39 Tryd.underlying5 Tryd.underlying9 HO.out
      rw [← HRR.out] at hcv
      clear ht
      go_wp2
      refine bodyPost_ret (results_list (rs := [.tmp 4, .tmp 5]) rfl (by simp) (.tmp (.tmp .nil))) rfl ?_
      exact ⟨rfl, HB.out⟩
end Go.Proofs.YtcnhnpkbklakoaaDoor.Word
