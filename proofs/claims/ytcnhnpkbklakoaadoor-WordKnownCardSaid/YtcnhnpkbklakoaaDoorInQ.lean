/- word.inQ by contract. -/
import Derived.Test.YtcnhnpkbklakoaaDoorQuoted
namespace Go.Proofs.YtcnhnpkbklakoaaDoor.Word
open Go.RowKit Go.Proofs.YtcnhnpkbklakoaaDoorW.PrintWords Go.Proofs.YtcnhnpkbklakoaaDoorW.PrintLast Go.Proofs.YtcnhnpkbklakoaaDoorW.PrintMore Go.Proofs.YtcnhnpkbklakoaaDoor.PWordEncodes
open Go.Proofs.YtcnhnpkbklakoaaDoor.Code
attribute [local go_sem] max2_int min2_int max_two min_two max_three min_three max_four min_four
set_option linter.unusedVariables false
set_option linter.unusedSimpArgs false
def hdQ : ByteArray := ⟨#[61, 63, 85, 84, 70, 45, 56, 63, 81, 63]⟩
def wordQ (t : ByteArray) : ByteArray := hdQ ++ t ++ tl
def qI (r : Int) : ByteArray := qV r.toNat
def qSeg : List Int → ByteArray → List ByteArray
  | [], t => [wordQ t]
  | r :: l, t => if 63 < t.size + (qI r).size then wordQ t :: qSeg l (qI r) else qSeg l (t ++ qI r)
theorem qSeg_cons (r : Int) (l : List Int) (t : ByteArray) : qSeg (r :: l) t = if 63 < t.size + (qI r).size then wordQ t :: qSeg l (qI r) else qSeg l (t ++ qI r) := rfl
def inQV (l : List Int) : ByteArray := ⟨(Lib.join ((qSeg l ⟨#[]⟩).map (·.data.toList)) [32]).toArray⟩
theorem qI_size (r : Int) : (qI r).size ≤ 12 := by
  unfold qI qV
  have h4 := enc_len (r.toNat : Int)
  split
  · decide
  · split
    · have := bytesOf_length (Utf8.encode (r.toNat : Int))
      unfold enc at h4
      omega
    · rw [strOfNums_size, eqV_len]; omega
theorem wordQ_size (t : ByteArray) (h : t.size ≤ 63) : (wordQ t).size ≤ 75 := by
  simp only [wordQ, ByteArray.size_append]
  have h1 : hdQ.size = 10 := rfl
  have h2 : tl.size = 2 := rfl
  omega
theorem qSeg_size : ∀ (l : List Int) (t : ByteArray), t.size ≤ 63 → ∀ x ∈ qSeg l t, x.size ≤ 75
  | [], t, hp => by
    intro x hx
    simp only [qSeg, List.mem_singleton] at hx
    subst hx
    exact wordQ_size t hp
  | r :: l, t, hp => by
    intro x hx
    rw [qSeg_cons] at hx
    have h4 := qI_size r
    split at hx
    · rcases List.mem_cons.1 hx with rfl | hx
      · exact wordQ_size t hp
      · exact qSeg_size l _ (by omega) x hx
    · exact qSeg_size l _ (by rw [ByteArray.size_append]; omega) x hx
theorem qSeg_len : ∀ (l : List Int) (t : ByteArray), (qSeg l t).length ≤ l.length + 1
  | [], t => by simp [qSeg]
  | r :: l, t => by
    rw [qSeg_cons]
    split
    · have := qSeg_len l (qI r); simp only [List.length_cons]; omega
    · have := qSeg_len l (t ++ qI r); simp only [List.length_cons]; omega
set_option maxHeartbeats 4000000 in
set_option maxRecDepth 100000 in
theorem inQ_calls (A : Option Addr) (cp n : Nat) (l : List Int) (w : World) (hn : l.length = n) (hr : Kd.C (Kd.int .i32) w A n l) (hc : n ≤ cp) (hl : n ≤ 3000000000) (hv : ∀ r ∈ l, 0 ≤ r ∧ r < 1114112) (hT : Octet.Laid w) :
    Calls Tryd.prog 29 #[.slice A n cp] w fun e w' => e = .returned (.string (inQV l)) ∧ Below w.heap.size w w' := by
  have HR := Lib.hid hr
  have HN := Lib.hid hn
  have HV := Lib.hid hv
  have HT := Lib.hid hT
  clear hr hn hv hT
  go_enter Tryd.func29, Tryd.ntmps29
  go_wp2
  go_loopw [3, 4, 10] (fun ws p i wr => ∃ (k : Nat) (W : List ByteArray) (T : ByteArray), k ≤ n ∧ i = .int .i64 k ∧ p = .string T ∧ qSeg l ⟨#[]⟩ = W ++ qSeg (l.drop k) T ∧ wr.ownsRow w.heap.size 9 1 ws W.length (encs Value.string W) ∧ T.size ≤ 63 ∧ W.length ≤ k ∧ Below w.heap.size w wr) (fun _ _ i _ => n - (intOf i).toNat)
  case atStart => exact ⟨0, [], ⟨#[]⟩, by omega, rfl, rfl, rfl, own_nil _ _ _ _, by decide, by decide, Below.refl _ _⟩
  case round =>
    obtain ⟨k, W, T, hk, rfl, rfl, hs, hW, hT63, hWk, hB⟩ := hrel
    have HS := Lib.hid hs
    have HW := Lib.hid hW
    have HB := Lib.hid hB
    clear hs hW hB
    by_cases hlt : k < n
    · obtain ⟨r, hr⟩ : ∃ r, l[k]? = some r := ⟨_, List.getElem?_eq_getElem (by have := HN.out; omega)⟩
      have hdrop : l.drop k = r :: l.drop (k + 1) := by
        obtain ⟨hk', rfl⟩ := List.getElem?_eq_some_iff.1 hr
        exact List.drop_eq_getElem_cons hk'
      have HD := Lib.hid hdrop
      obtain ⟨BB, off, rfl, hat⟩ := atK_of_C HR.out (by omega)
      have y0 := hat k _ hr
      have z0 := (HB.out.cell (World.block_lt_of_cell? w _ y0)).trans y0
      obtain ⟨hr0, hr1⟩ := HV.out r (List.mem_of_getElem? hr)
      obtain ⟨m, rfl⟩ : ∃ m : Nat, r = (m : Int) := ⟨r.toNat, by omega⟩
      clear hr hat y0 hdrop
      obtain ⟨q, hq⟩ : ∃ q, q = qI (m : Int) := ⟨_, rfl⟩
      have hq12 : q.size ≤ 12 := by rw [hq]; exact qI_size _
      have hqV : qV m = q := by rw [hq]; rfl
      have HQ := Lib.hid hq
      have HQV := Lib.hid hqV
      clear hq hqV
      go_wp2_with fail
      refine (quoted_calls m wr (by omega) (HT.out.below HT.out.size HB.out)).mono ?_
      rintro e w2 ⟨rfl, hb2⟩
      rw [HQV.out]
      have HB2 := Lib.hid (HB.out.trans (hb2.mono HB.out.size))
      have HW2 := Lib.hid (pw_own_below HW.out hb2)
      have hz : w.heap.size ≤ w2.heap.size := HB2.out.size
      clear hb2
      by_cases hbig : 63 < T.size + q.size
      · have hb1 : decide ((75 : Int) < 10 + (T.size : Int) + (q.size : Int) + 2) = true := decide_eq_true (by omega)
        have hXs := wordQ_size T hT63
        have f1 : (9223372036854775807 < 10 + T.size) = False := eq_false (by omega)
        have f2 : (9223372036854775807 < 10 + T.size + 2) = False := eq_false (by omega)
        have f3 : (9223372036854775807 < q.size) = False := eq_false (by omega)
        go_wp2_with (at_builtin; refine print_append_of (w0 := w) Value.string w.heap.size rfl (.tmp 24) (.tmp 28) 35 9 (.string ⟨#[]⟩) 16 rfl Tryd.underlying35 info9 rfl (by decide) _ W (hdQ ++ T ++ tl) rfl rfl rfl ?ho ?hb ?hbase ?hl ?_)
        case ho => exact HW2.out
        case hb => exact HB2.out
        case hbase => exact hz
        case hl => omega
        intro v3 w3 ho3 hb3 hg3 hat3
        have HO3 := Lib.hid ho3
        have HB3 := Lib.hid hb3
        clear ho3 hb3 hg3 hat3
        go_wp2
        go_roundw
        case rel =>
          refine ⟨k + 1, W ++ [wordQ T], q, by omega, by go_num, ?_, ?_, ?_, by omega, by rw [List.length_append]; simp; omega, HB3.out⟩
          · exact congrArg Value.string (ByteArray.ext (by simp))
          · rw [HS.out, HD.out, qSeg_cons, ← HQ.out, if_pos hbig, List.append_assoc]; rfl
          · rw [List.length_append]; exact HO3.out
        case measure => simp [intOf]; omega
      · have hb1 : decide ((75 : Int) < 10 + (T.size : Int) + (q.size : Int) + 2) = false := decide_eq_false (by omega)
        have f1 : (9223372036854775807 < T.size + q.size) = False := eq_false (by omega)
        go_wp2
        go_roundw
        case rel =>
          refine ⟨k + 1, W, T ++ q, by omega, by go_num, rfl, ?_, HW2.out, by rw [ByteArray.size_append]; omega, by omega, HB2.out⟩
          rw [HS.out, HD.out, qSeg_cons, ← HQ.out, if_neg hbig]
        case measure => simp [intOf]; omega
    · obtain rfl : k = n := by omega
      have hXs := wordQ_size T hT63
      have f1 : (9223372036854775807 < 10 + T.size) = False := eq_false (by omega)
      have f2 : (9223372036854775807 < 10 + T.size + 2) = False := eq_false (by omega)
      have hall : qSeg l ⟨#[]⟩ = W ++ [wordQ T] := by
        rw [HS.out, List.drop_eq_nil_of_le (by rw [HN.out]; exact Nat.le_refl _)]
        rfl
      have HALL := Lib.hid hall
      have hz : w.heap.size ≤ wr.heap.size := HB.out.size
      clear hall
      go_wp2_with (at_builtin; refine print_append_of (w0 := w) Value.string w.heap.size rfl (.tmp 34) (.tmp 38) 35 9 (.string ⟨#[]⟩) 16 rfl Tryd.underlying35 info9 rfl (by decide) _ W (hdQ ++ T ++ tl) rfl rfl rfl ?ho ?hb ?hbase ?hl ?_)
      case ho => exact HW.out
      case hb => exact HB.out
      case hbase => exact hz
      case hl => omega
      intro v3 w3 ho3 hb3 hg3 hat3
      have hwl : W.length + 1 = (qSeg l ⟨#[]⟩).length := by rw [HALL.out, List.length_append]; rfl
      rw [show hdQ ++ T ++ tl = wordQ T from rfl, ← HALL.out, hwl] at ho3
      have hbl := qSeg_len l ⟨#[]⟩
      have hbp : 0 < (qSeg l ⟨#[]⟩).length := by rw [HALL.out, List.length_append]; simp
      obtain ⟨g, c3, rfl, hc3, hg, hcells⟩ := own_strs ho3 hbp
      have hjl := join_words 75 (qSeg l ⟨#[]⟩) (qSeg_size l ⟨#[]⟩ (by decide))
      have HJ := Lib.hid (Tryd.strings_Join g 0 c3 (qSeg l ⟨#[]⟩) ⟨#[32]⟩ w3 hcells hg (by have := HN.out; omega) hc3 (by
        show (Lib.join _ [32]).length ≤ _
        have := HN.out
        omega))
      have HB3 := Lib.hid hb3
      clear ho3 hb3 hg3 hat3 hbl hbp hjl hcells
      go_wp2_with fail
      refine HJ.out.mono ?_
      rintro e w4 ⟨rfl, hb4⟩
      go_wp2
      go_ret
      exact ⟨rfl, HB3.out.trans (hb4.mono HB3.out.size)⟩
end Go.Proofs.YtcnhnpkbklakoaaDoor.Word
