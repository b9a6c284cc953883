/- word.Encode by contract. -/
import Derived.Test.YtcnhnpkbklakoaaDoorG2
import Derived.Test.YtcnhnpkbklakoaaDoorShelf
import Derived.Test.YtcnhnpkbklakoaaDoorG1
import Derived.Deep.QuietTactic
import Derived.BigQuiet
import Derived.Lib.DecodeN
/- word.inB by contract. -/
namespace Go.Proofs.YtcnhnpkbklakoaaDoor.Word
open Go.RowKit Go.Proofs.YtcnhnpkbklakoaaDoorW.PrintWords Go.Proofs.YtcnhnpkbklakoaaDoorW.PrintLast Go.Proofs.YtcnhnpkbklakoaaDoorW.PrintMore Go.Proofs.YtcnhnpkbklakoaaDoor.PWordEncodes
open Go.Proofs.YtcnhnpkbklakoaaDoor.Code
attribute [local go_sem] max2_int min2_int max_two min_two max_three min_three max_four min_four
set_option linter.unusedVariables false
set_option linter.unusedSimpArgs false
theorem info9 : (Tryd.prog.info? 9).map (fun i => (i.zero, i.size, i.bytes)) = some (some (.string ⟨#[]⟩), 1, 16) := by kernel_rfl
/-- cells of one kind of number, at a place -/
theorem atK_of_C {w : World} {A : Option Addr} {n : Nat} {k : IntKind} {l : List Int} (h : Kd.C (Kd.int k) w A n l) (h0 : 0 < n) : ∃ b off, A = some ⟨b, off, none⟩ ∧ ∀ (j : Nat) x, l[j]? = some x → w.cell? ⟨b, off + j, none⟩ = some (.int k x) := by
  have hn : l.length = n := h.1
  obtain ⟨ad, rfl, hc⟩ := h.2.2 h0
  have hx : ∀ (j : Nat) x, l[j]? = some x → w.cell? (ad.add j) = some (.int k x) := by
    intro j x hj
    obtain ⟨cs, hl, hk, hu⟩ := hc j x hj
    obtain rfl : cs = [.int k x] := hk
    have := hu 0 _ rfl
    rw [Nat.add_zero] at this
    rwa [show j * (Kd.int k).sz = j from Nat.mul_one j] at this
  obtain ⟨b, off, sp⟩ := ad
  have hsp : sp = none := by
    have := hx 0 _ (List.getElem?_eq_getElem (by omega))
    unfold World.cell? at this
    split at this
    · cases sp with
      | none => rfl
      | some k => simp [Addr.add] at this
    · cases this
  subst hsp
  exact ⟨b, off, rfl, fun j x hj => by rw [← Code.add_at]; exact hx j x hj⟩
/-- the bytes of a rune -/
def enc (r : Int) : List Int := bytesOf (Utf8.encode r)
theorem rune_string (r : Int) (W : World) : (convert 21 9 (.int .i32 r)).run Tryd.prog W = .ok (.string (Utf8.encode r)) W := by
  simp [convert, run_underlying Tryd.underlying21, run_underlying Tryd.underlying9, Conv.intToString]
def hdB : ByteArray := ⟨#[61, 63, 85, 84, 70, 45, 56, 63, 66, 63]⟩
def tl : ByteArray := ⟨#[63, 61]⟩
def wordB (p : List Int) : ByteArray := hdB ++ strOfNums (b64 p) ++ tl
def bSeg : List Int → List Int → List ByteArray
  | [], p => [wordB p]
  | r :: l, p => if 45 < p.length + (enc r).length then wordB p :: bSeg l (enc r) else bSeg l (p ++ enc r)
theorem bSeg_cons (r : Int) (l p : List Int) : bSeg (r :: l) p = if 45 < p.length + (enc r).length then wordB p :: bSeg l (enc r) else bSeg l (p ++ enc r) := rfl
def inBV (l : List Int) : ByteArray := ⟨(Lib.join ((bSeg l []).map (·.data.toList)) [32]).toArray⟩
theorem enc_byte (r : Int) : ∀ x ∈ enc r, 0 ≤ x ∧ x < 256 := by
  intro x hx
  simp only [enc, bytesOf, List.mem_map] at hx
  obtain ⟨b, _, rfl⟩ := hx
  have := b.toNat_lt
  omega
theorem enc_len (r : Int) : 1 ≤ (enc r).length ∧ (enc r).length ≤ 4 := by
  simp only [enc, bytesOf, List.length_map, Utf8.encode]
  repeat' split
  all_goals simp
theorem str_size (l : List Int) : (strOfNums l).size = l.length := by
  rw [strOfNums_size]
theorem b64_length : ∀ l : List Int, (b64 l).length ≤ 4 * ((l.length + 2) / 3)
  | a :: b :: c :: l => by
    have := b64_length l
    simp only [b64, four, List.length_append, List.length_cons, List.length_nil]
    omega
  | [a, b] => by simp [b64]
  | [a] => by simp [b64]
  | [] => by simp [b64]
theorem wordB_size (p : List Int) (hp : p.length ≤ 45) : (wordB p).size ≤ 72 := by
  have h := b64_length p
  simp only [wordB, ByteArray.size_append, str_size]
  have h1 : hdB.size = 10 := rfl
  have h2 : tl.size = 2 := rfl
  omega
theorem bSeg_size : ∀ (l p : List Int), p.length ≤ 45 → ∀ x ∈ bSeg l p, x.size ≤ 72
  | [], p, hp => by
    intro x hx
    simp only [bSeg, List.mem_singleton] at hx
    subst hx
    exact wordB_size p hp
  | r :: l, p, hp => by
    intro x hx
    rw [bSeg_cons] at hx
    have h4 := enc_len r
    split at hx
    · rcases List.mem_cons.1 hx with rfl | hx
      · exact wordB_size p hp
      · exact bSeg_size l _ (by omega) x hx
    · exact bSeg_size l _ (by rw [List.length_append]; omega) x hx
theorem bSeg_len : ∀ (l p : List Int), (bSeg l p).length ≤ l.length + 1
  | [], p => by simp [bSeg]
  | r :: l, p => by
    rw [bSeg_cons]
    split
    · have := bSeg_len l (enc r); simp only [List.length_cons]; omega
    · have := bSeg_len l (p ++ enc r); simp only [List.length_cons]; omega
theorem own_strs {w : World} {b n : Nat} {v : Value} {ws : List ByteArray} (h : w.ownsRow b 9 1 v n (encs Value.string ws)) (h0 : 0 < n) : ∃ g c, v = .slice (some ⟨g, 0, none⟩) n c ∧ n ≤ c ∧ g < w.heap.size ∧ ∀ (j : Nat) x, ws[j]? = some x → w.cell? ⟨g, 0 + j, none⟩ = some (.string x) := by
  obtain ⟨g, cap, rfl, hg1, hg2⟩ := h.form h0
  refine ⟨g, cap, rfl, ?_, hg2, fun j x hj => ?_⟩
  · rcases h.2 with ⟨e, _⟩ | ⟨g', cap', cur, he, _, _, h1, _⟩
    · cases e
    · cases he
      exact h1
  · have := h.cells (g := g) rfl j (.string x) (by simp [encs, hj])
    rw [Code.add_at] at this
    exact this
theorem tail_length (m : Nat) : ∀ r : List (List UInt8), (∀ x ∈ r, x.length ≤ m) → (Lib.joinTail [32] r).length ≤ (m + 1) * r.length
  | [], _ => by simp [Lib.joinTail]
  | x :: r, h => by
    have h1 := tail_length m r (fun y hy => h y (List.mem_cons_of_mem _ hy))
    have h2 := h x (List.mem_cons_self ..)
    simp only [Lib.joinTail, List.map_cons, List.flatten_cons, List.length_append, List.length_cons, List.length_nil, Nat.mul_succ] at h1 ⊢
    omega
theorem join_length (m : Nat) (r : List (List UInt8)) (h : ∀ x ∈ r, x.length ≤ m) : (Lib.join r [32]).length ≤ (m + 1) * r.length := by
  cases r with
  | nil => simp [Lib.join_nil]
  | cons x r =>
    have h1 := tail_length m r (fun y hy => h y (List.mem_cons_of_mem _ hy))
    have h2 := h x (List.mem_cons_self ..)
    rw [Lib.join_cons]
    simp only [List.length_append, List.length_cons, Nat.mul_succ]
    omega
theorem join_words (m : Nat) (ws : List ByteArray) (h : ∀ x ∈ ws, x.size ≤ m) : (Lib.join (ws.map (·.data.toList)) [32]).length ≤ (m + 1) * ws.length := by
  have := join_length m (ws.map (·.data.toList)) (fun x hx => by
    obtain ⟨y, hy, rfl⟩ := List.mem_map.1 hx
    have := h y hy
    rw [data_length]
    exact this)
  rwa [List.length_map] at this
theorem reads_block {w w1 : World} {k : IntKind} {B n : Nat} {xs : List Int} (h : ReadsInt w k (some ⟨B, 0, none⟩) n xs) (hb : w1.heap[B]? = w.heap[B]?) : ReadsInt w1 k (some ⟨B, 0, none⟩) n xs := by
  refine ⟨h.1, h.2.1, fun hp => ?_⟩
  obtain ⟨ad, e, hc⟩ := h.2.2 hp
  cases e
  refine ⟨_, rfl, fun j hj => ?_⟩
  rw [← hc j hj, Code.add_at]
  unfold World.cell?
  simp only [hb]
set_option maxHeartbeats 4000000 in
set_option maxRecDepth 100000 in
theorem inB_calls (A : Option Addr) (cp n : Nat) (l : List Int) (w : World) (hn : l.length = n) (hr : Kd.C (Kd.int .i32) w A n l) (hc : n ≤ cp) (hl : n ≤ 3000000000) :
    Calls Tryd.prog 28 #[.slice A n cp] w fun e w' => e = .returned (.string (inBV l)) ∧ Below w.heap.size w w' := by
  have HR := Lib.hid hr
  have HN := Lib.hid hn
  have kb := fun s W => print_bytes (P := Tryd.prog) 9 39 5 Tryd.underlying9 Tryd.underlying39 Tryd.underlying5 s W
  have kr := rune_string
  clear hr hn
  go_enter Tryd.func28, Tryd.ntmps28
  go_wp2
  go_loopw [3, 4, 10] (fun ws p i wr => ∃ (k : Nat) (W : List ByteArray) (P : List Int), k ≤ n ∧ i = .int .i64 k ∧ bSeg l [] = W ++ bSeg (l.drop k) P ∧ wr.ownsRow w.heap.size 9 1 ws W.length (encs Value.string W) ∧ wr.ownsRow w.heap.size 5 1 p P.length (nums .u8 P) ∧ P.length ≤ 45 ∧ W.length ≤ k ∧ (∀ x ∈ P, 0 ≤ x ∧ x < 256) ∧ Below w.heap.size w wr) (fun _ _ i _ => n - (intOf i).toNat)
  case atStart => exact ⟨0, [], [], by omega, rfl, rfl, own_nil _ _ _ _, own_nil _ _ _ _, by decide, by decide, (fun x hx => by cases hx), Below.refl _ _⟩
  case round =>
    obtain ⟨k, W, P, hk, rfl, hs, hW, hP, hP45, hWk, hPb, hB⟩ := hrel
    have HS := Lib.hid hs
    have HW := Lib.hid hW
    have HP := Lib.hid hP
    have HPB := Lib.hid hPb
    have HB := Lib.hid hB
    clear hs hW hP hPb hB
    obtain ⟨A1, c1, rfl, hc1, hC1⟩ := own_C rfl HP.out
    have HC1 := Lib.hid hC1
    clear hC1
    by_cases hlt : k < n
    · obtain ⟨r, hr⟩ : ∃ r, l[k]? = some r := ⟨_, List.getElem?_eq_getElem (by have := HN.out; omega)⟩
      have hdrop : l.drop k = r :: l.drop (k + 1) := by
        obtain ⟨hk', rfl⟩ := List.getElem?_eq_some_iff.1 hr
        exact List.drop_eq_getElem_cons hk'
      have HD := Lib.hid hdrop
      obtain ⟨BB, off, rfl, hat⟩ := atK_of_C HR.out (by omega)
      have y0 := hat k _ hr
      have z0 := (HB.out.cell (World.block_lt_of_cell? w _ y0)).trans y0
      clear hr hat y0 hdrop
      have kr1 := kr r
      have kb1 := kb (Utf8.encode r)
      have he : (enc r).length = (Utf8.encode r).size := bytesOf_length _
      have he4 := enc_len r
      rw [he] at he4
      have HE := Lib.hid he
      clear kr kb he
      by_cases hbig : 45 < P.length + (Utf8.encode r).size
      · have hb1 : decide ((45 : Int) < (P.length : Int) + ((Utf8.encode r).size : Int)) = true := decide_eq_true (by omega)
        have hXs := wordB_size P hP45
        obtain ⟨X, hX⟩ : ∃ X, strOfNums (b64 P) = X := ⟨_, rfl⟩
        have hXw : hdB ++ X ++ tl = wordB P := by rw [← hX]; rfl
        have hX72 : X.size ≤ 72 := by
          rw [← hXw] at hXs
          simp only [ByteArray.size_append] at hXs
          omega
        have HXW := Lib.hid hXw
        have HX := Lib.hid hX
        have f1 : (9223372036854775807 < 10 + X.size) = False := eq_false (by omega)
        have f2 : (9223372036854775807 < 10 + X.size + 2) = False := eq_false (by omega)
        clear hX hXw hXs
        go_wp2_with fail
        have hb1 := bytes_below (Below.refl wr.heap.size wr) (Nat.le_refl _) 5 (Utf8.encode r)
        have hrd := bytes_reads wr 5 (Utf8.encode r) (by omega)
        refine (base64_calls A1 c1 P.length P _ rfl (Kd.C_below HC1.out hb1) hc1 (by omega) HPB.out).mono ?_
        rintro e w2 ⟨rfl, hb2⟩
        have hb12 : Below wr.heap.size wr w2 := hb1.trans (hb2.mono hb1.size)
        have hrd2 := hrd.below hb2
        have hlt2 : wr.heap.size < w2.heap.size := by
          have := hb2.size
          rw [Lib.bytesWorld_size] at this
          omega
        have HRD := Lib.hid hrd2
        have HB2 := Lib.hid (HB.out.trans (hb12.mono HB.out.size))
        have HW2 := Lib.hid (pw_own_below HW.out hb12)
        have hz : w.heap.size ≤ w2.heap.size := HB2.out.size
        clear hb1 hrd hb2 hb12 hrd2
        rw [HX.out]
        go_wp2_with (at_builtin; refine print_append_of (w0 := w) Value.string w.heap.size rfl (.tmp 23) (.tmp 28) 35 9 (.string ⟨#[]⟩) 16 rfl Tryd.underlying35 info9 rfl (by decide) _ W (hdB ++ X ++ tl) rfl rfl rfl ?ho ?hb ?hbase ?hl ?_)
        case ho => exact HW2.out
        case hb => exact HB2.out
        case hbase => exact hz
        case hl => omega
        intro v3 w3 ho3 hb3 hg3 hat3
        rw [HXW.out] at ho3
        have hrd3 : ReadsInt w3 .u8 (some ⟨wr.heap.size, 0, none⟩) (Utf8.encode r).size (enc r) := by
          refine reads_block HRD.out (hg3.block _ hlt2 (fun e => ?_))
          have := own_lt HW.out _ e.symm
          omega
        have HO3 := Lib.hid ho3
        have HRD3 := Lib.hid hrd3
        have HB3 := Lib.hid hb3
        have hz3 : w.heap.size ≤ w3.heap.size := HB3.out.size
        clear ho3 hb3 hg3 hat3 hrd3
        go_wp2_with (at_builtin; refine print_append_row (w0 := w) w.heap.size rfl (.tmp 30) (.tmp 31) 39 5 .u8 1 rfl Tryd.underlying39 info5 (by decide) _ [] (enc r) _ _ _ rfl rfl ?ho ?hr ?hb ?hbase ?hl ?_)
        case ho => exact own_nil _ _ _ _
        case hr => exact HRD3.out
        case hb => exact HB3.out
        case hbase => exact hz3
        case hl => simp only [List.length_nil]; omega
        intro v4 w4 ho4 hb4 hg4 hat4
        go_wp2
        go_roundw
        case rel =>
          refine ⟨k + 1, W ++ [wordB P], enc r, by omega, by go_num, ?_, ?_, ho4, by rw [HE.out]; omega, by rw [List.length_append]; simp; omega, enc_byte r, hb4⟩
          · rw [HS.out, HD.out, bSeg_cons, if_pos (by rw [HE.out]; exact hbig), List.append_assoc]; rfl
          · rw [List.length_append]; exact own_other HO3.out hg4 (by cases v3.ownBlock <;> simp [Value.ownBlock])
        case measure => simp [intOf]; omega
      · have hb1 : decide ((45 : Int) < (P.length : Int) + ((Utf8.encode r).size : Int)) = false := decide_eq_false (by omega)
        have hbb := bytes_below (Below.refl wr.heap.size wr) (Nat.le_refl _) 5 (Utf8.encode r)
        have HRD := Lib.hid (bytes_reads wr 5 (Utf8.encode r) (by omega))
        have HB2 := Lib.hid (HB.out.trans (hbb.mono HB.out.size))
        have HW2 := Lib.hid (pw_own_below HW.out hbb)
        have HP2 := Lib.hid (pw_own_below HP.out hbb)
        have hz : w.heap.size ≤ (Lib.bytesWorld wr 5 (Utf8.encode r)).heap.size := HB2.out.size
        clear hbb
        go_wp2_with (at_builtin; refine print_append_row (w0 := w) w.heap.size rfl (.tmp 30) (.tmp 31) 39 5 .u8 1 rfl Tryd.underlying39 info5 (by decide) _ P (enc r) _ _ _ rfl rfl ?ho ?hr ?hb ?hbase ?hl ?_)
        case ho => exact HP2.out
        case hr => exact HRD.out
        case hb => exact HB2.out
        case hbase => exact hz
        case hl => omega
        intro v4 w4 ho4 hb4 hg4 hat4
        go_wp2
        go_roundw
        case rel =>
          refine ⟨k + 1, W, P ++ enc r, by omega, by go_num, ?_, ?_, by rw [List.length_append]; exact ho4, by rw [List.length_append, HE.out]; omega, by omega, ?_, hb4⟩
          · rw [HS.out, HD.out, bSeg_cons, if_neg (by rw [HE.out]; exact hbig)]
          · exact own_other HW2.out hg4 (own_type_ne HW2.out HP2.out (by decide))
          · intro x hx
            rcases List.mem_append.1 hx with h | h
            · exact HPB.out x h
            · exact enc_byte r x h
        case measure => simp [intOf]; omega
    · obtain rfl : k = n := by omega
      have hXs := wordB_size P hP45
      obtain ⟨X, hX⟩ : ∃ X, strOfNums (b64 P) = X := ⟨_, rfl⟩
      have hXw : hdB ++ X ++ tl = wordB P := by rw [← hX]; rfl
      have hX72 : X.size ≤ 72 := by
        rw [← hXw] at hXs
        simp only [ByteArray.size_append] at hXs
        omega
      have HXW := Lib.hid hXw
      have HX := Lib.hid hX
      have f1 : (9223372036854775807 < 10 + X.size) = False := eq_false (by omega)
      have f2 : (9223372036854775807 < 10 + X.size + 2) = False := eq_false (by omega)
      have hall : bSeg l [] = W ++ [wordB P] := by
        rw [HS.out, List.drop_eq_nil_of_le (by rw [HN.out]; exact Nat.le_refl _)]
        rfl
      have HALL := Lib.hid hall
      clear hX hXw hXs hall kr kb
      go_wp2_with fail
      refine (base64_calls A1 c1 P.length P _ rfl HC1.out hc1 (by omega) HPB.out).mono ?_
      rintro e w2 ⟨rfl, hb2⟩
      have HB2 := Lib.hid (HB.out.trans (hb2.mono HB.out.size))
      have HW2 := Lib.hid (pw_own_below HW.out hb2)
      have hz : w.heap.size ≤ w2.heap.size := HB2.out.size
      clear hb2
      rw [HX.out]
      go_wp2_with (at_builtin; refine print_append_of (w0 := w) Value.string w.heap.size rfl (.tmp 34) (.tmp 39) 35 9 (.string ⟨#[]⟩) 16 rfl Tryd.underlying35 info9 rfl (by decide) _ W (hdB ++ X ++ tl) rfl rfl rfl ?ho ?hb ?hbase ?hl ?_)
      case ho => exact HW2.out
      case hb => exact HB2.out
      case hbase => exact hz
      case hl => omega
      intro v3 w3 ho3 hb3 hg3 hat3
      have hwl : W.length + 1 = (bSeg l []).length := by rw [HALL.out, List.length_append]; rfl
      rw [HXW.out, ← HALL.out, hwl] at ho3
      have hbl := bSeg_len l []
      have hbp : 0 < (bSeg l []).length := by rw [HALL.out, List.length_append]; simp
      obtain ⟨g, c3, rfl, hc3, hg, hcells⟩ := own_strs ho3 hbp
      have hjl := join_words 72 (bSeg l []) (bSeg_size l [] (by decide))
      have HJ := Lib.hid (Tryd.strings_Join g 0 c3 (bSeg l []) ⟨#[32]⟩ w3 hcells hg (by have := HN.out; omega) hc3 (by
        show (Lib.join _ [32]).length ≤ _
        have := HN.out
        omega))
      have HB3 := Lib.hid hb3
      clear ho3 hb3 hg3 hat3 hbl hbp hjl hcells
      go_wp2_with fail
      refine HJ.out.mono ?_
      rintro e w4 ⟨rfl, hb4⟩
      go_wp2
      go_ret
      exact ⟨rfl, HB3.out.trans (hb4.mono HB3.out.size)⟩
end Go.Proofs.YtcnhnpkbklakoaaDoor.Word
/- word.quoted by contract. (The steps of its region: printed by tools/quoted.py.) -/
namespace Go.Proofs.YtcnhnpkbklakoaaDoor.Word
open Go.RowKit Go.Proofs.YtcnhnpkbklakoaaDoorW.PrintWords Go.Proofs.YtcnhnpkbklakoaaDoorW.PrintLast Go.Proofs.YtcnhnpkbklakoaaDoorW.PrintMore Go.Proofs.YtcnhnpkbklakoaaDoor.PWordEncodes
open Go.Proofs.YtcnhnpkbklakoaaDoor.Code
attribute [local go_sem] max2_int min2_int max_two min_two max_three min_three max_four min_four
set_option linter.unusedVariables false
set_option linter.unusedSimpArgs false
/-- a byte as = and two digits -/
def eq3 (a : Int) : List Int := 61 :: hex2 a
def eqV (l : List Int) : List Int := l.flatMap eq3
theorem eqV_more (l : List Int) (k : Nat) (a : Int) (h : l[k]? = some a) : eqV (l.take (k + 1)) = eqV (l.take k) ++ eq3 a := by
  unfold eqV
  rw [List.take_add_one, h, List.flatMap_append]
  simp
theorem eqV_len (l : List Int) : (eqV l).length = 3 * l.length := by
  unfold eqV
  induction l with
  | nil => rfl
  | cons a l ih =>
    rw [List.flatMap_cons, List.length_append, ih]
    simp only [eq3, hex2, List.length_cons, List.length_nil]
    omega
def isQ (n : Nat) : Bool := Octet.isIn 3 n || decide (0 ≤ Lib.indexByte [33, 42, 43, 45, 47] n.toUInt8)
/-- what a rune becomes in Q -/
def qV (n : Nat) : ByteArray := if n = 32 then ⟨#[95]⟩ else if n < 128 ∧ isQ n = true then Utf8.encode n else strOfNums (eqV (enc n))
theorem hex_at : ∀ (l : List Int) (k : Nat) (a : Int), l[k]? = some a → (hexV l)[2 * k]? = some (bt H16 (a / 16)) ∧ (hexV l)[2 * k + 1]? = some (bt H16 (a % 16))
  | [], k, a, h => by simp at h
  | b :: l, 0, a, h => by
    simp only [List.getElem?_cons_zero, Option.some.injEq] at h
    subst h
    simp [hexV, hex2]
  | b :: l, k + 1, a, h => by
    rw [List.getElem?_cons_succ] at h
    have := hex_at l k a h
    simp only [hexV, List.flatMap_cons, hex2] at this ⊢
    rw [show 2 * (k + 1) = 2 * k + 2 by omega]
    simpa using this
theorem bt_str (l : List Int) (i : Nat) (a : Int) (h : l[i]? = some a) (h0 : 0 ≤ a) (h1 : a < 256) : bt (strOfNums l) (i : Int) = a := by
  obtain ⟨hi, rfl⟩ := List.getElem?_eq_some_iff.1 h
  have hs : i < (strOfNums l).size := by rw [strOfNums_size]; exact hi
  unfold bt
  rw [dif_pos (by simpa using hs)]
  simp only [Int.toNat_natCast]
  have e : (strOfNums l)[i]'hs = UInt8.ofNat (l[i]).toNat := by
    show (strOfNums l).data[i] = _
    simp [strOfNums]
  rw [e, UInt8.toNat_ofNat']
  omega
theorem hexd_byte (x : Int) : 0 ≤ bt H16 x ∧ bt H16 x < 256 := by have := bt_range H16 x; omega
theorem contains_at (n : Nat) (W : World) (h : n < 128) : Calls Tryd.prog 83 #[.string ⟨#[33, 42, 43, 45, 47]⟩, .int .i32 (n : Int)] W fun e w' => e = .returned (.bool (decide (0 ≤ Lib.indexByte [33, 42, 43, 45, 47] n.toUInt8))) ∧ w' = W := Tryd.strings_ContainsRune_ascii ⟨#[33, 42, 43, 45, 47]⟩ (n : Int) W (by omega) (by omega)
set_option maxHeartbeats 4000000 in
set_option maxRecDepth 100000 in
/-- a byte that stays as it is, or the blank -/
theorem plain_calls (n : Nat) (w : World) (h : n = 32 ∨ n < 128 ∧ isQ n = true) (hT : Octet.Laid w) :
    Calls Tryd.prog 55 #[.int .i32 (n : Int)] w fun e w' => e = .returned (.string (qV n)) ∧ Below w.heap.size w w' := by
  by_cases h0 : n = 32
  · subst h0
    go_enter Tryd.func55, Tryd.ntmps55
    go_wp2
    go_ret
    exact ⟨rfl, Below.refl _ _⟩
  · obtain ⟨h1, h2⟩ : n < 128 ∧ isQ n = true := by rcases h with h | h; exact absurd h h0; exact h
    have hq : qV n = Utf8.encode n := by unfold qV; rw [if_neg h0, if_pos ⟨h1, h2⟩]
    rw [hq]
    have HC := Lib.hid (Octet.Is_calls 3 (by decide) (by decide) n (by omega) w hT)
    have HR := Lib.hid (fun W => contains_at n W (by omega))
    have hl : decide ((n : Int) < 128) = true := decide_eq_true (by omega)
    have h3 : ((n : Int) == 32) = false := by simpa using fun e => h0 (by omega)
    have kr := rune_string (n : Int)
    unfold isQ at h2
    clear h hq
    cases hi : Octet.isIn 3 n
    · rw [hi, Bool.false_or] at h2
      have H2 := Lib.hid h2
      clear h2
      go_enter Tryd.func55, Tryd.ntmps55
      go_wp2_with fail
      refine HC.out.mono ?_
      rintro e w1 ⟨rfl, hb1⟩
      rw [hi]
      go_wp2_with fail
      refine (HR.out _).mono ?_
      rintro e w2 ⟨rfl, rfl⟩
      rw [H2.out]
      go_wp2
      go_ret
      exact ⟨rfl, hb1⟩
    · clear h2
      go_enter Tryd.func55, Tryd.ntmps55
      go_wp2_with fail
      refine HC.out.mono ?_
      rintro e w1 ⟨rfl, hb1⟩
      rw [hi]
      go_wp2
      go_ret
      exact ⟨rfl, hb1⟩
set_option maxHeartbeats 4000000 in
set_option maxRecDepth 100000 in
/-- the digits -/
theorem digits_calls (n : Nat) (w : World) (h0 : n ≠ 32) (hq : ¬ (n < 128 ∧ isQ n = true)) (hr1 : n < 1114112) (hT : Octet.Laid w) :
    Calls Tryd.prog 55 #[.int .i32 (n : Int)] w fun e w' => e = .returned (.string (qV n)) ∧ Below w.heap.size w w' := by
  have hqV : qV n = strOfNums (eqV (enc n)) := by unfold qV; rw [if_neg h0, if_neg hq]
  rw [hqV]
  clear hqV
  have kb := fun s W => print_bytes (P := Tryd.prog) 9 39 5 Tryd.underlying9 Tryd.underlying39 Tryd.underlying5 s W
  have h3 : ((n : Int) == 32) = false := by simpa using fun e => h0 (by omega)
  have kr := rune_string (n : Int)
  have kb1 := kb (Utf8.encode n)
  obtain ⟨i0, hi, hz0, hz1, hz2⟩ := info_parts info5
  obtain ⟨l, hl⟩ : ∃ l, l = enc (n : Int) := ⟨_, rfl⟩
  have hl4 : l.length ≤ 4 := by rw [hl]; exact (enc_len _).2
  have hll : (Utf8.encode n).size = l.length := by rw [hl]; exact (bytesOf_length _).symm
  have HBY := Lib.hid (show ∀ x ∈ l, 0 ≤ x ∧ x < 256 by rw [hl]; exact enc_byte _)
  have HL := Lib.hid hl
  have HLL := Lib.hid hll
  rw [← HL.out]
  clear hl hll kb
  by_cases hn : n < 128
  · have hi9 : Octet.isIn 3 n = false ∧ decide (0 ≤ Lib.indexByte [33, 42, 43, 45, 47] n.toUInt8) = false := by
      have : ¬ isQ n = true := fun h => hq ⟨hn, h⟩
      unfold isQ at this
      rw [Bool.or_eq_true] at this
      exact ⟨by simpa using fun h => this (Or.inl h), by
        cases hx : decide (0 ≤ Lib.indexByte [33, 42, 43, 45, 47] n.toUInt8)
        · rfl
        · exact absurd (Or.inr hx) this⟩
    have HC := Lib.hid (Octet.Is_calls 3 (by decide) (by decide) n (by omega) w hT)
    have HR := Lib.hid (fun W => contains_at n W (by omega))
    have hl : decide ((n : Int) < 128) = true := decide_eq_true (by omega)
    have HI := Lib.hid hi9
    clear hq hi9
    go_enter Tryd.func55, Tryd.ntmps55
    go_wp2_with fail
    refine HC.out.mono ?_
    rintro e w2 ⟨rfl, hba⟩
    rw [HI.out.1]
    go_wp2_with fail
    refine (HR.out _).mono ?_
    rintro e W1 ⟨rfl, rfl⟩
    rw [HI.out.2]
    have HBA := Lib.hid hba
    have hrd := bytes_reads W1 5 (Utf8.encode n) (by have := HLL.out; omega)
    have HRD := Lib.hid (show ReadsInt _ .u8 _ (Utf8.encode n).size l by rw [HL.out]; exact hrd)
    have hbb := bytes_below (Below.refl W1.heap.size W1) (Nat.le_refl _) 5 (Utf8.encode n)
    have HBB := Lib.hid (HBA.out.trans (hbb.mono HBA.out.size))
    clear hrd hbb hba
    go_wp2_with fail
    refine (hexof_calls _ _ (Utf8.encode n).size l _ HLL.out.symm (Kd.C_of_reads (enc := Value.int .u8) (d := (0 : Int)) (h1 := fun _ => rfl) HRD.out) (grownCap_ge _ _ _ _) (by have := HLL.out; omega) HBY.out).mono ?_
    rintro e w0 ⟨rfl, hb0⟩
    have HB0 := Lib.hid (HBB.out.trans (hb0.mono HBB.out.size))
    obtain ⟨S, hS⟩ : ∃ S, S = strOfNums (hexV l) := ⟨_, rfl⟩
    have hSs : S.size = 2 * l.length := by rw [hS, strOfNums_size, hexV_len]
    rw [← hS]
    have HS := Lib.hid hS
    have hSa : S.size ≤ 2 * l.length := Nat.le_of_eq hSs
    have hSb : 2 * l.length ≤ S.size := Nat.le_of_eq hSs.symm
    clear hSs
    clear hb0 hS
    go_wp2
    go_loopw [3, 5] (fun o v wr => ∃ (k : Nat) (d : List Int) (V : Value), k ≤ l.length ∧ v = .int .i64 ((2 * k : Nat) : Int) ∧ V = o ∧ eqV (l.take k) = d ∧ wr.ownsRow w.heap.size 5 1 V d.length (nums .u8 d) ∧ Below w.heap.size w wr) (fun _ v _ => S.size - (intOf v).toNat)
    case atStart => exact ⟨0, [], _, by omega, rfl, rfl, rfl, own_nil _ _ _ _, HB0.out⟩
    case round =>
      obtain ⟨k, d, V, hk, rfl, rfl, hd, hO, hB⟩ := hrel
      have HD := Lib.hid hd
      have HO := Lib.hid hO
      have HB := Lib.hid hB
      have hdl : d.length ≤ 12 := by rw [← hd, eqV_len, List.length_take]; omega
      obtain ⟨j, hj⟩ : ∃ j, j = 2 * k := ⟨_, rfl⟩
      rw [← hj]
      have HJ := Lib.hid hj
      clear hd hO hB
      by_cases hlt : k < l.length
      · obtain ⟨a, ha⟩ : ∃ a, l[k]? = some a := ⟨_, List.getElem?_eq_getElem (by omega)⟩
        obtain ⟨ha0, ha1⟩ := HBY.out a (List.mem_of_getElem? ha)
        have hat := hex_at l k a ha
        rw [← hj] at hat
        have e1 : bt S (j : Int) = bt H16 (a / 16) := by rw [HS.out]; exact bt_str _ _ _ hat.1 (hexd_byte _).1 (hexd_byte _).2
        have e2 : bt S ((j : Int) + 1) = bt H16 (a % 16) := by rw [HS.out]; exact bt_str _ (j + 1) _ hat.2 (hexd_byte _).1 (hexd_byte _).2
        have HA := Lib.hid ha
        have hjs : j + 1 < S.size := by omega
        have HEQ := Lib.hid (fun (W : World) => show ∀ i u, (nums .u8 (eq3 a))[i]? = some u → (W.alloc (.cells #[.int .u8 61, .int .u8 (bt S (j : Int)), .int .u8 (bt S ((j : Int) + 1))] 5)).cell? ((⟨W.heap.size, 0, none⟩ : Addr).add i) = some u by rw [e1, e2]; exact news_lit W (eq3 a) 5)
        have q0 : ((j : Int) < (S.size : Int)) = True := eq_true (by omega)
        have q00 : (j < S.size) = True := eq_true (by omega)
        have p1 : (0 ≤ (j : Int) + 1) = True := eq_true (by omega)
        have q1 : ((j : Int) + 1 < (S.size : Int)) = True := eq_true (by omega)
        have q11 : (j + 1 < S.size) = True := eq_true (by omega)
        have z0 : ∀ h : j < S.size, ((S[j]'h).toNat : Int) = bt S (j : Int) := fun h => bt_at S (j : Int) h
        have z1 : ∀ h : j + 1 < S.size, ((S[j + 1]'h).toNat : Int) = bt S ((j : Int) + 1) := fun h => bt_at S ((j + 1 : Nat) : Int) h
        have q2 : wrap64 ((j : Int) + 1) = (j : Int) + 1 := by unfold wrap64; omega
        clear ha hat e1 e2 ha0 ha1 hj
        go_wp2
        refine start_ (n := 11) (S := fun w' => True) (ds := [8, 9]) #[false, false, false, false, false, false, false, false, false, false, false] (by kernel_rfl) rfl rfl trivial (fun hHeld => ?_)
        generalize hdr : wr.drew = w2 at hHeld ⊢
        have HO2 := Lib.hid (show w2.ownsRow w.heap.size 5 1 V d.length (nums .u8 d) from hdr ▸ HO.out)
        have HB2 := Lib.hid (show Below w.heap.size w w2 from hdr ▸ below_drew1 HB.out)
        have hsz2 := HB2.out.size
        refine pure_ (i := 0) (N := some 31) (v := ?_) (a' := ?_) #[true, false, false, false, false, false, false, false, false, false, false] rfl rfl (by kernel_rfl) (fun _ _ _ h => h) (Or.inl ⟨by rfl, ?_⟩) ?_ ?_
        rotate_left
        · intro w'
          go_simp
          with_reducible rfl
        rotate_left
        · simp only [Act.put, List.setIfInBounds_toArray, List.set_cons_zero, List.set_cons_succ, i64_w, i32_w]
          rfl
        refine pure_ (i := 1) (N := some 32) (v := ?_) (a' := ?_) #[true, true, false, false, false, false, false, false, false, false, false] rfl rfl (by kernel_rfl) (fun _ _ _ h => h) (Or.inl ⟨by rfl, ?_⟩) ?_ ?_
        rotate_left
        · intro w'
          go_simp
          with_reducible rfl
        rotate_left
        · simp only [Act.put, List.setIfInBounds_toArray, List.set_cons_zero, List.set_cons_succ, i64_w, i32_w]
          rfl
        refine pure_ (i := 2) (N := some 33) (v := ?_) (a' := ?_) #[true, true, true, false, false, false, false, false, false, false, false] rfl rfl (by kernel_rfl) (fun _ _ _ h => h) (Or.inl ⟨by rfl, ?_⟩) ?_ ?_
        rotate_left
        · intro w'
          go_simp
          with_reducible rfl
        rotate_left
        · simp only [Act.put, List.setIfInBounds_toArray, List.set_cons_zero, List.set_cons_succ, i64_w, i32_w]
          rfl
        refine pure_ (i := 4) (N := some 35) (v := ?_) (a' := ?_) #[true, true, true, false, true, false, false, false, false, false, false] rfl rfl (by kernel_rfl) (fun _ _ _ h => h) (Or.inl ⟨by rfl, ?_⟩) ?_ ?_
        rotate_left
        · intro w'
          go_simp
          with_reducible rfl
        rotate_left
        · simp only [Act.put, List.setIfInBounds_toArray, List.set_cons_zero, List.set_cons_succ, i64_w, i32_w]
          rfl
        refine pure_ (i := 5) (N := some 36) (v := ?_) (a' := ?_) #[true, true, true, false, true, true, false, false, false, false, false] rfl rfl (by kernel_rfl) (fun _ _ _ h => h) (Or.inl ⟨by rfl, ?_⟩) ?_ ?_
        rotate_left
        · intro w'
          go_simp
          with_reducible rfl
        rotate_left
        · simp only [Act.put, List.setIfInBounds_toArray, List.set_cons_zero, List.set_cons_succ, i64_w, i32_w]
          rfl
        refine pure_ (i := 6) (N := some 37) (v := ?_) (a' := ?_) #[true, true, true, false, true, true, true, false, false, false, false] rfl rfl (by kernel_rfl) (fun _ _ _ h => h) (Or.inl ⟨by rfl, ?_⟩) ?_ ?_
        rotate_left
        · intro w'
          go_simp
          with_reducible rfl
        rotate_left
        · simp only [Act.put, List.setIfInBounds_toArray, List.set_cons_zero, List.set_cons_succ, i64_w, i32_w]
          rfl
        refine take_ (i := 3) (N := some 34) (v := ?_) (a' := ?_) #[true, true, true, true, true, true, true, false, false, false, false] rfl rfl (by kernel_rfl) (fun _ _ _ h => h) (Or.inl ⟨by rfl, ?_⟩) hHeld ?_ ?_
        rotate_left
        · intro w' _
          go_simp
          with_reducible rfl
        rotate_left
        · simp only [Act.put, List.setIfInBounds_toArray, List.set_cons_zero, List.set_cons_succ, i64_w, i32_w]
          rfl
        refine take_ (i := 7) (N := some 38) (v := ?_) (a' := ?_) #[true, true, true, true, true, true, true, true, false, false, false] rfl rfl (by kernel_rfl) (fun _ _ _ h => h) (Or.inl ⟨by rfl, ?_⟩) hHeld ?_ ?_
        rotate_left
        · intro w' _
          go_simp
          with_reducible rfl
        rotate_left
        · simp only [Act.put, List.setIfInBounds_toArray, List.set_cons_zero, List.set_cons_succ, i64_w, i32_w]
          rfl
        refine last_ (i := 8) (N := some 39) #[true, true, true, true, true, true, true, true, true, false, false] rfl rfl (by kernel_rfl) (by decide) (fun K hK => ?_)
        refine value_ (w1 := ?_) (v := ?_) (by rfl) rfl ?_ ?_
        rotate_left 2
        · go_simp
          constructor
          · rfl
          · rfl
        refine hK.out _ _ ?_
        clear hK K
        refine norm_ (a' := ?_) ?_ ?_
        rotate_left
        · show Act.put _ (some 39) _ = _
          simp only [Act.put, List.setIfInBounds_toArray, List.set_cons_zero, List.set_cons_succ, i64_w, i32_w]
          rfl
        refine last_ (i := 9) (N := some 40) #[true, true, true, true, true, true, true, true, true, true, false] rfl rfl (by kernel_rfl) (by decide) (fun K hK => ?_)
        refine step_append_lies _ (by rfl) (.tmp 31) (.tmp 39) 39 (by rfl) w.heap.size 5 i0 _ 1 1 Tryd.underlying39 hi hz0 hz1 hz2 rfl (by decide) _ d.length (nums .u8 d) (by rfl) (HO2.out.alloc _) ⟨w2.heap.size, 0, none⟩ 3 3 (nums .u8 (eq3 a)) (by rfl) rfl (HEQ.out w2) (nums_one _) (by decide) (by unfold maxLen; omega) (by omega) (by simp; omega) _ rfl ?_
        intro g cap w4 hown4 hgrow4 hat4 hlt4
        refine hK.out _ _ ?_
        clear hK K
        refine norm_ (a' := ?_) ?_ ?_
        rotate_left
        · show Act.put _ (some 40) _ = _
          simp only [Act.put, List.setIfInBounds_toArray, List.set_cons_zero, List.set_cons_succ, i64_w, i32_w]
          rfl
        refine pure_ (i := 10) (N := some 3) (v := ?_) (a' := ?_) #[true, true, true, true, true, true, true, true, true, true, true] rfl rfl (by kernel_rfl) (fun _ _ _ h => h) (Or.inl ⟨by rfl, ?_⟩) ?_ ?_
        rotate_left
        · intro w'
          go_simp
          with_reducible rfl
        rotate_left
        · simp only [Act.put, List.setIfInBounds_toArray, List.set_cons_zero, List.set_cons_succ, i64_w, i32_w]
          rfl
        refine done_ (by kernel_rfl) ?_
        have hB4 : Below w.heap.size w w4 := (HB2.out.alloc hsz2 _).grown hgrow4 (by have := hgrow4.size; simp at this; have := hsz2; simp; omega) (fun k hk => own_base HO2.out k hk)
        rw [← Code.nums_append] at hown4
        have HO4 := Lib.hid hown4
        have HB4 := Lib.hid hB4
        clear hown4 hgrow4 hat4 hlt4 hB4 q2 z0 z1 q0 p1 q1 q00 q11 hHeld HO2 HB2
        go_wp2
        go_roundw
        case rel => exact ⟨k + 1, d ++ eq3 a, _, by omega, by rw [HJ.out]; go_num, rfl, by rw [eqV_more l k a HA.out, HD.out], by rw [List.length_append]; exact HO4.out, HB4.out⟩
        case measure => simp [intOf]; omega
      · obtain rfl : k = l.length := by omega
        obtain ⟨A9, c9, rfl, _, hC9⟩ := own_C rfl HO.out
        have q9 := str_of wr (c := c9) hC9
        have hfin : eqV l = d := by rw [← HD.out, List.take_of_length_le (by omega)]
        have HF := Lib.hid hfin
        have hnl : ¬ j < S.size := by omega
        clear hC9 hfin hj
        go_wp2
        go_ret
        exact ⟨by rw [HF.out]; rfl, HB.out⟩

  · have hl : decide ((n : Int) < 128) = false := decide_eq_false (by omega)
    have hba := Below.refl w.heap.size w
    clear hq
    go_enter Tryd.func55, Tryd.ntmps55
    have HBA := Lib.hid hba
    have hrd := bytes_reads w 5 (Utf8.encode n) (by have := HLL.out; omega)
    have HRD := Lib.hid (show ReadsInt _ .u8 _ (Utf8.encode n).size l by rw [HL.out]; exact hrd)
    have hbb := bytes_below (Below.refl w.heap.size w) (Nat.le_refl _) 5 (Utf8.encode n)
    have HBB := Lib.hid (HBA.out.trans (hbb.mono HBA.out.size))
    clear hrd hbb hba
    go_wp2_with fail
    refine (hexof_calls _ _ (Utf8.encode n).size l _ HLL.out.symm (Kd.C_of_reads (enc := Value.int .u8) (d := (0 : Int)) (h1 := fun _ => rfl) HRD.out) (grownCap_ge _ _ _ _) (by have := HLL.out; omega) HBY.out).mono ?_
    rintro e w0 ⟨rfl, hb0⟩
    have HB0 := Lib.hid (HBB.out.trans (hb0.mono HBB.out.size))
    obtain ⟨S, hS⟩ : ∃ S, S = strOfNums (hexV l) := ⟨_, rfl⟩
    have hSs : S.size = 2 * l.length := by rw [hS, strOfNums_size, hexV_len]
    rw [← hS]
    have HS := Lib.hid hS
    have hSa : S.size ≤ 2 * l.length := Nat.le_of_eq hSs
    have hSb : 2 * l.length ≤ S.size := Nat.le_of_eq hSs.symm
    clear hSs
    clear hb0 hS
    go_wp2
    go_loopw [3, 5] (fun o v wr => ∃ (k : Nat) (d : List Int) (V : Value), k ≤ l.length ∧ v = .int .i64 ((2 * k : Nat) : Int) ∧ V = o ∧ eqV (l.take k) = d ∧ wr.ownsRow w.heap.size 5 1 V d.length (nums .u8 d) ∧ Below w.heap.size w wr) (fun _ v _ => S.size - (intOf v).toNat)
    case atStart => exact ⟨0, [], _, by omega, rfl, rfl, rfl, own_nil _ _ _ _, HB0.out⟩
    case round =>
      obtain ⟨k, d, V, hk, rfl, rfl, hd, hO, hB⟩ := hrel
      have HD := Lib.hid hd
      have HO := Lib.hid hO
      have HB := Lib.hid hB
      have hdl : d.length ≤ 12 := by rw [← hd, eqV_len, List.length_take]; omega
      obtain ⟨j, hj⟩ : ∃ j, j = 2 * k := ⟨_, rfl⟩
      rw [← hj]
      have HJ := Lib.hid hj
      clear hd hO hB
      by_cases hlt : k < l.length
      · obtain ⟨a, ha⟩ : ∃ a, l[k]? = some a := ⟨_, List.getElem?_eq_getElem (by omega)⟩
        obtain ⟨ha0, ha1⟩ := HBY.out a (List.mem_of_getElem? ha)
        have hat := hex_at l k a ha
        rw [← hj] at hat
        have e1 : bt S (j : Int) = bt H16 (a / 16) := by rw [HS.out]; exact bt_str _ _ _ hat.1 (hexd_byte _).1 (hexd_byte _).2
        have e2 : bt S ((j : Int) + 1) = bt H16 (a % 16) := by rw [HS.out]; exact bt_str _ (j + 1) _ hat.2 (hexd_byte _).1 (hexd_byte _).2
        have HA := Lib.hid ha
        have hjs : j + 1 < S.size := by omega
        have HEQ := Lib.hid (fun (W : World) => show ∀ i u, (nums .u8 (eq3 a))[i]? = some u → (W.alloc (.cells #[.int .u8 61, .int .u8 (bt S (j : Int)), .int .u8 (bt S ((j : Int) + 1))] 5)).cell? ((⟨W.heap.size, 0, none⟩ : Addr).add i) = some u by rw [e1, e2]; exact news_lit W (eq3 a) 5)
        have q0 : ((j : Int) < (S.size : Int)) = True := eq_true (by omega)
        have q00 : (j < S.size) = True := eq_true (by omega)
        have p1 : (0 ≤ (j : Int) + 1) = True := eq_true (by omega)
        have q1 : ((j : Int) + 1 < (S.size : Int)) = True := eq_true (by omega)
        have q11 : (j + 1 < S.size) = True := eq_true (by omega)
        have z0 : ∀ h : j < S.size, ((S[j]'h).toNat : Int) = bt S (j : Int) := fun h => bt_at S (j : Int) h
        have z1 : ∀ h : j + 1 < S.size, ((S[j + 1]'h).toNat : Int) = bt S ((j : Int) + 1) := fun h => bt_at S ((j + 1 : Nat) : Int) h
        have q2 : wrap64 ((j : Int) + 1) = (j : Int) + 1 := by unfold wrap64; omega
        clear ha hat e1 e2 ha0 ha1 hj
        go_wp2
        refine start_ (n := 11) (S := fun w' => True) (ds := [8, 9]) #[false, false, false, false, false, false, false, false, false, false, false] (by kernel_rfl) rfl rfl trivial (fun hHeld => ?_)
        generalize hdr : wr.drew = w2 at hHeld ⊢
        have HO2 := Lib.hid (show w2.ownsRow w.heap.size 5 1 V d.length (nums .u8 d) from hdr ▸ HO.out)
        have HB2 := Lib.hid (show Below w.heap.size w w2 from hdr ▸ below_drew1 HB.out)
        have hsz2 := HB2.out.size
        refine pure_ (i := 0) (N := some 31) (v := ?_) (a' := ?_) #[true, false, false, false, false, false, false, false, false, false, false] rfl rfl (by kernel_rfl) (fun _ _ _ h => h) (Or.inl ⟨by rfl, ?_⟩) ?_ ?_
        rotate_left
        · intro w'
          go_simp
          with_reducible rfl
        rotate_left
        · simp only [Act.put, List.setIfInBounds_toArray, List.set_cons_zero, List.set_cons_succ, i64_w, i32_w]
          rfl
        refine pure_ (i := 1) (N := some 32) (v := ?_) (a' := ?_) #[true, true, false, false, false, false, false, false, false, false, false] rfl rfl (by kernel_rfl) (fun _ _ _ h => h) (Or.inl ⟨by rfl, ?_⟩) ?_ ?_
        rotate_left
        · intro w'
          go_simp
          with_reducible rfl
        rotate_left
        · simp only [Act.put, List.setIfInBounds_toArray, List.set_cons_zero, List.set_cons_succ, i64_w, i32_w]
          rfl
        refine pure_ (i := 2) (N := some 33) (v := ?_) (a' := ?_) #[true, true, true, false, false, false, false, false, false, false, false] rfl rfl (by kernel_rfl) (fun _ _ _ h => h) (Or.inl ⟨by rfl, ?_⟩) ?_ ?_
        rotate_left
        · intro w'
          go_simp
          with_reducible rfl
        rotate_left
        · simp only [Act.put, List.setIfInBounds_toArray, List.set_cons_zero, List.set_cons_succ, i64_w, i32_w]
          rfl
        refine pure_ (i := 4) (N := some 35) (v := ?_) (a' := ?_) #[true, true, true, false, true, false, false, false, false, false, false] rfl rfl (by kernel_rfl) (fun _ _ _ h => h) (Or.inl ⟨by rfl, ?_⟩) ?_ ?_
        rotate_left
        · intro w'
          go_simp
          with_reducible rfl
        rotate_left
        · simp only [Act.put, List.setIfInBounds_toArray, List.set_cons_zero, List.set_cons_succ, i64_w, i32_w]
          rfl
        refine pure_ (i := 5) (N := some 36) (v := ?_) (a' := ?_) #[true, true, true, false, true, true, false, false, false, false, false] rfl rfl (by kernel_rfl) (fun _ _ _ h => h) (Or.inl ⟨by rfl, ?_⟩) ?_ ?_
        rotate_left
        · intro w'
          go_simp
          with_reducible rfl
        rotate_left
        · simp only [Act.put, List.setIfInBounds_toArray, List.set_cons_zero, List.set_cons_succ, i64_w, i32_w]
          rfl
        refine pure_ (i := 6) (N := some 37) (v := ?_) (a' := ?_) #[true, true, true, false, true, true, true, false, false, false, false] rfl rfl (by kernel_rfl) (fun _ _ _ h => h) (Or.inl ⟨by rfl, ?_⟩) ?_ ?_
        rotate_left
        · intro w'
          go_simp
          with_reducible rfl
        rotate_left
        · simp only [Act.put, List.setIfInBounds_toArray, List.set_cons_zero, List.set_cons_succ, i64_w, i32_w]
          rfl
        refine take_ (i := 3) (N := some 34) (v := ?_) (a' := ?_) #[true, true, true, true, true, true, true, false, false, false, false] rfl rfl (by kernel_rfl) (fun _ _ _ h => h) (Or.inl ⟨by rfl, ?_⟩) hHeld ?_ ?_
        rotate_left
        · intro w' _
          go_simp
          with_reducible rfl
        rotate_left
        · simp only [Act.put, List.setIfInBounds_toArray, List.set_cons_zero, List.set_cons_succ, i64_w, i32_w]
          rfl
        refine take_ (i := 7) (N := some 38) (v := ?_) (a' := ?_) #[true, true, true, true, true, true, true, true, false, false, false] rfl rfl (by kernel_rfl) (fun _ _ _ h => h) (Or.inl ⟨by rfl, ?_⟩) hHeld ?_ ?_
        rotate_left
        · intro w' _
          go_simp
          with_reducible rfl
        rotate_left
        · simp only [Act.put, List.setIfInBounds_toArray, List.set_cons_zero, List.set_cons_succ, i64_w, i32_w]
          rfl
        refine last_ (i := 8) (N := some 39) #[true, true, true, true, true, true, true, true, true, false, false] rfl rfl (by kernel_rfl) (by decide) (fun K hK => ?_)
        refine value_ (w1 := ?_) (v := ?_) (by rfl) rfl ?_ ?_
        rotate_left 2
        · go_simp
          constructor
          · rfl
          · rfl
        refine hK.out _ _ ?_
        clear hK K
        refine norm_ (a' := ?_) ?_ ?_
        rotate_left
        · show Act.put _ (some 39) _ = _
          simp only [Act.put, List.setIfInBounds_toArray, List.set_cons_zero, List.set_cons_succ, i64_w, i32_w]
          rfl
        refine last_ (i := 9) (N := some 40) #[true, true, true, true, true, true, true, true, true, true, false] rfl rfl (by kernel_rfl) (by decide) (fun K hK => ?_)
        refine step_append_lies _ (by rfl) (.tmp 31) (.tmp 39) 39 (by rfl) w.heap.size 5 i0 _ 1 1 Tryd.underlying39 hi hz0 hz1 hz2 rfl (by decide) _ d.length (nums .u8 d) (by rfl) (HO2.out.alloc _) ⟨w2.heap.size, 0, none⟩ 3 3 (nums .u8 (eq3 a)) (by rfl) rfl (HEQ.out w2) (nums_one _) (by decide) (by unfold maxLen; omega) (by omega) (by simp; omega) _ rfl ?_
        intro g cap w4 hown4 hgrow4 hat4 hlt4
        refine hK.out _ _ ?_
        clear hK K
        refine norm_ (a' := ?_) ?_ ?_
        rotate_left
        · show Act.put _ (some 40) _ = _
          simp only [Act.put, List.setIfInBounds_toArray, List.set_cons_zero, List.set_cons_succ, i64_w, i32_w]
          rfl
        refine pure_ (i := 10) (N := some 3) (v := ?_) (a' := ?_) #[true, true, true, true, true, true, true, true, true, true, true] rfl rfl (by kernel_rfl) (fun _ _ _ h => h) (Or.inl ⟨by rfl, ?_⟩) ?_ ?_
        rotate_left
        · intro w'
          go_simp
          with_reducible rfl
        rotate_left
        · simp only [Act.put, List.setIfInBounds_toArray, List.set_cons_zero, List.set_cons_succ, i64_w, i32_w]
          rfl
        refine done_ (by kernel_rfl) ?_
        have hB4 : Below w.heap.size w w4 := (HB2.out.alloc hsz2 _).grown hgrow4 (by have := hgrow4.size; simp at this; have := hsz2; simp; omega) (fun k hk => own_base HO2.out k hk)
        rw [← Code.nums_append] at hown4
        have HO4 := Lib.hid hown4
        have HB4 := Lib.hid hB4
        clear hown4 hgrow4 hat4 hlt4 hB4 q2 z0 z1 q0 p1 q1 q00 q11 hHeld HO2 HB2
        go_wp2
        go_roundw
        case rel => exact ⟨k + 1, d ++ eq3 a, _, by omega, by rw [HJ.out]; go_num, rfl, by rw [eqV_more l k a HA.out, HD.out], by rw [List.length_append]; exact HO4.out, HB4.out⟩
        case measure => simp [intOf]; omega
      · obtain rfl : k = l.length := by omega
        obtain ⟨A9, c9, rfl, _, hC9⟩ := own_C rfl HO.out
        have q9 := str_of wr (c := c9) hC9
        have hfin : eqV l = d := by rw [← HD.out, List.take_of_length_le (by omega)]
        have HF := Lib.hid hfin
        have hnl : ¬ j < S.size := by omega
        clear hC9 hfin hj
        go_wp2
        go_ret
        exact ⟨by rw [HF.out]; rfl, HB.out⟩

theorem quoted_calls (n : Nat) (w : World) (hr1 : n < 1114112) (hT : Octet.Laid w) :
    Calls Tryd.prog 55 #[.int .i32 (n : Int)] w fun e w' => e = .returned (.string (qV n)) ∧ Below w.heap.size w w' := by
  by_cases h : n = 32 ∨ n < 128 ∧ isQ n = true
  · exact plain_calls n w h hT
  · exact digits_calls n w (fun e => h (Or.inl e)) (fun e => h (Or.inr e)) hr1 hT
end Go.Proofs.YtcnhnpkbklakoaaDoor.Word
/- word.inQ by contract. -/
namespace Go.Proofs.YtcnhnpkbklakoaaDoor.Word
open Go.RowKit Go.Proofs.YtcnhnpkbklakoaaDoorW.PrintWords Go.Proofs.YtcnhnpkbklakoaaDoorW.PrintLast Go.Proofs.YtcnhnpkbklakoaaDoorW.PrintMore Go.Proofs.YtcnhnpkbklakoaaDoor.PWordEncodes
open Go.Proofs.YtcnhnpkbklakoaaDoor.Code
attribute [local go_sem] max2_int min2_int max_two min_two max_three min_three max_four min_four
set_option linter.unusedVariables false
set_option linter.unusedSimpArgs false
def hdQ : ByteArray := ⟨#[61, 63, 85, 84, 70, 45, 56, 63, 81, 63]⟩
def wordQ (t : ByteArray) : ByteArray := hdQ ++ t ++ tl
def qI (r : Int) : ByteArray := qV r.toNat
def qSeg : List Int → ByteArray → List ByteArray
  | [], t => [wordQ t]
  | r :: l, t => if 63 < t.size + (qI r).size then wordQ t :: qSeg l (qI r) else qSeg l (t ++ qI r)
theorem qSeg_cons (r : Int) (l : List Int) (t : ByteArray) : qSeg (r :: l) t = if 63 < t.size + (qI r).size then wordQ t :: qSeg l (qI r) else qSeg l (t ++ qI r) := rfl
def inQV (l : List Int) : ByteArray := ⟨(Lib.join ((qSeg l ⟨#[]⟩).map (·.data.toList)) [32]).toArray⟩
theorem qI_size (r : Int) : (qI r).size ≤ 12 := by
  unfold qI qV
  have h4 := enc_len (r.toNat : Int)
  split
  · decide
  · split
    · have := bytesOf_length (Utf8.encode (r.toNat : Int))
      unfold enc at h4
      omega
    · rw [strOfNums_size, eqV_len]; omega
theorem wordQ_size (t : ByteArray) (h : t.size ≤ 63) : (wordQ t).size ≤ 75 := by
  simp only [wordQ, ByteArray.size_append]
  have h1 : hdQ.size = 10 := rfl
  have h2 : tl.size = 2 := rfl
  omega
theorem qSeg_size : ∀ (l : List Int) (t : ByteArray), t.size ≤ 63 → ∀ x ∈ qSeg l t, x.size ≤ 75
  | [], t, hp => by
    intro x hx
    simp only [qSeg, List.mem_singleton] at hx
    subst hx
    exact wordQ_size t hp
  | r :: l, t, hp => by
    intro x hx
    rw [qSeg_cons] at hx
    have h4 := qI_size r
    split at hx
    · rcases List.mem_cons.1 hx with rfl | hx
      · exact wordQ_size t hp
      · exact qSeg_size l _ (by omega) x hx
    · exact qSeg_size l _ (by rw [ByteArray.size_append]; omega) x hx
theorem qSeg_len : ∀ (l : List Int) (t : ByteArray), (qSeg l t).length ≤ l.length + 1
  | [], t => by simp [qSeg]
  | r :: l, t => by
    rw [qSeg_cons]
    split
    · have := qSeg_len l (qI r); simp only [List.length_cons]; omega
    · have := qSeg_len l (t ++ qI r); simp only [List.length_cons]; omega
set_option maxHeartbeats 4000000 in
set_option maxRecDepth 100000 in
theorem inQ_calls (A : Option Addr) (cp n : Nat) (l : List Int) (w : World) (hn : l.length = n) (hr : Kd.C (Kd.int .i32) w A n l) (hc : n ≤ cp) (hl : n ≤ 3000000000) (hv : ∀ r ∈ l, 0 ≤ r ∧ r < 1114112) (hT : Octet.Laid w) :
    Calls Tryd.prog 29 #[.slice A n cp] w fun e w' => e = .returned (.string (inQV l)) ∧ Below w.heap.size w w' := by
  have HR := Lib.hid hr
  have HN := Lib.hid hn
  have HV := Lib.hid hv
  have HT := Lib.hid hT
  clear hr hn hv hT
  go_enter Tryd.func29, Tryd.ntmps29
  go_wp2
  go_loopw [3, 4, 10] (fun ws p i wr => ∃ (k : Nat) (W : List ByteArray) (T : ByteArray), k ≤ n ∧ i = .int .i64 k ∧ p = .string T ∧ qSeg l ⟨#[]⟩ = W ++ qSeg (l.drop k) T ∧ wr.ownsRow w.heap.size 9 1 ws W.length (encs Value.string W) ∧ T.size ≤ 63 ∧ W.length ≤ k ∧ Below w.heap.size w wr) (fun _ _ i _ => n - (intOf i).toNat)
  case atStart => exact ⟨0, [], ⟨#[]⟩, by omega, rfl, rfl, rfl, own_nil _ _ _ _, by decide, by decide, Below.refl _ _⟩
  case round =>
    obtain ⟨k, W, T, hk, rfl, rfl, hs, hW, hT63, hWk, hB⟩ := hrel
    have HS := Lib.hid hs
    have HW := Lib.hid hW
    have HB := Lib.hid hB
    clear hs hW hB
    by_cases hlt : k < n
    · obtain ⟨r, hr⟩ : ∃ r, l[k]? = some r := ⟨_, List.getElem?_eq_getElem (by have := HN.out; omega)⟩
      have hdrop : l.drop k = r :: l.drop (k + 1) := by
        obtain ⟨hk', rfl⟩ := List.getElem?_eq_some_iff.1 hr
        exact List.drop_eq_getElem_cons hk'
      have HD := Lib.hid hdrop
      obtain ⟨BB, off, rfl, hat⟩ := atK_of_C HR.out (by omega)
      have y0 := hat k _ hr
      have z0 := (HB.out.cell (World.block_lt_of_cell? w _ y0)).trans y0
      obtain ⟨hr0, hr1⟩ := HV.out r (List.mem_of_getElem? hr)
      obtain ⟨m, rfl⟩ : ∃ m : Nat, r = (m : Int) := ⟨r.toNat, by omega⟩
      clear hr hat y0 hdrop
      obtain ⟨q, hq⟩ : ∃ q, q = qI (m : Int) := ⟨_, rfl⟩
      have hq12 : q.size ≤ 12 := by rw [hq]; exact qI_size _
      have hqV : qV m = q := by rw [hq]; rfl
      have HQ := Lib.hid hq
      have HQV := Lib.hid hqV
      clear hq hqV
      go_wp2_with fail
      refine (quoted_calls m wr (by omega) (HT.out.below HT.out.size HB.out)).mono ?_
      rintro e w2 ⟨rfl, hb2⟩
      rw [HQV.out]
      have HB2 := Lib.hid (HB.out.trans (hb2.mono HB.out.size))
      have HW2 := Lib.hid (pw_own_below HW.out hb2)
      have hz : w.heap.size ≤ w2.heap.size := HB2.out.size
      clear hb2
      by_cases hbig : 63 < T.size + q.size
      · have hb1 : decide ((75 : Int) < 10 + (T.size : Int) + (q.size : Int) + 2) = true := decide_eq_true (by omega)
        have hXs := wordQ_size T hT63
        have f1 : (9223372036854775807 < 10 + T.size) = False := eq_false (by omega)
        have f2 : (9223372036854775807 < 10 + T.size + 2) = False := eq_false (by omega)
        have f3 : (9223372036854775807 < q.size) = False := eq_false (by omega)
        go_wp2_with (at_builtin; refine print_append_of (w0 := w) Value.string w.heap.size rfl (.tmp 24) (.tmp 28) 35 9 (.string ⟨#[]⟩) 16 rfl Tryd.underlying35 info9 rfl (by decide) _ W (hdQ ++ T ++ tl) rfl rfl rfl ?ho ?hb ?hbase ?hl ?_)
        case ho => exact HW2.out
        case hb => exact HB2.out
        case hbase => exact hz
        case hl => omega
        intro v3 w3 ho3 hb3 hg3 hat3
        have HO3 := Lib.hid ho3
        have HB3 := Lib.hid hb3
        clear ho3 hb3 hg3 hat3
        go_wp2
        go_roundw
        case rel =>
          refine ⟨k + 1, W ++ [wordQ T], q, by omega, by go_num, ?_, ?_, ?_, by omega, by rw [List.length_append]; simp; omega, HB3.out⟩
          · exact congrArg Value.string (ByteArray.ext (by simp))
          · rw [HS.out, HD.out, qSeg_cons, ← HQ.out, if_pos hbig, List.append_assoc]; rfl
          · rw [List.length_append]; exact HO3.out
        case measure => simp [intOf]; omega
      · have hb1 : decide ((75 : Int) < 10 + (T.size : Int) + (q.size : Int) + 2) = false := decide_eq_false (by omega)
        have f1 : (9223372036854775807 < T.size + q.size) = False := eq_false (by omega)
        go_wp2
        go_roundw
        case rel =>
          refine ⟨k + 1, W, T ++ q, by omega, by go_num, rfl, ?_, HW2.out, by rw [ByteArray.size_append]; omega, by omega, HB2.out⟩
          rw [HS.out, HD.out, qSeg_cons, ← HQ.out, if_neg hbig]
        case measure => simp [intOf]; omega
    · obtain rfl : k = n := by omega
      have hXs := wordQ_size T hT63
      have f1 : (9223372036854775807 < 10 + T.size) = False := eq_false (by omega)
      have f2 : (9223372036854775807 < 10 + T.size + 2) = False := eq_false (by omega)
      have hall : qSeg l ⟨#[]⟩ = W ++ [wordQ T] := by
        rw [HS.out, List.drop_eq_nil_of_le (by rw [HN.out]; exact Nat.le_refl _)]
        rfl
      have HALL := Lib.hid hall
      have hz : w.heap.size ≤ wr.heap.size := HB.out.size
      clear hall
      go_wp2_with (at_builtin; refine print_append_of (w0 := w) Value.string w.heap.size rfl (.tmp 34) (.tmp 38) 35 9 (.string ⟨#[]⟩) 16 rfl Tryd.underlying35 info9 rfl (by decide) _ W (hdQ ++ T ++ tl) rfl rfl rfl ?ho ?hb ?hbase ?hl ?_)
      case ho => exact HW.out
      case hb => exact HB.out
      case hbase => exact hz
      case hl => omega
      intro v3 w3 ho3 hb3 hg3 hat3
      have hwl : W.length + 1 = (qSeg l ⟨#[]⟩).length := by rw [HALL.out, List.length_append]; rfl
      rw [show hdQ ++ T ++ tl = wordQ T from rfl, ← HALL.out, hwl] at ho3
      have hbl := qSeg_len l ⟨#[]⟩
      have hbp : 0 < (qSeg l ⟨#[]⟩).length := by rw [HALL.out, List.length_append]; simp
      obtain ⟨g, c3, rfl, hc3, hg, hcells⟩ := own_strs ho3 hbp
      have hjl := join_words 75 (qSeg l ⟨#[]⟩) (qSeg_size l ⟨#[]⟩ (by decide))
      have HJ := Lib.hid (Tryd.strings_Join g 0 c3 (qSeg l ⟨#[]⟩) ⟨#[32]⟩ w3 hcells hg (by have := HN.out; omega) hc3 (by
        show (Lib.join _ [32]).length ≤ _
        have := HN.out
        omega))
      have HB3 := Lib.hid hb3
      clear ho3 hb3 hg3 hat3 hbl hbp hjl hcells
      go_wp2_with fail
      refine HJ.out.mono ?_
      rintro e w4 ⟨rfl, hb4⟩
      go_wp2
      go_ret
      exact ⟨rfl, HB3.out.trans (hb4.mono HB3.out.size)⟩
end Go.Proofs.YtcnhnpkbklakoaaDoor.Word
/- word.Encode by contract. -/
namespace Go.Proofs.YtcnhnpkbklakoaaDoor.Word
open Go.RowKit Go.Proofs.YtcnhnpkbklakoaaDoorW.PrintWords Go.Proofs.YtcnhnpkbklakoaaDoorW.PrintLast Go.Proofs.YtcnhnpkbklakoaaDoorW.PrintMore Go.Proofs.YtcnhnpkbklakoaaDoor.PWordEncodes
open Go.Proofs.YtcnhnpkbklakoaaDoor.Code Go.Proofs.YtcnhnpkbklakoaaDoor.Runes
attribute [local go_sem] max2_int min2_int max_two min_two max_three min_three max_four min_four
set_option linter.unusedVariables false
set_option linter.unusedSimpArgs false
/-- what Encode tells -/
def encV (t : ByteArray) (short : Bool) : ByteArray × Int :=
  if (decV t).2.1 ≠ 0 then (⟨#[]⟩, (decV t).2.1) else if (decV t).1 = [] then (⟨#[]⟩, 0) else
  if short = true ∧ (inQV (decV t).1).size < (inBV (decV t).1).size then (inQV (decV t).1, 0) else (inBV (decV t).1, 0)
theorem decode_rune (s : ByteArray) (i : Nat) : (Utf8.decode s i).1 < 1114112 := by
  rw [Lib.decode_at]
  have h0 : (s.get! i).toNat < 256 := UInt8.toNat_lt _
  unfold Lib.decodeN
  repeat' split
  all_goals (simp only; omega)
theorem runesAt_ok (s : ByteArray) : ∀ (d i : Nat), s.size - i ≤ d → (∀ r ∈ runesAt s i, 0 ≤ r ∧ r < 1114112) ∧ (runesAt s i).length ≤ s.size - i
  | 0, i, h => by
    rw [runesAt_ge s i (by omega)]
    exact ⟨fun r hr => (by cases hr), by simp⟩
  | d + 1, i, h => by
    by_cases hi : i < s.size
    · rw [runesAt_lt s i hi]
      have hp := decode_pos s i
      obtain ⟨h1, h2⟩ := runesAt_ok s d (i + (Utf8.decode s i).2) (by omega)
      have hd := decode_rune s i
      refine ⟨fun r hr => ?_, by simp only [List.length_cons]; omega⟩
      rcases List.mem_cons.1 hr with rfl | hr
      · omega
      · exact h1 r hr
    · rw [runesAt_ge s i hi]
      exact ⟨fun r hr => (by cases hr), by simp⟩
theorem own_CR {w : World} {b n : Nat} {v : Value} {l : List Int} (hn : l.length = n) (h : w.ownsRow b 21 1 v n (nums .i32 l)) : ∃ A c, v = .slice A n c ∧ n ≤ c ∧ Kd.C (Kd.int .i32) w A n l := by
  subst hn
  exact Kd.R_reads (Kd.R_of_own (enc := Value.int .i32) (h1 := fun _ => rfl) (ok := fun _ => True) h (fun _ _ => trivial))
theorem below_drewN' {b : Nat} {w W : World} (h : Below b w W) (m : Nat) : Below b w (W.drewN m) := ⟨h.os, h.tape, h.output, h.size, h.block⟩
set_option maxHeartbeats 4000000 in
set_option maxRecDepth 100000 in
theorem encode_calls (t : ByteArray) (short : Bool) (w : World) (ht : t.size ≤ 3000000000) (hT : Octet.Laid w) :
    Calls Tryd.prog 12 #[.string t, .bool short] w fun e w' => e = .returned (.tuple #[.string (encV t short).1, .int .i64 (encV t short).2]) ∧ Below w.heap.size w w' := by
  have HDC := Lib.hid (decode_calls t w ht)
  have hu25 := Tryd.underlying25
  have HT := Lib.hid hT
  clear hT
  by_cases hbad : runesBad t.data.toList < t.size
  · obtain ⟨N, hN⟩ : ∃ N : Nat, runesBad t.data.toList = N := ⟨_, rfl⟩
    have hd : decV t = ([], 50, N) := by unfold decV; rw [if_pos hbad, hN]
    have he : encV t short = (⟨#[]⟩, 50) := by unfold encV; rw [hd]; rfl
    rw [he]
    rw [hd] at HDC
    clear hd he hN hbad
    go_enter Tryd.func12, Tryd.ntmps12
    go_wp2_with fail
    refine HDC.out.mono ?_
    rintro e w1 ⟨V, rfl, ho, hb⟩
    obtain ⟨A, c, rfl, hc, hC⟩ := own_CR rfl ho
    have HB := Lib.hid hb
    clear ho hC hb
    go_wp2
    go_quiet (fail)
    go_wp2
    go_ret2
    exact ⟨rfl, below_drewN' (HB.out.alloc HB.out.size _) _⟩
  · obtain ⟨L, hL⟩ : ∃ L, runesAt t 0 = L := ⟨_, rfl⟩
    have hd : decV t = (L, 0, 0) := by unfold decV; rw [if_neg hbad, hL]
    obtain ⟨hv, hlen⟩ := runesAt_ok t t.size 0 (by omega)
    rw [hL] at hv hlen
    rw [hd] at HDC
    by_cases h0 : L = []
    · have he : encV t short = (⟨#[]⟩, 0) := by unfold encV; rw [hd]; simp [h0]
      rw [he]
      clear hd he hL hbad hv hlen
      subst h0
      go_enter Tryd.func12, Tryd.ntmps12
      go_wp2_with fail
      refine HDC.out.mono ?_
      rintro e w1 ⟨V, rfl, ho, hb⟩
      obtain ⟨A, c, rfl, hc, hC⟩ := own_CR rfl ho
      have HB := Lib.hid hb
      clear ho hC hb
      go_wp2
      go_quiet (fail)
      go_wp2
      go_ret2
      exact ⟨rfl, below_drewN' (HB.out.alloc HB.out.size _) _⟩
    · obtain ⟨n, hn⟩ : ∃ n, L.length = n := ⟨_, rfl⟩
      have hn0 : 0 < n := by rw [← hn]; exact List.length_pos_iff.2 h0
      have hnl : n ≤ t.size := by omega
      have hne0 : (n == 0) = false := by simp; omega
      have HN := Lib.hid hn
      have HV := Lib.hid hv
      have HDV := Lib.hid hd
      clear hd hL hbad hv hlen hn
      cases short
      · have he : encV t false = (inBV L, 0) := by unfold encV; rw [HDV.out]; simp [h0]
        rw [he]
        clear he h0
        go_enter Tryd.func12, Tryd.ntmps12
        go_wp2_with fail
        refine HDC.out.mono ?_
        rintro e w1 ⟨V, rfl, ho, hb⟩
        rw [HN.out] at ho
        obtain ⟨A, c, rfl, hc, hC⟩ := own_CR HN.out ho
        have HB := Lib.hid hb
        have HC := Lib.hid hC
        clear ho hC hb
        go_wp2_with fail
        refine (inB_calls A c n L _ HN.out (Kd.C_below HC.out ((Below.refl _ _).alloc (Nat.le_refl _) _)) hc (by omega)).mono ?_
        rintro e w2 ⟨rfl, hb2⟩
        go_wp2
        go_ret2
        exact ⟨rfl, (HB.out.alloc HB.out.size _).trans (hb2.mono (HB.out.alloc HB.out.size _).size)⟩
      · obtain ⟨R, hR⟩ : ∃ R, R = if (inQV L).size < (inBV L).size then inQV L else inBV L := ⟨_, rfl⟩
        have he : encV t true = (R, 0) := by
          unfold encV
          rw [HDV.out, hR]
          simp only [ne_eq, not_true_eq_false, if_false, if_neg h0, true_and]
          split <;> rfl
        rw [he]
        have HRR := Lib.hid hR
        clear h0 he hR
        go_enter Tryd.func12, Tryd.ntmps12
        go_wp2_with fail
        refine HDC.out.mono ?_
        rintro e w1 ⟨V, rfl, ho, hb⟩
        rw [HN.out] at ho
        obtain ⟨A, c, rfl, hc, hC⟩ := own_CR HN.out ho
        have HB := Lib.hid hb
        have HC := Lib.hid hC
        clear ho hC hb
        go_wp2_with fail
        have hba := (Below.refl w1.heap.size w1).alloc (Nat.le_refl _) (.cells #[.int .i64 0, .int .i64 0] 25)
        have HBa := Lib.hid hba
        clear hba
        refine (inB_calls A c n L _ HN.out (Kd.C_below HC.out HBa.out) hc (by omega)).mono ?_
        rintro e w2 ⟨rfl, hb2⟩
        have HB2 := Lib.hid ((HB.out.alloc HB.out.size (.cells #[.int .i64 0, .int .i64 0] 25)).trans (hb2.mono (HB.out.alloc HB.out.size (.cells #[.int .i64 0, .int .i64 0] 25)).size))
        have HBb := Lib.hid (HBa.out.trans (hb2.mono HBa.out.size))
        clear hb2
        obtain ⟨b, hb⟩ : ∃ b, b = inBV L := ⟨_, rfl⟩
        rw [← hb]
        have HBV := Lib.hid hb
        clear hb
        go_wp2_with fail
        refine (inQ_calls A c n L _ HN.out (Kd.C_below HC.out HBb.out) hc (by omega) HV.out (HT.out.below HT.out.size HB2.out)).mono ?_
        rintro e w3 ⟨rfl, hb3⟩
        have HB3 := Lib.hid (HB2.out.trans (hb3.mono HB2.out.size))
        obtain ⟨q, hq⟩ : ∃ q, q = inQV L := ⟨_, rfl⟩
        rw [← hq]
        have HQV := Lib.hid hq
        clear hb3 hq
        by_cases hlt : q.size < b.size
        · go_wp2
          go_ret2
          exact ⟨by rw [HRR.out, ← HBV.out, ← HQV.out, if_pos hlt]; rfl, HB3.out⟩
        · go_wp2
          go_ret2
          exact ⟨by rw [HRR.out, ← HBV.out, ← HQV.out, if_neg hlt]; rfl, HB3.out⟩
end Go.Proofs.YtcnhnpkbklakoaaDoor.Word
