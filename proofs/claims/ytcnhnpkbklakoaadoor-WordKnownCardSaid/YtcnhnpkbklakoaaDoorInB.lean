/- word.inB by contract. -/
import Derived.Test.YtcnhnpkbklakoaaDoorDec
import Derived.Test.YtcnhnpkbklakoaaDoorShelf
namespace Go.Proofs.YtcnhnpkbklakoaaDoor.Word
open Go.RowKit Go.Proofs.YtcnhnpkbklakoaaDoorW.PrintWords Go.Proofs.YtcnhnpkbklakoaaDoorW.PrintLast Go.Proofs.YtcnhnpkbklakoaaDoorW.PrintMore Go.Proofs.YtcnhnpkbklakoaaDoor.PWordEncodes
open Go.Proofs.YtcnhnpkbklakoaaDoor.Code
attribute [local go_sem] max2_int min2_int max_two min_two max_three min_three max_four min_four
set_option linter.unusedVariables false
set_option linter.unusedSimpArgs false
theorem info9 : (Tryd.prog.info? 9).map (fun i => (i.zero, i.size, i.bytes)) = some (some (.string ⟨#[]⟩), 1, 16) := by kernel_rfl
/-- cells of one kind of number, at a place -/
theorem atK_of_C {w : World} {A : Option Addr} {n : Nat} {k : IntKind} {l : List Int} (h : Kd.C (Kd.int k) w A n l) (h0 : 0 < n) : ∃ b off, A = some ⟨b, off, none⟩ ∧ ∀ (j : Nat) x, l[j]? = some x → w.cell? ⟨b, off + j, none⟩ = some (.int k x) := by
  have hn : l.length = n := h.1
  obtain ⟨ad, rfl, hc⟩ := h.2.2 h0
  have hx : ∀ (j : Nat) x, l[j]? = some x → w.cell? (ad.add j) = some (.int k x) := by
    intro j x hj
    obtain ⟨cs, hl, hk, hu⟩ := hc j x hj
    obtain rfl : cs = [.int k x] := hk
    have := hu 0 _ rfl
    rw [Nat.add_zero] at this
    rwa [show j * (Kd.int k).sz = j from Nat.mul_one j] at this
  obtain ⟨b, off, sp⟩ := ad
  have hsp : sp = none := by
    have := hx 0 _ (List.getElem?_eq_getElem (by omega))
    unfold World.cell? at this
    split at this
    · cases sp with
      | none => rfl
      | some k => simp [Addr.add] at this
    · cases this
  subst hsp
  exact ⟨b, off, rfl, fun j x hj => by rw [← Code.add_at]; exact hx j x hj⟩
/-- the bytes of a rune -/
def enc (r : Int) : List Int := bytesOf (Utf8.encode r)
theorem rune_string (r : Int) (W : World) : (convert 21 9 (.int .i32 r)).run Tryd.prog W = .ok (.string (Utf8.encode r)) W := by
  simp [convert, run_underlying Tryd.underlying21, run_underlying Tryd.underlying9, Conv.intToString]
def hdB : ByteArray := ⟨#[61, 63, 85, 84, 70, 45, 56, 63, 66, 63]⟩
def tl : ByteArray := ⟨#[63, 61]⟩
def wordB (p : List Int) : ByteArray := hdB ++ strOfNums (b64 p) ++ tl
def bSeg : List Int → List Int → List ByteArray
  | [], p => [wordB p]
  | r :: l, p => if 45 < p.length + (enc r).length then wordB p :: bSeg l (enc r) else bSeg l (p ++ enc r)
theorem bSeg_cons (r : Int) (l p : List Int) : bSeg (r :: l) p = if 45 < p.length + (enc r).length then wordB p :: bSeg l (enc r) else bSeg l (p ++ enc r) := rfl
def inBV (l : List Int) : ByteArray := ⟨(Lib.join ((bSeg l []).map (·.data.toList)) [32]).toArray⟩
theorem enc_byte (r : Int) : ∀ x ∈ enc r, 0 ≤ x ∧ x < 256 := by
  intro x hx
  simp only [enc, bytesOf, List.mem_map] at hx
  obtain ⟨b, _, rfl⟩ := hx
  have := b.toNat_lt
  omega
theorem enc_len (r : Int) : 1 ≤ (enc r).length ∧ (enc r).length ≤ 4 := by
  simp only [enc, bytesOf, List.length_map, Utf8.encode]
  repeat' split
  all_goals simp
theorem str_size (l : List Int) : (strOfNums l).size = l.length := by
  rw [strOfNums_size]
theorem b64_length : ∀ l : List Int, (b64 l).length ≤ 4 * ((l.length + 2) / 3)
  | a :: b :: c :: l => by
    have := b64_length l
    simp only [b64, four, List.length_append, List.length_cons, List.length_nil]
    omega
  | [a, b] => by simp [b64]
  | [a] => by simp [b64]
  | [] => by simp [b64]
theorem wordB_size (p : List Int) (hp : p.length ≤ 45) : (wordB p).size ≤ 72 := by
  have h := b64_length p
  simp only [wordB, ByteArray.size_append, str_size]
  have h1 : hdB.size = 10 := rfl
  have h2 : tl.size = 2 := rfl
  omega
theorem bSeg_size : ∀ (l p : List Int), p.length ≤ 45 → ∀ x ∈ bSeg l p, x.size ≤ 72
  | [], p, hp => by
    intro x hx
    simp only [bSeg, List.mem_singleton] at hx
    subst hx
    exact wordB_size p hp
  | r :: l, p, hp => by
    intro x hx
    rw [bSeg_cons] at hx
    have h4 := enc_len r
    split at hx
    · rcases List.mem_cons.1 hx with rfl | hx
      · exact wordB_size p hp
      · exact bSeg_size l _ (by omega) x hx
    · exact bSeg_size l _ (by rw [List.length_append]; omega) x hx
theorem bSeg_len : ∀ (l p : List Int), (bSeg l p).length ≤ l.length + 1
  | [], p => by simp [bSeg]
  | r :: l, p => by
    rw [bSeg_cons]
    split
    · have := bSeg_len l (enc r); simp only [List.length_cons]; omega
    · have := bSeg_len l (p ++ enc r); simp only [List.length_cons]; omega
theorem own_strs {w : World} {b n : Nat} {v : Value} {ws : List ByteArray} (h : w.ownsRow b 9 1 v n (encs Value.string ws)) (h0 : 0 < n) : ∃ g c, v = .slice (some ⟨g, 0, none⟩) n c ∧ n ≤ c ∧ g < w.heap.size ∧ ∀ (j : Nat) x, ws[j]? = some x → w.cell? ⟨g, 0 + j, none⟩ = some (.string x) := by
  obtain ⟨g, cap, rfl, hg1, hg2⟩ := h.form h0
  refine ⟨g, cap, rfl, ?_, hg2, fun j x hj => ?_⟩
  · rcases h.2 with ⟨e, _⟩ | ⟨g', cap', cur, he, _, _, h1, _⟩
    · cases e
    · cases he
      exact h1
  · have := h.cells (g := g) rfl j (.string x) (by simp [encs, hj])
    rw [Code.add_at] at this
    exact this
theorem tail_length (m : Nat) : ∀ r : List (List UInt8), (∀ x ∈ r, x.length ≤ m) → (Lib.joinTail [32] r).length ≤ (m + 1) * r.length
  | [], _ => by simp [Lib.joinTail]
  | x :: r, h => by
    have h1 := tail_length m r (fun y hy => h y (List.mem_cons_of_mem _ hy))
    have h2 := h x (List.mem_cons_self ..)
    simp only [Lib.joinTail, List.map_cons, List.flatten_cons, List.length_append, List.length_cons, List.length_nil, Nat.mul_succ] at h1 ⊢
    omega
theorem join_length (m : Nat) (r : List (List UInt8)) (h : ∀ x ∈ r, x.length ≤ m) : (Lib.join r [32]).length ≤ (m + 1) * r.length := by
  cases r with
  | nil => simp [Lib.join_nil]
  | cons x r =>
    have h1 := tail_length m r (fun y hy => h y (List.mem_cons_of_mem _ hy))
    have h2 := h x (List.mem_cons_self ..)
    rw [Lib.join_cons]
    simp only [List.length_append, List.length_cons, Nat.mul_succ]
    omega
theorem join_words (m : Nat) (ws : List ByteArray) (h : ∀ x ∈ ws, x.size ≤ m) : (Lib.join (ws.map (·.data.toList)) [32]).length ≤ (m + 1) * ws.length := by
  have := join_length m (ws.map (·.data.toList)) (fun x hx => by
    obtain ⟨y, hy, rfl⟩ := List.mem_map.1 hx
    have := h y hy
    rw [data_length]
    exact this)
  rwa [List.length_map] at this
theorem reads_block {w w1 : World} {k : IntKind} {B n : Nat} {xs : List Int} (h : ReadsInt w k (some ⟨B, 0, none⟩) n xs) (hb : w1.heap[B]? = w.heap[B]?) : ReadsInt w1 k (some ⟨B, 0, none⟩) n xs := by
  refine ⟨h.1, h.2.1, fun hp => ?_⟩
  obtain ⟨ad, e, hc⟩ := h.2.2 hp
  cases e
  refine ⟨_, rfl, fun j hj => ?_⟩
  rw [← hc j hj, Code.add_at]
  unfold World.cell?
  simp only [hb]
set_option maxHeartbeats 4000000 in
set_option maxRecDepth 100000 in
theorem inB_calls (A : Option Addr) (cp n : Nat) (l : List Int) (w : World) (hn : l.length = n) (hr : Kd.C (Kd.int .i32) w A n l) (hc : n ≤ cp) (hl : n ≤ 3000000000) :
    Calls Tryd.prog 28 #[.slice A n cp] w fun e w' => e = .returned (.string (inBV l)) ∧ Below w.heap.size w w' := by
  have HR := Lib.hid hr
  have HN := Lib.hid hn
  have kb := fun s W => print_bytes (P := Tryd.prog) 9 39 5 Tryd.underlying9 Tryd.underlying39 Tryd.underlying5 s W
  have kr := rune_string
  clear hr hn
  go_enter Tryd.func28, Tryd.ntmps28
  go_wp2
  go_loopw [3, 4, 10] (fun ws p i wr => ∃ (k : Nat) (W : List ByteArray) (P : List Int), k ≤ n ∧ i = .int .i64 k ∧ bSeg l [] = W ++ bSeg (l.drop k) P ∧ wr.ownsRow w.heap.size 9 1 ws W.length (encs Value.string W) ∧ wr.ownsRow w.heap.size 5 1 p P.length (nums .u8 P) ∧ P.length ≤ 45 ∧ W.length ≤ k ∧ (∀ x ∈ P, 0 ≤ x ∧ x < 256) ∧ Below w.heap.size w wr) (fun _ _ i _ => n - (intOf i).toNat)
  case atStart => exact ⟨0, [], [], by omega, rfl, rfl, own_nil _ _ _ _, own_nil _ _ _ _, by decide, by decide, (fun x hx => by cases hx), Below.refl _ _⟩
  case round =>
    obtain ⟨k, W, P, hk, rfl, hs, hW, hP, hP45, hWk, hPb, hB⟩ := hrel
    have HS := Lib.hid hs
    have HW := Lib.hid hW
    have HP := Lib.hid hP
    have HPB := Lib.hid hPb
    have HB := Lib.hid hB
    clear hs hW hP hPb hB
    obtain ⟨A1, c1, rfl, hc1, hC1⟩ := own_C rfl HP.out
    have HC1 := Lib.hid hC1
    clear hC1
    by_cases hlt : k < n
    · obtain ⟨r, hr⟩ : ∃ r, l[k]? = some r := ⟨_, List.getElem?_eq_getElem (by have := HN.out; omega)⟩
      have hdrop : l.drop k = r :: l.drop (k + 1) := by
        obtain ⟨hk', rfl⟩ := List.getElem?_eq_some_iff.1 hr
        exact List.drop_eq_getElem_cons hk'
      have HD := Lib.hid hdrop
      obtain ⟨BB, off, rfl, hat⟩ := atK_of_C HR.out (by omega)
      have y0 := hat k _ hr
      have z0 := (HB.out.cell (World.block_lt_of_cell? w _ y0)).trans y0
      clear hr hat y0 hdrop
      have kr1 := kr r
      have kb1 := kb (Utf8.encode r)
      have he : (enc r).length = (Utf8.encode r).size := bytesOf_length _
      have he4 := enc_len r
      rw [he] at he4
      have HE := Lib.hid he
      clear kr kb he
      by_cases hbig : 45 < P.length + (Utf8.encode r).size
      · have hb1 : decide ((45 : Int) < (P.length : Int) + ((Utf8.encode r).size : Int)) = true := decide_eq_true (by omega)
        have hXs := wordB_size P hP45
        obtain ⟨X, hX⟩ : ∃ X, strOfNums (b64 P) = X := ⟨_, rfl⟩
        have hXw : hdB ++ X ++ tl = wordB P := by rw [← hX]; rfl
        have hX72 : X.size ≤ 72 := by
          rw [← hXw] at hXs
          simp only [ByteArray.size_append] at hXs
          omega
        have HXW := Lib.hid hXw
        have HX := Lib.hid hX
        have f1 : (9223372036854775807 < 10 + X.size) = False := eq_false (by omega)
        have f2 : (9223372036854775807 < 10 + X.size + 2) = False := eq_false (by omega)
        clear hX hXw hXs
        go_wp2_with fail
        have hb1 := bytes_below (Below.refl wr.heap.size wr) (Nat.le_refl _) 5 (Utf8.encode r)
        have hrd := bytes_reads wr 5 (Utf8.encode r) (by omega)
        refine (base64_calls A1 c1 P.length P _ rfl (Kd.C_below HC1.out hb1) hc1 (by omega) HPB.out).mono ?_
        rintro e w2 ⟨rfl, hb2⟩
        have hb12 : Below wr.heap.size wr w2 := hb1.trans (hb2.mono hb1.size)
        have hrd2 := hrd.below hb2
        have hlt2 : wr.heap.size < w2.heap.size := by
          have := hb2.size
          rw [Lib.bytesWorld_size] at this
          omega
        have HRD := Lib.hid hrd2
        have HB2 := Lib.hid (HB.out.trans (hb12.mono HB.out.size))
        have HW2 := Lib.hid (pw_own_below HW.out hb12)
        have hz : w.heap.size ≤ w2.heap.size := HB2.out.size
        clear hb1 hrd hb2 hb12 hrd2
        rw [HX.out]
        go_wp2_with (at_builtin; refine print_append_of (w0 := w) Value.string w.heap.size rfl (.tmp 23) (.tmp 28) 35 9 (.string ⟨#[]⟩) 16 rfl Tryd.underlying35 info9 rfl (by decide) _ W (hdB ++ X ++ tl) rfl rfl rfl ?ho ?hb ?hbase ?hl ?_)
        case ho => exact HW2.out
        case hb => exact HB2.out
        case hbase => exact hz
        case hl => omega
        intro v3 w3 ho3 hb3 hg3 hat3
        rw [HXW.out] at ho3
        have hrd3 : ReadsInt w3 .u8 (some ⟨wr.heap.size, 0, none⟩) (Utf8.encode r).size (enc r) := by
          refine reads_block HRD.out (hg3.block _ hlt2 (fun e => ?_))
          have := own_lt HW.out _ e.symm
          omega
        have HO3 := Lib.hid ho3
        have HRD3 := Lib.hid hrd3
        have HB3 := Lib.hid hb3
        have hz3 : w.heap.size ≤ w3.heap.size := HB3.out.size
        clear ho3 hb3 hg3 hat3 hrd3
        go_wp2_with (at_builtin; refine print_append_row (w0 := w) w.heap.size rfl (.tmp 30) (.tmp 31) 39 5 .u8 1 rfl Tryd.underlying39 info5 (by decide) _ [] (enc r) _ _ _ rfl rfl ?ho ?hr ?hb ?hbase ?hl ?_)
        case ho => exact own_nil _ _ _ _
        case hr => exact HRD3.out
        case hb => exact HB3.out
        case hbase => exact hz3
        case hl => simp only [List.length_nil]; omega
        intro v4 w4 ho4 hb4 hg4 hat4
        go_wp2
        go_roundw
        case rel =>
          refine ⟨k + 1, W ++ [wordB P], enc r, by omega, by go_num, ?_, ?_, ho4, by rw [HE.out]; omega, by rw [List.length_append]; simp; omega, enc_byte r, hb4⟩
          · rw [HS.out, HD.out, bSeg_cons, if_pos (by rw [HE.out]; exact hbig), List.append_assoc]; rfl
          · rw [List.length_append]; exact own_other HO3.out hg4 (by cases v3.ownBlock <;> simp [Value.ownBlock])
        case measure => simp [intOf]; omega
      · have hb1 : decide ((45 : Int) < (P.length : Int) + ((Utf8.encode r).size : Int)) = false := decide_eq_false (by omega)
        have hbb := bytes_below (Below.refl wr.heap.size wr) (Nat.le_refl _) 5 (Utf8.encode r)
        have HRD := Lib.hid (bytes_reads wr 5 (Utf8.encode r) (by omega))
        have HB2 := Lib.hid (HB.out.trans (hbb.mono HB.out.size))
        have HW2 := Lib.hid (pw_own_below HW.out hbb)
        have HP2 := Lib.hid (pw_own_below HP.out hbb)
        have hz : w.heap.size ≤ (Lib.bytesWorld wr 5 (Utf8.encode r)).heap.size := HB2.out.size
        clear hbb
        go_wp2_with (at_builtin; refine print_append_row (w0 := w) w.heap.size rfl (.tmp 30) (.tmp 31) 39 5 .u8 1 rfl Tryd.underlying39 info5 (by decide) _ P (enc r) _ _ _ rfl rfl ?ho ?hr ?hb ?hbase ?hl ?_)
        case ho => exact HP2.out
        case hr => exact HRD.out
        case hb => exact HB2.out
        case hbase => exact hz
        case hl => omega
        intro v4 w4 ho4 hb4 hg4 hat4
        go_wp2
        go_roundw
        case rel =>
          refine ⟨k + 1, W, P ++ enc r, by omega, by go_num, ?_, ?_, by rw [List.length_append]; exact ho4, by rw [List.length_append, HE.out]; omega, by omega, ?_, hb4⟩
          · rw [HS.out, HD.out, bSeg_cons, if_neg (by rw [HE.out]; exact hbig)]
          · exact own_other HW2.out hg4 (own_type_ne HW2.out HP2.out (by decide))
          · intro x hx
            rcases List.mem_append.1 hx with h | h
            · exact HPB.out x h
            · exact enc_byte r x h
        case measure => simp [intOf]; omega
    · obtain rfl : k = n := by omega
      have hXs := wordB_size P hP45
      obtain ⟨X, hX⟩ : ∃ X, strOfNums (b64 P) = X := ⟨_, rfl⟩
      have hXw : hdB ++ X ++ tl = wordB P := by rw [← hX]; rfl
      have hX72 : X.size ≤ 72 := by
        rw [← hXw] at hXs
        simp only [ByteArray.size_append] at hXs
        omega
      have HXW := Lib.hid hXw
      have HX := Lib.hid hX
      have f1 : (9223372036854775807 < 10 + X.size) = False := eq_false (by omega)
      have f2 : (9223372036854775807 < 10 + X.size + 2) = False := eq_false (by omega)
      have hall : bSeg l [] = W ++ [wordB P] := by
        rw [HS.out, List.drop_eq_nil_of_le (by rw [HN.out]; exact Nat.le_refl _)]
        rfl
      have HALL := Lib.hid hall
      clear hX hXw hXs hall kr kb
      go_wp2_with fail
      refine (base64_calls A1 c1 P.length P _ rfl HC1.out hc1 (by omega) HPB.out).mono ?_
      rintro e w2 ⟨rfl, hb2⟩
      have HB2 := Lib.hid (HB.out.trans (hb2.mono HB.out.size))
      have HW2 := Lib.hid (pw_own_below HW.out hb2)
      have hz : w.heap.size ≤ w2.heap.size := HB2.out.size
      clear hb2
      rw [HX.out]
      go_wp2_with (at_builtin; refine print_append_of (w0 := w) Value.string w.heap.size rfl (.tmp 34) (.tmp 39) 35 9 (.string ⟨#[]⟩) 16 rfl Tryd.underlying35 info9 rfl (by decide) _ W (hdB ++ X ++ tl) rfl rfl rfl ?ho ?hb ?hbase ?hl ?_)
      case ho => exact HW2.out
      case hb => exact HB2.out
      case hbase => exact hz
      case hl => omega
      intro v3 w3 ho3 hb3 hg3 hat3
      have hwl : W.length + 1 = (bSeg l []).length := by rw [HALL.out, List.length_append]; rfl
      rw [HXW.out, ← HALL.out, hwl] at ho3
      have hbl := bSeg_len l []
      have hbp : 0 < (bSeg l []).length := by rw [HALL.out, List.length_append]; simp
      obtain ⟨g, c3, rfl, hc3, hg, hcells⟩ := own_strs ho3 hbp
      have hjl := join_words 72 (bSeg l []) (bSeg_size l [] (by decide))
      have HJ := Lib.hid (Tryd.strings_Join g 0 c3 (bSeg l []) ⟨#[32]⟩ w3 hcells hg (by have := HN.out; omega) hc3 (by
        show (Lib.join _ [32]).length ≤ _
        have := HN.out
        omega))
      have HB3 := Lib.hid hb3
      clear ho3 hb3 hg3 hat3 hbl hbp hjl hcells
      go_wp2_with fail
      refine HJ.out.mono ?_
      rintro e w4 ⟨rfl, hb4⟩
      go_wp2
      go_ret
      exact ⟨rfl, HB3.out.trans (hb4.mono HB3.out.size)⟩
end Go.Proofs.YtcnhnpkbklakoaaDoor.Word
