/- word.quoted by contract. (The steps of its region: printed by tools/quoted.py.) -/
import Derived.Test.YtcnhnpkbklakoaaDoorInB
import Derived.Test.YtcnhnpkbklakoaaDoorHexOf
import Derived.Test.YtcnhnpkbklakoaaDoorOctetMore
namespace Go.Proofs.YtcnhnpkbklakoaaDoor.Word
open Go.RowKit Go.Proofs.YtcnhnpkbklakoaaDoorW.PrintWords Go.Proofs.YtcnhnpkbklakoaaDoorW.PrintLast Go.Proofs.YtcnhnpkbklakoaaDoorW.PrintMore Go.Proofs.YtcnhnpkbklakoaaDoor.PWordEncodes
open Go.Proofs.YtcnhnpkbklakoaaDoor.Code
attribute [local go_sem] max2_int min2_int max_two min_two max_three min_three max_four min_four
set_option linter.unusedVariables false
set_option linter.unusedSimpArgs false
/-- a byte as = and two digits -/
def eq3 (a : Int) : List Int := 61 :: hex2 a
def eqV (l : List Int) : List Int := l.flatMap eq3
theorem eqV_more (l : List Int) (k : Nat) (a : Int) (h : l[k]? = some a) : eqV (l.take (k + 1)) = eqV (l.take k) ++ eq3 a := by
  unfold eqV
  rw [List.take_add_one, h, List.flatMap_append]
  simp
theorem eqV_len (l : List Int) : (eqV l).length = 3 * l.length := by
  unfold eqV
  induction l with
  | nil => rfl
  | cons a l ih =>
    rw [List.flatMap_cons, List.length_append, ih]
    simp only [eq3, hex2, List.length_cons, List.length_nil]
    omega
def isQ (n : Nat) : Bool := Octet.isIn 3 n || decide (0 ≤ Lib.indexByte [33, 42, 43, 45, 47] n.toUInt8)
/-- what a rune becomes in Q -/
def qV (n : Nat) : ByteArray := if n = 32 then ⟨#[95]⟩ else if n < 128 ∧ isQ n = true then Utf8.encode n else strOfNums (eqV (enc n))
theorem hex_at : ∀ (l : List Int) (k : Nat) (a : Int), l[k]? = some a → (hexV l)[2 * k]? = some (bt H16 (a / 16)) ∧ (hexV l)[2 * k + 1]? = some (bt H16 (a % 16))
  | [], k, a, h => by simp at h
  | b :: l, 0, a, h => by
    simp only [List.getElem?_cons_zero, Option.some.injEq] at h
    subst h
    simp [hexV, hex2]
  | b :: l, k + 1, a, h => by
    rw [List.getElem?_cons_succ] at h
    have := hex_at l k a h
    simp only [hexV, List.flatMap_cons, hex2] at this ⊢
    rw [show 2 * (k + 1) = 2 * k + 2 by omega]
    simpa using this
theorem bt_str (l : List Int) (i : Nat) (a : Int) (h : l[i]? = some a) (h0 : 0 ≤ a) (h1 : a < 256) : bt (strOfNums l) (i : Int) = a := by
  obtain ⟨hi, rfl⟩ := List.getElem?_eq_some_iff.1 h
  have hs : i < (strOfNums l).size := by rw [strOfNums_size]; exact hi
  unfold bt
  rw [dif_pos (by simpa using hs)]
  simp only [Int.toNat_natCast]
  have e : (strOfNums l)[i]'hs = UInt8.ofNat (l[i]).toNat := by
    show (strOfNums l).data[i] = _
    simp [strOfNums]
  rw [e, UInt8.toNat_ofNat']
  omega
theorem hexd_byte (x : Int) : 0 ≤ bt H16 x ∧ bt H16 x < 256 := by have := bt_range H16 x; omega
theorem contains_at (n : Nat) (W : World) (h : n < 128) : Calls Tryd.prog 83 #[.string ⟨#[33, 42, 43, 45, 47]⟩, .int .i32 (n : Int)] W fun e w' => e = .returned (.bool (decide (0 ≤ Lib.indexByte [33, 42, 43, 45, 47] n.toUInt8))) ∧ w' = W := Tryd.strings_ContainsRune_ascii ⟨#[33, 42, 43, 45, 47]⟩ (n : Int) W (by omega) (by omega)
set_option maxHeartbeats 4000000 in
set_option maxRecDepth 100000 in
/-- a byte that stays as it is, or the blank -/
theorem plain_calls (n : Nat) (w : World) (h : n = 32 ∨ n < 128 ∧ isQ n = true) (hT : Octet.Laid w) :
    Calls Tryd.prog 55 #[.int .i32 (n : Int)] w fun e w' => e = .returned (.string (qV n)) ∧ Below w.heap.size w w' := by
  by_cases h0 : n = 32
  · subst h0
    go_enter Tryd.func55, Tryd.ntmps55
    go_wp2
    go_ret
    exact ⟨rfl, Below.refl _ _⟩
  · obtain ⟨h1, h2⟩ : n < 128 ∧ isQ n = true := by rcases h with h | h; exact absurd h h0; exact h
    have hq : qV n = Utf8.encode n := by unfold qV; rw [if_neg h0, if_pos ⟨h1, h2⟩]
    rw [hq]
    have HC := Lib.hid (Octet.Is_calls 3 (by decide) (by decide) n (by omega) w hT)
    have HR := Lib.hid (fun W => contains_at n W (by omega))
    have hl : decide ((n : Int) < 128) = true := decide_eq_true (by omega)
    have h3 : ((n : Int) == 32) = false := by simpa using fun e => h0 (by omega)
    have kr := rune_string (n : Int)
    unfold isQ at h2
    clear h hq
    cases hi : Octet.isIn 3 n
    · rw [hi, Bool.false_or] at h2
      have H2 := Lib.hid h2
      clear h2
      go_enter Tryd.func55, Tryd.ntmps55
      go_wp2_with fail
      refine HC.out.mono ?_
      rintro e w1 ⟨rfl, hb1⟩
      rw [hi]
      go_wp2_with fail
      refine (HR.out _).mono ?_
      rintro e w2 ⟨rfl, rfl⟩
      rw [H2.out]
      go_wp2
      go_ret
      exact ⟨rfl, hb1⟩
    · clear h2
      go_enter Tryd.func55, Tryd.ntmps55
      go_wp2_with fail
      refine HC.out.mono ?_
      rintro e w1 ⟨rfl, hb1⟩
      rw [hi]
      go_wp2
      go_ret
      exact ⟨rfl, hb1⟩
set_option maxHeartbeats 4000000 in
set_option maxRecDepth 100000 in
/-- the digits -/
theorem digits_calls (n : Nat) (w : World) (h0 : n ≠ 32) (hq : ¬ (n < 128 ∧ isQ n = true)) (hr1 : n < 1114112) (hT : Octet.Laid w) :
    Calls Tryd.prog 55 #[.int .i32 (n : Int)] w fun e w' => e = .returned (.string (qV n)) ∧ Below w.heap.size w w' := by
  have hqV : qV n = strOfNums (eqV (enc n)) := by unfold qV; rw [if_neg h0, if_neg hq]
  rw [hqV]
  clear hqV
  have kb := fun s W => print_bytes (P := Tryd.prog) 9 39 5 Tryd.underlying9 Tryd.underlying39 Tryd.underlying5 s W
  have h3 : ((n : Int) == 32) = false := by simpa using fun e => h0 (by omega)
  have kr := rune_string (n : Int)
  have kb1 := kb (Utf8.encode n)
  obtain ⟨i0, hi, hz0, hz1, hz2⟩ := info_parts info5
  obtain ⟨l, hl⟩ : ∃ l, l = enc (n : Int) := ⟨_, rfl⟩
  have hl4 : l.length ≤ 4 := by rw [hl]; exact (enc_len _).2
  have hll : (Utf8.encode n).size = l.length := by rw [hl]; exact (bytesOf_length _).symm
  have HBY := Lib.hid (show ∀ x ∈ l, 0 ≤ x ∧ x < 256 by rw [hl]; exact enc_byte _)
  have HL := Lib.hid hl
  have HLL := Lib.hid hll
  rw [← HL.out]
  clear hl hll kb
  by_cases hn : n < 128
  · have hi9 : Octet.isIn 3 n = false ∧ decide (0 ≤ Lib.indexByte [33, 42, 43, 45, 47] n.toUInt8) = false := by
      have : ¬ isQ n = true := fun h => hq ⟨hn, h⟩
      unfold isQ at this
      rw [Bool.or_eq_true] at this
      exact ⟨by simpa using fun h => this (Or.inl h), by
        cases hx : decide (0 ≤ Lib.indexByte [33, 42, 43, 45, 47] n.toUInt8)
        · rfl
        · exact absurd (Or.inr hx) this⟩
    have HC := Lib.hid (Octet.Is_calls 3 (by decide) (by decide) n (by omega) w hT)
    have HR := Lib.hid (fun W => contains_at n W (by omega))
    have hl : decide ((n : Int) < 128) = true := decide_eq_true (by omega)
    have HI := Lib.hid hi9
    clear hq hi9
    go_enter Tryd.func55, Tryd.ntmps55
    go_wp2_with fail
    refine HC.out.mono ?_
    rintro e w2 ⟨rfl, hba⟩
    rw [HI.out.1]
    go_wp2_with fail
    refine (HR.out _).mono ?_
    rintro e W1 ⟨rfl, rfl⟩
    rw [HI.out.2]
    have HBA := Lib.hid hba
    have hrd := bytes_reads W1 5 (Utf8.encode n) (by have := HLL.out; omega)
    have HRD := Lib.hid (show ReadsInt _ .u8 _ (Utf8.encode n).size l by rw [HL.out]; exact hrd)
    have hbb := bytes_below (Below.refl W1.heap.size W1) (Nat.le_refl _) 5 (Utf8.encode n)
    have HBB := Lib.hid (HBA.out.trans (hbb.mono HBA.out.size))
    clear hrd hbb hba
    go_wp2_with fail
    refine (hexof_calls _ _ (Utf8.encode n).size l _ HLL.out.symm (Kd.C_of_reads (enc := Value.int .u8) (d := (0 : Int)) (h1 := fun _ => rfl) HRD.out) (grownCap_ge _ _ _ _) (by have := HLL.out; omega) HBY.out).mono ?_
    rintro e w0 ⟨rfl, hb0⟩
    have HB0 := Lib.hid (HBB.out.trans (hb0.mono HBB.out.size))
    obtain ⟨S, hS⟩ : ∃ S, S = strOfNums (hexV l) := ⟨_, rfl⟩
    have hSs : S.size = 2 * l.length := by rw [hS, strOfNums_size, hexV_len]
    rw [← hS]
    have HS := Lib.hid hS
    have hSa : S.size ≤ 2 * l.length := Nat.le_of_eq hSs
    have hSb : 2 * l.length ≤ S.size := Nat.le_of_eq hSs.symm
    clear hSs
    clear hb0 hS
    go_wp2
    go_loopw [3, 5] (fun o v wr => ∃ (k : Nat) (d : List Int) (V : Value), k ≤ l.length ∧ v = .int .i64 ((2 * k : Nat) : Int) ∧ V = o ∧ eqV (l.take k) = d ∧ wr.ownsRow w.heap.size 5 1 V d.length (nums .u8 d) ∧ Below w.heap.size w wr) (fun _ v _ => S.size - (intOf v).toNat)
    case atStart => exact ⟨0, [], _, by omega, rfl, rfl, rfl, own_nil _ _ _ _, HB0.out⟩
    case round =>
      obtain ⟨k, d, V, hk, rfl, rfl, hd, hO, hB⟩ := hrel
      have HD := Lib.hid hd
      have HO := Lib.hid hO
      have HB := Lib.hid hB
      have hdl : d.length ≤ 12 := by rw [← hd, eqV_len, List.length_take]; omega
      obtain ⟨j, hj⟩ : ∃ j, j = 2 * k := ⟨_, rfl⟩
      rw [← hj]
      have HJ := Lib.hid hj
      clear hd hO hB
      by_cases hlt : k < l.length
      · obtain ⟨a, ha⟩ : ∃ a, l[k]? = some a := ⟨_, List.getElem?_eq_getElem (by omega)⟩
        obtain ⟨ha0, ha1⟩ := HBY.out a (List.mem_of_getElem? ha)
        have hat := hex_at l k a ha
        rw [← hj] at hat
        have e1 : bt S (j : Int) = bt H16 (a / 16) := by rw [HS.out]; exact bt_str _ _ _ hat.1 (hexd_byte _).1 (hexd_byte _).2
        have e2 : bt S ((j : Int) + 1) = bt H16 (a % 16) := by rw [HS.out]; exact bt_str _ (j + 1) _ hat.2 (hexd_byte _).1 (hexd_byte _).2
        have HA := Lib.hid ha
        have hjs : j + 1 < S.size := by omega
        have HEQ := Lib.hid (fun (W : World) => show ∀ i u, (nums .u8 (eq3 a))[i]? = some u → (W.alloc (.cells #[.int .u8 61, .int .u8 (bt S (j : Int)), .int .u8 (bt S ((j : Int) + 1))] 5)).cell? ((⟨W.heap.size, 0, none⟩ : Addr).add i) = some u by rw [e1, e2]; exact news_lit W (eq3 a) 5)
        have q0 : ((j : Int) < (S.size : Int)) = True := eq_true (by omega)
        have q00 : (j < S.size) = True := eq_true (by omega)
        have p1 : (0 ≤ (j : Int) + 1) = True := eq_true (by omega)
        have q1 : ((j : Int) + 1 < (S.size : Int)) = True := eq_true (by omega)
        have q11 : (j + 1 < S.size) = True := eq_true (by omega)
        have z0 : ∀ h : j < S.size, ((S[j]'h).toNat : Int) = bt S (j : Int) := fun h => bt_at S (j : Int) h
        have z1 : ∀ h : j + 1 < S.size, ((S[j + 1]'h).toNat : Int) = bt S ((j : Int) + 1) := fun h => bt_at S ((j + 1 : Nat) : Int) h
        have q2 : wrap64 ((j : Int) + 1) = (j : Int) + 1 := by unfold wrap64; omega
        clear ha hat e1 e2 ha0 ha1 hj
        go_wp2
        refine start_ (n := 11) (S := fun w' => True) (ds := [8, 9]) #[false, false, false, false, false, false, false, false, false, false, false] (by kernel_rfl) rfl rfl trivial (fun hHeld => ?_)
        generalize hdr : wr.drew = w2 at hHeld ⊢
        have HO2 := Lib.hid (show w2.ownsRow w.heap.size 5 1 V d.length (nums .u8 d) from hdr ▸ HO.out)
        have HB2 := Lib.hid (show Below w.heap.size w w2 from hdr ▸ below_drew1 HB.out)
        have hsz2 := HB2.out.size
        refine pure_ (i := 0) (N := some 31) (v := ?_) (a' := ?_) #[true, false, false, false, false, false, false, false, false, false, false] rfl rfl (by kernel_rfl) (fun _ _ _ h => h) (Or.inl ⟨by rfl, ?_⟩) ?_ ?_
        rotate_left
        · intro w'
          go_simp
          with_reducible rfl
        rotate_left
        · simp only [Act.put, List.setIfInBounds_toArray, List.set_cons_zero, List.set_cons_succ, i64_w, i32_w]
          rfl
        refine pure_ (i := 1) (N := some 32) (v := ?_) (a' := ?_) #[true, true, false, false, false, false, false, false, false, false, false] rfl rfl (by kernel_rfl) (fun _ _ _ h => h) (Or.inl ⟨by rfl, ?_⟩) ?_ ?_
        rotate_left
        · intro w'
          go_simp
          with_reducible rfl
        rotate_left
        · simp only [Act.put, List.setIfInBounds_toArray, List.set_cons_zero, List.set_cons_succ, i64_w, i32_w]
          rfl
        refine pure_ (i := 2) (N := some 33) (v := ?_) (a' := ?_) #[true, true, true, false, false, false, false, false, false, false, false] rfl rfl (by kernel_rfl) (fun _ _ _ h => h) (Or.inl ⟨by rfl, ?_⟩) ?_ ?_
        rotate_left
        · intro w'
          go_simp
          with_reducible rfl
        rotate_left
        · simp only [Act.put, List.setIfInBounds_toArray, List.set_cons_zero, List.set_cons_succ, i64_w, i32_w]
          rfl
        refine pure_ (i := 4) (N := some 35) (v := ?_) (a' := ?_) #[true, true, true, false, true, false, false, false, false, false, false] rfl rfl (by kernel_rfl) (fun _ _ _ h => h) (Or.inl ⟨by rfl, ?_⟩) ?_ ?_
        rotate_left
        · intro w'
          go_simp
          with_reducible rfl
        rotate_left
        · simp only [Act.put, List.setIfInBounds_toArray, List.set_cons_zero, List.set_cons_succ, i64_w, i32_w]
          rfl
        refine pure_ (i := 5) (N := some 36) (v := ?_) (a' := ?_) #[true, true, true, false, true, true, false, false, false, false, false] rfl rfl (by kernel_rfl) (fun _ _ _ h => h) (Or.inl ⟨by rfl, ?_⟩) ?_ ?_
        rotate_left
        · intro w'
          go_simp
          with_reducible rfl
        rotate_left
        · simp only [Act.put, List.setIfInBounds_toArray, List.set_cons_zero, List.set_cons_succ, i64_w, i32_w]
          rfl
        refine pure_ (i := 6) (N := some 37) (v := ?_) (a' := ?_) #[true, true, true, false, true, true, true, false, false, false, false] rfl rfl (by kernel_rfl) (fun _ _ _ h => h) (Or.inl ⟨by rfl, ?_⟩) ?_ ?_
        rotate_left
        · intro w'
          go_simp
          with_reducible rfl
        rotate_left
        · simp only [Act.put, List.setIfInBounds_toArray, List.set_cons_zero, List.set_cons_succ, i64_w, i32_w]
          rfl
        refine take_ (i := 3) (N := some 34) (v := ?_) (a' := ?_) #[true, true, true, true, true, true, true, false, false, false, false] rfl rfl (by kernel_rfl) (fun _ _ _ h => h) (Or.inl ⟨by rfl, ?_⟩) hHeld ?_ ?_
        rotate_left
        · intro w' _
          go_simp
          with_reducible rfl
        rotate_left
        · simp only [Act.put, List.setIfInBounds_toArray, List.set_cons_zero, List.set_cons_succ, i64_w, i32_w]
          rfl
        refine take_ (i := 7) (N := some 38) (v := ?_) (a' := ?_) #[true, true, true, true, true, true, true, true, false, false, false] rfl rfl (by kernel_rfl) (fun _ _ _ h => h) (Or.inl ⟨by rfl, ?_⟩) hHeld ?_ ?_
        rotate_left
        · intro w' _
          go_simp
          with_reducible rfl
        rotate_left
        · simp only [Act.put, List.setIfInBounds_toArray, List.set_cons_zero, List.set_cons_succ, i64_w, i32_w]
          rfl
        refine last_ (i := 8) (N := some 39) #[true, true, true, true, true, true, true, true, true, false, false] rfl rfl (by kernel_rfl) (by decide) (fun K hK => ?_)
        refine value_ (w1 := ?_) (v := ?_) (by rfl) rfl ?_ ?_
        rotate_left 2
        · go_simp
          constructor
          · rfl
          · rfl
        refine hK.out _ _ ?_
        clear hK K
        refine norm_ (a' := ?_) ?_ ?_
        rotate_left
        · show Act.put _ (some 39) _ = _
          simp only [Act.put, List.setIfInBounds_toArray, List.set_cons_zero, List.set_cons_succ, i64_w, i32_w]
          rfl
        refine last_ (i := 9) (N := some 40) #[true, true, true, true, true, true, true, true, true, true, false] rfl rfl (by kernel_rfl) (by decide) (fun K hK => ?_)
        refine step_append_lies _ (by rfl) (.tmp 31) (.tmp 39) 39 (by rfl) w.heap.size 5 i0 _ 1 1 Tryd.underlying39 hi hz0 hz1 hz2 rfl (by decide) _ d.length (nums .u8 d) (by rfl) (HO2.out.alloc _) ⟨w2.heap.size, 0, none⟩ 3 3 (nums .u8 (eq3 a)) (by rfl) rfl (HEQ.out w2) (nums_one _) (by decide) (by unfold maxLen; omega) (by omega) (by simp; omega) _ rfl ?_
        intro g cap w4 hown4 hgrow4 hat4 hlt4
        refine hK.out _ _ ?_
        clear hK K
        refine norm_ (a' := ?_) ?_ ?_
        rotate_left
        · show Act.put _ (some 40) _ = _
          simp only [Act.put, List.setIfInBounds_toArray, List.set_cons_zero, List.set_cons_succ, i64_w, i32_w]
          rfl
        refine pure_ (i := 10) (N := some 3) (v := ?_) (a' := ?_) #[true, true, true, true, true, true, true, true, true, true, true] rfl rfl (by kernel_rfl) (fun _ _ _ h => h) (Or.inl ⟨by rfl, ?_⟩) ?_ ?_
        rotate_left
        · intro w'
          go_simp
          with_reducible rfl
        rotate_left
        · simp only [Act.put, List.setIfInBounds_toArray, List.set_cons_zero, List.set_cons_succ, i64_w, i32_w]
          rfl
        refine done_ (by kernel_rfl) ?_
        have hB4 : Below w.heap.size w w4 := (HB2.out.alloc hsz2 _).grown hgrow4 (by have := hgrow4.size; simp at this; have := hsz2; simp; omega) (fun k hk => own_base HO2.out k hk)
        rw [← Code.nums_append] at hown4
        have HO4 := Lib.hid hown4
        have HB4 := Lib.hid hB4
        clear hown4 hgrow4 hat4 hlt4 hB4 q2 z0 z1 q0 p1 q1 q00 q11 hHeld HO2 HB2
        go_wp2
        go_roundw
        case rel => exact ⟨k + 1, d ++ eq3 a, _, by omega, by rw [HJ.out]; go_num, rfl, by rw [eqV_more l k a HA.out, HD.out], by rw [List.length_append]; exact HO4.out, HB4.out⟩
        case measure => simp [intOf]; omega
      · obtain rfl : k = l.length := by omega
        obtain ⟨A9, c9, rfl, _, hC9⟩ := own_C rfl HO.out
        have q9 := str_of wr (c := c9) hC9
        have hfin : eqV l = d := by rw [← HD.out, List.take_of_length_le (by omega)]
        have HF := Lib.hid hfin
        have hnl : ¬ j < S.size := by omega
        clear hC9 hfin hj
        go_wp2
        go_ret
        exact ⟨by rw [HF.out]; rfl, HB.out⟩

  · have hl : decide ((n : Int) < 128) = false := decide_eq_false (by omega)
    have hba := Below.refl w.heap.size w
    clear hq
    go_enter Tryd.func55, Tryd.ntmps55
    have HBA := Lib.hid hba
    have hrd := bytes_reads w 5 (Utf8.encode n) (by have := HLL.out; omega)
    have HRD := Lib.hid (show ReadsInt _ .u8 _ (Utf8.encode n).size l by rw [HL.out]; exact hrd)
    have hbb := bytes_below (Below.refl w.heap.size w) (Nat.le_refl _) 5 (Utf8.encode n)
    have HBB := Lib.hid (HBA.out.trans (hbb.mono HBA.out.size))
    clear hrd hbb hba
    go_wp2_with fail
    refine (hexof_calls _ _ (Utf8.encode n).size l _ HLL.out.symm (Kd.C_of_reads (enc := Value.int .u8) (d := (0 : Int)) (h1 := fun _ => rfl) HRD.out) (grownCap_ge _ _ _ _) (by have := HLL.out; omega) HBY.out).mono ?_
    rintro e w0 ⟨rfl, hb0⟩
    have HB0 := Lib.hid (HBB.out.trans (hb0.mono HBB.out.size))
    obtain ⟨S, hS⟩ : ∃ S, S = strOfNums (hexV l) := ⟨_, rfl⟩
    have hSs : S.size = 2 * l.length := by rw [hS, strOfNums_size, hexV_len]
    rw [← hS]
    have HS := Lib.hid hS
    have hSa : S.size ≤ 2 * l.length := Nat.le_of_eq hSs
    have hSb : 2 * l.length ≤ S.size := Nat.le_of_eq hSs.symm
    clear hSs
    clear hb0 hS
    go_wp2
    go_loopw [3, 5] (fun o v wr => ∃ (k : Nat) (d : List Int) (V : Value), k ≤ l.length ∧ v = .int .i64 ((2 * k : Nat) : Int) ∧ V = o ∧ eqV (l.take k) = d ∧ wr.ownsRow w.heap.size 5 1 V d.length (nums .u8 d) ∧ Below w.heap.size w wr) (fun _ v _ => S.size - (intOf v).toNat)
    case atStart => exact ⟨0, [], _, by omega, rfl, rfl, rfl, own_nil _ _ _ _, HB0.out⟩
    case round =>
      obtain ⟨k, d, V, hk, rfl, rfl, hd, hO, hB⟩ := hrel
      have HD := Lib.hid hd
      have HO := Lib.hid hO
      have HB := Lib.hid hB
      have hdl : d.length ≤ 12 := by rw [← hd, eqV_len, List.length_take]; omega
      obtain ⟨j, hj⟩ : ∃ j, j = 2 * k := ⟨_, rfl⟩
      rw [← hj]
      have HJ := Lib.hid hj
      clear hd hO hB
      by_cases hlt : k < l.length
      · obtain ⟨a, ha⟩ : ∃ a, l[k]? = some a := ⟨_, List.getElem?_eq_getElem (by omega)⟩
        obtain ⟨ha0, ha1⟩ := HBY.out a (List.mem_of_getElem? ha)
        have hat := hex_at l k a ha
        rw [← hj] at hat
        have e1 : bt S (j : Int) = bt H16 (a / 16) := by rw [HS.out]; exact bt_str _ _ _ hat.1 (hexd_byte _).1 (hexd_byte _).2
        have e2 : bt S ((j : Int) + 1) = bt H16 (a % 16) := by rw [HS.out]; exact bt_str _ (j + 1) _ hat.2 (hexd_byte _).1 (hexd_byte _).2
        have HA := Lib.hid ha
        have hjs : j + 1 < S.size := by omega
        have HEQ := Lib.hid (fun (W : World) => show ∀ i u, (nums .u8 (eq3 a))[i]? = some u → (W.alloc (.cells #[.int .u8 61, .int .u8 (bt S (j : Int)), .int .u8 (bt S ((j : Int) + 1))] 5)).cell? ((⟨W.heap.size, 0, none⟩ : Addr).add i) = some u by rw [e1, e2]; exact news_lit W (eq3 a) 5)
        have q0 : ((j : Int) < (S.size : Int)) = True := eq_true (by omega)
        have q00 : (j < S.size) = True := eq_true (by omega)
        have p1 : (0 ≤ (j : Int) + 1) = True := eq_true (by omega)
        have q1 : ((j : Int) + 1 < (S.size : Int)) = True := eq_true (by omega)
        have q11 : (j + 1 < S.size) = True := eq_true (by omega)
        have z0 : ∀ h : j < S.size, ((S[j]'h).toNat : Int) = bt S (j : Int) := fun h => bt_at S (j : Int) h
        have z1 : ∀ h : j + 1 < S.size, ((S[j + 1]'h).toNat : Int) = bt S ((j : Int) + 1) := fun h => bt_at S ((j + 1 : Nat) : Int) h
        have q2 : wrap64 ((j : Int) + 1) = (j : Int) + 1 := by unfold wrap64; omega
        clear ha hat e1 e2 ha0 ha1 hj
        go_wp2
        refine start_ (n := 11) (S := fun w' => True) (ds := [8, 9]) #[false, false, false, false, false, false, false, false, false, false, false] (by kernel_rfl) rfl rfl trivial (fun hHeld => ?_)
        generalize hdr : wr.drew = w2 at hHeld ⊢
        have HO2 := Lib.hid (show w2.ownsRow w.heap.size 5 1 V d.length (nums .u8 d) from hdr ▸ HO.out)
        have HB2 := Lib.hid (show Below w.heap.size w w2 from hdr ▸ below_drew1 HB.out)
        have hsz2 := HB2.out.size
        refine pure_ (i := 0) (N := some 31) (v := ?_) (a' := ?_) #[true, false, false, false, false, false, false, false, false, false, false] rfl rfl (by kernel_rfl) (fun _ _ _ h => h) (Or.inl ⟨by rfl, ?_⟩) ?_ ?_
        rotate_left
        · intro w'
          go_simp
          with_reducible rfl
        rotate_left
        · simp only [Act.put, List.setIfInBounds_toArray, List.set_cons_zero, List.set_cons_succ, i64_w, i32_w]
          rfl
        refine pure_ (i := 1) (N := some 32) (v := ?_) (a' := ?_) #[true, true, false, false, false, false, false, false, false, false, false] rfl rfl (by kernel_rfl) (fun _ _ _ h => h) (Or.inl ⟨by rfl, ?_⟩) ?_ ?_
        rotate_left
        · intro w'
          go_simp
          with_reducible rfl
        rotate_left
        · simp only [Act.put, List.setIfInBounds_toArray, List.set_cons_zero, List.set_cons_succ, i64_w, i32_w]
          rfl
        refine pure_ (i := 2) (N := some 33) (v := ?_) (a' := ?_) #[true, true, true, false, false, false, false, false, false, false, false] rfl rfl (by kernel_rfl) (fun _ _ _ h => h) (Or.inl ⟨by rfl, ?_⟩) ?_ ?_
        rotate_left
        · intro w'
          go_simp
          with_reducible rfl
        rotate_left
        · simp only [Act.put, List.setIfInBounds_toArray, List.set_cons_zero, List.set_cons_succ, i64_w, i32_w]
          rfl
        refine pure_ (i := 4) (N := some 35) (v := ?_) (a' := ?_) #[true, true, true, false, true, false, false, false, false, false, false] rfl rfl (by kernel_rfl) (fun _ _ _ h => h) (Or.inl ⟨by rfl, ?_⟩) ?_ ?_
        rotate_left
        · intro w'
          go_simp
          with_reducible rfl
        rotate_left
        · simp only [Act.put, List.setIfInBounds_toArray, List.set_cons_zero, List.set_cons_succ, i64_w, i32_w]
          rfl
        refine pure_ (i := 5) (N := some 36) (v := ?_) (a' := ?_) #[true, true, true, false, true, true, false, false, false, false, false] rfl rfl (by kernel_rfl) (fun _ _ _ h => h) (Or.inl ⟨by rfl, ?_⟩) ?_ ?_
        rotate_left
        · intro w'
          go_simp
          with_reducible rfl
        rotate_left
        · simp only [Act.put, List.setIfInBounds_toArray, List.set_cons_zero, List.set_cons_succ, i64_w, i32_w]
          rfl
        refine pure_ (i := 6) (N := some 37) (v := ?_) (a' := ?_) #[true, true, true, false, true, true, true, false, false, false, false] rfl rfl (by kernel_rfl) (fun _ _ _ h => h) (Or.inl ⟨by rfl, ?_⟩) ?_ ?_
        rotate_left
        · intro w'
          go_simp
          with_reducible rfl
        rotate_left
        · simp only [Act.put, List.setIfInBounds_toArray, List.set_cons_zero, List.set_cons_succ, i64_w, i32_w]
          rfl
        refine take_ (i := 3) (N := some 34) (v := ?_) (a' := ?_) #[true, true, true, true, true, true, true, false, false, false, false] rfl rfl (by kernel_rfl) (fun _ _ _ h => h) (Or.inl ⟨by rfl, ?_⟩) hHeld ?_ ?_
        rotate_left
        · intro w' _
          go_simp
          with_reducible rfl
        rotate_left
        · simp only [Act.put, List.setIfInBounds_toArray, List.set_cons_zero, List.set_cons_succ, i64_w, i32_w]
          rfl
        refine take_ (i := 7) (N := some 38) (v := ?_) (a' := ?_) #[true, true, true, true, true, true, true, true, false, false, false] rfl rfl (by kernel_rfl) (fun _ _ _ h => h) (Or.inl ⟨by rfl, ?_⟩) hHeld ?_ ?_
        rotate_left
        · intro w' _
          go_simp
          with_reducible rfl
        rotate_left
        · simp only [Act.put, List.setIfInBounds_toArray, List.set_cons_zero, List.set_cons_succ, i64_w, i32_w]
          rfl
        refine last_ (i := 8) (N := some 39) #[true, true, true, true, true, true, true, true, true, false, false] rfl rfl (by kernel_rfl) (by decide) (fun K hK => ?_)
        refine value_ (w1 := ?_) (v := ?_) (by rfl) rfl ?_ ?_
        rotate_left 2
        · go_simp
          constructor
          · rfl
          · rfl
        refine hK.out _ _ ?_
        clear hK K
        refine norm_ (a' := ?_) ?_ ?_
        rotate_left
        · show Act.put _ (some 39) _ = _
          simp only [Act.put, List.setIfInBounds_toArray, List.set_cons_zero, List.set_cons_succ, i64_w, i32_w]
          rfl
        refine last_ (i := 9) (N := some 40) #[true, true, true, true, true, true, true, true, true, true, false] rfl rfl (by kernel_rfl) (by decide) (fun K hK => ?_)
        refine step_append_lies _ (by rfl) (.tmp 31) (.tmp 39) 39 (by rfl) w.heap.size 5 i0 _ 1 1 Tryd.underlying39 hi hz0 hz1 hz2 rfl (by decide) _ d.length (nums .u8 d) (by rfl) (HO2.out.alloc _) ⟨w2.heap.size, 0, none⟩ 3 3 (nums .u8 (eq3 a)) (by rfl) rfl (HEQ.out w2) (nums_one _) (by decide) (by unfold maxLen; omega) (by omega) (by simp; omega) _ rfl ?_
        intro g cap w4 hown4 hgrow4 hat4 hlt4
        refine hK.out _ _ ?_
        clear hK K
        refine norm_ (a' := ?_) ?_ ?_
        rotate_left
        · show Act.put _ (some 40) _ = _
          simp only [Act.put, List.setIfInBounds_toArray, List.set_cons_zero, List.set_cons_succ, i64_w, i32_w]
          rfl
        refine pure_ (i := 10) (N := some 3) (v := ?_) (a' := ?_) #[true, true, true, true, true, true, true, true, true, true, true] rfl rfl (by kernel_rfl) (fun _ _ _ h => h) (Or.inl ⟨by rfl, ?_⟩) ?_ ?_
        rotate_left
        · intro w'
          go_simp
          with_reducible rfl
        rotate_left
        · simp only [Act.put, List.setIfInBounds_toArray, List.set_cons_zero, List.set_cons_succ, i64_w, i32_w]
          rfl
        refine done_ (by kernel_rfl) ?_
        have hB4 : Below w.heap.size w w4 := (HB2.out.alloc hsz2 _).grown hgrow4 (by have := hgrow4.size; simp at this; have := hsz2; simp; omega) (fun k hk => own_base HO2.out k hk)
        rw [← Code.nums_append] at hown4
        have HO4 := Lib.hid hown4
        have HB4 := Lib.hid hB4
        clear hown4 hgrow4 hat4 hlt4 hB4 q2 z0 z1 q0 p1 q1 q00 q11 hHeld HO2 HB2
        go_wp2
        go_roundw
        case rel => exact ⟨k + 1, d ++ eq3 a, _, by omega, by rw [HJ.out]; go_num, rfl, by rw [eqV_more l k a HA.out, HD.out], by rw [List.length_append]; exact HO4.out, HB4.out⟩
        case measure => simp [intOf]; omega
      · obtain rfl : k = l.length := by omega
        obtain ⟨A9, c9, rfl, _, hC9⟩ := own_C rfl HO.out
        have q9 := str_of wr (c := c9) hC9
        have hfin : eqV l = d := by rw [← HD.out, List.take_of_length_le (by omega)]
        have HF := Lib.hid hfin
        have hnl : ¬ j < S.size := by omega
        clear hC9 hfin hj
        go_wp2
        go_ret
        exact ⟨by rw [HF.out]; rfl, HB.out⟩

theorem quoted_calls (n : Nat) (w : World) (hr1 : n < 1114112) (hT : Octet.Laid w) :
    Calls Tryd.prog 55 #[.int .i32 (n : Int)] w fun e w' => e = .returned (.string (qV n)) ∧ Below w.heap.size w w' := by
  by_cases h : n = 32 ∨ n < 128 ∧ isQ n = true
  · exact plain_calls n w h hT
  · exact digits_calls n w (fun e => h (Or.inl e)) (fun e => h (Or.inr e)) hr1 hT
end Go.Proofs.YtcnhnpkbklakoaaDoor.Word
