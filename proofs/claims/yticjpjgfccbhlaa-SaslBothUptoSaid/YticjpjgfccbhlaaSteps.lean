/- sasl: the steps: first, what they ask, login and word: by contract. (Upper: turned from wip/wordsD.) -/
import Derived.Test.YticjpjgfccbhlaaUsers
namespace Go.Proofs.Yticjpjgfccbhlaa.Sasl
open Go.RowKit Go.Proofs.YticjpjgfccbhlaaW.PrintWords Go.Proofs.YticjpjgfccbhlaaW.PrintLast Go.Proofs.YticjpjgfccbhlaaW.PrintMore Go.Proofs.Yticjpjgfccbhlaa.PSaslBoth
attribute [local go_sem] max2_int min2_int max_two min_two max_three min_three max_four min_four
set_option linter.unusedVariables false
set_option linter.unusedSimpArgs false
theorem bt_byte (s : ByteArray) (i : Nat) (h : i < s.size) : bt s (i : Int) = ((s[i]'h).toNat : Int) := by
  unfold bt
  rw [dif_pos (by simpa using h)]
  rfl
def upB (x : UInt8) : UInt8 := if 97 ≤ x.toNat ∧ x.toNat ≤ 122 then UInt8.ofNat (x.toNat - 32) else x
theorem upper_f (x : UInt8) : octet_upper.f (x.toNat : Int) = some ((upB x).toNat : Int) := by
  unfold octet_upper.f upB
  have := x.toNat_lt
  by_cases h1 : 97 ≤ x.toNat
  · by_cases h2 : x.toNat ≤ 122
    · rw [if_pos (by omega), if_pos (by omega), if_pos ⟨h1, h2⟩, UInt8.toNat_ofNat']
      congr 1
      omega
    · rw [if_pos (by omega), if_neg (by omega), if_neg (by omega)]
  · rw [if_neg (by omega), if_neg (by omega)]
def upV (s : ByteArray) : ByteArray := ⟨(s.data.toList.map upB).toArray⟩
theorem upper_l0 (s : ByteArray) (hs : s.size ≤ 9223372036854775806) : ∀ (d i : Nat), i ≤ s.size → s.size - i ≤ d →
    octet_Upper.l0 (d + 1) s (((s.data.toList.take i).map fun x => ((upB x).toNat : Int)) ++ List.replicate (s.size - i) 0) (s.size : Int) (i : Int) = some (upV s)
  | d, i, hi, hd => by
    unfold octet_Upper.l0
    by_cases h : i < s.size
    · rw [if_pos (by omega), if_pos (by omega), if_pos (by omega), bt_byte s i h, upper_f]
      simp only [Option.bind_some]
      have hl : (((s.data.toList.take i).map fun x => ((upB x).toNat : Int))).length = i := by
        rw [List.length_map, List.length_take, data_length]
        omega
      rw [if_pos (by rw [List.length_append, hl, List.length_replicate]; omega)]
      cases d with
      | zero => omega
      | succ d =>
        rw [show wrap64 ((i : Int) + 1) = ((i + 1 : Nat) : Int) by unfold wrap64; omega]
        rw [← upper_l0 s hs d (i + 1) (by omega) (by omega)]
        congr 1
        rw [Int.toNat_natCast, List.set_append_right _ _ (by omega), hl, Nat.sub_self]
        rw [show s.size - i = (s.size - (i + 1)) + 1 by omega, List.replicate_succ, List.set_cons_zero]
        rw [List.take_add_one, show s.data.toList[i]? = some (s[i]'h) from Lib.data_getElem? s i h]
        simp
    · obtain rfl : i = s.size := by omega
      rw [if_neg (by omega), List.take_of_length_le (by rw [data_length]; exact Nat.le_refl _)]
      congr 1
      apply ByteArray.ext
      apply Array.ext'
      simp [strOfNums, upV]
theorem Upper_calls (s : ByteArray) (w : World) (hs : s.size ≤ 3000000000) :
    Calls Try.prog 23 #[.string s] w fun e w' => e = .returned (.string (upV s)) ∧ Below w.heap.size w w' := by
  refine octet_Upper.calls (s.size + 1) s (upV s) w ?_
  unfold octet_Upper.f
  rw [if_pos (by omega), if_pos (by omega)]
  have := upper_l0 s (by omega) s.size 0 (by omega) (by omega)
  simpa using this

/-- what a host does next -/
inductive Stp where
  | plain | login | word (n : ByteArray) | cram (s : ByteArray)
def Stp.val : Stp → Value
  | .plain => .iface 85 (.agg #[])
  | .login => .iface 86 (.agg #[])
  | .word n => .iface 170 (.agg #[.string n])
  | .cram s => .iface 64 (.agg #[.string s])
def stpO : Option Stp → Value
  | none => .nilIface
  | some s => s.val
def sPLAIN : ByteArray := ⟨#[80, 76, 65, 73, 78]⟩
def sLOGIN : ByteArray := ⟨#[76, 79, 71, 73, 78]⟩
def sCRAM : ByteArray := ⟨#[67, 82, 65, 77, 45, 77, 68, 53]⟩
def firstV (m stamp : ByteArray) : Option Stp := if upV m = sPLAIN then some .plain else if upV m = sLOGIN then some .login else if upV m = sCRAM then some (.cram stamp) else none
theorem eq_toList (a b : ByteArray) : (a.toList == b.toList) = decide (a = b) := by
  rw [ByteArray.toList_eq, ByteArray.toList_eq]
  by_cases h : a = b
  · simp [h]
  · have h2 : ¬ a.data = b.data := fun hh => h (by cases a; cases b; simpa using hh)
    simp [h, h2]
theorem ne_list (u : ByteArray) (l : List UInt8) (h : u ≠ ⟨l.toArray⟩) : (u.toList == l) = false := by
  have e := eq_toList u ⟨l.toArray⟩
  rw [ByteArray.toList_eq ⟨l.toArray⟩] at e
  exact e.trans (decide_eq_false h)
set_option maxHeartbeats 2000000 in
set_option maxRecDepth 100000 in
theorem first_calls (m stamp : ByteArray) (w : World) (hm : m.size ≤ 3000000000) :
    Calls Try.prog 25 #[.string m, .string stamp] w fun e w' => e = .returned (stpO (firstV m stamp)) ∧ Below w.heap.size w w' := by
  have HU := Lib.hid (Upper_calls m w hm)
  obtain ⟨u, hu⟩ : ∃ u, u = upV m := ⟨_, rfl⟩
  unfold firstV
  rw [← hu] at HU ⊢
  clear hu
  by_cases h1 : u = sPLAIN
  · rw [if_pos h1]
    subst h1
    unfold sPLAIN at HU
    go_enter Try.func25, Try.ntmps25
    go_wp2_with (go_at_call 23; refine HU.out.mono ?_; rintro e w1 ⟨rfl, hb1⟩)
    go_ret
    exact ⟨rfl, hb1⟩
  · have q1 : (u.toList == [80, 76, 65, 73, 78]) = false := ne_list u [80, 76, 65, 73, 78] h1
    rw [if_neg h1]
    by_cases h2 : u = sLOGIN
    · rw [if_pos h2]
      subst h2
      unfold sLOGIN at HU
      clear q1
      go_enter Try.func25, Try.ntmps25
      go_wp2_with (go_at_call 23; refine HU.out.mono ?_; rintro e w1 ⟨rfl, hb1⟩)
      go_ret
      exact ⟨rfl, hb1⟩
    · have q2 : (u.toList == [76, 79, 71, 73, 78]) = false := ne_list u [76, 79, 71, 73, 78] h2
      rw [if_neg h2]
      by_cases h3 : u = sCRAM
      · rw [if_pos h3]
        subst h3
        unfold sCRAM at HU
        clear q1 q2
        go_enter Try.func25, Try.ntmps25
        go_wp2_with (go_at_call 23; refine HU.out.mono ?_; rintro e w1 ⟨rfl, hb1⟩)
        go_ret
        exact ⟨rfl, hb1⟩
      · have q3 : (u.toList == [67, 82, 65, 77, 45, 77, 68, 53]) = false := ne_list u [67, 82, 65, 77, 45, 77, 68, 53] h3
        rw [if_neg h3]
        clear h1 h2 h3
        go_enter Try.func25, Try.ntmps25
        go_wp2_with (go_at_call 23; refine HU.out.mono ?_; rintro e w1 ⟨rfl, hb1⟩)
        go_ret
        exact ⟨rfl, hb1⟩
/-- what a step asks -/
def Stp.ask : Stp → ByteArray
  | .plain => ⟨#[]⟩
  | .login => ⟨#[85, 115, 101, 114, 110, 97, 109, 101, 58]⟩
  | .word _ => ⟨#[80, 97, 115, 115, 119, 111, 114, 100, 58]⟩
  | .cram s => s
set_option maxRecDepth 100000 in
theorem asks_plain (w : World) : Calls Try.prog 116 #[.agg #[]] w fun e w' => e = .returned (.string ⟨#[]⟩) ∧ Below w.heap.size w w' := by
  go_enter Try.func116, Try.ntmps116
  go_wp2
  go_ret
  exact ⟨rfl, (Below.refl _ _).alloc (Nat.le_refl _) _⟩
set_option maxRecDepth 100000 in
theorem asks_login (w : World) : Calls Try.prog 131 #[.agg #[]] w fun e w' => e = .returned (.string ⟨#[85, 115, 101, 114, 110, 97, 109, 101, 58]⟩) ∧ Below w.heap.size w w' := by
  go_enter Try.func131, Try.ntmps131
  go_wp2
  go_ret
  exact ⟨rfl, (Below.refl _ _).alloc (Nat.le_refl _) _⟩
set_option maxRecDepth 100000 in
theorem asks_word (n : ByteArray) (w : World) : Calls Try.prog 136 #[.agg #[.string n]] w fun e w' => e = .returned (.string ⟨#[80, 97, 115, 115, 119, 111, 114, 100, 58]⟩) ∧ Below w.heap.size w w' := by
  go_enter Try.func136, Try.ntmps136
  go_wp2
  go_ret
  exact ⟨rfl, (Below.refl _ _).alloc (Nat.le_refl _) _⟩
set_option maxRecDepth 100000 in
theorem asks_cram (s : ByteArray) (w : World) : Calls Try.prog 96 #[.agg #[.string s]] w fun e w' => e = .returned (.string s) ∧ Below w.heap.size w w' := by
  go_enter Try.func96, Try.ntmps96
  go_wp2
  go_ret
  exact ⟨rfl, (Below.refl _ _).alloc (Nat.le_refl _) _⟩
set_option maxRecDepth 100000 in
theorem take_login (v : Value) (a : ByteArray) (w : World) : Calls Try.prog 132 #[.agg #[], v, .string a] w fun e w' => e = .returned (.tuple #[(Stp.word a).val, .string ⟨#[]⟩, .bool false, .int .i64 0]) ∧ Below w.heap.size w w' := by
  go_enter Try.func132, Try.ntmps132
  go_wp2
  refine bodyPost_ret (results_list (rs := [.tmp 6, .tmp 7, .tmp 8, .tmp 9]) rfl (by simp) (.tmp (.tmp (.tmp (.tmp .nil))))) rfl ?_
  exact ⟨rfl, (Below.refl _ _).alloc (Nat.le_refl _) _⟩
set_option maxHeartbeats 2000000 in
set_option maxRecDepth 100000 in
theorem take_word (nm : ByteArray) (A : Option Addr) (n c : Nat) (us : List S40) (a : ByteArray) (w : World) (hC : Kd.C k40 w A n us) (hn : us.length = n) (hc : n ≤ c) (hn2 : n ≤ 1000000000) :
    Calls Try.prog 137 #[.agg #[.string nm], .slice A n c, .string a] w fun e w' => e = .returned (.tuple #[.nilIface, .string nm, .bool (pairedV us nm a), .int .i64 0]) ∧ Below w.heap.size w w' := by
  obtain ⟨W0, hW0⟩ : ∃ W0, W0 = w.alloc (.cells #[.string nm] 170) := ⟨_, rfl⟩
  have hb0 : Below w.heap.size w W0 := hW0 ▸ (Below.refl _ _).alloc (Nat.le_refl _) _
  have y0 : W0.cell? ⟨w.heap.size, 0, none⟩ = some (.string nm) := by rw [hW0]; exact blk_cell (heap_alloc_new w (.cells #[.string nm] 170)) 0
  have HP := Lib.hid (fun W (hB : Below w.heap.size w W) => paired_calls A n c us nm a W (Kd.C_below hC hB) hn hc hn2)
  have HB0 := Lib.hid hb0
  have HW0 := Lib.hid hW0
  clear hC hb0 hW0
  go_enter Try.func137, Try.ntmps137
  go_wp2_with fail
  rw [← HW0.out]
  refine start_ (n := 11) (S := fun w' => w'.cell? ⟨w.heap.size, 0, none⟩ = some (.string nm)) (ds := []) #[false, false, false, false, false, false, false, false, false, false, false] (by kernel_rfl) rfl rfl (y0) (fun hHeld => ?_)
  generalize hdr : W0.drew = w2 at hHeld ⊢
  have HB2 := Lib.hid (show Below w.heap.size w w2 from hdr ▸ below_drew1 HB0.out)
  clear hdr y0
  refine pure_ (i := 0) (N := some 10) (v := ?_) (a' := ?_) #[true, false, false, false, false, false, false, false, false, false, false] rfl rfl (by kernel_rfl) (fun _ _ _ h => h) (Or.inl ⟨by rfl, ?_⟩) ?_ ?_
  rotate_left
  · intro w'
    go_simp
    with_reducible rfl
  rotate_left
  · simp only [Act.put, List.setIfInBounds_toArray, List.set_cons_zero, List.set_cons_succ, i64_w, i32_w]
    rfl
  refine pure_ (i := 2) (N := some 12) (v := ?_) (a' := ?_) #[true, false, true, false, false, false, false, false, false, false, false] rfl rfl (by kernel_rfl) (fun _ _ _ h => h) (Or.inl ⟨by rfl, ?_⟩) ?_ ?_
  rotate_left
  · intro w'
    go_simp
    with_reducible rfl
  rotate_left
  · simp only [Act.put, List.setIfInBounds_toArray, List.set_cons_zero, List.set_cons_succ, i64_w, i32_w]
    rfl
  refine pure_ (i := 3) (N := some 13) (v := ?_) (a' := ?_) #[true, false, true, true, false, false, false, false, false, false, false] rfl rfl (by kernel_rfl) (fun _ _ _ h => h) (Or.inl ⟨by rfl, ?_⟩) ?_ ?_
  rotate_left
  · intro w'
    go_simp
    with_reducible rfl
  rotate_left
  · simp only [Act.put, List.setIfInBounds_toArray, List.set_cons_zero, List.set_cons_succ, i64_w, i32_w]
    rfl
  refine pure_ (i := 5) (N := some 15) (v := ?_) (a' := ?_) #[true, false, true, true, false, true, false, false, false, false, false] rfl rfl (by kernel_rfl) (fun _ _ _ h => h) (Or.inl ⟨by rfl, ?_⟩) ?_ ?_
  rotate_left
  · intro w'
    go_simp
    with_reducible rfl
  rotate_left
  · simp only [Act.put, List.setIfInBounds_toArray, List.set_cons_zero, List.set_cons_succ, i64_w, i32_w]
    rfl
  refine take_ (i := 1) (N := some 11) (v := ?_) (a' := ?_) #[true, true, true, true, false, true, false, false, false, false, false] rfl rfl (by kernel_rfl) (fun _ _ _ h => h) (Or.inl ⟨by rfl, ?_⟩) hHeld ?_ ?_
  rotate_left
  · intro w' s0
    go_simp
    with_reducible rfl
  rotate_left
  · simp only [Act.put, List.setIfInBounds_toArray, List.set_cons_zero, List.set_cons_succ, i64_w, i32_w]
    rfl
  refine take_ (i := 4) (N := some 14) (v := ?_) (a' := ?_) #[true, true, true, true, true, true, false, false, false, false, false] rfl rfl (by kernel_rfl) (fun _ _ _ h => h) (Or.inl ⟨by rfl, ?_⟩) hHeld ?_ ?_
  rotate_left
  · intro w' s0
    go_simp
    with_reducible rfl
  rotate_left
  · simp only [Act.put, List.setIfInBounds_toArray, List.set_cons_zero, List.set_cons_succ, i64_w, i32_w]
    rfl
  refine one_ (i := 6) (N := some 16) #[true, true, true, true, true, true, true, false, false, false, false] rfl rfl (by kernel_rfl) (by decide) (fun K hK => ?_)
  refine goes_ Try.func119 (by kernel_rfl) rfl #[.slice A n c, .string nm, .string a] (by rfl) rfl rfl (by simp only [List.map_toArray, List.map_cons, List.map_nil]; rfl) ?_
  with_reducible refine (HP.out w2 HB2.out).mono ?_
  rintro e w3 ⟨rfl, hb3⟩
  refine ⟨_, rfl, ?_⟩
  refine hK.out _ _ (((hb3.cell (World.block_lt_of_cell? w2 _ hHeld)).trans hHeld)) (fun hHeld => ?_)
  clear hK K
  refine norm_ (a' := ?_) ?_ ?_
  rotate_left
  · show Act.put _ (some 16) _ = _
    simp only [Act.put, List.setIfInBounds_toArray, List.set_cons_zero, List.set_cons_succ, i64_w, i32_w]
    rfl
  refine pure_ (i := 7) (N := some 6) (v := ?_) (a' := ?_) #[true, true, true, true, true, true, true, true, false, false, false] rfl rfl (by kernel_rfl) (fun _ _ _ h => h) (Or.inl ⟨by rfl, ?_⟩) ?_ ?_
  rotate_left
  · intro w'
    go_simp
    with_reducible rfl
  rotate_left
  · simp only [Act.put, List.setIfInBounds_toArray, List.set_cons_zero, List.set_cons_succ, i64_w, i32_w]
    rfl
  refine pure_ (i := 8) (N := some 7) (v := ?_) (a' := ?_) #[true, true, true, true, true, true, true, true, true, false, false] rfl rfl (by kernel_rfl) (fun _ _ _ h => h) (Or.inl ⟨by rfl, ?_⟩) ?_ ?_
  rotate_left
  · intro w'
    go_simp
    with_reducible rfl
  rotate_left
  · simp only [Act.put, List.setIfInBounds_toArray, List.set_cons_zero, List.set_cons_succ, i64_w, i32_w]
    rfl
  refine pure_ (i := 9) (N := some 8) (v := ?_) (a' := ?_) #[true, true, true, true, true, true, true, true, true, true, false] rfl rfl (by kernel_rfl) (fun _ _ _ h => h) (Or.inl ⟨by rfl, ?_⟩) ?_ ?_
  rotate_left
  · intro w'
    go_simp
    with_reducible rfl
  rotate_left
  · simp only [Act.put, List.setIfInBounds_toArray, List.set_cons_zero, List.set_cons_succ, i64_w, i32_w]
    rfl
  refine pure_ (i := 10) (N := some 9) (v := ?_) (a' := ?_) #[true, true, true, true, true, true, true, true, true, true, true] rfl rfl (by kernel_rfl) (fun _ _ _ h => h) (Or.inl ⟨by rfl, ?_⟩) ?_ ?_
  rotate_left
  · intro w'
    go_simp
    with_reducible rfl
  rotate_left
  · simp only [Act.put, List.setIfInBounds_toArray, List.set_cons_zero, List.set_cons_succ, i64_w, i32_w]
    rfl
  refine done_ (by kernel_rfl) ?_

  go_wp2
  refine bodyPost_ret (results_list (rs := [.tmp 6, .tmp 7, .tmp 8, .tmp 9]) rfl (by simp) (.tmp (.tmp (.tmp (.tmp .nil))))) rfl ?_
  exact ⟨rfl, HB2.out.trans (hb3.mono HB2.out.size)⟩
end Go.Proofs.Yticjpjgfccbhlaa.Sasl
