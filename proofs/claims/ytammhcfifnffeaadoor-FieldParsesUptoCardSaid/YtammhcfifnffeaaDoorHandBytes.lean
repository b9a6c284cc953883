/- The functions lent and kept of the statement FieldParses (bytes with marks in the spare room), by contract. -/
import Derived.Test.YtammhcfifnffeaaDoorHand
import Derived.Test.YtammhcfifnffeaaDoorBytesAny
import Derived.Test.YtammhcfifnffeaaDoorParseWalk
namespace Go.Proofs.YtammhcfifnffeaaDoor.HandBytes
open Go.RowKit Go.Proofs.YtammhcfifnffeaaDoorW.PrintWords Go.Proofs.YtammhcfifnffeaaDoorW.PrintLast Go.Proofs.YtammhcfifnffeaaDoorW.PrintMore Go.Proofs.YtammhcfifnffeaaDoor.PFieldPrints Go.Proofs.YtammhcfifnffeaaDoor.BytesAny Go.Proofs.YtammhcfifnffeaaDoor.Octet Go.Proofs.YtammhcfifnffeaaDoor.Hand Go.Proofs.YtammhcfifnffeaaDoor.ParseWalk
attribute [local go_sem] max2_int min2_int max_two min_two max_three min_three max_four min_four
set_option linter.unusedVariables false
set_option linter.unusedSimpArgs false

def marks (l : List Int) (k : Nat) : List Value := nums .u8 (l ++ List.replicate k 165)
theorem marks_one (l : List Int) : ∀ u ∈ nums .u8 l, u.oneCell' = true := by
  intro u hu
  simp only [nums, List.mem_map] at hu
  obtain ⟨q, _, rfl⟩ := hu
  rfl
theorem marks_more (l : List Int) (k : Nat) : marks l (k + 1) = marks l k ++ [.int .u8 165] := by
  unfold marks nums
  rw [List.replicate_succ', ← List.append_assoc, List.map_append]
  rfl
theorem cells_of_B {w : World} {ad : Addr} {n : Nat} {l : List Int} (h : Kd.C (Kd.int .u8) w (some ad) n l) : ∀ j u, (nums .u8 l)[j]? = some u → w.cell? (ad.add j) = some u := by
  have HR : ReadsInt w .u8 (some ad) n l := Kd.reads_of_C (enc := Value.int .u8) (d := (0 : Int)) (h1 := fun _ => rfl) h
  intro j u hu
  have hj : j < l.length := by
    rcases Nat.lt_or_ge j l.length with h | h
    · exact h
    · simp [nums, List.getElem?_eq_none h] at hu
  have hn : l.length = n := HR.1
  obtain ⟨ad', h', hc⟩ := HR.2.2 (by omega)
  injection h' with h'
  subst h'
  have := hc j (by omega)
  simp [nums, List.getElem?_eq_getElem hj] at hu
  subst hu
  rw [this]
  simp [List.getD_eq_getElem?_getD, List.getElem?_eq_getElem hj]
theorem new_one (W : World) (a : Value) (t : TypeId) : ∀ j u, [a][j]? = some u → (W.alloc (.cells #[a] t)).cell? ((⟨W.heap.size, 0, none⟩ : Addr).add j) = some u := by
  simpa using World.news_of_block (cs := #[a]) (t := t) (fr := (0, 0)) (heap_alloc_new W (.cells #[a] t))

set_option maxHeartbeats 1000000 in
set_option maxRecDepth 100000 in
theorem lent_calls (A : Option Addr) (c n : Nat) (l : List Int) (w : World) (hn : l.length = n) (hr : Kd.C (Kd.int .u8) w A n l) (hc : n ≤ c) (hA : A = none → c = 0) (hl : n ≤ 140737488351232) :
    Calls Tryd.prog 20 #[.slice A n c] w fun e w' => ∃ g, e = .returned (.slice (some ⟨g, 0, none⟩) n (n + 70)) ∧ w'.ownsRow w.heap.size 5 1 (.slice (some ⟨g, 0, none⟩) (n + 70) (n + 70)) (n + 70) (marks l 70) ∧ Below w.heap.size w w' := by
  obtain ⟨i0, hi, hz0, hz1, hz2⟩ := info_parts info5
  have hn0 : A = none → n = 0 ∧ c = 0 := fun e => ⟨by have := hA e; omega, hA e⟩
  have hHR := Lib.hid hr
  clear hr hA
  go_enter Tryd.func20, Tryd.ntmps20
  go_wp2_with (at_make; refine wpList_make_own _ rfl _ _ 24 rfl w.heap.size 5 i0 _ 1 Tryd.underlying24 hi hz0 hz1 _ _ _ (n + 70) rfl rfl (by omega) ?b2 ?b3 (Nat.le_refl _) ?_)
  case b2 => rw [hz2]; omega
  case b3 => unfold maxLen; omega
  intro w0 hown0 hgrow0
  have hC0 : ∀ ad, A = some ad → ∀ j u, (nums .u8 l)[j]? = some u → w0.cell? (ad.add j) = some u := by
    intro ad e
    subst e
    intro j u hu
    have h := cells_of_B hHR.out j u hu
    exact hgrow0.cell h (by simp)
  have hC0' := Lib.hid hC0
  have hn0' := Lib.hid hn0
  clear hC0 hn0
  go_wp2_with (at_builtin; refine wpList_append_fits_any _ rfl (.tmp 8) (.tmp 9) 24 rfl w.heap.size 5 i0 1 Tryd.underlying24 hi hz1 w.heap.size 0 (n + 70) [] rfl hown0 A n c (nums .u8 l) rfl (by simp [nums, hn]) hn0'.out hC0'.out (marks_one l) (by omega) ?_; intro w1 hown1 hgrow1; simp only [Nat.zero_add, List.nil_append] at hown1)
  have hB1 : Below w.heap.size w w1 := ((Below.refl w.heap.size w).grown hgrow0 (Nat.le_refl _) (fun k h => by cases h)).grown hgrow1 (by have := hgrow0.size; omega) (fun k h => by cases h; exact Nat.le_refl _)
  clear hHR hn0' hC0' hown0 hgrow0 hgrow1
  go_loopw [3, 11] (fun v i wr => ∃ k : Nat, k ≤ 70 ∧ i = .int .i64 k ∧ v = .slice (some ⟨w.heap.size, 0, none⟩) (n + k) (n + 70) ∧ wr.ownsRow w.heap.size 5 1 (.slice (some ⟨w.heap.size, 0, none⟩) (n + k) (n + 70)) (n + k) (marks l k) ∧ Below w.heap.size w wr) (fun _ i _ => 70 - (intOf i).toNat)
  case atStart => exact ⟨0, by omega, rfl, rfl, by simpa [marks] using hown1, hB1⟩
  case round =>
    obtain ⟨k, hk, rfl, rfl, hown, hB⟩ := hrel
    by_cases hlt : k < 70
    · go_wp2_with (at_builtin; refine wpList_append_fits _ rfl (.tmp 13) (.tmp 14) 24 rfl w.heap.size 5 i0 1 Tryd.underlying24 hi hz1 w.heap.size (n + k) (n + 70) _ rfl (hown.alloc _) ⟨wr.heap.size, 0, none⟩ 1 1 [.int .u8 165] rfl rfl (new_one _ _ _) (by simp [Value.oneCell']) (by omega) ?_; intro w2 hown2 hgrow2)
      have hB2 : Below w.heap.size w w2 := (hB.alloc hB.size _).grown hgrow2 (by have := hB.size; simp; omega) (fun k h => by cases h; exact Nat.le_refl _)
      rw [← marks_more] at hown2
      clear hgrow2 hown
      go_wp2
      go_roundw
      case rel => exact ⟨k + 1, by omega, by go_num, rfl, hown2, hB2⟩
      case measure => simp [intOf]; omega
    · obtain rfl : k = 70 := by omega
      go_wp2
      go_ret
      exact ⟨w.heap.size, rfl, hown, hB⟩
theorem str_of (W : World) {A : Option Addr} {n c : Nat} {xs : List Int} (h : Kd.C (Kd.int .u8) W A n xs) : (convert 24 9 (.slice A n c)).run Tryd.prog W = .ok (.string (strOfNums xs)) W := Kd.C_string Tryd.underlying24 Tryd.underlying5 Tryd.underlying9 h
theorem C_of_marks {w : World} {b g n cap k : Nat} {l : List Int} (hn : l.length = n) (hs : n ≤ 9223372036854775807) (h : w.ownsRow b 5 1 (.slice (some ⟨g, 0, none⟩) (n + k) cap) (n + k) (marks l k)) : Kd.C (Kd.int .u8) w (some ⟨g, 0, none⟩) n l := by
  refine ⟨hn, hs, fun _ => ⟨_, rfl, fun j p hj => ⟨[.int .u8 p], rfl, rfl, fun i u hu => ?_⟩⟩⟩
  have hj' : j < l.length := (List.getElem?_eq_some_iff.1 hj).1
  have hi : i = 0 := by have := (List.getElem?_eq_some_iff.1 hu).1; simpa using this
  subst hi
  refine h.cells (g := g) rfl _ u ?_
  have e : j * (Kd.int .u8).sz + 0 = j := Nat.mul_one j
  rw [e]
  unfold marks nums
  rw [List.getElem?_map, List.getElem?_append_left hj', hj]
  simpa using hu
theorem mark_cell {w : World} {b g n cap k : Nat} {l : List Int} (hn : l.length = n) (h : w.ownsRow b 5 1 (.slice (some ⟨g, 0, none⟩) (n + k) cap) (n + k) (marks l k)) (j : Nat) (h1 : n ≤ j) (h2 : j < n + k) : w.cell? ⟨g, j, none⟩ = some (.int .u8 165) := by
  have hh := h.cells (g := g) rfl j (.int .u8 165) (by
    unfold marks nums
    rw [List.getElem?_map, List.getElem?_append_right (by omega), List.getElem?_replicate_of_lt (by omega)]
    rfl)
  rw [add_plain] at hh
  simpa using hh
set_option maxHeartbeats 1000000 in
set_option maxRecDepth 100000 in
theorem kept_calls (b g n : Nat) (A1 : Option Addr) (c1 : Nat) (l : List Int) (w : World) (hn : l.length = n) (hl : n ≤ 140737488351232)
    (hown : w.ownsRow b 5 1 (.slice (some ⟨g, 0, none⟩) (n + 70) (n + 70)) (n + 70) (marks l 70))
    (hr1 : Kd.C (Kd.int .u8) w A1 n l) (hc1 : n ≤ c1) :
    Calls Tryd.prog 24 #[.slice (some ⟨g, 0, none⟩) n (n + 70), .slice A1 n c1] w fun e w' => e = .returned (.bool true) ∧ Drawn0 w w' := by
  have q0 := str_of w (c := n + 70) (C_of_marks hn (by omega) hown)
  have q1 := str_of w (c := c1) hr1
  have HM := Lib.hid (mark_cell hn hown)
  clear hown hr1
  go_enter Tryd.func24, Tryd.ntmps24
  go_wp2
  clear q0 q1
  go_loop [6] (fun v => ∃ x : Nat, n ≤ x ∧ x ≤ n + 70 ∧ v = .int .i64 x) (fun v => n + 70 - (intOf v).toNat)
  case atStart => exact ⟨n, by omega, by omega, rfl⟩
  case round =>
    obtain ⟨x, hx0, hx1, rfl⟩ := hrel
    by_cases hlt : x < n + 70
    · have hc := HM.out x hx0 hlt
      go_wp2
      go_round
      case rel => exact ⟨x + 1, by omega, by omega, by go_num⟩
      case measure => simp [intOf]; omega
    · obtain rfl : x = n + 70 := by omega
      go_wp2
      go_ret
      exact ⟨rfl, Drawn0.refl _⟩
end Go.Proofs.YtammhcfifnffeaaDoor.HandBytes
