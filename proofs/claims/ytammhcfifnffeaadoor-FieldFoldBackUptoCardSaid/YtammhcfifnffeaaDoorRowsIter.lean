/- field.rows: the rows of a text, one by one. -/
import Derived.Test.YtammhcfifnffeaaDoorRangeBox
import Derived.Test.YtammhcfifnffeaaDoorShelf
import Derived.Test.YtammhcfifnffeaaDoorWWords
import Derived.Lib.Hide
namespace Go.Proofs.YtammhcfifnffeaaDoor.RowsIter
open Go.RowKit Go.Shelf Go.Proofs.YtammhcfifnffeaaDoor.RangeBox Go.Proofs.YtammhcfifnffeaaDoorW.PrintWords
attribute [local go_sem] Oper.semAt_some
set_option linter.unusedVariables false
set_option linter.unusedSimpArgs false

/-- the rows of a text: what stands between its line ends -/
def rowsL : List UInt8 → List (List UInt8)
  | [] => [[]]
  | [c] => [[c]]
  | c :: d :: l => if c = 13 ∧ d = 10 then [] :: rowsL l else match rowsL (d :: l) with
    | h :: r => (c :: h) :: r
    | [] => [[c]]
theorem rowsL_ne (l : List UInt8) : rowsL l ≠ [] := by
  match l with
  | [] => simp [rowsL]
  | [c] => simp [rowsL]
  | c :: d :: l =>
    unfold rowsL
    split
    · simp
    · split <;> simp
theorem index_crlf_nil : Lib.index [] [13, 10] = -1 := rfl
theorem index_cons (c d : UInt8) (l : List UInt8) : Lib.index (c :: d :: l) [13, 10] = if c = 13 ∧ d = 10 then 0 else if Lib.index (d :: l) [13, 10] = -1 then -1 else Lib.index (d :: l) [13, 10] + 1 := by
  conv => lhs; unfold Lib.index
  by_cases h : c = 13 ∧ d = 10
  · obtain ⟨rfl, rfl⟩ := h
    simp [List.isPrefixOf]
  · rw [if_neg h]
    have : ([13, 10] : List UInt8).isPrefixOf (c :: d :: l) = false := by
      simp only [List.isPrefixOf, Bool.and_true, Bool.and_eq_false_iff, beq_eq_false_iff_ne, ne_eq]
      by_cases h1 : c = 13
      · right; intro h2; exact h ⟨h1, h2.symm⟩
      · left; intro h2; exact h1 h2.symm
    rw [this]
    simp
/-- one cut: the first row, and what stands behind it -/
theorem cut_rows : ∀ l : List UInt8, rowsL l = (Lib.cut l [13, 10]).1 :: (if (Lib.cut l [13, 10]).2.2 = true then rowsL (Lib.cut l [13, 10]).2.1 else [])
  | [] => by decide
  | [c] => by
    have h : Lib.index [c] [13, 10] = -1 := by
      unfold Lib.index
      simp [List.isPrefixOf, Lib.index]
    simp [Lib.cut, h, rowsL]
  | c :: d :: l => by
    have ih := cut_rows (d :: l)
    unfold Lib.cut
    rw [index_cons]
    by_cases h : c = 13 ∧ d = 10
    · obtain ⟨rfl, rfl⟩ := h
      simp [rowsL]
    · rw [if_neg h]
      have hge := Lib.index_ge (d :: l) [13, 10]
      unfold Lib.cut at ih
      have hr : rowsL (c :: d :: l) = (match rowsL (d :: l) with | h :: r => (c :: h) :: r | [] => [[c]]) := by
        conv => lhs; unfold rowsL
        rw [if_neg h]
      rw [hr]
      clear hr
      by_cases h2 : Lib.index (d :: l) [13, 10] = -1
      · rw [h2] at ih ⊢
        simp only [show ¬ (0 : Int) ≤ -1 by omega, if_false, if_true] at ih ⊢
        rw [ih]
      · rw [if_neg h2]
        obtain ⟨i, hi⟩ : ∃ i : Nat, Lib.index (d :: l) [13, 10] = i := ⟨(Lib.index (d :: l) [13, 10]).toNat, by omega⟩
        rw [hi] at ih ⊢
        simp only [show (0 : Int) ≤ (i : Int) by omega, show (0 : Int) ≤ (i : Int) + 1 by omega, if_true] at ih ⊢
        rw [ih]
        have e : ((i : Int) + 1).toNat = i + 1 := by omega
        have e2 : (i : Int).toNat = i := by omega
        simp only [e, e2, List.take_succ_cons, List.drop_succ_cons, List.length_cons, List.length_nil]

theorem cut_size (l : List UInt8) : (Lib.cut l [13, 10]).2.1.length ≤ l.length ∧ ((Lib.cut l [13, 10]).2.2 = true → (Lib.cut l [13, 10]).2.1.length + 2 ≤ l.length) := by
  have h := Lib.index_room l [13, 10]
  unfold Lib.cut
  split
  · rename_i h0
    have := h h0
    simp only [List.length_cons, List.length_nil] at this
    simp only [List.length_drop, List.length_cons, List.length_nil, forall_const]
    omega
  · simp
theorem grown_set (w : World) (n B : Nat) (u : Value) : w.grownBy ((w.drewN n).setCell ⟨B, 0, none⟩ u) (some B) :=
  ⟨rfl, rfl, rfl, by simp [World.setCell], fun k hk hne => by
    rw [Below.heap_setCell _ ⟨B, 0, none⟩ u k (by rintro rfl; exact hne rfl)]
    rfl⟩

def boxed (W : World) (B : Nat) (v : Value) (t : Nat) : Prop := W.heap[B]? = some (.cells #[v] t (0, 0))
/-- how many bytes are still to come -/
def left (B : Nat) (more : Value) (W : World) : Nat :=
  match more with
  | .bool true => match W.heap[B]? with
    | some (.cells cs _ _) => match cs[0]? with
      | some (Value.string r) => 1 + r.size
      | _ => 1
    | _ => 1
  | _ => 0
theorem left_true {B : Nat} {W : World} {r : ByteArray} (h : boxed W B (.string r) 9) : left B (.bool true) W = 1 + r.size := by
  unfold boxed at h
  simp [left, h]
theorem left_false {B : Nat} {W : World} : left B (.bool false) W = 0 := rfl

set_option maxHeartbeats 1000000 in
set_option maxRecDepth 100000 in
theorem rows_gives (n : Nat) (hn : 1 ≤ n) (s : ByteArray) (m : Int) (B : Nat) (w : World) (hs : s.size < 4294967281) (hB : boxed w B (.string s) 9) :
    Gives Fence.wide n Tryd.prog 51 #[.pointer (some ⟨B, 0, none⟩)] (fun x : List UInt8 => #[.string ⟨x.toArray⟩]) B (fun W => W.cell? ⟨0, 0, none⟩ = some (.int .i64 m)) (rowsL s.data.toList) w := by
  intro l J Jx W hg hJ hJx hInv hY h0
  have hB0 : boxed W B (.string s) 9 := blk_grown hB hg (by simp)
  refine callsIn_of_wp Tryd.func51 rfl trivial ?_ rfl
  simp only [Tryd.ntmps51, List.size_toArray, List.length_cons, List.length_nil, Nat.reduceAdd, Nat.reduceSub, Array.replicate_succ, Array.replicate_zero, List.push_toArray, List.append_toArray, List.nil_append, List.cons_append]
  gi_wp2
  gi_loopw [3, 4] (fun more row wr => ∃ (b : Bool) (pre : List (List UInt8)) (rest : ByteArray), more = .bool b ∧ boxed wr B (.string rest) 9 ∧ rest.size ≤ s.size ∧ J pre wr ∧ rowsL s.data.toList = pre ++ (if b = true then rowsL rest.data.toList else [])) (fun more _ wr => left B more wr)
  case atStart => exact ⟨true, [], s, rfl, hB0, Nat.le_refl _, h0, by simp⟩
  case round =>
    obtain ⟨b, pre, rest, rfl, hBr, hle, hJr, hrows⟩ := hrel
    cases b with
    | false =>
      gi_wp2
      go_end0
      simp only [Bool.false_eq_true, if_false, List.append_nil] at hrows
      exact ⟨⟨_, rfl⟩, .inl (by rw [hrows]; exact hJr)⟩
    | true =>
      have hm0 := hInv _ _ hJr
      have hcell : wr.cell? ⟨B, 0, none⟩ = some (.string rest) := blk_cell hBr 0
      have hfro : wr.frozen? ⟨B, 0, none⟩ = false := blk_frozen hBr 0
      have hcut := Tryd.strings_Cut rest ⟨#[13, 10]⟩ m wr (by omega) hm0
      have hrow := cut_rows rest.data.toList
      have hsz := cut_size rest.data.toList
      obtain ⟨row, aft, fnd, hE⟩ : ∃ row aft fnd, Lib.cut rest.data.toList [13, 10] = (row, aft, fnd) := ⟨_, _, _, rfl⟩
      rw [hE] at hcut hrow hsz
      simp only at hcut hrow hsz
      simp only [if_true] at hrows
      rw [hrow] at hrows
      have HC := Lib.hid (callsIn_wide (n := n - 1).2 hcut)
      have HJ := Lib.hid hJr
      have HR := Lib.hid hrows
      have HB := Lib.hid hBr
      have HS := Lib.hid hsz
      clear hcut hm0 hJr hrows hBr hrow hE hsz
      gi_wp2_with (refine ⟨trivial, ?_⟩; gi_at_call 52; refine HC.out.mono ?_; rintro e w' ⟨rfl, ⟨nd, rfl⟩⟩)
      have hB2 : boxed ((wr.drewN nd).setCell ⟨B, 0, none⟩ (.string ⟨aft.toArray⟩)) B (.string ⟨aft.toArray⟩) 9 := by
        have := blk_set (blk_drewN HB.out nd) 0 (.string ⟨aft.toArray⟩)
        simpa [boxed] using this
      have hJ2 : J pre ((wr.drewN nd).setCell ⟨B, 0, none⟩ (.string ⟨aft.toArray⟩)) := hJ _ _ _ HJ.out (grown_set wr nd B _)
      obtain ⟨fn, tmps, assign, body, hy, hR⟩ := hY pre row _ hJ2 (by rw [HR.out]; exact ⟨if fnd = true then rowsL aft else [], by simp⟩)
      have HB2 := Lib.hid hB2
      clear hB2 hJ2
      rw [hy]
      clear hy
      gi_wp2
      refine hR.mono ?_
      rintro e W3 ⟨h3, hB3⟩
      have HB3 : Hid (boxed W3 B (.string ⟨aft.toArray⟩) 9) := Lib.hid (hB3.trans HB2.out)
      rcases h3 with ⟨rfl, hJ3⟩ | ⟨rfl, hJ3⟩
      · clear hB3
        gi_wp2
        go_roundw
        case rel =>
          refine ⟨fnd, pre ++ [row], ⟨aft.toArray⟩, rfl, HB3.out, ?_, hJ3, ?_⟩
          · have := HS.out.1
            have e : (⟨aft.toArray⟩ : ByteArray).size = aft.length := by simp [ByteArray.size]
            rw [data_length] at this
            omega
          · rw [HR.out]; simp
        case measure =>
          show left B (.bool fnd) W3 < left B (.bool true) wr
          rw [left_true HB.out]
          cases fnd with
          | false => rw [left_false]; omega
          | true =>
            rw [left_true HB3.out]
            have := HS.out.2 rfl
            have e : (⟨aft.toArray⟩ : ByteArray).size = aft.length := by simp [ByteArray.size]
            rw [data_length] at this
            omega
      · clear hB3
        gi_wp2
        refine bodyPost_ret (results_none rfl _ _ _) rfl ?_
        exact ⟨⟨_, rfl⟩, .inr ⟨pre ++ [row], by rw [HR.out]; exact ⟨if fnd = true then rowsL aft else [], by simp⟩, hJ3⟩⟩
end Go.Proofs.YtammhcfifnffeaaDoor.RowsIter
