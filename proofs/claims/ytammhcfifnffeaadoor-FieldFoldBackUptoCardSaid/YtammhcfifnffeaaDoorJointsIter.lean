/- field.joints: the places at which a text may be folded, one by one. -/
import Derived.Test.YtammhcfifnffeaaDoorCheckWalk
namespace Go.Proofs.YtammhcfifnffeaaDoor.JointsIter
open Go.RowKit Go.Shelf Go.Proofs.YtammhcfifnffeaaDoor.RangeBox Go.Proofs.YtammhcfifnffeaaDoor.RowsIter Go.Proofs.YtammhcfifnffeaaDoorW.PrintWords Go.Proofs.YtammhcfifnffeaaDoor.PFieldPrints Go.Proofs.YtammhcfifnffeaaDoor.AnyEnd Go.Proofs.YtammhcfifnffeaaDoor.CheckWalk
attribute [local go_sem] Oper.semAt_some
set_option linter.unusedVariables false
set_option linter.unusedSimpArgs false

def isBlank (c : UInt8) : Bool := c == 32 || c == 9
/-- how many bytes stand ahead of the blanks at the end -/
def words (s : List UInt8) : Nat := (Lib.trimRightS s [32, 9]).length
def jointAt (s : List UInt8) (i : Nat) : Bool := isBlank (s.getD i 0) && !isBlank (s.getD (i - 1) 0)
/-- the joints below n -/
def jointsTo (s : List UInt8) (n : Nat) : List Nat := (List.range n).filter fun i => decide (1 ≤ i) && jointAt s i
def jointsL (s : List UInt8) : List Nat := jointsTo s (words s)
theorem jointsTo_succ (s : List UInt8) (n : Nat) : jointsTo s (n + 1) = jointsTo s n ++ (if 1 ≤ n ∧ jointAt s n = true then [n] else []) := by
  unfold jointsTo
  rw [List.range_succ, List.filter_append]
  congr 1
  by_cases h : 1 ≤ n ∧ jointAt s n = true
  · rw [if_pos h]
    simp [h.1, h.2]
  · rw [if_neg h]
    simp only [List.filter_cons, List.filter_nil]
    rw [if_neg (by simpa using h)]
theorem jointsTo_zero (s : List UInt8) : jointsTo s 0 = [] := rfl
theorem jointsTo_one (s : List UInt8) : jointsTo s 1 = [] := by rw [jointsTo_succ, jointsTo_zero, if_neg (by omega)]; rfl
theorem jointsTo_prefix (s : List UInt8) {m n : Nat} (h : m ≤ n) : jointsTo s m <+: jointsTo s n := by
  induction n with
  | zero =>
    obtain rfl : m = 0 := by omega
    exact List.prefix_refl _
  | succ n ih =>
    rcases Nat.lt_or_ge n m with h' | h'
    · obtain rfl : m = n + 1 := by omega
      exact List.prefix_refl _
    · rw [jointsTo_succ]
      exact (ih h').trans (List.prefix_append _ _)
theorem words_le (s : List UInt8) : words s ≤ s.length := by
  unfold words Lib.trimRightS
  rw [List.length_reverse]
  have := (List.dropWhile_suffix (l := s.reverse) (p := fun x => ([32, 9] : List UInt8).contains x)).length_le
  simpa using this
theorem blank_val (c : UInt8) : field_blank.f (c.toNat : Int) = some (isBlank c) := by
  cases h : isBlank c
  · exact blank_no (xs := []) h
  · exact blank_yes (xs := []) h
theorem getD_at (s : ByteArray) (i : Nat) (h : i < s.size) : s.data.toList.getD i 0 = s[i]'h := by
  have := Lib.data_getElem? s i h
  rw [List.getD_eq_getElem?_getD, this]
  rfl

theorem joints_calls (s : ByteArray) (w : World) : Calls Tryd.prog 42 #[.string s] w fun e w' => e = .returned (.func (.func 55) #[] #[.pointer (some ⟨w.heap.size, 0, none⟩)]) ∧ w' = w.alloc (.cells #[.string s] 9) := by
  go_enter Tryd.func42, Tryd.ntmps42
  go_wp2
  go_ret
  exact ⟨rfl, rfl⟩

set_option maxHeartbeats 2000000 in
set_option maxRecDepth 100000 in
theorem joints_gives (n : Nat) (hn : 1 ≤ n) (s : ByteArray) (B : Nat) (w : World) (hs : s.size < 4294967281) (hB : boxed w B (.string s) 9) :
    Gives Fence.wide n Tryd.prog 55 #[.pointer (some ⟨B, 0, none⟩)] (fun x : Nat => #[.int .i64 x]) B (fun _ => True) (jointsL s.data.toList) w := by
  intro l J Jx W hg hJ hJx hInv hY h0
  have hB0 : boxed W B (.string s) 9 := blk_grown hB hg (by simp)
  have hT := Any.strings_TrimRight_laid Tryd.lays162 (by kernel_rfl) s ⟨#[32, 9]⟩ W (by omega) (by decide) blank_low
  have hwl : ((⟨(Lib.trimRightS s.data.toList [32, 9]).toArray⟩ : ByteArray).size) = words s.data.toList := by simp [ByteArray.size, words]
  have hwle := words_le s.data.toList
  rw [data_length] at hwle
  have HT := Lib.hid (callsIn_wide (n := n - 1).2 hT)
  have HB0 := Lib.hid hB0
  have hcell0 : W.cell? ⟨B, 0, none⟩ = some (.string s) := blk_cell hB0 0
  clear hT hB0
  refine callsIn_of_wp Tryd.func55 rfl trivial ?_ rfl
  simp only [Tryd.ntmps55, List.size_toArray, List.length_cons, List.length_nil, Nat.reduceAdd, Nat.reduceSub, Array.replicate_succ, Array.replicate_zero, List.push_toArray, List.append_toArray, List.nil_append, List.cons_append]
  gi_wp2_with (refine ⟨trivial, ?_⟩; gi_at_call 56; refine HT.out.mono ?_; rintro e w' ⟨rfl, hw⟩)
  have hB1 : boxed w' B (.string s) 9 := (hw.block _ (Array.getElem?_eq_some_iff.1 HB0.out).1).trans HB0.out
  have hJ1 : J (jointsTo s.data.toList 1) w' := by rw [jointsTo_one]; exact hJ _ _ _ h0 (grown_of_below hw _)
  clear hcell0 h0 HT HB0 hw hB hg
  generalize hwn : words s.data.toList = nw at *
  gi_loopw [4] (fun v wr => ∃ i : Nat, 1 ≤ i ∧ i ≤ max 1 nw ∧ v = .int .i64 i ∧ boxed wr B (.string s) 9 ∧ J (jointsTo s.data.toList i) wr) (fun v _ => max 1 nw - (intOf v).toNat)
  case atStart => exact ⟨1, by omega, by omega, rfl, hB1, hJ1⟩
  case round =>
    obtain ⟨i, h1, hi, rfl, hBr, hJr⟩ := hrel
    have hcell : wr.cell? ⟨B, 0, none⟩ = some (.string s) := blk_cell hBr 0
    have HBr := Lib.hid hBr
    have HJr := Lib.hid hJr
    clear hBr hJr hB1 hJ1
    by_cases hlt : i < nw
    · obtain ⟨c, hc⟩ : ∃ c : UInt8, s[i]'(by omega) = c := ⟨_, rfl⟩
      obtain ⟨q, hq⟩ : ∃ q : UInt8, s[i - 1]'(by omega) = q := ⟨_, rfl⟩
      have hj : jointAt s.data.toList i = (isBlank c && !isBlank q) := by
        unfold jointAt
        rw [getD_at s i (by omega), getD_at s (i - 1) (by omega), hc, hq]
      have HJA := Lib.hid hj
      have HC1 := Lib.hid (fun W => callsIn_wide (n := n - 1).2 (field_blank.calls (c.toNat : Int) (isBlank c) W (blank_val c)))
      have HC2 := Lib.hid (fun W => callsIn_wide (n := n - 1).2 (field_blank.calls (q.toNat : Int) (isBlank q) W (blank_val q)))
      have hi0 : (0 : Int) ≤ (i : Int) - 1 := by omega
      have hi1 : ((i : Int) - 1).toNat = i - 1 := by omega
      have hi2 : (i : Int) - 1 < (s.size : Int) := by omega
      clear hj
      have skip : ∀ nd, jointAt s.data.toList i = false → ∃ i2 : Nat, 1 ≤ i2 ∧ i2 ≤ max 1 nw ∧ Value.int .i64 ((i : Int) + 1) = .int .i64 i2 ∧ boxed (wr.drewN nd) B (.string s) 9 ∧ J (jointsTo s.data.toList i2) (wr.drewN nd) := by
        intro nd hF
        refine ⟨i + 1, by omega, by omega, rfl, blk_drewN HBr.out nd, ?_⟩
        rw [jointsTo_succ, if_neg (by rw [hF]; simp), List.append_nil]
        exact hJ _ _ _ HJr.out (grown_of_below (pw_below_drewN (Below.refl _ _) nd) _)
      have SK := Lib.hid skip
      clear skip
      cases hb1 : isBlank c
      · have hF : jointAt s.data.toList i = false := by rw [HJA.out, hb1]; rfl
        gi_wp2_with (first | (refine ⟨trivial, ?_⟩; gi_at_call 34; refine (HC1.out _).mono ?_; rintro e w1 ⟨rfl, ⟨⟨n1, rfl⟩⟩⟩; rw [hb1]) | (show Fence.wide.fn 34 ∧ _; refine ⟨trivial, ?_⟩))
        all_goals (refine ⟨(fun f hf => by cases hf), ?_⟩; gi_wp2)
        all_goals exact ⟨SK.out _ hF, by simp [intOf]; omega⟩
      · cases hb2 : isBlank q
        · have hTr : jointAt s.data.toList i = true := by rw [HJA.out, hb1, hb2]; rfl
          have hpre : jointsTo s.data.toList i ++ [i] <+: jointsL s.data.toList := by
            have h := jointsTo_prefix s.data.toList (m := i + 1) (n := nw) (by omega)
            rw [jointsTo_succ, if_pos ⟨h1, hTr⟩] at h
            unfold jointsL
            rw [hwn]
            exact h
          have HPRE := Lib.hid hpre
          have HTR := Lib.hid hTr
          clear hpre hTr
          gi_wp2_with (first | (refine ⟨trivial, ?_⟩; gi_at_call 34; refine (HC1.out _).mono ?_; rintro e w1 ⟨rfl, ⟨⟨n1, rfl⟩⟩⟩; rw [hb1]) | (refine ⟨trivial, ?_⟩; gi_at_call 34; refine (HC2.out _).mono ?_; rintro e w2 ⟨rfl, ⟨⟨n2, rfl⟩⟩⟩; rw [hb2]))
          have hJ2 : J (jointsTo s.data.toList i) (wr.drewN (n1 + n2)) := hJ _ _ _ HJr.out (grown_of_below (pw_below_drewN (Below.refl _ _) (n1 + n2)) _)
          obtain ⟨fn, tmps, assign, body, hy, hR⟩ := hY (jointsTo s.data.toList i) i _ hJ2 HPRE.out
          have HBd := Lib.hid (blk_drewN HBr.out (n1 + n2))
          clear hJ2
          rw [hy]
          clear hy
          gi_wp2
          refine hR.mono ?_
          rintro e W3 ⟨h3, hB3⟩
          have HB3 : Hid (boxed W3 B (.string s) 9) := Lib.hid (hB3.trans HBd.out)
          rcases h3 with ⟨rfl, hJ3⟩ | ⟨rfl, hJ3⟩
          · clear hB3
            gi_wp2
            refine ⟨⟨i + 1, by omega, by omega, rfl, HB3.out, ?_⟩, by simp [intOf]; omega⟩
            rw [jointsTo_succ, if_pos ⟨h1, HTR.out⟩]
            exact hJ3
          · clear hB3
            gi_wp2
            exact bodyPost_ret (results_none rfl _ _ _) rfl ⟨⟨_, rfl⟩, .inr ⟨_, HPRE.out, hJ3⟩⟩
        · have hF : jointAt s.data.toList i = false := by rw [HJA.out, hb1, hb2]; rfl
          gi_wp2_with (first | (refine ⟨trivial, ?_⟩; gi_at_call 34; refine (HC1.out _).mono ?_; rintro e w1 ⟨rfl, ⟨⟨n1, rfl⟩⟩⟩; rw [hb1]) | (refine ⟨trivial, ?_⟩; gi_at_call 34; refine (HC2.out _).mono ?_; rintro e w2 ⟨rfl, ⟨⟨n2, rfl⟩⟩⟩; rw [hb2]))
          all_goals (refine ⟨(fun f hf => by cases hf), ?_⟩; gi_wp2)
          all_goals exact ⟨SK.out _ hF, by simp [intOf]; omega⟩
    · have hfin : jointsTo s.data.toList i = jointsL s.data.toList := by
        unfold jointsL
        rw [hwn]
        rcases Nat.lt_or_ge nw 1 with h | h
        · obtain rfl : nw = 0 := by omega
          obtain rfl : i = 1 := by omega
          rw [jointsTo_one]
          rfl
        · obtain rfl : i = nw := by omega
          rfl
      have HJ9 := Lib.hid (hfin ▸ HJr.out)
      clear hfin
      gi_wp2
      go_end0
      exact ⟨⟨_, rfl⟩, .inl HJ9.out⟩
end Go.Proofs.YtammhcfifnffeaaDoor.JointsIter
