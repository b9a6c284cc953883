/- posthornref22.read by contract; its Place and readable in plain words. -/
import Derived.Test.YticjpjgfccbhlaaDoorUnbPure
import Derived.Test.YticjpjgfccbhlaaDoorRefA
import Derived.Test.YticjpjgfccbhlaaDoorTalkP
namespace Go.Proofs.YticjpjgfccbhlaaDoor.Sasl
open Go.RowKit Go.Proofs.YticjpjgfccbhlaaDoorW.PrintWords Go.Proofs.YticjpjgfccbhlaaDoorW.PrintLast Go.Proofs.YticjpjgfccbhlaaDoorW.PrintMore Go.Proofs.YticjpjgfccbhlaaDoor.PSaslStale Go.Proofs.YticjpjgfccbhlaaDoor.Hash
open Go.Proofs.YticjpjgfccbhlaaDoor.Code (unV unb_ref str_of leO_add)
attribute [local go_sem] max2_int min2_int max_two min_two max_three min_three max_four min_four
set_option linter.unusedVariables false
set_option linter.unusedSimpArgs false
set_option maxHeartbeats 4000000 in
set_option maxRecDepth 100000 in
theorem ref_read_calls (t : ByteArray) (w : World) (ht : t.size ≤ 30000000) :
    Calls Tryd.prog 23 #[.string t] w fun e w' => e = .returned (.tuple #[.string (strOfNums (unV t.data.toList).1), .bool (decide ((unV t.data.toList).2.1 = 0))]) ∧ Below w.heap.size w w' := by
  have hu70 := Tryd.underlying70
  obtain ⟨k, er, a, hf, her⟩ := unb_ref t (by omega)
  obtain ⟨d, hd⟩ : ∃ d, d = (unV t.data.toList).1 := ⟨_, rfl⟩
  have HE := Lib.hid (show (er == 0) = decide ((unV t.data.toList).2.1 = 0) by
    by_cases c : er = 0
    · rw [decide_eq_true (her.1 c)]; simp [c]
    · rw [decide_eq_false (fun h => c (her.2 h))]; simp [c])
  rw [← hd] at hf ⊢
  have HF := Lib.hid hf
  rw [← HE.out]
  clear hf her hd HE
  go_enter Tryd.func23, Tryd.ntmps23
  go_wp2_with fail
  refine (posthornref04_Unbase64.calls k t d er a w HF.out).mono ?_
  rintro e w1 ⟨V, rfl, hR, hb1⟩
  obtain ⟨A1, c1, rfl, hc1, hC1⟩ := Kd.R_reads hR
  have HB1 := Lib.hid (show Below w.heap.size w (w1.alloc (.cells #[.int .i64 er, .int .i64 a] 70)) from hb1.alloc hb1.size _)
  have zc : (convert 68 9 (.slice A1 d.length c1)).run Tryd.prog (w1.alloc (.cells #[.int .i64 er, .int .i64 a] 70)).drew = .ok (.string (strOfNums d)) (w1.alloc (.cells #[.int .i64 er, .int .i64 a] 70)).drew := str_of _ (c := c1) (Kd.C_below (Kd.C_alloc hC1 _) (below_drew (Below.refl _ _)))
  have z0 : (w1.alloc (.cells #[.int .i64 er, .int .i64 a] 70)).drew.cell? ⟨w1.heap.size, 0, none⟩ = some (.int .i64 er) := blk_cell (heap_alloc_new w1 (.cells #[.int .i64 er, .int .i64 a] 70)) 0
  clear hR hb1 hC1
  go_wp2
  refine start_ (n := 7) (S := fun w' => (convert 68 9 (.slice A1 d.length c1)).run Tryd.prog w' = .ok (.string (strOfNums d)) w' ∧ w'.cell? ⟨w1.heap.size, 0, none⟩ = some (.int .i64 er)) (ds := []) #[false, false, false, false, false, false, false] (by kernel_rfl) rfl rfl ⟨zc, z0⟩ (fun hHeld => ?_)
  refine pure_ (i := 0) (N := some 11) (v := ?_) (a' := ?_) #[true, false, false, false, false, false, false] rfl rfl (by kernel_rfl) (fun _ _ _ h => h) (Or.inl ⟨by rfl, ?_⟩) ?_ ?_
  rotate_left
  · intro w'
    go_simp
    with_reducible rfl
  rotate_left
  · simp only [Act.put, List.setIfInBounds_toArray, List.set_cons_zero, List.set_cons_succ, i64_w, i32_w]
    rfl
  refine pure_ (i := 2) (N := some 13) (v := ?_) (a' := ?_) #[true, false, true, false, false, false, false] rfl rfl (by kernel_rfl) (fun _ _ _ h => h) (Or.inl ⟨by rfl, ?_⟩) ?_ ?_
  rotate_left
  · intro w'
    go_simp
    with_reducible rfl
  rotate_left
  · simp only [Act.put, List.setIfInBounds_toArray, List.set_cons_zero, List.set_cons_succ, i64_w, i32_w]
    rfl
  refine take_ (i := 1) (N := some 12) (v := ?_) (a' := ?_) #[true, true, true, false, false, false, false] rfl rfl (by kernel_rfl) (fun _ _ _ h => h) (Or.inl ⟨by rfl, ?_⟩) hHeld ?_ ?_
  rotate_left
  · rintro w' ⟨s0, s1⟩
    go_simp
    with_reducible rfl
  rotate_left
  · simp only [Act.put, List.setIfInBounds_toArray, List.set_cons_zero, List.set_cons_succ, i64_w, i32_w]
    rfl
  refine pure_ (i := 5) (N := some 2) (v := ?_) (a' := ?_) #[true, true, true, false, false, true, false] rfl rfl (by kernel_rfl) (fun _ _ _ h => h) (Or.inl ⟨by rfl, ?_⟩) ?_ ?_
  rotate_left
  · intro w'
    go_simp
    with_reducible rfl
  rotate_left
  · simp only [Act.put, List.setIfInBounds_toArray, List.set_cons_zero, List.set_cons_succ, i64_w, i32_w]
    rfl
  refine take_ (i := 3) (N := some 14) (v := ?_) (a' := ?_) #[true, true, true, true, false, true, false] rfl rfl (by kernel_rfl) (fun _ _ _ h => h) (Or.inl ⟨by rfl, ?_⟩) hHeld ?_ ?_
  rotate_left
  · rintro w' ⟨s0, s1⟩
    go_simp
    with_reducible rfl
  rotate_left
  · simp only [Act.put, List.setIfInBounds_toArray, List.set_cons_zero, List.set_cons_succ, i64_w, i32_w]
    rfl
  refine pure_ (i := 4) (N := some 15) (v := ?_) (a' := ?_) #[true, true, true, true, true, true, false] rfl rfl (by kernel_rfl) (fun _ _ _ h => h) (Or.inl ⟨by rfl, ?_⟩) ?_ ?_
  rotate_left
  · intro w'
    go_simp
    with_reducible rfl
  rotate_left
  · simp only [Act.put, List.setIfInBounds_toArray, List.set_cons_zero, List.set_cons_succ, i64_w, i32_w]
    rfl
  refine pure_ (i := 6) (N := some 3) (v := ?_) (a' := ?_) #[true, true, true, true, true, true, true] rfl rfl (by kernel_rfl) (fun _ _ _ h => h) (Or.inl ⟨by rfl, ?_⟩) ?_ ?_
  rotate_left
  · intro w'
    go_simp
    with_reducible rfl
  rotate_left
  · simp only [Act.put, List.setIfInBounds_toArray, List.set_cons_zero, List.set_cons_succ, i64_w, i32_w]
    rfl
  refine done_ (by kernel_rfl) ?_

  go_wp2
  go_ret2
  exact ⟨rfl, HB1.out.drew⟩
end Go.Proofs.YticjpjgfccbhlaaDoor.Sasl
