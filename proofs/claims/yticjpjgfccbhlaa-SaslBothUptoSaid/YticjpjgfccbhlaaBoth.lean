/- SaslBoth: the law's walk. (The steps of the regions that draw: printed by tools/sboth.py.) -/
import Derived.Test.YticjpjgfccbhlaaBegin2
namespace Go.Proofs.Yticjpjgfccbhlaa.Sasl
open Go.RowKit Go.Proofs.YticjpjgfccbhlaaW.PrintWords Go.Proofs.YticjpjgfccbhlaaW.PrintLast Go.Proofs.YticjpjgfccbhlaaW.PrintMore Go.Proofs.Yticjpjgfccbhlaa.PSaslBoth Go.Proofs.Yticjpjgfccbhlaa.Hash
attribute [local go_sem] max2_int min2_int max_two min_two max_three min_three max_four min_four
set_option linter.unusedVariables false
set_option linter.unusedSimpArgs false
theorem info41r : (Try.prog.info? 41).map (fun i => (i.zero, i.size, i.bytes)) = some (some (.agg #[.string ⟨#[]⟩, .string ⟨#[]⟩]), 2, 32) := by kernel_rfl
def namesL : List ByteArray := [⟨#[80, 76, 65, 73, 78]⟩, ⟨#[76, 79, 71, 73, 78]⟩, ⟨#[67, 82, 65, 77, 45, 77, 68, 53]⟩]
set_option maxRecDepth 100000 in
theorem mechs_calls (w : World) : Calls Try.prog 7 #[] w fun e w' => e = .returned (.slice (some ⟨w.heap.size, 0, none⟩) 3 3) ∧ w' = w.alloc (.cells #[.string ⟨#[80, 76, 65, 73, 78]⟩, .string ⟨#[76, 79, 71, 73, 78]⟩, .string ⟨#[67, 82, 65, 77, 45, 77, 68, 53]⟩] 9) := by
  go_enter Try.func7, Try.ntmps7
  go_wp2
  go_ret
  exact ⟨rfl, rfl⟩
theorem Env.up {T S : Nat → Int} {B B' : Nat} {w : World} (h : Env T S B w) (hB : B ≤ B') (hs : B' ≤ w.heap.size) : Env T S B' w :=
  ⟨h.tabs, fun a W ha hW => h.splits a W ha (hW.mono hB), Nat.le_trans h.two hB, hs⟩
theorem ExchAt.old {w : World} {X : Nat} {x : XS} {A : Option Addr} {n c : Nat} (h : ExchAt w X x A n c) : ∀ ad, A = some ad → 0 < n → ad.block < w.heap.size := by
  intro ad had h0
  obtain ⟨ad2, e2, y0, _⟩ := at_T40 (had ▸ h.us) 0 (by omega) (by omega)
  cases e2
  have := World.block_lt_of_cell? w _ y0
  rw [add_block] at this
  exact this
theorem first_any (X : Nat) (nm sec : ByteArray) (v : Value) (once : Bool) (w : World) (hX : w.heap[X]? = some (.cells #[.string nm, .string sec, v, .bool once] 80 (0, 0))) (hn : nm.size ≤ 1000) (hs : sec.size ≤ 1000) :
    Calls Try.prog 115 #[.pointer (some ⟨X, 0, none⟩)] w fun e w' => e = .returned (.tuple #[.string (if once then b64S (⟨#[0]⟩ ++ nm ++ ⟨#[0]⟩ ++ sec) else ⟨#[]⟩), .bool once]) ∧ Below w.heap.size w w' := by
  cases once with
  | false => exact (first_none X nm sec v w hX).mono fun e w' h => ⟨h.1, h.2 ▸ Below.refl _ _⟩
  | true => exact first_once X nm sec v w hX hn hs
theorem he7 {T S : Nat → Int} {B : Nat} {w W0 w7 : World} (he : Env T S B w) (h0 : Below w.heap.size w W0) (h7 : Below W0.heap.size W0 w7) : Env T S B w7 := he.below ((h0.trans (h7.mono h0.size)).mono he.size)
set_option maxHeartbeats 64000000 in
set_option maxRecDepth 100000 in
theorem both_some {T S : Nat → Int} {B : Nat} (A : Option Addr) (l c : Nat) (us : List S40) (n s stamp : ByteArray) (w : World) (he : Env T S B w) (hC : Kd.C k40 w A l us) (hl : us.length = l) (hc : l ≤ c) (hu : us.length ≤ 10000000 ∧ ∀ u ∈ us, u.f1.size ≤ 10000000) (hst : stamp.size ≤ 3000000) (hok : okUser n s = true) :
    Calls Try.prog 6 #[.slice A l c, .agg #[.string n, .string s], .string stamp] w fun e w' => e = .returned (.bool true) ∧ Below w.heap.size w w' := by
  subst hl
  have h12 : okT n 64 = true ∧ okT s 256 = true := by unfold okUser at hok; simpa using hok
  have hn : n.size ≤ 64 ∧ clean n = true := by have h1 := h12.1; unfold okT at h1; simp at h1; exact ⟨by omega, h1.2.2⟩
  have hs : s.size ≤ 256 ∧ clean s = true := by have h1 := h12.2; unfold okT at h1; simp at h1; exact ⟨by omega, h1.2.2⟩
  obtain ⟨W0, hW0⟩ : ∃ W0, W0 = w.alloc (.cells #[.string n, .string s] 41) := ⟨_, rfl⟩
  have hb0 : Below w.heap.size w W0 := hW0 ▸ (Below.refl _ _).alloc (Nat.le_refl _) _
  have HBK := Lib.hid (show W0.heap[w.heap.size]? = some (.cells #[.string n, .string s] 41 (0, 0)) from hW0 ▸ heap_alloc_new w _)
  have hWW : w.alloc (.cells #[.string n, .string s] 41) = W0 := hW0.symm
  have HWK := Lib.hid (wakes_calls W0 (he.below (hb0.mono he.size)))
  have HMY := Lib.hid (fun W => hok ▸ lawMay_calls n s W (by omega) (by omega))
  have HOA := Lib.hid (ok_all (n := n) hu (show s.size ≤ 1000 by omega))
  have HME := Lib.hid (mechB_at T S us n s stamp HOA.out hn.2 hs.2 (by omega))
  have HRS0 := Lib.hid (fun (m : ByteArray) (a : Stp) (once : Bool) hb W (hf : firstV m ⟨#[]⟩ = some a) (hm : m.size ≤ 100) => respond_at n s m a once hb W hf (by omega) hok)
  have HNS := Lib.hid (show n.size ≤ 1000 by omega)
  have HSS := Lib.hid (show s.size ≤ 1000 by omega)
  have HSZ := Lib.hid (show n.size ≤ 64 ∧ s.size ≤ 256 from ⟨hn.1, hs.1⟩)
  have HC := Lib.hid (Kd.C_below hC hb0)
  have hul : us.length ≤ 10000000 := hu.1
  have HE := Lib.hid he
  have HBW := Lib.hid hb0
  have qn : (n.toList == n.toList) = true := by simp
  have qu : ((⟨#[]⟩ : ByteArray).toList == []) = true := by rw [ByteArray.toList_eq]; rfl
  clear hb0 hW0 hC hu he hok h12 hn hs
  go_enter Try.func6, Try.ntmps6
  go_wp2_with fail
  refine HWK.out.mono ?_
  rintro e w1 ⟨rfl, hb1⟩
  have HB1 := Lib.hid hb1
  have HK1 := Lib.hid ((hb1.block _ (blk_lt HBK.out)).trans HBK.out)
  have y0 : w1.drew.cell? ⟨w.heap.size, 0, none⟩ = some (.string n) := blk_cell HK1.out 0
  have y1 : w1.drew.cell? ⟨w.heap.size, 1, none⟩ = some (.string s) := blk_cell HK1.out 1
  clear hb1
  go_wp2
  refine start_ (n := 7) (S := fun w' => w'.cell? ⟨w.heap.size, 0, none⟩ = some (.string n) ∧ w'.cell? ⟨w.heap.size, 1, none⟩ = some (.string s)) (ds := []) #[false, false, false, false, false, false, false] (by kernel_rfl) rfl rfl ⟨y0, y1⟩ (fun hHeld => ?_)
  generalize hdr : w1.drew = w2 at hHeld ⊢
  have HB2 := Lib.hid (show Below W0.heap.size W0 w2 from hdr ▸ below_drew1 HB1.out)
  clear hdr y0 y1
  refine pure_ (i := 1) (N := some 21) (v := ?_) (a' := ?_) #[false, true, false, false, false, false, false] rfl rfl (by kernel_rfl) (fun _ _ _ h => h) (Or.inl ⟨by rfl, ?_⟩) ?_ ?_
  rotate_left
  · intro w'
    go_simp
    with_reducible rfl
  rotate_left
  · simp only [Act.put, List.setIfInBounds_toArray, List.set_cons_zero, List.set_cons_succ, i64_w, i32_w]
    rfl
  refine take_ (i := 3) (N := some 23) (v := ?_) (a' := ?_) #[false, true, false, true, false, false, false] rfl rfl (by kernel_rfl) (fun _ _ _ h => h) (Or.inl ⟨by rfl, ?_⟩) hHeld ?_ ?_
  rotate_left
  · rintro w' ⟨s0, s1⟩
    go_simp
    with_reducible rfl
  rotate_left
  · simp only [Act.put, List.setIfInBounds_toArray, List.set_cons_zero, List.set_cons_succ, i64_w, i32_w]
    rfl
  refine join_ (σ := Value × Value × Value) 2 #[true, true, true, true, true, false, false] (fun s_ => [(20, s_.1), (22, s_.2.1), (24, s_.2.2)]) (fun s_ w' => (w'.cell? ⟨w.heap.size, 0, none⟩ = some (.string n) ∧ w'.cell? ⟨w.heap.size, 1, none⟩ = some (.string s) ∧ Below W0.heap.size W0 w' ∧ Kd.R k40 41 w' W0.heap.size (fun _ => True) s_.2.1 us ∧ Kd.R k40 41 w' W0.heap.size (fun _ => True) s_.2.2 [⟨n, s⟩])) ?_ ?_
  rotate_left
  · intro hCont
    refine two_ (i := 0) (j := 4) (Ni := some 20) (Nj := some 24) #[true, true, false, true, false, false, false] #[false, true, false, true, true, false, false] rfl rfl rfl rfl (by kernel_rfl) (by decide) (by decide) (fun K hK => ?_) (fun K hK => ?_)
    · skip
      refine Kd.R_lit_step k40 (w0 := W0) (W := w2) W0.heap.size 41 (by rfl) (N := 20) rfl (xs := ([] : List S40)) (inner := []) (ok := fun q => w2.heap.size ≤ q) (okp := fun _ => False) ?h20 (Reps.none _ _) (fun _ h => h.elim) (Nat.le_refl _) HB2.out HB2.out.size (by decide) ?_
      case h20 => first | (go_simp; done) | (go_simp; rfl)
      intro v0 wq0 hR0 hBq0 hgq0 hat0
      have HBq0 := Lib.hid hBq0
      have HR0_0 := Lib.hid hR0
      have HGq0 := Lib.hid hgq0
      clear hBq0 hR0 hgq0 hat0
      refine hK.out _ _ ⟨(blk_cell ((HBq0.out.block _ (blk_lt HBK.out)).trans HBK.out) 0), (blk_cell ((HBq0.out.block _ (blk_lt HBK.out)).trans HBK.out) 1)⟩ (fun hHeld => ?_)
      clear hK K
      refine norm_ (a' := ?_) ?_ ?_
      rotate_left
      · show Act.put _ (some 20) _ = _
        simp only [Act.put, List.setIfInBounds_toArray, List.set_cons_zero, List.set_cons_succ, i64_w, i32_w]
        rfl
      refine two_ (i := 2) (j := 4) (Ni := some 22) (Nj := some 24) #[true, true, true, true, false, false, false] #[true, true, false, true, true, false, false] rfl rfl rfl rfl (by kernel_rfl) (by decide) (by decide) (fun K hK => ?_) (fun K hK => ?_)
      · skip
        refine Kd.R_append_rows_step k40 (Rr := k40.K wq0) (w0 := W0) (W := wq0) W0.heap.size (by rfl) (.tmp 20) (.tmp 21) 25 41 _ 32 rfl Try.underlying25 info41r rfl (by decide) (by decide) v0 ([] : List S40) us A us.length c (fun _ => True) (fun _ => False) rfl rfl (Kd.R_mono HR0_0.out (fun _ _ => trivial)) (Kd.C_below HC.out HBq0.out) ?hKM (fun _ h => h.elim) (fun _ _ => trivial) HBq0.out HBq0.out.size (by simp; omega) ?_
        case hKM =>
          intro x cs h
          obtain rfl := k40_open h
          exact k40_mkM _ _ _ _
        intro v2 wq1 hR2 hBq1 hgq1 hat2
        have HBq1 := Lib.hid hBq1
        have HR2_1 := Lib.hid hR2
        clear hBq1 hR2 hgq1 hat2
        refine hK.out _ _ ⟨(blk_cell ((HBq1.out.block _ (blk_lt HBK.out)).trans HBK.out) 0), (blk_cell ((HBq1.out.block _ (blk_lt HBK.out)).trans HBK.out) 1)⟩ (fun hHeld => ?_)
        clear hK K
        refine norm_ (a' := ?_) ?_ ?_
        rotate_left
        · show Act.put _ (some 22) _ = _
          simp only [Act.put, List.setIfInBounds_toArray, List.set_cons_zero, List.set_cons_succ, i64_w, i32_w]
          rfl
        refine one_ (i := 4) (N := some 24) #[true, true, true, true, true, false, false] rfl rfl (by kernel_rfl) (by decide) (fun K hK => ?_)
        refine Kd.R_lit_step k40 (w0 := W0) (W := wq1) W0.heap.size 41 (by rfl) (N := 24) rfl (xs := [(⟨n, s⟩ : S40)]) (inner := [.string n, .string s]) (ok := fun q => wq1.heap.size ≤ q) (okp := fun _ => False) ?h24 (Reps.c2 (k40_mkM _ _ _ ⟨n, s⟩) (Reps.none _ _)) (fun _ h => h.elim) (Nat.le_refl _) HBq1.out HBq1.out.size (show 1 ≤ 9223372036854775807 by decide) ?_
        case h24 => first | (go_simp; done) | (go_simp; rfl)
        intro v4 wq2 hR4 hBq2 hgq2 hat4
        have HBq2 := Lib.hid hBq2
        have HR4_2 := Lib.hid hR4
        have HR2_2 := Lib.hid (Kd.R_grown HR2_1.out hgq2 (fun _ _ => by simp))
        clear hBq2 hR4 hgq2 hat4
        have HR4_2b := HR4_2
        refine hK.out _ _ ⟨(blk_cell ((HBq2.out.block _ (blk_lt HBK.out)).trans HBK.out) 0), (blk_cell ((HBq2.out.block _ (blk_lt HBK.out)).trans HBK.out) 1)⟩ (fun hHeld => ?_)
        clear hK K
        refine norm_ (a' := ?_) ?_ ?_
        rotate_left
        · show Act.put _ (some 24) _ = _
          simp only [Act.put, List.setIfInBounds_toArray, List.set_cons_zero, List.set_cons_succ, i64_w, i32_w]
          rfl
        exact norm_ (by simp only [putAll, Act.put, List.setIfInBounds_toArray, List.set_cons_zero, List.set_cons_succ]) (hCont (v0, v2, v4) _ ⟨(blk_cell ((HBq2.out.block _ (blk_lt HBK.out)).trans HBK.out) 0), (blk_cell ((HBq2.out.block _ (blk_lt HBK.out)).trans HBK.out) 1), HBq2.out, Kd.R_mono HR2_2.out (fun _ _ => trivial), Kd.R_mono HR4_2.out (fun _ _ => trivial)⟩)
      · skip
        refine Kd.R_lit_step k40 (w0 := W0) (W := wq0) W0.heap.size 41 (by rfl) (N := 24) rfl (xs := [(⟨n, s⟩ : S40)]) (inner := [.string n, .string s]) (ok := fun q => wq0.heap.size ≤ q) (okp := fun _ => False) ?h24 (Reps.c2 (k40_mkM _ _ _ ⟨n, s⟩) (Reps.none _ _)) (fun _ h => h.elim) (Nat.le_refl _) HBq0.out HBq0.out.size (show 1 ≤ 9223372036854775807 by decide) ?_
        case h24 => first | (go_simp; done) | (go_simp; rfl)
        intro v4 wq1 hR4 hBq1 hgq1 hat4
        have HBq1 := Lib.hid hBq1
        have HR4_1 := Lib.hid hR4
        have HR0_1 := Lib.hid (Kd.R_grown HR0_0.out hgq1 (fun _ _ => by simp))
        clear hBq1 hR4 hgq1 hat4
        have HR4_1b := HR4_1
        refine hK.out _ _ ⟨(blk_cell ((HBq1.out.block _ (blk_lt HBK.out)).trans HBK.out) 0), (blk_cell ((HBq1.out.block _ (blk_lt HBK.out)).trans HBK.out) 1)⟩ (fun hHeld => ?_)
        clear hK K
        refine norm_ (a' := ?_) ?_ ?_
        rotate_left
        · show Act.put _ (some 24) _ = _
          simp only [Act.put, List.setIfInBounds_toArray, List.set_cons_zero, List.set_cons_succ, i64_w, i32_w]
          rfl
        refine one_ (i := 2) (N := some 22) #[true, true, true, true, true, false, false] rfl rfl (by kernel_rfl) (by decide) (fun K hK => ?_)
        refine Kd.R_append_rows_step k40 (Rr := k40.K wq1) (w0 := W0) (W := wq1) W0.heap.size (by rfl) (.tmp 20) (.tmp 21) 25 41 _ 32 rfl Try.underlying25 info41r rfl (by decide) (by decide) v0 ([] : List S40) us A us.length c (fun _ => True) (fun _ => False) rfl rfl (Kd.R_mono HR0_1.out (fun _ _ => trivial)) (Kd.C_below HC.out HBq1.out) ?hKM (fun _ h => h.elim) (fun _ _ => trivial) HBq1.out HBq1.out.size (by simp; omega) ?_
        case hKM =>
          intro x cs h
          obtain rfl := k40_open h
          exact k40_mkM _ _ _ _
        intro v2 wq2 hR2 hBq2 hgq2 hat2
        have HBq2 := Lib.hid hBq2
        have HR2_2 := Lib.hid hR2
        have HR4_2 := Lib.hid (Kd.R_grown HR4_1.out hgq2 (fun k hk he => by have := Kd.R_lt HR0_0.out k he.symm; omega))
        clear hBq2 hR2 hgq2 hat2
        refine hK.out _ _ ⟨(blk_cell ((HBq2.out.block _ (blk_lt HBK.out)).trans HBK.out) 0), (blk_cell ((HBq2.out.block _ (blk_lt HBK.out)).trans HBK.out) 1)⟩ (fun hHeld => ?_)
        clear hK K
        refine norm_ (a' := ?_) ?_ ?_
        rotate_left
        · show Act.put _ (some 22) _ = _
          simp only [Act.put, List.setIfInBounds_toArray, List.set_cons_zero, List.set_cons_succ, i64_w, i32_w]
          rfl
        exact norm_ (by simp only [putAll, Act.put, List.setIfInBounds_toArray, List.set_cons_zero, List.set_cons_succ]) (hCont (v0, v2, v4) _ ⟨(blk_cell ((HBq2.out.block _ (blk_lt HBK.out)).trans HBK.out) 0), (blk_cell ((HBq2.out.block _ (blk_lt HBK.out)).trans HBK.out) 1), HBq2.out, Kd.R_mono HR2_2.out (fun _ _ => trivial), Kd.R_mono HR4_2.out (fun _ _ => trivial)⟩)
    · skip
      refine Kd.R_lit_step k40 (w0 := W0) (W := w2) W0.heap.size 41 (by rfl) (N := 24) rfl (xs := [(⟨n, s⟩ : S40)]) (inner := [.string n, .string s]) (ok := fun q => w2.heap.size ≤ q) (okp := fun _ => False) ?h24 (Reps.c2 (k40_mkM _ _ _ ⟨n, s⟩) (Reps.none _ _)) (fun _ h => h.elim) (Nat.le_refl _) HB2.out HB2.out.size (show 1 ≤ 9223372036854775807 by decide) ?_
      case h24 => first | (go_simp; done) | (go_simp; rfl)
      intro v4 wq0 hR4 hBq0 hgq0 hat4
      have HBq0 := Lib.hid hBq0
      have HR4_0 := Lib.hid hR4
      clear hBq0 hR4 hgq0 hat4
      have HR4_0b := HR4_0
      refine hK.out _ _ ⟨(blk_cell ((HBq0.out.block _ (blk_lt HBK.out)).trans HBK.out) 0), (blk_cell ((HBq0.out.block _ (blk_lt HBK.out)).trans HBK.out) 1)⟩ (fun hHeld => ?_)
      clear hK K
      refine norm_ (a' := ?_) ?_ ?_
      rotate_left
      · show Act.put _ (some 24) _ = _
        simp only [Act.put, List.setIfInBounds_toArray, List.set_cons_zero, List.set_cons_succ, i64_w, i32_w]
        rfl
      refine one_ (i := 0) (N := some 20) #[true, true, false, true, true, false, false] rfl rfl (by kernel_rfl) (by decide) (fun K hK => ?_)
      refine Kd.R_lit_step k40 (w0 := W0) (W := wq0) W0.heap.size 41 (by rfl) (N := 20) rfl (xs := ([] : List S40)) (inner := []) (ok := fun q => wq0.heap.size ≤ q) (okp := fun _ => False) ?h20 (Reps.none _ _) (fun _ h => h.elim) (Nat.le_refl _) HBq0.out HBq0.out.size (by decide) ?_
      case h20 => first | (go_simp; done) | (go_simp; rfl)
      intro v0 wq1 hR0 hBq1 hgq1 hat0
      have HBq1 := Lib.hid hBq1
      have HR0_1 := Lib.hid hR0
      have HGq1 := Lib.hid hgq1
      have HR4_1 := Lib.hid (Kd.R_grown HR4_0.out hgq1 (fun _ _ => by simp))
      clear hBq1 hR0 hgq1 hat0
      refine hK.out _ _ ⟨(blk_cell ((HBq1.out.block _ (blk_lt HBK.out)).trans HBK.out) 0), (blk_cell ((HBq1.out.block _ (blk_lt HBK.out)).trans HBK.out) 1)⟩ (fun hHeld => ?_)
      clear hK K
      refine norm_ (a' := ?_) ?_ ?_
      rotate_left
      · show Act.put _ (some 20) _ = _
        simp only [Act.put, List.setIfInBounds_toArray, List.set_cons_zero, List.set_cons_succ, i64_w, i32_w]
        rfl
      refine one_ (i := 2) (N := some 22) #[true, true, true, true, true, false, false] rfl rfl (by kernel_rfl) (by decide) (fun K hK => ?_)
      refine Kd.R_append_rows_step k40 (Rr := k40.K wq1) (w0 := W0) (W := wq1) W0.heap.size (by rfl) (.tmp 20) (.tmp 21) 25 41 _ 32 rfl Try.underlying25 info41r rfl (by decide) (by decide) v0 ([] : List S40) us A us.length c (fun _ => True) (fun _ => False) rfl rfl (Kd.R_mono HR0_1.out (fun _ _ => trivial)) (Kd.C_below HC.out HBq1.out) ?hKM (fun _ h => h.elim) (fun _ _ => trivial) HBq1.out HBq1.out.size (by simp; omega) ?_
      case hKM =>
        intro x cs h
        obtain rfl := k40_open h
        exact k40_mkM _ _ _ _
      intro v2 wq2 hR2 hBq2 hgq2 hat2
      have HBq2 := Lib.hid hBq2
      have HR2_2 := Lib.hid hR2
      have HR4_2 := Lib.hid (Kd.R_grown (Kd.R_mono (Kd.R_bound HR4_0b.out) (fun _ h => h.2.2.1) |> fun h => Kd.R_grown h HGq1.out (fun _ _ => by simp)) hgq2 (fun k hk he => by have := HR0_1.out.1 k he.symm; omega))
      clear hBq2 hR2 hgq2 hat2
      refine hK.out _ _ ⟨(blk_cell ((HBq2.out.block _ (blk_lt HBK.out)).trans HBK.out) 0), (blk_cell ((HBq2.out.block _ (blk_lt HBK.out)).trans HBK.out) 1)⟩ (fun hHeld => ?_)
      clear hK K
      refine norm_ (a' := ?_) ?_ ?_
      rotate_left
      · show Act.put _ (some 22) _ = _
        simp only [Act.put, List.setIfInBounds_toArray, List.set_cons_zero, List.set_cons_succ, i64_w, i32_w]
        rfl
      exact norm_ (by simp only [putAll, Act.put, List.setIfInBounds_toArray, List.set_cons_zero, List.set_cons_succ]) (hCont (v0, v2, v4) _ ⟨(blk_cell ((HBq2.out.block _ (blk_lt HBK.out)).trans HBK.out) 0), (blk_cell ((HBq2.out.block _ (blk_lt HBK.out)).trans HBK.out) 1), HBq2.out, Kd.R_mono HR2_2.out (fun _ _ => trivial), Kd.R_mono HR4_2.out (fun _ _ => trivial)⟩)
  rintro ⟨v0, v2, v4⟩ w5 ⟨hu0, hu1, hB5, hR2, hR4⟩
  have hHeld : w5.cell? ⟨w.heap.size, 0, none⟩ = some (.string n) ∧ w5.cell? ⟨w.heap.size, 1, none⟩ = some (.string s) := ⟨hu0, hu1⟩
  have HB5 := Lib.hid hB5
  have HR2 := Lib.hid hR2
  obtain ⟨A4, c4, rfl, hc4, hC4⟩ := Kd.R_reads hR4
  have HC4 := Lib.hid hC4
  clear hu0 hu1 hB5 hR2 hR4 hC4
  refine norm_ (a' := ?_) ?_ ?_
  rotate_left
  · simp only [putAll, Act.put, List.setIfInBounds_toArray, List.set_cons_zero, List.set_cons_succ]
    rfl
  refine one_ (i := 5) (N := some 25) #[true, true, true, true, true, true, false] rfl rfl (by kernel_rfl) (by decide) (fun K hK => ?_)
  refine Kd.R_append_rows_step k40 (Rr := k40.K w5) (w0 := W0) (W := w5) W0.heap.size (by rfl) (.tmp 22) (.tmp 24) 25 41 _ 32 rfl Try.underlying25 info41r rfl (by decide) (by decide) v2 us [(⟨n, s⟩ : S40)] A4 1 c4 (fun _ => True) (fun _ => False) rfl rfl HR2.out HC4.out ?hKM2 (fun _ h => h.elim) (fun _ _ => trivial) HB5.out HB5.out.size (by omega) ?_
  case hKM2 =>
    intro x cs h
    obtain rfl := k40_open h
    exact k40_mkM _ _ _ _
  intro v5 w6 hR6 hB6 hgr6 hat6
  have HB6 := Lib.hid hB6
  obtain ⟨A6, c6, rfl, hc6, hC6⟩ := Kd.R_reads hR6
  have HC6 := Lib.hid hC6
  clear hR6 hB6 hgr6 hat6 hC6
  refine hK.out _ _ ⟨(blk_cell ((HB6.out.block _ (blk_lt HBK.out)).trans HBK.out) 0), (blk_cell ((HB6.out.block _ (blk_lt HBK.out)).trans HBK.out) 1)⟩ (fun hHeld => ?_)
  clear hK K
  refine norm_ (a' := ?_) ?_ ?_
  rotate_left
  · show Act.put _ (some 25) _ = _
    simp only [Act.put, List.setIfInBounds_toArray, List.set_cons_zero, List.set_cons_succ, i64_w, i32_w]
    rfl
  refine pure_ (i := 6) (N := some 7) (v := ?_) (a' := ?_) #[true, true, true, true, true, true, true] rfl rfl (by kernel_rfl) (fun _ _ _ h => h) (Or.inl ⟨by rfl, ?_⟩) ?_ ?_
  rotate_left
  · intro w'
    go_simp
    with_reducible rfl
  rotate_left
  · simp only [Act.put, List.setIfInBounds_toArray, List.set_cons_zero, List.set_cons_succ, i64_w, i32_w]
    rfl
  refine done_ (by kernel_rfl) ?_
  obtain ⟨all, hall⟩ : ∃ all, all = us ++ [(⟨n, s⟩ : S40)] := ⟨_, rfl⟩
  rw [← hall] at HC6 hc6 HME HOA ⊢
  obtain ⟨w7, hw7⟩ : ∃ w7, w6.alloc (.cells #[.string ⟨#[80, 76, 65, 73, 78]⟩, .string ⟨#[76, 79, 71, 73, 78]⟩, .string ⟨#[67, 82, 65, 77, 45, 77, 68, 53]⟩] 9) = w7 := ⟨_, rfl⟩
  have HB7 := Lib.hid (show Below W0.heap.size W0 w7 from hw7 ▸ HB6.out.alloc HB6.out.size _)
  have HM7 := Lib.hid (show w7.heap[w6.heap.size]? = some (.cells #[.string ⟨#[80, 76, 65, 73, 78]⟩, .string ⟨#[76, 79, 71, 73, 78]⟩, .string ⟨#[67, 82, 65, 77, 45, 77, 68, 53]⟩] 9 (0, 0)) from hw7 ▸ heap_alloc_new w6 _)
  have HU7 := Lib.hid ((HB7.out.block _ (blk_lt HBK.out)).trans HBK.out)
  have HAN := Lib.hid (show all.length = us.length + 1 by rw [hall, List.length_append]; rfl)
  have HC7 := Lib.hid (show Kd.C k40 w7 A6 (us.length + 1) all from HAN.out ▸ hw7 ▸ Kd.C_alloc HC6.out _)
  have hc7 : us.length + 1 ≤ c6 := HAN.out ▸ hc6
  clear hc6
  have HE7 := Lib.hid (he7 (w7 := w7) HE.out HBW.out HB7.out)
  have HEup := Lib.hid (fun W (h : Below w7.heap.size w7 W) => (HE7.out.below (h.mono HE7.out.size)).up HE7.out.size h.size)
  have HBT := Lib.hid (fun W (h : Below w7.heap.size w7 W) => HBW.out.trans ((HB7.out.trans (h.mono HB7.out.size)).mono HBW.out.size))
  clear hall
  go_wp2_with (go_at_call 7; refine (mechs_calls _).mono ?_; rintro e w' ⟨rfl, hw'⟩; rw [hw', hw7])
  go_loopw [9, 10, 11, 12, 13, 14, 15, 16, 17, 28] (fun _ _ _ _ _ _ _ _ _ i wr => ∃ j : Nat, j ≤ 3 ∧ i = .int .i64 j ∧ Below w7.heap.size w7 wr) (fun _ _ _ _ _ _ _ _ _ i _ => 3 - (intOf i).toNat)
  case atStart => exact ⟨0, by omega, rfl, Below.refl _ _⟩
  case round =>
    obtain ⟨j, hj, rfl, hB⟩ := hrel
    have HB := Lib.hid hB
    clear hB
    by_cases hlt : j < 3
    · obtain ⟨m, once, a, b, fst, x1, k1, k2, xf, hmk, hmb⟩ := HME.out j hlt
      have HMB := Lib.hid hmb
      have HRS := Lib.hid (fun W => HRS0.out m a once HMB.out.same W HMB.out.f0 HMB.out.sz)
      have HSt := Lib.hid (show xf.st = 2 from HMB.out.st)
      have HUs := Lib.hid (show userV xf = n from HMB.out.user)
      have HAK := Lib.hid (show askV xf = ⟨#[]⟩ by unfold askV; rw [HSt.out]; rfl)
      have HAZ := Lib.hid HMB.out.az
      have HFS := Lib.hid (show fst.size ≤ 30000000 by
        rw [HMB.out.fs]
        have h1 := HSZ.out
        split
        · rw [line_size]
          simp only [ByteArray.size_append]
          have e0 : (⟨#[0]⟩ : ByteArray).size = 1 := rfl
          omega
        · decide)
      have hmc0 := blk_cell ((HB.out.block _ (blk_lt HM7.out)).trans HM7.out) j
      have hmc1 : wr.cell? ⟨w6.heap.size, j, none⟩ = some (.string m) := by
        rw [hmc0]
        show (namesL.map Value.string).toArray[j]? = _
        have hmk' : namesL[j]? = some m := hmk
        simp [hmk']
      have x0 : wr.cell? ⟨w.heap.size, 0, none⟩ = some (.string n) := blk_cell ((HB.out.block _ (blk_lt HU7.out)).trans HU7.out) 0
      have x1c : wr.cell? ⟨w.heap.size, 1, none⟩ = some (.string s) := blk_cell ((HB.out.block _ (blk_lt HU7.out)).trans HU7.out) 1
      clear hmk hmb hmc0
      go_wp2_with fail
      refine (HRS.out wr).mono ?_
      rintro e w8 ⟨⟨KB1, hKl1, rfl, hK1⟩, hb8⟩
      have HB8 := Lib.hid (HB.out.trans (hb8.mono HB.out.size))
      have HK1_7 := Lib.hid hK1
      have HKL1 := Lib.hid (show w7.heap.size ≤ KB1 by have := HB.out.size; omega)
      have u80 : w8.cell? ⟨w.heap.size, 0, none⟩ = some (.string n) := blk_cell ((HB8.out.block _ (blk_lt HU7.out)).trans HU7.out) 0
      have u81 : w8.cell? ⟨w.heap.size, 1, none⟩ = some (.string s) := blk_cell ((HB8.out.block _ (blk_lt HU7.out)).trans HU7.out) 1
      clear hb8 hK1 hKl1 hmc1 x0 x1c
      go_wp2_with fail
      refine (HMY.out w8).mono ?_
      rintro e w9 ⟨rfl, hb9⟩
      have HB9 := Lib.hid (HB8.out.trans (hb9.mono HB8.out.size))
      have HK1_8 := Lib.hid ((hb9.block _ (blk_lt HK1_7.out)).trans HK1_7.out)
      have u0 : w9.drew.cell? ⟨w.heap.size, 0, none⟩ = some (.string n) := blk_cell ((HB9.out.block _ (blk_lt HU7.out)).trans HU7.out) 0
      have u1 : w9.drew.cell? ⟨w.heap.size, 1, none⟩ = some (.string s) := blk_cell ((HB9.out.block _ (blk_lt HU7.out)).trans HU7.out) 1
      clear hb9 u80 u81
      go_wp2
      refine start_ (n := 9) (S := fun w' => w'.cell? ⟨w.heap.size, 0, none⟩ = some (.string n) ∧ w'.cell? ⟨w.heap.size, 1, none⟩ = some (.string s)) (ds := []) #[false, false, false, false, false, false, false, false, false] (by kernel_rfl) rfl rfl ⟨u0, u1⟩ (fun hHeld => ?_)
      generalize hdr : w9.drew = w9d at hHeld ⊢
      have HB9d := Lib.hid (show Below w7.heap.size w7 w9d from hdr ▸ below_drew1 HB9.out)
      have HK1_9 := Lib.hid (show w9d.heap[KB1]? = some (.cells #[.string n, .string s, a.val, .bool once] 80 (0, 0)) from hdr ▸ HK1_8.out)
      clear hdr u0 u1
      refine pure_ (i := 1) (N := some 45) (v := ?_) (a' := ?_) #[false, true, false, false, false, false, false, false, false] rfl rfl (by kernel_rfl) (fun _ _ _ h => h) (Or.inl ⟨by rfl, ?_⟩) ?_ ?_
      rotate_left
      · intro w'
        go_simp
        with_reducible rfl
      rotate_left
      · simp only [Act.put, List.setIfInBounds_toArray, List.set_cons_zero, List.set_cons_succ, i64_w, i32_w]
        rfl
      refine take_ (i := 0) (N := some 44) (v := ?_) (a' := ?_) #[true, true, false, false, false, false, false, false, false] rfl rfl (by kernel_rfl) (fun _ _ _ h => h) (Or.inl ⟨by rfl, ?_⟩) hHeld ?_ ?_
      rotate_left
      · rintro w' ⟨s0, s1⟩
        go_simp
        with_reducible rfl
      rotate_left
      · simp only [Act.put, List.setIfInBounds_toArray, List.set_cons_zero, List.set_cons_succ, i64_w, i32_w]
        rfl
      refine one_ (i := 2) (N := some 46) #[true, true, true, false, false, false, false, false, false] rfl rfl (by kernel_rfl) (by decide) (fun K hK => ?_)
      refine goes_ Try.func23 (by kernel_rfl) rfl #[.string m] (by rfl) rfl rfl (by simp only [List.map_toArray, List.map_cons, List.map_nil]; rfl) ?_
      with_reducible refine (Upper_calls m _ (by have := HMB.out.sz; omega)).mono ?_
      rintro e w10 ⟨rfl, hb10⟩
      refine ⟨_, rfl, ?_⟩
      have HB10 := Lib.hid (HB9d.out.trans (hb10.mono HB9d.out.size))
      have HK1_10 := Lib.hid ((hb10.block _ (blk_lt HK1_9.out)).trans HK1_9.out)
      rw [HMB.out.up]
      refine hK.out _ _ ⟨(blk_cell ((HB10.out.block _ (blk_lt HU7.out)).trans HU7.out) 0), (blk_cell ((HB10.out.block _ (blk_lt HU7.out)).trans HU7.out) 1)⟩ (fun hHeld => ?_)
      clear hK K
      refine norm_ (a' := ?_) ?_ ?_
      rotate_left
      · show Act.put _ (some 46) _ = _
        simp only [Act.put, List.setIfInBounds_toArray, List.set_cons_zero, List.set_cons_succ, i64_w, i32_w]
        rfl
      refine one_ (i := 3) (N := some 47) #[true, true, true, true, false, false, false, false, false] rfl rfl (by kernel_rfl) (by decide) (fun K hK => ?_)
      refine goes_ Try.func21 (by kernel_rfl) rfl #[.agg #[.string n, .string s], .string m] (by rfl) rfl rfl (by simp only [List.map_toArray, List.map_cons, List.map_nil]; rfl) ?_
      with_reducible refine (HRS.out w10).mono ?_
      rintro e w11 ⟨⟨KB2, hKl2, rfl, hK2⟩, hb11⟩
      refine ⟨_, rfl, ?_⟩
      refine hK.out _ _ ⟨(blk_cell (((HB10.out.trans (hb11.mono HB10.out.size)).block _ (blk_lt HU7.out)).trans HU7.out) 0), (blk_cell (((HB10.out.trans (hb11.mono HB10.out.size)).block _ (blk_lt HU7.out)).trans HU7.out) 1)⟩ (fun hHeld => ?_)
      clear hK K
      refine norm_ (a' := ?_) ?_ ?_
      rotate_left
      · show Act.put _ (some 47) _ = _
        simp only [Act.put, List.setIfInBounds_toArray, List.set_cons_zero, List.set_cons_succ, i64_w, i32_w]
        rfl
      refine pure_ (i := 4) (N := some 43) (v := ?_) (a' := ?_) #[true, true, true, true, true, false, false, false, false] rfl rfl (by kernel_rfl) (fun _ _ _ h => h) (Or.inl ⟨by rfl, ?_⟩) ?_ ?_
      rotate_left
      · intro w'
        go_simp
        with_reducible rfl
      rotate_left
      · simp only [Act.put, List.setIfInBounds_toArray, List.set_cons_zero, List.set_cons_succ, i64_w, i32_w]
        rfl
      refine pure_ (i := 5) (N := some 48) (v := ?_) (a' := ?_) #[true, true, true, true, true, true, false, false, false] rfl rfl (by kernel_rfl) (fun _ _ _ h => h) (Or.inl ⟨by rfl, ?_⟩) ?_ ?_
      rotate_left
      · intro w'
        go_simp
        with_reducible rfl
      rotate_left
      · simp only [Act.put, List.setIfInBounds_toArray, List.set_cons_zero, List.set_cons_succ, i64_w, i32_w]
        rfl
      refine pure_ (i := 6) (N := some 49) (v := ?_) (a' := ?_) #[true, true, true, true, true, true, true, false, false] rfl rfl (by kernel_rfl) (fun _ _ _ h => h) (Or.inl ⟨by rfl, ?_⟩) ?_ ?_
      rotate_left
      · intro w'
        go_simp
        with_reducible rfl
      rotate_left
      · simp only [Act.put, List.setIfInBounds_toArray, List.set_cons_zero, List.set_cons_succ, i64_w, i32_w]
        rfl
      refine pure_ (i := 7) (N := some 12) (v := ?_) (a' := ?_) #[true, true, true, true, true, true, true, true, false] rfl rfl (by kernel_rfl) (fun _ _ _ h => h) (Or.inl ⟨by rfl, ?_⟩) ?_ ?_
      rotate_left
      · intro w'
        go_simp
        with_reducible rfl
      rotate_left
      · simp only [Act.put, List.setIfInBounds_toArray, List.set_cons_zero, List.set_cons_succ, i64_w, i32_w]
        rfl
      refine pure_ (i := 8) (N := some 13) (v := ?_) (a' := ?_) #[true, true, true, true, true, true, true, true, true] rfl rfl (by kernel_rfl) (fun _ _ _ h => h) (Or.inl ⟨by rfl, ?_⟩) ?_ ?_
      rotate_left
      · intro w'
        go_simp
        with_reducible rfl
      rotate_left
      · simp only [Act.put, List.setIfInBounds_toArray, List.set_cons_zero, List.set_cons_succ, i64_w, i32_w]
        rfl
      refine done_ (by kernel_rfl) ?_
      have HB11 := Lib.hid (HB10.out.trans (hb11.mono HB10.out.size))
      have HK1_11 := Lib.hid ((hb11.block _ (blk_lt HK1_10.out)).trans HK1_10.out)
      have HK2_11 := Lib.hid hK2
      have HKL2 := Lib.hid (show KB1 < KB2 ∧ w7.heap.size ≤ KB2 by have h1 := blk_lt HK1_10.out; have h2 := HB10.out.size; omega)
      have hmf : ∀ W, (method 283 75 (.pointer (some ⟨KB1, 0, none⟩)) "First").run Try.prog W = .ok (115, .pointer (some ⟨KB1, 0, none⟩)) W := fun W => by kernel_rfl
      clear hb11 hK2 hKl2 hb10
      go_wp2_with fail
      refine (first_any KB1 n s a.val once w11 HK1_11.out HNS.out HSS.out).mono ?_
      rintro e w12 ⟨rfl, hb12⟩
      rw [← HMB.out.fs]
      have HB12 := Lib.hid (HB11.out.trans (hb12.mono HB11.out.size))
      have HK1_12 := Lib.hid ((hb12.block _ (blk_lt HK1_11.out)).trans HK1_11.out)
      have HK2_12 := Lib.hid ((hb12.block _ (blk_lt HK2_11.out)).trans HK2_11.out)
      clear hb12 hmf
      go_wp2_with fail
      refine (begin_fresh (T := T) (S := S) (B := B) A6 (us.length + 1) c6 all m stamp fst once w12 (HE7.out.below (HB12.out.mono HE7.out.size)) (Kd.C_below HC7.out HB12.out) HAN.out hc7 HOA.out (by have := HMB.out.sz; omega) (by omega) HFS.out).mono ?_
      rintro e w14 ⟨hbg, hb14⟩
      rw [HMB.out.bx] at hbg
      obtain ⟨X1, A1, c1, rfl, hX1l, hX1, hlow1⟩ := hbg
      have HB14 := Lib.hid (HB12.out.trans (hb14.mono HB12.out.size))
      have HK1_14 := Lib.hid ((hb14.block _ (blk_lt HK1_12.out)).trans HK1_12.out)
      have HK2_14 := Lib.hid ((hb14.block _ (blk_lt HK2_12.out)).trans HK2_12.out)
      have HX1_14 := Lib.hid hX1
      have HLO1 := Lib.hid (show ∀ ad, A1 = some ad → 0 < all.length → KB2 < ad.block ∧ ad.block < w14.heap.size from fun ad h1 h2 => ⟨by have h3 := hlow1 ad h1 h2; have h4 := blk_lt HK2_12.out; omega, hX1.old ad h1 h2⟩)
      have HXL1 := Lib.hid (show KB2 < X1 by have h4 := blk_lt HK2_12.out; omega)
      have hbv : beginV T S all m stamp ⟨#[]⟩ false = (some ⟨all, 1, b, ⟨#[]⟩⟩, 0) := by unfold beginV; rw [HMB.out.f1]; rfl
      have HBV := Lib.hid hbv
      clear hb14 hX1 hX1l hlow1 hbv
      go_wp2_with fail
      refine (begin_fresh (T := T) (S := S) (B := B) A6 (us.length + 1) c6 all m stamp ⟨#[]⟩ false w14 (HE7.out.below (HB14.out.mono HE7.out.size)) (Kd.C_below HC7.out HB14.out) HAN.out hc7 HOA.out (by have := HMB.out.sz; omega) (by omega) (by decide)).mono ?_
      rintro e w16 ⟨hbg, hb16⟩
      rw [HBV.out] at hbg
      obtain ⟨X2, A2, c2, rfl, hX2l, hX2, hlow2⟩ := hbg
      have HB16 := Lib.hid (HB14.out.trans (hb16.mono HB14.out.size))
      have HK1c := Lib.hid ((hb16.block _ (blk_lt HK1_14.out)).trans HK1_14.out)
      have HK2c := Lib.hid ((hb16.block _ (blk_lt HK2_14.out)).trans HK2_14.out)
      have HX1c := Lib.hid (HX1_14.out.below hb16)
      have HX2c := Lib.hid hX2
      have HX1B := Lib.hid (blk_lt HX1_14.out.blk)
      have HNE := Lib.hid (show X1 ≠ KB1 ∧ w7.heap.size ≤ X1 ∧ w7.heap.size ≤ KB1 by have h1 := HXL1.out; have h2 := HKL2.out; have h3 := HKL1.out; omega)
      have HNE2 := Lib.hid (show X2 ≠ KB2 ∧ w7.heap.size ≤ X2 ∧ w7.heap.size ≤ KB2 by have h1 := HXL1.out; have h2 := HKL2.out; have h3 := HX1B.out; omega)
      have HNX := Lib.hid (show X1 ≠ X2 ∧ X2 ≠ KB1 ∧ KB2 ≠ X1 ∧ KB2 ≠ KB1 by have h1 := HXL1.out; have h2 := HKL2.out; have h3 := HX1B.out; omega)
      have HNX2 := Lib.hid (show X1 ≠ KB2 by have h1 := HXL1.out; omega)
      have HLW1 := Lib.hid (show ∀ ad, A1 = some ad → 0 < all.length → ad.block ≠ KB1 from fun ad h1 h2 => by have h3 := HLO1.out ad h1 h2; have h4 := HKL2.out; omega)
      have HLW2 := Lib.hid (show ∀ ad, A2 = some ad → 0 < all.length → ad.block ≠ KB2 from fun ad h1 h2 => by have h3 := hlow2 ad h1 h2; have h4 := blk_lt HK2_14.out; omega)
      have HLW3 := Lib.hid (show ∀ ad, A2 = some ad → 0 < all.length → ad.block ≠ X1 ∧ ad.block ≠ KB1 from fun ad h1 h2 => by have h3 := hlow2 ad h1 h2; have h4 := blk_lt HK1_14.out; have h5 := HX1B.out; omega)
      have HLW4 := Lib.hid (show ∀ ad, A1 = some ad → 0 < all.length → ad.block ≠ X2 ∧ ad.block ≠ KB2 from fun ad h1 h2 => by have h3 := HLO1.out ad h1 h2; omega)
      have v0 : w16.drew.cell? ⟨w.heap.size, 0, none⟩ = some (.string n) := blk_cell ((HB16.out.block _ (blk_lt HU7.out)).trans HU7.out) 0
      clear hb16 hX2 hX2l hlow2
      go_wp2
      refine start_ (n := 47) (S := fun w' => w'.cell? ⟨w.heap.size, 0, none⟩ = some (.string n)) (ds := []) #[false, false, false, false, false, false, false, false, false, false, false, false, false, false, false, false, false, false, false, false, false, false, false, false, false, false, false, false, false, false, false, false, false, false, false, false, false, false, false, false, false, false, false, false, false, false, false] (by kernel_rfl) rfl rfl (v0) (fun hHeld => ?_)
      generalize hdr : w16.drew = w17 at hHeld ⊢
      have HB17 := Lib.hid (show Below w7.heap.size w7 w17 from hdr ▸ below_drew1 HB16.out)
      have HX1d := Lib.hid (show ExchAt w17 X1 x1 A1 all.length c1 from hdr ▸ HX1c.out.below (below_drew1 (Below.refl _ _)))
      have HX2d := Lib.hid (show ExchAt w17 X2 ⟨all, 1, b, ⟨#[]⟩⟩ A2 all.length c2 from hdr ▸ HX2c.out.below (below_drew1 (Below.refl _ _)))
      have HK1d := Lib.hid (show w17.heap[KB1]? = some (.cells #[.string n, .string s, a.val, .bool once] 80 (0, 0)) from hdr ▸ HK1c.out)
      have HK2d := Lib.hid (show w17.heap[KB2]? = some (.cells #[.string n, .string s, a.val, .bool once] 80 (0, 0)) from hdr ▸ HK2c.out)
      have HE17 := Lib.hid (HEup.out _ HB17.out)
      clear hdr v0
      refine pure_ (i := 0) (N := some 77) (v := ?_) (a' := ?_) #[true, false, false, false, false, false, false, false, false, false, false, false, false, false, false, false, false, false, false, false, false, false, false, false, false, false, false, false, false, false, false, false, false, false, false, false, false, false, false, false, false, false, false, false, false, false, false] rfl rfl (by kernel_rfl) (fun _ _ _ h => h) (Or.inl ⟨by rfl, ?_⟩) ?_ ?_
      rotate_left
      · intro w'
        go_simp
        with_reducible rfl
      rotate_left
      · simp only [Act.put, List.setIfInBounds_toArray, List.set_cons_zero, List.set_cons_succ, i64_w, i32_w]
        rfl
      refine pure_ (i := 1) (N := some 78) (v := ?_) (a' := ?_) #[true, true, false, false, false, false, false, false, false, false, false, false, false, false, false, false, false, false, false, false, false, false, false, false, false, false, false, false, false, false, false, false, false, false, false, false, false, false, false, false, false, false, false, false, false, false, false] rfl rfl (by kernel_rfl) (fun _ _ _ h => h) (Or.inl ⟨by rfl, ?_⟩) ?_ ?_
      rotate_left
      · intro w'
        go_simp
        with_reducible rfl
      rotate_left
      · simp only [Act.put, List.setIfInBounds_toArray, List.set_cons_zero, List.set_cons_succ, i64_w, i32_w]
        rfl
      refine pure_ (i := 2) (N := some 79) (v := ?_) (a' := ?_) #[true, true, true, false, false, false, false, false, false, false, false, false, false, false, false, false, false, false, false, false, false, false, false, false, false, false, false, false, false, false, false, false, false, false, false, false, false, false, false, false, false, false, false, false, false, false, false] rfl rfl (by kernel_rfl) (fun _ _ _ h => h) (Or.inl ⟨by rfl, ?_⟩) ?_ ?_
      rotate_left
      · intro w'
        go_simp
        with_reducible rfl
      rotate_left
      · simp only [Act.put, List.setIfInBounds_toArray, List.set_cons_zero, List.set_cons_succ, i64_w, i32_w]
        rfl
      refine pure_ (i := 3) (N := some 80) (v := ?_) (a' := ?_) #[true, true, true, true, false, false, false, false, false, false, false, false, false, false, false, false, false, false, false, false, false, false, false, false, false, false, false, false, false, false, false, false, false, false, false, false, false, false, false, false, false, false, false, false, false, false, false] rfl rfl (by kernel_rfl) (fun _ _ _ h => h) (Or.inl ⟨by rfl, ?_⟩) ?_ ?_
      rotate_left
      · intro w'
        go_simp
        with_reducible rfl
      rotate_left
      · simp only [Act.put, List.setIfInBounds_toArray, List.set_cons_zero, List.set_cons_succ, i64_w, i32_w]
        rfl
      refine pure_ (i := 4) (N := some 81) (v := ?_) (a' := ?_) #[true, true, true, true, true, false, false, false, false, false, false, false, false, false, false, false, false, false, false, false, false, false, false, false, false, false, false, false, false, false, false, false, false, false, false, false, false, false, false, false, false, false, false, false, false, false, false] rfl rfl (by kernel_rfl) (fun _ _ _ h => h) (Or.inl ⟨by rfl, ?_⟩) ?_ ?_
      rotate_left
      · intro w'
        go_simp
        with_reducible rfl
      rotate_left
      · simp only [Act.put, List.setIfInBounds_toArray, List.set_cons_zero, List.set_cons_succ, i64_w, i32_w]
        rfl
      refine pure_ (i := 5) (N := some 82) (v := ?_) (a' := ?_) #[true, true, true, true, true, true, false, false, false, false, false, false, false, false, false, false, false, false, false, false, false, false, false, false, false, false, false, false, false, false, false, false, false, false, false, false, false, false, false, false, false, false, false, false, false, false, false] rfl rfl (by kernel_rfl) (fun _ _ _ h => h) (Or.inl ⟨by rfl, ?_⟩) ?_ ?_
      rotate_left
      · intro w'
        go_simp
        with_reducible rfl
      rotate_left
      · simp only [Act.put, List.setIfInBounds_toArray, List.set_cons_zero, List.set_cons_succ, i64_w, i32_w]
        rfl
      refine pure_ (i := 6) (N := some 83) (v := ?_) (a' := ?_) #[true, true, true, true, true, true, true, false, false, false, false, false, false, false, false, false, false, false, false, false, false, false, false, false, false, false, false, false, false, false, false, false, false, false, false, false, false, false, false, false, false, false, false, false, false, false, false] rfl rfl (by kernel_rfl) (fun _ _ _ h => h) (Or.inl ⟨by rfl, ?_⟩) ?_ ?_
      rotate_left
      · intro w'
        go_simp
        with_reducible rfl
      rotate_left
      · simp only [Act.put, List.setIfInBounds_toArray, List.set_cons_zero, List.set_cons_succ, i64_w, i32_w]
        rfl
      refine pure_ (i := 7) (N := some 84) (v := ?_) (a' := ?_) #[true, true, true, true, true, true, true, true, false, false, false, false, false, false, false, false, false, false, false, false, false, false, false, false, false, false, false, false, false, false, false, false, false, false, false, false, false, false, false, false, false, false, false, false, false, false, false] rfl rfl (by kernel_rfl) (fun _ _ _ h => h) (Or.inl ⟨by rfl, ?_⟩) ?_ ?_
      rotate_left
      · intro w'
        go_simp
        with_reducible rfl
      rotate_left
      · simp only [Act.put, List.setIfInBounds_toArray, List.set_cons_zero, List.set_cons_succ, i64_w, i32_w]
        rfl
      refine pure_ (i := 8) (N := some 85) (v := ?_) (a' := ?_) #[true, true, true, true, true, true, true, true, true, false, false, false, false, false, false, false, false, false, false, false, false, false, false, false, false, false, false, false, false, false, false, false, false, false, false, false, false, false, false, false, false, false, false, false, false, false, false] rfl rfl (by kernel_rfl) (fun _ _ _ h => h) (Or.inl ⟨by rfl, ?_⟩) ?_ ?_
      rotate_left
      · intro w'
        go_simp
        with_reducible rfl
      rotate_left
      · simp only [Act.put, List.setIfInBounds_toArray, List.set_cons_zero, List.set_cons_succ, i64_w, i32_w]
        rfl
      refine one_ (i := 9) (N := some 86) #[true, true, true, true, true, true, true, true, true, true, false, false, false, false, false, false, false, false, false, false, false, false, false, false, false, false, false, false, false, false, false, false, false, false, false, false, false, false, false, false, false, false, false, false, false, false, false] rfl rfl (by kernel_rfl) (by decide) (fun K hK => ?_)
      refine goes_ Try.func24 (by kernel_rfl) rfl #[.pointer (some ⟨X1, 0, none⟩), .iface 75 (.pointer (some ⟨KB1, 0, none⟩))] (by rfl) rfl rfl (by simp only [List.map_toArray, List.map_cons, List.map_nil]; rfl) ?_
      with_reducible refine (talk_near (T := T) (S := S) (B := w7.heap.size) X1 KB1 n s once x1 xf (some a) k1 A1 all.length c1 w17 HE17.out HX1d.out (by rw [show stpO (some a) = a.val from rfl]; exact HK1d.out) HNE.out.1 HLW1.out HNE.out.2.1 HNE.out.2.2 HNS.out HSS.out HMB.out.t1 HMB.out.l1).mono ?_
      rintro e w18 ⟨rfl, hX18, hN18⟩
      refine ⟨_, rfl, ?_⟩
      have HB18 := Lib.hid (HB17.out.trans (hN18.below HNE.out.2.1 HNE.out.2.2 HB17.out.size))
      have HX1e := Lib.hid hX18
      have HX2e := Lib.hid (HX2d.out.near2 hN18 (Ne.symm HNX.out.1) HNX.out.2.1 HLW3.out)
      have HK2e := Lib.hid ((hN18.block _ (blk_lt HK2d.out) HNX.out.2.2.1 HNX.out.2.2.2).trans HK2d.out)
      refine hK.out _ _ ((blk_cell ((HB18.out.block _ (blk_lt HU7.out)).trans HU7.out) 0)) (fun hHeld => ?_)
      clear hK K
      refine norm_ (a' := ?_) ?_ ?_
      rotate_left
      · show Act.put _ (some 86) _ = _
        simp only [Act.put, List.setIfInBounds_toArray, List.set_cons_zero, List.set_cons_succ, i64_w, i32_w]
        rfl
      refine pure_ (i := 10) (N := some 87) (v := ?_) (a' := ?_) #[true, true, true, true, true, true, true, true, true, true, true, false, false, false, false, false, false, false, false, false, false, false, false, false, false, false, false, false, false, false, false, false, false, false, false, false, false, false, false, false, false, false, false, false, false, false, false] rfl rfl (by kernel_rfl) (fun _ _ _ h => h) (Or.inl ⟨by rfl, ?_⟩) ?_ ?_
      rotate_left
      · intro w'
        go_simp
        with_reducible rfl
      rotate_left
      · simp only [Act.put, List.setIfInBounds_toArray, List.set_cons_zero, List.set_cons_succ, i64_w, i32_w]
        rfl
      refine pure_ (i := 11) (N := some 88) (v := ?_) (a' := ?_) #[true, true, true, true, true, true, true, true, true, true, true, true, false, false, false, false, false, false, false, false, false, false, false, false, false, false, false, false, false, false, false, false, false, false, false, false, false, false, false, false, false, false, false, false, false, false, false] rfl rfl (by kernel_rfl) (fun _ _ _ h => h) (Or.inl ⟨by rfl, ?_⟩) ?_ ?_
      rotate_left
      · intro w'
        go_simp
        with_reducible rfl
      rotate_left
      · simp only [Act.put, List.setIfInBounds_toArray, List.set_cons_zero, List.set_cons_succ, i64_w, i32_w]
        rfl
      refine pure_ (i := 12) (N := some 89) (v := ?_) (a' := ?_) #[true, true, true, true, true, true, true, true, true, true, true, true, true, false, false, false, false, false, false, false, false, false, false, false, false, false, false, false, false, false, false, false, false, false, false, false, false, false, false, false, false, false, false, false, false, false, false] rfl rfl (by kernel_rfl) (fun _ _ _ h => h) (Or.inl ⟨by rfl, ?_⟩) ?_ ?_
      rotate_left
      · intro w'
        go_simp
        with_reducible rfl
      rotate_left
      · simp only [Act.put, List.setIfInBounds_toArray, List.set_cons_zero, List.set_cons_succ, i64_w, i32_w]
        rfl
      refine pure_ (i := 13) (N := some 90) (v := ?_) (a' := ?_) #[true, true, true, true, true, true, true, true, true, true, true, true, true, true, false, false, false, false, false, false, false, false, false, false, false, false, false, false, false, false, false, false, false, false, false, false, false, false, false, false, false, false, false, false, false, false, false] rfl rfl (by kernel_rfl) (fun _ _ _ h => h) (Or.inl ⟨by rfl, ?_⟩) ?_ ?_
      rotate_left
      · intro w'
        go_simp
        with_reducible rfl
      rotate_left
      · simp only [Act.put, List.setIfInBounds_toArray, List.set_cons_zero, List.set_cons_succ, i64_w, i32_w]
        rfl
      refine pure_ (i := 14) (N := some 91) (v := ?_) (a' := ?_) #[true, true, true, true, true, true, true, true, true, true, true, true, true, true, true, false, false, false, false, false, false, false, false, false, false, false, false, false, false, false, false, false, false, false, false, false, false, false, false, false, false, false, false, false, false, false, false] rfl rfl (by kernel_rfl) (fun _ _ _ h => h) (Or.inl ⟨by rfl, ?_⟩) ?_ ?_
      rotate_left
      · intro w'
        go_simp
        with_reducible rfl
      rotate_left
      · simp only [Act.put, List.setIfInBounds_toArray, List.set_cons_zero, List.set_cons_succ, i64_w, i32_w]
        rfl
      refine one_ (i := 15) (N := some 92) #[true, true, true, true, true, true, true, true, true, true, true, true, true, true, true, true, false, false, false, false, false, false, false, false, false, false, false, false, false, false, false, false, false, false, false, false, false, false, false, false, false, false, false, false, false, false, false] rfl rfl (by kernel_rfl) (by decide) (fun K hK => ?_)
      refine goes_ Try.func24 (by kernel_rfl) rfl #[.pointer (some ⟨X2, 0, none⟩), .iface 75 (.pointer (some ⟨KB2, 0, none⟩))] (by rfl) rfl rfl (by simp only [List.map_toArray, List.map_cons, List.map_nil]; rfl) ?_
      with_reducible refine (talk_near (T := T) (S := S) (B := w7.heap.size) X2 KB2 n s once ⟨all, 1, b, ⟨#[]⟩⟩ xf (some a) k2 A2 all.length c2 w18 (HEup.out _ HB18.out) HX2e.out (by rw [show stpO (some a) = a.val from rfl]; exact HK2e.out) HNE2.out.1 HLW2.out HNE2.out.2.1 HNE2.out.2.2 HNS.out HSS.out HMB.out.t2 HMB.out.l2).mono ?_
      rintro e w19 ⟨rfl, hX19, hN19⟩
      refine ⟨_, rfl, ?_⟩
      have HB19 := Lib.hid (HB18.out.trans (hN19.below HNE2.out.2.1 HNE2.out.2.2 HB18.out.size))
      have HX2f := Lib.hid hX19.ex
      have HX1f := Lib.hid (HX1e.out.near2 hN19 HNX.out.1 HNX2.out HLW4.out).ex
      refine hK.out _ _ ((blk_cell ((HB19.out.block _ (blk_lt HU7.out)).trans HU7.out) 0)) (fun hHeld => ?_)
      clear hK K
      refine norm_ (a' := ?_) ?_ ?_
      rotate_left
      · show Act.put _ (some 92) _ = _
        simp only [Act.put, List.setIfInBounds_toArray, List.set_cons_zero, List.set_cons_succ, i64_w, i32_w]
        rfl
      refine pure_ (i := 16) (N := some 93) (v := ?_) (a' := ?_) #[true, true, true, true, true, true, true, true, true, true, true, true, true, true, true, true, true, false, false, false, false, false, false, false, false, false, false, false, false, false, false, false, false, false, false, false, false, false, false, false, false, false, false, false, false, false, false] rfl rfl (by kernel_rfl) (fun _ _ _ h => h) (Or.inl ⟨by rfl, ?_⟩) ?_ ?_
      rotate_left
      · intro w'
        go_simp
        with_reducible rfl
      rotate_left
      · simp only [Act.put, List.setIfInBounds_toArray, List.set_cons_zero, List.set_cons_succ, i64_w, i32_w]
        rfl
      refine pure_ (i := 17) (N := some 94) (v := ?_) (a' := ?_) #[true, true, true, true, true, true, true, true, true, true, true, true, true, true, true, true, true, true, false, false, false, false, false, false, false, false, false, false, false, false, false, false, false, false, false, false, false, false, false, false, false, false, false, false, false, false, false] rfl rfl (by kernel_rfl) (fun _ _ _ h => h) (Or.inl ⟨by rfl, ?_⟩) ?_ ?_
      rotate_left
      · intro w'
        go_simp
        with_reducible rfl
      rotate_left
      · simp only [Act.put, List.setIfInBounds_toArray, List.set_cons_zero, List.set_cons_succ, i64_w, i32_w]
        rfl
      refine pure_ (i := 18) (N := some 95) (v := ?_) (a' := ?_) #[true, true, true, true, true, true, true, true, true, true, true, true, true, true, true, true, true, true, true, false, false, false, false, false, false, false, false, false, false, false, false, false, false, false, false, false, false, false, false, false, false, false, false, false, false, false, false] rfl rfl (by kernel_rfl) (fun _ _ _ h => h) (Or.inl ⟨by rfl, ?_⟩) ?_ ?_
      rotate_left
      · intro w'
        go_simp
        with_reducible rfl
      rotate_left
      · simp only [Act.put, List.setIfInBounds_toArray, List.set_cons_zero, List.set_cons_succ, i64_w, i32_w]
        rfl
      refine pure_ (i := 19) (N := some 96) (v := ?_) (a' := ?_) #[true, true, true, true, true, true, true, true, true, true, true, true, true, true, true, true, true, true, true, true, false, false, false, false, false, false, false, false, false, false, false, false, false, false, false, false, false, false, false, false, false, false, false, false, false, false, false] rfl rfl (by kernel_rfl) (fun _ _ _ h => h) (Or.inl ⟨by rfl, ?_⟩) ?_ ?_
      rotate_left
      · intro w'
        go_simp
        with_reducible rfl
      rotate_left
      · simp only [Act.put, List.setIfInBounds_toArray, List.set_cons_zero, List.set_cons_succ, i64_w, i32_w]
        rfl
      refine one_ (i := 20) (N := some 97) #[true, true, true, true, true, true, true, true, true, true, true, true, true, true, true, true, true, true, true, true, true, false, false, false, false, false, false, false, false, false, false, false, false, false, false, false, false, false, false, false, false, false, false, false, false, false, false] rfl rfl (by kernel_rfl) (by decide) (fun K hK => ?_)
      refine goes_ Try.func12 (by kernel_rfl) rfl #[.pointer (some ⟨X1, 0, none⟩)] (by rfl) rfl rfl (by simp only [List.map_toArray, List.map_cons, List.map_nil]; rfl) ?_
      with_reducible refine (state_calls HX1f.out).mono ?_
      rintro e w21 ⟨rfl, hw21⟩
      refine ⟨_, rfl, ?_⟩
      obtain rfl : w19 = w21 := hw21.symm
      rw [HSt.out]
      refine hK.out _ _ (hHeld) (fun hHeld => ?_)
      clear hK K
      refine norm_ (a' := ?_) ?_ ?_
      rotate_left
      · show Act.put _ (some 97) _ = _
        simp only [Act.put, List.setIfInBounds_toArray, List.set_cons_zero, List.set_cons_succ, i64_w, i32_w]
        rfl
      refine pure_ (i := 21) (N := some 98) (v := ?_) (a' := ?_) #[true, true, true, true, true, true, true, true, true, true, true, true, true, true, true, true, true, true, true, true, true, true, false, false, false, false, false, false, false, false, false, false, false, false, false, false, false, false, false, false, false, false, false, false, false, false, false] rfl rfl (by kernel_rfl) (fun _ _ _ h => h) (Or.inl ⟨by rfl, ?_⟩) ?_ ?_
      rotate_left
      · intro w'
        go_simp
        with_reducible rfl
      rotate_left
      · simp only [Act.put, List.setIfInBounds_toArray, List.set_cons_zero, List.set_cons_succ, i64_w, i32_w]
        rfl
      refine pure_ (i := 22) (N := some 99) (v := ?_) (a' := ?_) #[true, true, true, true, true, true, true, true, true, true, true, true, true, true, true, true, true, true, true, true, true, true, true, false, false, false, false, false, false, false, false, false, false, false, false, false, false, false, false, false, false, false, false, false, false, false, false] rfl rfl (by kernel_rfl) (fun _ _ _ h => h) (Or.inl ⟨by rfl, ?_⟩) ?_ ?_
      rotate_left
      · intro w'
        go_simp
        with_reducible rfl
      rotate_left
      · simp only [Act.put, List.setIfInBounds_toArray, List.set_cons_zero, List.set_cons_succ, i64_w, i32_w]
        rfl
      refine pure_ (i := 23) (N := some 100) (v := ?_) (a' := ?_) #[true, true, true, true, true, true, true, true, true, true, true, true, true, true, true, true, true, true, true, true, true, true, true, true, false, false, false, false, false, false, false, false, false, false, false, false, false, false, false, false, false, false, false, false, false, false, false] rfl rfl (by kernel_rfl) (fun _ _ _ h => h) (Or.inl ⟨by rfl, ?_⟩) ?_ ?_
      rotate_left
      · intro w'
        go_simp
        with_reducible rfl
      rotate_left
      · simp only [Act.put, List.setIfInBounds_toArray, List.set_cons_zero, List.set_cons_succ, i64_w, i32_w]
        rfl
      refine pure_ (i := 24) (N := some 101) (v := ?_) (a' := ?_) #[true, true, true, true, true, true, true, true, true, true, true, true, true, true, true, true, true, true, true, true, true, true, true, true, true, false, false, false, false, false, false, false, false, false, false, false, false, false, false, false, false, false, false, false, false, false, false] rfl rfl (by kernel_rfl) (fun _ _ _ h => h) (Or.inl ⟨by rfl, ?_⟩) ?_ ?_
      rotate_left
      · intro w'
        go_simp
        with_reducible rfl
      rotate_left
      · simp only [Act.put, List.setIfInBounds_toArray, List.set_cons_zero, List.set_cons_succ, i64_w, i32_w]
        rfl
      refine one_ (i := 25) (N := some 102) #[true, true, true, true, true, true, true, true, true, true, true, true, true, true, true, true, true, true, true, true, true, true, true, true, true, true, false, false, false, false, false, false, false, false, false, false, false, false, false, false, false, false, false, false, false, false, false] rfl rfl (by kernel_rfl) (by decide) (fun K hK => ?_)
      refine goes_ Try.func12 (by kernel_rfl) rfl #[.pointer (some ⟨X2, 0, none⟩)] (by rfl) rfl rfl (by simp only [List.map_toArray, List.map_cons, List.map_nil]; rfl) ?_
      with_reducible refine (state_calls HX2f.out).mono ?_
      rintro e w22 ⟨rfl, hw22⟩
      refine ⟨_, rfl, ?_⟩
      obtain rfl : w19 = w22 := hw22.symm
      rw [HSt.out]
      refine hK.out _ _ (hHeld) (fun hHeld => ?_)
      clear hK K
      refine norm_ (a' := ?_) ?_ ?_
      rotate_left
      · show Act.put _ (some 102) _ = _
        simp only [Act.put, List.setIfInBounds_toArray, List.set_cons_zero, List.set_cons_succ, i64_w, i32_w]
        rfl
      refine pure_ (i := 26) (N := some 103) (v := ?_) (a' := ?_) #[true, true, true, true, true, true, true, true, true, true, true, true, true, true, true, true, true, true, true, true, true, true, true, true, true, true, true, false, false, false, false, false, false, false, false, false, false, false, false, false, false, false, false, false, false, false, false] rfl rfl (by kernel_rfl) (fun _ _ _ h => h) (Or.inl ⟨by rfl, ?_⟩) ?_ ?_
      rotate_left
      · intro w'
        go_simp
        with_reducible rfl
      rotate_left
      · simp only [Act.put, List.setIfInBounds_toArray, List.set_cons_zero, List.set_cons_succ, i64_w, i32_w]
        rfl
      refine pure_ (i := 27) (N := some 104) (v := ?_) (a' := ?_) #[true, true, true, true, true, true, true, true, true, true, true, true, true, true, true, true, true, true, true, true, true, true, true, true, true, true, true, true, false, false, false, false, false, false, false, false, false, false, false, false, false, false, false, false, false, false, false] rfl rfl (by kernel_rfl) (fun _ _ _ h => h) (Or.inl ⟨by rfl, ?_⟩) ?_ ?_
      rotate_left
      · intro w'
        go_simp
        with_reducible rfl
      rotate_left
      · simp only [Act.put, List.setIfInBounds_toArray, List.set_cons_zero, List.set_cons_succ, i64_w, i32_w]
        rfl
      refine pure_ (i := 28) (N := some 105) (v := ?_) (a' := ?_) #[true, true, true, true, true, true, true, true, true, true, true, true, true, true, true, true, true, true, true, true, true, true, true, true, true, true, true, true, true, false, false, false, false, false, false, false, false, false, false, false, false, false, false, false, false, false, false] rfl rfl (by kernel_rfl) (fun _ _ _ h => h) (Or.inl ⟨by rfl, ?_⟩) ?_ ?_
      rotate_left
      · intro w'
        go_simp
        with_reducible rfl
      rotate_left
      · simp only [Act.put, List.setIfInBounds_toArray, List.set_cons_zero, List.set_cons_succ, i64_w, i32_w]
        rfl
      refine pure_ (i := 29) (N := some 106) (v := ?_) (a' := ?_) #[true, true, true, true, true, true, true, true, true, true, true, true, true, true, true, true, true, true, true, true, true, true, true, true, true, true, true, true, true, true, false, false, false, false, false, false, false, false, false, false, false, false, false, false, false, false, false] rfl rfl (by kernel_rfl) (fun _ _ _ h => h) (Or.inl ⟨by rfl, ?_⟩) ?_ ?_
      rotate_left
      · intro w'
        go_simp
        with_reducible rfl
      rotate_left
      · simp only [Act.put, List.setIfInBounds_toArray, List.set_cons_zero, List.set_cons_succ, i64_w, i32_w]
        rfl
      refine pure_ (i := 31) (N := some 108) (v := ?_) (a' := ?_) #[true, true, true, true, true, true, true, true, true, true, true, true, true, true, true, true, true, true, true, true, true, true, true, true, true, true, true, true, true, true, false, true, false, false, false, false, false, false, false, false, false, false, false, false, false, false, false] rfl rfl (by kernel_rfl) (fun _ _ _ h => h) (Or.inl ⟨by rfl, ?_⟩) ?_ ?_
      rotate_left
      · intro w'
        go_simp
        with_reducible rfl
      rotate_left
      · simp only [Act.put, List.setIfInBounds_toArray, List.set_cons_zero, List.set_cons_succ, i64_w, i32_w]
        rfl
      refine take_ (i := 32) (N := some 109) (v := ?_) (a' := ?_) #[true, true, true, true, true, true, true, true, true, true, true, true, true, true, true, true, true, true, true, true, true, true, true, true, true, true, true, true, true, true, false, true, true, false, false, false, false, false, false, false, false, false, false, false, false, false, false] rfl rfl (by kernel_rfl) (fun _ _ _ h => h) (Or.inl ⟨by rfl, ?_⟩) hHeld ?_ ?_
      rotate_left
      · intro w' s0
        go_simp
        with_reducible rfl
      rotate_left
      · simp only [Act.put, List.setIfInBounds_toArray, List.set_cons_zero, List.set_cons_succ, i64_w, i32_w]
        rfl
      refine one_ (i := 30) (N := some 107) #[true, true, true, true, true, true, true, true, true, true, true, true, true, true, true, true, true, true, true, true, true, true, true, true, true, true, true, true, true, true, true, true, true, false, false, false, false, false, false, false, false, false, false, false, false, false, false] rfl rfl (by kernel_rfl) (by decide) (fun K hK => ?_)
      refine goes_ Try.func16 (by kernel_rfl) rfl #[.pointer (some ⟨X1, 0, none⟩)] (by rfl) rfl rfl (by simp only [List.map_toArray, List.map_cons, List.map_nil]; rfl) ?_
      with_reducible refine (user_calls HX1f.out).mono ?_
      rintro e w23 ⟨rfl, hw23⟩
      refine ⟨_, rfl, ?_⟩
      obtain rfl : w19 = w23 := hw23.symm
      rw [HUs.out]
      refine hK.out _ _ (hHeld) (fun hHeld => ?_)
      clear hK K
      refine norm_ (a' := ?_) ?_ ?_
      rotate_left
      · show Act.put _ (some 107) _ = _
        simp only [Act.put, List.setIfInBounds_toArray, List.set_cons_zero, List.set_cons_succ, i64_w, i32_w]
        rfl
      refine pure_ (i := 33) (N := some 110) (v := ?_) (a' := ?_) #[true, true, true, true, true, true, true, true, true, true, true, true, true, true, true, true, true, true, true, true, true, true, true, true, true, true, true, true, true, true, true, true, true, true, false, false, false, false, false, false, false, false, false, false, false, false, false] rfl rfl (by kernel_rfl) (fun _ _ _ h => h) (Or.inl ⟨by rfl, ?_⟩) ?_ ?_
      rotate_left
      · intro w'
        go_simp
        with_reducible rfl
      rotate_left
      · simp only [Act.put, List.setIfInBounds_toArray, List.set_cons_zero, List.set_cons_succ, i64_w, i32_w]
        rfl
      refine pure_ (i := 34) (N := some 111) (v := ?_) (a' := ?_) #[true, true, true, true, true, true, true, true, true, true, true, true, true, true, true, true, true, true, true, true, true, true, true, true, true, true, true, true, true, true, true, true, true, true, true, false, false, false, false, false, false, false, false, false, false, false, false] rfl rfl (by kernel_rfl) (fun _ _ _ h => h) (Or.inl ⟨by rfl, ?_⟩) ?_ ?_
      rotate_left
      · intro w'
        go_simp
        with_reducible rfl
      rotate_left
      · simp only [Act.put, List.setIfInBounds_toArray, List.set_cons_zero, List.set_cons_succ, i64_w, i32_w]
        rfl
      refine pure_ (i := 35) (N := some 112) (v := ?_) (a' := ?_) #[true, true, true, true, true, true, true, true, true, true, true, true, true, true, true, true, true, true, true, true, true, true, true, true, true, true, true, true, true, true, true, true, true, true, true, true, false, false, false, false, false, false, false, false, false, false, false] rfl rfl (by kernel_rfl) (fun _ _ _ h => h) (Or.inl ⟨by rfl, ?_⟩) ?_ ?_
      rotate_left
      · intro w'
        go_simp
        with_reducible rfl
      rotate_left
      · simp only [Act.put, List.setIfInBounds_toArray, List.set_cons_zero, List.set_cons_succ, i64_w, i32_w]
        rfl
      refine pure_ (i := 36) (N := some 113) (v := ?_) (a' := ?_) #[true, true, true, true, true, true, true, true, true, true, true, true, true, true, true, true, true, true, true, true, true, true, true, true, true, true, true, true, true, true, true, true, true, true, true, true, true, false, false, false, false, false, false, false, false, false, false] rfl rfl (by kernel_rfl) (fun _ _ _ h => h) (Or.inl ⟨by rfl, ?_⟩) ?_ ?_
      rotate_left
      · intro w'
        go_simp
        with_reducible rfl
      rotate_left
      · simp only [Act.put, List.setIfInBounds_toArray, List.set_cons_zero, List.set_cons_succ, i64_w, i32_w]
        rfl
      refine pure_ (i := 38) (N := some 115) (v := ?_) (a' := ?_) #[true, true, true, true, true, true, true, true, true, true, true, true, true, true, true, true, true, true, true, true, true, true, true, true, true, true, true, true, true, true, true, true, true, true, true, true, true, false, true, false, false, false, false, false, false, false, false] rfl rfl (by kernel_rfl) (fun _ _ _ h => h) (Or.inl ⟨by rfl, ?_⟩) ?_ ?_
      rotate_left
      · intro w'
        go_simp
        with_reducible rfl
      rotate_left
      · simp only [Act.put, List.setIfInBounds_toArray, List.set_cons_zero, List.set_cons_succ, i64_w, i32_w]
        rfl
      refine take_ (i := 39) (N := some 116) (v := ?_) (a' := ?_) #[true, true, true, true, true, true, true, true, true, true, true, true, true, true, true, true, true, true, true, true, true, true, true, true, true, true, true, true, true, true, true, true, true, true, true, true, true, false, true, true, false, false, false, false, false, false, false] rfl rfl (by kernel_rfl) (fun _ _ _ h => h) (Or.inl ⟨by rfl, ?_⟩) hHeld ?_ ?_
      rotate_left
      · intro w' s0
        go_simp
        with_reducible rfl
      rotate_left
      · simp only [Act.put, List.setIfInBounds_toArray, List.set_cons_zero, List.set_cons_succ, i64_w, i32_w]
        rfl
      refine one_ (i := 37) (N := some 114) #[true, true, true, true, true, true, true, true, true, true, true, true, true, true, true, true, true, true, true, true, true, true, true, true, true, true, true, true, true, true, true, true, true, true, true, true, true, true, true, true, false, false, false, false, false, false, false] rfl rfl (by kernel_rfl) (by decide) (fun K hK => ?_)
      refine goes_ Try.func16 (by kernel_rfl) rfl #[.pointer (some ⟨X2, 0, none⟩)] (by rfl) rfl rfl (by simp only [List.map_toArray, List.map_cons, List.map_nil]; rfl) ?_
      with_reducible refine (user_calls HX2f.out).mono ?_
      rintro e w24 ⟨rfl, hw24⟩
      refine ⟨_, rfl, ?_⟩
      obtain rfl : w19 = w24 := hw24.symm
      rw [HUs.out]
      refine hK.out _ _ (hHeld) (fun hHeld => ?_)
      clear hK K
      refine norm_ (a' := ?_) ?_ ?_
      rotate_left
      · show Act.put _ (some 114) _ = _
        simp only [Act.put, List.setIfInBounds_toArray, List.set_cons_zero, List.set_cons_succ, i64_w, i32_w]
        rfl
      refine pure_ (i := 40) (N := some 117) (v := ?_) (a' := ?_) #[true, true, true, true, true, true, true, true, true, true, true, true, true, true, true, true, true, true, true, true, true, true, true, true, true, true, true, true, true, true, true, true, true, true, true, true, true, true, true, true, true, false, false, false, false, false, false] rfl rfl (by kernel_rfl) (fun _ _ _ h => h) (Or.inl ⟨by rfl, ?_⟩) ?_ ?_
      rotate_left
      · intro w'
        go_simp
        with_reducible rfl
      rotate_left
      · simp only [Act.put, List.setIfInBounds_toArray, List.set_cons_zero, List.set_cons_succ, i64_w, i32_w]
        rfl
      refine pure_ (i := 41) (N := some 118) (v := ?_) (a' := ?_) #[true, true, true, true, true, true, true, true, true, true, true, true, true, true, true, true, true, true, true, true, true, true, true, true, true, true, true, true, true, true, true, true, true, true, true, true, true, true, true, true, true, true, false, false, false, false, false] rfl rfl (by kernel_rfl) (fun _ _ _ h => h) (Or.inl ⟨by rfl, ?_⟩) ?_ ?_
      rotate_left
      · intro w'
        go_simp
        with_reducible rfl
      rotate_left
      · simp only [Act.put, List.setIfInBounds_toArray, List.set_cons_zero, List.set_cons_succ, i64_w, i32_w]
        rfl
      refine pure_ (i := 42) (N := some 119) (v := ?_) (a' := ?_) #[true, true, true, true, true, true, true, true, true, true, true, true, true, true, true, true, true, true, true, true, true, true, true, true, true, true, true, true, true, true, true, true, true, true, true, true, true, true, true, true, true, true, true, false, false, false, false] rfl rfl (by kernel_rfl) (fun _ _ _ h => h) (Or.inl ⟨by rfl, ?_⟩) ?_ ?_
      rotate_left
      · intro w'
        go_simp
        with_reducible rfl
      rotate_left
      · simp only [Act.put, List.setIfInBounds_toArray, List.set_cons_zero, List.set_cons_succ, i64_w, i32_w]
        rfl
      refine pure_ (i := 43) (N := some 120) (v := ?_) (a' := ?_) #[true, true, true, true, true, true, true, true, true, true, true, true, true, true, true, true, true, true, true, true, true, true, true, true, true, true, true, true, true, true, true, true, true, true, true, true, true, true, true, true, true, true, true, true, false, false, false] rfl rfl (by kernel_rfl) (fun _ _ _ h => h) (Or.inl ⟨by rfl, ?_⟩) ?_ ?_
      rotate_left
      · intro w'
        go_simp
        with_reducible rfl
      rotate_left
      · simp only [Act.put, List.setIfInBounds_toArray, List.set_cons_zero, List.set_cons_succ, i64_w, i32_w]
        rfl
      refine one_ (i := 44) (N := some 121) #[true, true, true, true, true, true, true, true, true, true, true, true, true, true, true, true, true, true, true, true, true, true, true, true, true, true, true, true, true, true, true, true, true, true, true, true, true, true, true, true, true, true, true, true, true, false, false] rfl rfl (by kernel_rfl) (by decide) (fun K hK => ?_)
      refine goes_ Try.func14 (by kernel_rfl) rfl #[.pointer (some ⟨X1, 0, none⟩)] (by rfl) rfl rfl (by simp only [List.map_toArray, List.map_cons, List.map_nil]; rfl) ?_
      with_reducible refine (ask_calls HX1f.out HAZ.out).mono ?_
      rintro e w30 ⟨rfl, hb30⟩
      refine ⟨_, rfl, ?_⟩
      rw [HAK.out]
      refine hK.out _ _ ((blk_cell (((HB19.out.trans (hb30.mono HB19.out.size)).block _ (blk_lt HU7.out)).trans HU7.out) 0)) (fun hHeld => ?_)
      clear hK K
      refine norm_ (a' := ?_) ?_ ?_
      rotate_left
      · show Act.put _ (some 121) _ = _
        simp only [Act.put, List.setIfInBounds_toArray, List.set_cons_zero, List.set_cons_succ, i64_w, i32_w]
        rfl
      refine pure_ (i := 45) (N := some 122) (v := ?_) (a' := ?_) #[true, true, true, true, true, true, true, true, true, true, true, true, true, true, true, true, true, true, true, true, true, true, true, true, true, true, true, true, true, true, true, true, true, true, true, true, true, true, true, true, true, true, true, true, true, true, false] rfl rfl (by kernel_rfl) (fun _ _ _ h => h) (Or.inl ⟨by rfl, ?_⟩) ?_ ?_
      rotate_left
      · intro w'
        go_simp
        with_reducible rfl
      rotate_left
      · simp only [Act.put, List.setIfInBounds_toArray, List.set_cons_zero, List.set_cons_succ, i64_w, i32_w]
        rfl
      refine pure_ (i := 46) (N := some 123) (v := ?_) (a' := ?_) #[true, true, true, true, true, true, true, true, true, true, true, true, true, true, true, true, true, true, true, true, true, true, true, true, true, true, true, true, true, true, true, true, true, true, true, true, true, true, true, true, true, true, true, true, true, true, true] rfl rfl (by kernel_rfl) (fun _ _ _ h => h) (Or.inl ⟨by rfl, ?_⟩) ?_ ?_
      rotate_left
      · intro w'
        go_simp
        with_reducible rfl
      rotate_left
      · simp only [Act.put, List.setIfInBounds_toArray, List.set_cons_zero, List.set_cons_succ, i64_w, i32_w]
        rfl
      refine done_ (by kernel_rfl) ?_
      have HB31 := Lib.hid (HB19.out.trans (hb30.mono HB19.out.size))
      clear hb30
      go_wp2
      go_roundw
      case rel => exact ⟨j + 1, by omega, by go_num, HB31.out⟩
      case measure => simp [intOf]; omega
    · obtain rfl : j = 3 := by omega
      go_wp2
      go_ret
      exact ⟨rfl, HBT.out _ HB.out⟩
theorem names_first (j : Nat) (hj : j < 3) : ∃ m a, namesL[j]? = some m ∧ firstV m ⟨#[]⟩ = some a ∧ m.size ≤ 100 := by
  match j, hj with
  | 0, _ => exact ⟨_, .plain, rfl, rfl, by decide⟩
  | 1, _ => exact ⟨_, .login, rfl, rfl, by decide⟩
  | 2, _ => exact ⟨_, .cram ⟨#[]⟩, rfl, rfl, by decide⟩
set_option maxHeartbeats 64000000 in
set_option maxRecDepth 100000 in
theorem both_not {T S : Nat → Int} {B : Nat} (A : Option Addr) (l c : Nat) (us : List S40) (n s stamp : ByteArray) (w : World) (he : Env T S B w) (hC : Kd.C k40 w A l us) (hl : us.length = l) (hc : l ≤ c) (hu : us.length ≤ 10000000 ∧ ∀ u ∈ us, u.f1.size ≤ 10000000) (hn : n.size ≤ 3000000) (hs : s.size ≤ 3000000) (hok : okUser n s = false) :
    Calls Try.prog 6 #[.slice A l c, .agg #[.string n, .string s], .string stamp] w fun e w' => e = .returned (.bool true) ∧ Below w.heap.size w w' := by
  subst hl
  obtain ⟨W0, hW0⟩ : ∃ W0, W0 = w.alloc (.cells #[.string n, .string s] 41) := ⟨_, rfl⟩
  have hb0 : Below w.heap.size w W0 := hW0 ▸ (Below.refl _ _).alloc (Nat.le_refl _) _
  have HBK := Lib.hid (show W0.heap[w.heap.size]? = some (.cells #[.string n, .string s] 41 (0, 0)) from hW0 ▸ heap_alloc_new w _)
  have hWW : w.alloc (.cells #[.string n, .string s] 41) = W0 := hW0.symm
  have HWK := Lib.hid (wakes_calls W0 (he.below (hb0.mono he.size)))
  have HMY := Lib.hid (fun W => hok ▸ lawMay_calls n s W (by omega) (by omega))
  have HRS0 := Lib.hid (fun (m : ByteArray) (a : Stp) W (hf : firstV m ⟨#[]⟩ = some a) (hm : m.size ≤ 100) => respond_none n s m a W hf (by omega) (by omega) (by omega) hok)
  have HC := Lib.hid (Kd.C_below hC hb0)
  have hul : us.length ≤ 10000000 := hu.1
  have HE := Lib.hid he
  have HBW := Lib.hid hb0
  clear hb0 hW0 hC hu he hok hn hs
  go_enter Try.func6, Try.ntmps6
  go_wp2_with fail
  refine HWK.out.mono ?_
  rintro e w1 ⟨rfl, hb1⟩
  have HB1 := Lib.hid hb1
  have HK1 := Lib.hid ((hb1.block _ (blk_lt HBK.out)).trans HBK.out)
  have y0 : w1.drew.cell? ⟨w.heap.size, 0, none⟩ = some (.string n) := blk_cell HK1.out 0
  have y1 : w1.drew.cell? ⟨w.heap.size, 1, none⟩ = some (.string s) := blk_cell HK1.out 1
  clear hb1
  go_wp2
  refine start_ (n := 7) (S := fun w' => w'.cell? ⟨w.heap.size, 0, none⟩ = some (.string n) ∧ w'.cell? ⟨w.heap.size, 1, none⟩ = some (.string s)) (ds := []) #[false, false, false, false, false, false, false] (by kernel_rfl) rfl rfl ⟨y0, y1⟩ (fun hHeld => ?_)
  generalize hdr : w1.drew = w2 at hHeld ⊢
  have HB2 := Lib.hid (show Below W0.heap.size W0 w2 from hdr ▸ below_drew1 HB1.out)
  clear hdr y0 y1
  refine pure_ (i := 1) (N := some 21) (v := ?_) (a' := ?_) #[false, true, false, false, false, false, false] rfl rfl (by kernel_rfl) (fun _ _ _ h => h) (Or.inl ⟨by rfl, ?_⟩) ?_ ?_
  rotate_left
  · intro w'
    go_simp
    with_reducible rfl
  rotate_left
  · simp only [Act.put, List.setIfInBounds_toArray, List.set_cons_zero, List.set_cons_succ, i64_w, i32_w]
    rfl
  refine take_ (i := 3) (N := some 23) (v := ?_) (a' := ?_) #[false, true, false, true, false, false, false] rfl rfl (by kernel_rfl) (fun _ _ _ h => h) (Or.inl ⟨by rfl, ?_⟩) hHeld ?_ ?_
  rotate_left
  · rintro w' ⟨s0, s1⟩
    go_simp
    with_reducible rfl
  rotate_left
  · simp only [Act.put, List.setIfInBounds_toArray, List.set_cons_zero, List.set_cons_succ, i64_w, i32_w]
    rfl
  refine join_ (σ := Value × Value × Value) 2 #[true, true, true, true, true, false, false] (fun s_ => [(20, s_.1), (22, s_.2.1), (24, s_.2.2)]) (fun s_ w' => (w'.cell? ⟨w.heap.size, 0, none⟩ = some (.string n) ∧ w'.cell? ⟨w.heap.size, 1, none⟩ = some (.string s) ∧ Below W0.heap.size W0 w' ∧ Kd.R k40 41 w' W0.heap.size (fun _ => True) s_.2.1 us ∧ Kd.R k40 41 w' W0.heap.size (fun _ => True) s_.2.2 [⟨n, s⟩])) ?_ ?_
  rotate_left
  · intro hCont
    refine two_ (i := 0) (j := 4) (Ni := some 20) (Nj := some 24) #[true, true, false, true, false, false, false] #[false, true, false, true, true, false, false] rfl rfl rfl rfl (by kernel_rfl) (by decide) (by decide) (fun K hK => ?_) (fun K hK => ?_)
    · skip
      refine Kd.R_lit_step k40 (w0 := W0) (W := w2) W0.heap.size 41 (by rfl) (N := 20) rfl (xs := ([] : List S40)) (inner := []) (ok := fun q => w2.heap.size ≤ q) (okp := fun _ => False) ?h20 (Reps.none _ _) (fun _ h => h.elim) (Nat.le_refl _) HB2.out HB2.out.size (by decide) ?_
      case h20 => first | (go_simp; done) | (go_simp; rfl)
      intro v0 wq0 hR0 hBq0 hgq0 hat0
      have HBq0 := Lib.hid hBq0
      have HR0_0 := Lib.hid hR0
      have HGq0 := Lib.hid hgq0
      clear hBq0 hR0 hgq0 hat0
      refine hK.out _ _ ⟨(blk_cell ((HBq0.out.block _ (blk_lt HBK.out)).trans HBK.out) 0), (blk_cell ((HBq0.out.block _ (blk_lt HBK.out)).trans HBK.out) 1)⟩ (fun hHeld => ?_)
      clear hK K
      refine norm_ (a' := ?_) ?_ ?_
      rotate_left
      · show Act.put _ (some 20) _ = _
        simp only [Act.put, List.setIfInBounds_toArray, List.set_cons_zero, List.set_cons_succ, i64_w, i32_w]
        rfl
      refine two_ (i := 2) (j := 4) (Ni := some 22) (Nj := some 24) #[true, true, true, true, false, false, false] #[true, true, false, true, true, false, false] rfl rfl rfl rfl (by kernel_rfl) (by decide) (by decide) (fun K hK => ?_) (fun K hK => ?_)
      · skip
        refine Kd.R_append_rows_step k40 (Rr := k40.K wq0) (w0 := W0) (W := wq0) W0.heap.size (by rfl) (.tmp 20) (.tmp 21) 25 41 _ 32 rfl Try.underlying25 info41r rfl (by decide) (by decide) v0 ([] : List S40) us A us.length c (fun _ => True) (fun _ => False) rfl rfl (Kd.R_mono HR0_0.out (fun _ _ => trivial)) (Kd.C_below HC.out HBq0.out) ?hKM (fun _ h => h.elim) (fun _ _ => trivial) HBq0.out HBq0.out.size (by simp; omega) ?_
        case hKM =>
          intro x cs h
          obtain rfl := k40_open h
          exact k40_mkM _ _ _ _
        intro v2 wq1 hR2 hBq1 hgq1 hat2
        have HBq1 := Lib.hid hBq1
        have HR2_1 := Lib.hid hR2
        clear hBq1 hR2 hgq1 hat2
        refine hK.out _ _ ⟨(blk_cell ((HBq1.out.block _ (blk_lt HBK.out)).trans HBK.out) 0), (blk_cell ((HBq1.out.block _ (blk_lt HBK.out)).trans HBK.out) 1)⟩ (fun hHeld => ?_)
        clear hK K
        refine norm_ (a' := ?_) ?_ ?_
        rotate_left
        · show Act.put _ (some 22) _ = _
          simp only [Act.put, List.setIfInBounds_toArray, List.set_cons_zero, List.set_cons_succ, i64_w, i32_w]
          rfl
        refine one_ (i := 4) (N := some 24) #[true, true, true, true, true, false, false] rfl rfl (by kernel_rfl) (by decide) (fun K hK => ?_)
        refine Kd.R_lit_step k40 (w0 := W0) (W := wq1) W0.heap.size 41 (by rfl) (N := 24) rfl (xs := [(⟨n, s⟩ : S40)]) (inner := [.string n, .string s]) (ok := fun q => wq1.heap.size ≤ q) (okp := fun _ => False) ?h24 (Reps.c2 (k40_mkM _ _ _ ⟨n, s⟩) (Reps.none _ _)) (fun _ h => h.elim) (Nat.le_refl _) HBq1.out HBq1.out.size (show 1 ≤ 9223372036854775807 by decide) ?_
        case h24 => first | (go_simp; done) | (go_simp; rfl)
        intro v4 wq2 hR4 hBq2 hgq2 hat4
        have HBq2 := Lib.hid hBq2
        have HR4_2 := Lib.hid hR4
        have HR2_2 := Lib.hid (Kd.R_grown HR2_1.out hgq2 (fun _ _ => by simp))
        clear hBq2 hR4 hgq2 hat4
        have HR4_2b := HR4_2
        refine hK.out _ _ ⟨(blk_cell ((HBq2.out.block _ (blk_lt HBK.out)).trans HBK.out) 0), (blk_cell ((HBq2.out.block _ (blk_lt HBK.out)).trans HBK.out) 1)⟩ (fun hHeld => ?_)
        clear hK K
        refine norm_ (a' := ?_) ?_ ?_
        rotate_left
        · show Act.put _ (some 24) _ = _
          simp only [Act.put, List.setIfInBounds_toArray, List.set_cons_zero, List.set_cons_succ, i64_w, i32_w]
          rfl
        exact norm_ (by simp only [putAll, Act.put, List.setIfInBounds_toArray, List.set_cons_zero, List.set_cons_succ]) (hCont (v0, v2, v4) _ ⟨(blk_cell ((HBq2.out.block _ (blk_lt HBK.out)).trans HBK.out) 0), (blk_cell ((HBq2.out.block _ (blk_lt HBK.out)).trans HBK.out) 1), HBq2.out, Kd.R_mono HR2_2.out (fun _ _ => trivial), Kd.R_mono HR4_2.out (fun _ _ => trivial)⟩)
      · skip
        refine Kd.R_lit_step k40 (w0 := W0) (W := wq0) W0.heap.size 41 (by rfl) (N := 24) rfl (xs := [(⟨n, s⟩ : S40)]) (inner := [.string n, .string s]) (ok := fun q => wq0.heap.size ≤ q) (okp := fun _ => False) ?h24 (Reps.c2 (k40_mkM _ _ _ ⟨n, s⟩) (Reps.none _ _)) (fun _ h => h.elim) (Nat.le_refl _) HBq0.out HBq0.out.size (show 1 ≤ 9223372036854775807 by decide) ?_
        case h24 => first | (go_simp; done) | (go_simp; rfl)
        intro v4 wq1 hR4 hBq1 hgq1 hat4
        have HBq1 := Lib.hid hBq1
        have HR4_1 := Lib.hid hR4
        have HR0_1 := Lib.hid (Kd.R_grown HR0_0.out hgq1 (fun _ _ => by simp))
        clear hBq1 hR4 hgq1 hat4
        have HR4_1b := HR4_1
        refine hK.out _ _ ⟨(blk_cell ((HBq1.out.block _ (blk_lt HBK.out)).trans HBK.out) 0), (blk_cell ((HBq1.out.block _ (blk_lt HBK.out)).trans HBK.out) 1)⟩ (fun hHeld => ?_)
        clear hK K
        refine norm_ (a' := ?_) ?_ ?_
        rotate_left
        · show Act.put _ (some 24) _ = _
          simp only [Act.put, List.setIfInBounds_toArray, List.set_cons_zero, List.set_cons_succ, i64_w, i32_w]
          rfl
        refine one_ (i := 2) (N := some 22) #[true, true, true, true, true, false, false] rfl rfl (by kernel_rfl) (by decide) (fun K hK => ?_)
        refine Kd.R_append_rows_step k40 (Rr := k40.K wq1) (w0 := W0) (W := wq1) W0.heap.size (by rfl) (.tmp 20) (.tmp 21) 25 41 _ 32 rfl Try.underlying25 info41r rfl (by decide) (by decide) v0 ([] : List S40) us A us.length c (fun _ => True) (fun _ => False) rfl rfl (Kd.R_mono HR0_1.out (fun _ _ => trivial)) (Kd.C_below HC.out HBq1.out) ?hKM (fun _ h => h.elim) (fun _ _ => trivial) HBq1.out HBq1.out.size (by simp; omega) ?_
        case hKM =>
          intro x cs h
          obtain rfl := k40_open h
          exact k40_mkM _ _ _ _
        intro v2 wq2 hR2 hBq2 hgq2 hat2
        have HBq2 := Lib.hid hBq2
        have HR2_2 := Lib.hid hR2
        have HR4_2 := Lib.hid (Kd.R_grown HR4_1.out hgq2 (fun k hk he => by have := Kd.R_lt HR0_0.out k he.symm; omega))
        clear hBq2 hR2 hgq2 hat2
        refine hK.out _ _ ⟨(blk_cell ((HBq2.out.block _ (blk_lt HBK.out)).trans HBK.out) 0), (blk_cell ((HBq2.out.block _ (blk_lt HBK.out)).trans HBK.out) 1)⟩ (fun hHeld => ?_)
        clear hK K
        refine norm_ (a' := ?_) ?_ ?_
        rotate_left
        · show Act.put _ (some 22) _ = _
          simp only [Act.put, List.setIfInBounds_toArray, List.set_cons_zero, List.set_cons_succ, i64_w, i32_w]
          rfl
        exact norm_ (by simp only [putAll, Act.put, List.setIfInBounds_toArray, List.set_cons_zero, List.set_cons_succ]) (hCont (v0, v2, v4) _ ⟨(blk_cell ((HBq2.out.block _ (blk_lt HBK.out)).trans HBK.out) 0), (blk_cell ((HBq2.out.block _ (blk_lt HBK.out)).trans HBK.out) 1), HBq2.out, Kd.R_mono HR2_2.out (fun _ _ => trivial), Kd.R_mono HR4_2.out (fun _ _ => trivial)⟩)
    · skip
      refine Kd.R_lit_step k40 (w0 := W0) (W := w2) W0.heap.size 41 (by rfl) (N := 24) rfl (xs := [(⟨n, s⟩ : S40)]) (inner := [.string n, .string s]) (ok := fun q => w2.heap.size ≤ q) (okp := fun _ => False) ?h24 (Reps.c2 (k40_mkM _ _ _ ⟨n, s⟩) (Reps.none _ _)) (fun _ h => h.elim) (Nat.le_refl _) HB2.out HB2.out.size (show 1 ≤ 9223372036854775807 by decide) ?_
      case h24 => first | (go_simp; done) | (go_simp; rfl)
      intro v4 wq0 hR4 hBq0 hgq0 hat4
      have HBq0 := Lib.hid hBq0
      have HR4_0 := Lib.hid hR4
      clear hBq0 hR4 hgq0 hat4
      have HR4_0b := HR4_0
      refine hK.out _ _ ⟨(blk_cell ((HBq0.out.block _ (blk_lt HBK.out)).trans HBK.out) 0), (blk_cell ((HBq0.out.block _ (blk_lt HBK.out)).trans HBK.out) 1)⟩ (fun hHeld => ?_)
      clear hK K
      refine norm_ (a' := ?_) ?_ ?_
      rotate_left
      · show Act.put _ (some 24) _ = _
        simp only [Act.put, List.setIfInBounds_toArray, List.set_cons_zero, List.set_cons_succ, i64_w, i32_w]
        rfl
      refine one_ (i := 0) (N := some 20) #[true, true, false, true, true, false, false] rfl rfl (by kernel_rfl) (by decide) (fun K hK => ?_)
      refine Kd.R_lit_step k40 (w0 := W0) (W := wq0) W0.heap.size 41 (by rfl) (N := 20) rfl (xs := ([] : List S40)) (inner := []) (ok := fun q => wq0.heap.size ≤ q) (okp := fun _ => False) ?h20 (Reps.none _ _) (fun _ h => h.elim) (Nat.le_refl _) HBq0.out HBq0.out.size (by decide) ?_
      case h20 => first | (go_simp; done) | (go_simp; rfl)
      intro v0 wq1 hR0 hBq1 hgq1 hat0
      have HBq1 := Lib.hid hBq1
      have HR0_1 := Lib.hid hR0
      have HGq1 := Lib.hid hgq1
      have HR4_1 := Lib.hid (Kd.R_grown HR4_0.out hgq1 (fun _ _ => by simp))
      clear hBq1 hR0 hgq1 hat0
      refine hK.out _ _ ⟨(blk_cell ((HBq1.out.block _ (blk_lt HBK.out)).trans HBK.out) 0), (blk_cell ((HBq1.out.block _ (blk_lt HBK.out)).trans HBK.out) 1)⟩ (fun hHeld => ?_)
      clear hK K
      refine norm_ (a' := ?_) ?_ ?_
      rotate_left
      · show Act.put _ (some 20) _ = _
        simp only [Act.put, List.setIfInBounds_toArray, List.set_cons_zero, List.set_cons_succ, i64_w, i32_w]
        rfl
      refine one_ (i := 2) (N := some 22) #[true, true, true, true, true, false, false] rfl rfl (by kernel_rfl) (by decide) (fun K hK => ?_)
      refine Kd.R_append_rows_step k40 (Rr := k40.K wq1) (w0 := W0) (W := wq1) W0.heap.size (by rfl) (.tmp 20) (.tmp 21) 25 41 _ 32 rfl Try.underlying25 info41r rfl (by decide) (by decide) v0 ([] : List S40) us A us.length c (fun _ => True) (fun _ => False) rfl rfl (Kd.R_mono HR0_1.out (fun _ _ => trivial)) (Kd.C_below HC.out HBq1.out) ?hKM (fun _ h => h.elim) (fun _ _ => trivial) HBq1.out HBq1.out.size (by simp; omega) ?_
      case hKM =>
        intro x cs h
        obtain rfl := k40_open h
        exact k40_mkM _ _ _ _
      intro v2 wq2 hR2 hBq2 hgq2 hat2
      have HBq2 := Lib.hid hBq2
      have HR2_2 := Lib.hid hR2
      have HR4_2 := Lib.hid (Kd.R_grown (Kd.R_mono (Kd.R_bound HR4_0b.out) (fun _ h => h.2.2.1) |> fun h => Kd.R_grown h HGq1.out (fun _ _ => by simp)) hgq2 (fun k hk he => by have := HR0_1.out.1 k he.symm; omega))
      clear hBq2 hR2 hgq2 hat2
      refine hK.out _ _ ⟨(blk_cell ((HBq2.out.block _ (blk_lt HBK.out)).trans HBK.out) 0), (blk_cell ((HBq2.out.block _ (blk_lt HBK.out)).trans HBK.out) 1)⟩ (fun hHeld => ?_)
      clear hK K
      refine norm_ (a' := ?_) ?_ ?_
      rotate_left
      · show Act.put _ (some 22) _ = _
        simp only [Act.put, List.setIfInBounds_toArray, List.set_cons_zero, List.set_cons_succ, i64_w, i32_w]
        rfl
      exact norm_ (by simp only [putAll, Act.put, List.setIfInBounds_toArray, List.set_cons_zero, List.set_cons_succ]) (hCont (v0, v2, v4) _ ⟨(blk_cell ((HBq2.out.block _ (blk_lt HBK.out)).trans HBK.out) 0), (blk_cell ((HBq2.out.block _ (blk_lt HBK.out)).trans HBK.out) 1), HBq2.out, Kd.R_mono HR2_2.out (fun _ _ => trivial), Kd.R_mono HR4_2.out (fun _ _ => trivial)⟩)
  rintro ⟨v0, v2, v4⟩ w5 ⟨hu0, hu1, hB5, hR2, hR4⟩
  have hHeld : w5.cell? ⟨w.heap.size, 0, none⟩ = some (.string n) ∧ w5.cell? ⟨w.heap.size, 1, none⟩ = some (.string s) := ⟨hu0, hu1⟩
  have HB5 := Lib.hid hB5
  have HR2 := Lib.hid hR2
  obtain ⟨A4, c4, rfl, hc4, hC4⟩ := Kd.R_reads hR4
  have HC4 := Lib.hid hC4
  clear hu0 hu1 hB5 hR2 hR4 hC4
  refine norm_ (a' := ?_) ?_ ?_
  rotate_left
  · simp only [putAll, Act.put, List.setIfInBounds_toArray, List.set_cons_zero, List.set_cons_succ]
    rfl
  refine one_ (i := 5) (N := some 25) #[true, true, true, true, true, true, false] rfl rfl (by kernel_rfl) (by decide) (fun K hK => ?_)
  refine Kd.R_append_rows_step k40 (Rr := k40.K w5) (w0 := W0) (W := w5) W0.heap.size (by rfl) (.tmp 22) (.tmp 24) 25 41 _ 32 rfl Try.underlying25 info41r rfl (by decide) (by decide) v2 us [(⟨n, s⟩ : S40)] A4 1 c4 (fun _ => True) (fun _ => False) rfl rfl HR2.out HC4.out ?hKM2 (fun _ h => h.elim) (fun _ _ => trivial) HB5.out HB5.out.size (by omega) ?_
  case hKM2 =>
    intro x cs h
    obtain rfl := k40_open h
    exact k40_mkM _ _ _ _
  intro v5 w6 hR6 hB6 hgr6 hat6
  have HB6 := Lib.hid hB6
  obtain ⟨A6, c6, rfl, hc6, hC6⟩ := Kd.R_reads hR6
  have HC6 := Lib.hid hC6
  clear hR6 hB6 hgr6 hat6 hC6
  refine hK.out _ _ ⟨(blk_cell ((HB6.out.block _ (blk_lt HBK.out)).trans HBK.out) 0), (blk_cell ((HB6.out.block _ (blk_lt HBK.out)).trans HBK.out) 1)⟩ (fun hHeld => ?_)
  clear hK K
  refine norm_ (a' := ?_) ?_ ?_
  rotate_left
  · show Act.put _ (some 25) _ = _
    simp only [Act.put, List.setIfInBounds_toArray, List.set_cons_zero, List.set_cons_succ, i64_w, i32_w]
    rfl
  refine pure_ (i := 6) (N := some 7) (v := ?_) (a' := ?_) #[true, true, true, true, true, true, true] rfl rfl (by kernel_rfl) (fun _ _ _ h => h) (Or.inl ⟨by rfl, ?_⟩) ?_ ?_
  rotate_left
  · intro w'
    go_simp
    with_reducible rfl
  rotate_left
  · simp only [Act.put, List.setIfInBounds_toArray, List.set_cons_zero, List.set_cons_succ, i64_w, i32_w]
    rfl
  refine done_ (by kernel_rfl) ?_
  obtain ⟨w7, hw7⟩ : ∃ w7, w6.alloc (.cells #[.string ⟨#[80, 76, 65, 73, 78]⟩, .string ⟨#[76, 79, 71, 73, 78]⟩, .string ⟨#[67, 82, 65, 77, 45, 77, 68, 53]⟩] 9) = w7 := ⟨_, rfl⟩
  have HB7 := Lib.hid (show Below W0.heap.size W0 w7 from hw7 ▸ HB6.out.alloc HB6.out.size _)
  have HM7 := Lib.hid (show w7.heap[w6.heap.size]? = some (.cells #[.string ⟨#[80, 76, 65, 73, 78]⟩, .string ⟨#[76, 79, 71, 73, 78]⟩, .string ⟨#[67, 82, 65, 77, 45, 77, 68, 53]⟩] 9 (0, 0)) from hw7 ▸ heap_alloc_new w6 _)
  have HU7 := Lib.hid ((HB7.out.block _ (blk_lt HBK.out)).trans HBK.out)
  have HBT := Lib.hid (fun W (h : Below w7.heap.size w7 W) => HBW.out.trans ((HB7.out.trans (h.mono HB7.out.size)).mono HBW.out.size))
  clear hc6
  go_wp2_with (go_at_call 7; refine (mechs_calls _).mono ?_; rintro e w' ⟨rfl, hw'⟩; rw [hw', hw7])
  go_loopw [9, 10, 11, 12, 13, 14, 15, 16, 17, 28] (fun _ _ _ _ _ _ _ _ _ i wr => ∃ j : Nat, j ≤ 3 ∧ i = .int .i64 j ∧ Below w7.heap.size w7 wr) (fun _ _ _ _ _ _ _ _ _ i _ => 3 - (intOf i).toNat)
  case atStart => exact ⟨0, by omega, rfl, Below.refl _ _⟩
  case round =>
    obtain ⟨j, hj, rfl, hB⟩ := hrel
    have HB := Lib.hid hB
    clear hB
    by_cases hlt : j < 3
    · obtain ⟨m, a, hmk, hfm, hms⟩ := names_first j hlt
      have HRS := Lib.hid (fun W => HRS0.out m a W hfm hms)
      have hmc0 := blk_cell ((HB.out.block _ (blk_lt HM7.out)).trans HM7.out) j
      have hmc1 : wr.cell? ⟨w6.heap.size, j, none⟩ = some (.string m) := by
        rw [hmc0]
        show (namesL.map Value.string).toArray[j]? = _
        simp [hmk]
      have x0 : wr.cell? ⟨w.heap.size, 0, none⟩ = some (.string n) := blk_cell ((HB.out.block _ (blk_lt HU7.out)).trans HU7.out) 0
      have x1c : wr.cell? ⟨w.heap.size, 1, none⟩ = some (.string s) := blk_cell ((HB.out.block _ (blk_lt HU7.out)).trans HU7.out) 1
      clear hmk hmc0 hfm hms
      go_wp2_with fail
      refine (HRS.out wr).mono ?_
      rintro e w8 ⟨rfl, hb8⟩
      have HB8 := Lib.hid (HB.out.trans (hb8.mono HB.out.size))
      have u80 : w8.cell? ⟨w.heap.size, 0, none⟩ = some (.string n) := blk_cell ((HB8.out.block _ (blk_lt HU7.out)).trans HU7.out) 0
      have u81 : w8.cell? ⟨w.heap.size, 1, none⟩ = some (.string s) := blk_cell ((HB8.out.block _ (blk_lt HU7.out)).trans HU7.out) 1
      clear hb8 hmc1 x0 x1c
      go_wp2_with fail
      refine (HMY.out w8).mono ?_
      rintro e w9 ⟨rfl, hb9⟩
      have HB9 := Lib.hid (HB8.out.trans (hb9.mono HB8.out.size))
      clear hb9 u80 u81
      go_wp2
      go_roundw
      case rel => exact ⟨j + 1, by omega, by go_num, HB9.out⟩
      case measure => simp [intOf]; omega
    · obtain rfl : j = 3 := by omega
      go_wp2
      go_ret
      exact ⟨rfl, HBT.out _ HB.out⟩
theorem both_calls {T S : Nat → Int} {B : Nat} (A : Option Addr) (l c : Nat) (us : List S40) (n s stamp : ByteArray) (w : World) (he : Env T S B w) (hC : Kd.C k40 w A l us) (hl : us.length = l) (hc : l ≤ c) (hu : us.length ≤ 10000000 ∧ ∀ u ∈ us, u.f1.size ≤ 10000000) (hst : stamp.size ≤ 3000000) (hn : n.size ≤ 3000000) (hs : s.size ≤ 3000000) :
    Calls Try.prog 6 #[.slice A l c, .agg #[.string n, .string s], .string stamp] w fun e w' => e = .returned (.bool true) ∧ Below w.heap.size w w' := by
  cases hok : okUser n s with
  | true => exact both_some A l c us n s stamp w he hC hl hc hu hst hok
  | false => exact both_not A l c us n s stamp w he hC hl hc hu hn hs hok
end Go.Proofs.Yticjpjgfccbhlaa.Sasl
