/- sasl.Begin, as wakes calls it. -/
import Derived.Test.YticjpjgfccbhlaaRead
namespace Go.Proofs.Yticjpjgfccbhlaa.Parts
open Go.RowKit Go.Proofs.YticjpjgfccbhlaaW.PrintWords Go.Proofs.YticjpjgfccbhlaaW.PrintLast Go.Proofs.YticjpjgfccbhlaaW.PrintMore Go.Proofs.Yticjpjgfccbhlaa.PSaslBoth Go.Proofs.Yticjpjgfccbhlaa.Code
attribute [local go_sem] max2_int min2_int max_two min_two max_three min_three max_four min_four
set_option linter.unusedVariables false
set_option linter.unusedSimpArgs false
theorem info41 : (Try.prog.info? 41).map (fun i => (i.zero, i.size, i.bytes)) = some (some (.agg #[.string ⟨#[]⟩, .string ⟨#[]⟩]), 2, 32) := by kernel_rfl
theorem assert_cram (W : World) : (Instr.typeAssert (.iface 85 (.agg #[])) 48 64 true).run Try.prog W = .ok (.tuple #[.agg #[.string ⟨#[]⟩], .bool false]) W := by kernel_rfl
theorem own_none (w : World) (b e s : Nat) : w.ownsRow b e s (.slice none 0 0) 0 [] := ⟨by simp, .inl ⟨rfl, rfl⟩⟩
set_option maxHeartbeats 4000000 in
set_option maxRecDepth 100000 in
theorem begin_yes (g c : Nat) (m : Int) (w : World) (hm : w.cell? ⟨0, 0, none⟩ = some (.int .i64 m)) (h0 : w.cell? ⟨g, 0, none⟩ = some (.string ⟨#[97, 110, 110]⟩)) (h1 : w.cell? ⟨g, 1, none⟩ = some (.string ⟨#[115, 51]⟩)) (hc : 1 ≤ c) :
    Calls Try.prog 9 #[.slice (some ⟨g, 0, none⟩) 1 c, .string ⟨#[112, 108, 97, 105, 110]⟩, .string ⟨#[]⟩, .string ⟨#[65, 71, 70, 117, 98, 103, 66, 122, 77, 119, 61, 61]⟩, .bool true] w fun e w' => ∃ X U, e = .returned (.tuple #[.pointer (some ⟨X, 0, none⟩), .int .i64 0]) ∧ w.heap.size ≤ X ∧ w'.heap[X]? = some (.cells #[U, .int .i64 2, .iface 85 (.agg #[]), .string ⟨#[97, 110, 110]⟩] 50 (0, 0)) ∧ Below w.heap.size w w' := by
  have hu50 := Try.underlying50
  have hu64 := Try.underlying64
  obtain ⟨i1, hi, hz0, hz1, hz2⟩ := info_parts info41
  have hg := World.block_lt_of_cell? w _ h0
  have h0lt := World.block_lt_of_cell? w _ hm
  have HM := Lib.hid hm
  have H0 := Lib.hid h0
  have H1 := Lib.hid h1
  have HN := Lib.hid (show ∀ j u, [Value.string ⟨#[97, 110, 110]⟩, .string ⟨#[115, 51]⟩][j]? = some u → w.cell? ((⟨g, 0, none⟩ : Addr).add j) = some u from fun j u hu => by
    rw [Code.add_at]
    match j with
    | 0 => cases hu; rw [Nat.zero_add]; exact h0
    | 1 => cases hu; rw [Nat.zero_add]; exact h1
    | j + 2 => simp at hu)
  clear hm h0 h1
  go_enter Try.func9, Try.ntmps9
  go_wp2_with (at_builtin; refine wpList_append_lies _ rfl _ _ 25 rfl w.heap.size 41 i1 _ 2 32 Try.underlying25 hi hz0 hz1 hz2 rfl (by omega) _ 0 [] rfl (own_none _ _ _ _) ⟨g, 0, none⟩ 1 c [.string ⟨#[97, 110, 110]⟩, .string ⟨#[115, 51]⟩] rfl rfl HN.out (by intro u hu; simp only [List.mem_cons, List.not_mem_nil, or_false] at hu; rcases hu with rfl | rfl <;> rfl) (by omega) (by unfold maxLen; omega) (by omega) (Nat.le_refl _) _ rfl ?_)
  intro g2 cap w1 hown1 hgrow1 hat1 hlt1
  have x0 : w1.cell? ⟨g2, 0, none⟩ = some (.string ⟨#[97, 110, 110]⟩) := by
    have h := hown1.cells (g := g2) rfl 0 (.string ⟨#[97, 110, 110]⟩) rfl
    rwa [Code.add_at, Nat.zero_add] at h
  have x1 : w1.cell? ⟨g2, 1, none⟩ = some (.string ⟨#[115, 51]⟩) := by
    have h := hown1.cells (g := g2) rfl 1 (.string ⟨#[115, 51]⟩) rfl
    rwa [Code.add_at, Nat.zero_add] at h
  have hcap : 0 + 1 ≤ cap := by
    rcases hown1.2 with ⟨h, _⟩ | ⟨_, _, _, h, _, _, h4, _⟩
    · cases h
    · cases h; exact h4
  have hB1 : Below w.heap.size w w1 := (Below.refl _ _).grown hgrow1 (Nat.le_refl _) (fun k h => by cases h)
  have HB1 := Lib.hid hB1
  have X0 := Lib.hid x0
  have X1 := Lib.hid x1
  have hg2 : g2 < w1.heap.size := hlt1
  clear hown1 hgrow1 hat1 hlt1 hB1 x0 x1
  go_wp2_with fail
  refine (first_plain ⟨#[]⟩ w1).mono ?_
  rintro e w2 ⟨rfl, hb2⟩
  have HB2 := Lib.hid (HB1.out.trans (hb2.mono HB1.out.size))
  have X02 := Lib.hid ((hb2.cell hg2).trans X0.out)
  have X12 := Lib.hid ((hb2.cell hg2).trans X1.out)
  have hg3 : g2 < w2.heap.size := Nat.lt_of_lt_of_le hg2 hb2.size
  clear hb2
  have hXn : (w2.alloc (.cells #[.slice (some ⟨g2, 0, none⟩) 1 cap, .int .i64 1, .iface 85 (.agg #[]), .string ⟨#[]⟩] 50)).heap[w2.heap.size]? = some (.cells #[.slice (some ⟨g2, 0, none⟩) 1 cap, .int .i64 1, .iface 85 (.agg #[]), .string ⟨#[]⟩] 50 (0, 0)) := heap_alloc_new w2 _
  have y0 := blk_cell hXn 0
  have y1 := blk_cell hXn 1
  have y2 := blk_cell hXn 2
  have y3 := blk_cell hXn 3
  simp only [List.getElem?_toArray, List.getElem?_cons_succ, List.getElem?_cons_zero] at y0 y1 y2 y3
  have HXN := Lib.hid hXn
  clear hXn
  have hta := assert_cram
  have hb3 : Below w2.heap.size w2 ((w2.alloc (.cells #[.slice (some ⟨g2, 0, none⟩) 1 cap, .int .i64 1, .iface 85 (.agg #[]), .string ⟨#[]⟩] 50)).alloc (.cells #[.string ⟨#[]⟩] 64)) := ((Below.refl _ _).alloc (Nat.le_refl _) _).alloc (by simp) _
  have hX3 : ((w2.alloc (.cells #[.slice (some ⟨g2, 0, none⟩) 1 cap, .int .i64 1, .iface 85 (.agg #[]), .string ⟨#[]⟩] 50)).alloc (.cells #[.string ⟨#[]⟩] 64)).heap[w2.heap.size]? = some (.cells #[.slice (some ⟨g2, 0, none⟩) 1 cap, .int .i64 1, .iface 85 (.agg #[]), .string ⟨#[]⟩] 50 (0, 0)) := (heap_alloc_old _ _ (by simp)).trans HXN.out
  have hB3 := HB2.out.trans (hb3.mono HB2.out.size)
  have HR := Lib.hid (read_yes w2.heap.size g2 cap m ((w2.alloc (.cells #[.slice (some ⟨g2, 0, none⟩) 1 cap, .int .i64 1, .iface 85 (.agg #[]), .string ⟨#[]⟩] 50)).alloc (.cells #[.string ⟨#[]⟩] 64)) ((hB3.cell h0lt).trans HM.out) hX3 ((hb3.cell hg3).trans X02.out) ((hb3.cell hg3).trans X12.out) (by omega))
  have HX3 := Lib.hid hX3
  have HB3 := Lib.hid hB3
  clear hb3 hX3 hB3
  go_wp2_with fail
  refine HR.out.mono ?_
  rintro e w4 ⟨rfl, wz, hbz, rfl⟩
  have hXl := (Array.getElem?_eq_some_iff.1 HX3.out).1
  have hXz := (hbz.block _ hXl).trans HX3.out
  have HBZ := Lib.hid (HB3.out.trans (hbz.mono HB3.out.size))
  have HXZ := Lib.hid hXz
  have hw2 : w.heap.size ≤ w2.heap.size := HB2.out.size
  clear hXz hbz hta y0 y1 y2 y3
  go_wp2
  go_ret2
  exact ⟨w2.heap.size, _, rfl, hw2, blk_put (blk_put HXZ.out 1 (.int .i64 2) rfl) 3 (.string ⟨#[97, 110, 110]⟩) rfl, (HBZ.out.setCell (p := ⟨w2.heap.size, 1, none⟩) hw2 _).setCell (p := ⟨w2.heap.size, 3, none⟩) hw2 _⟩
set_option maxHeartbeats 4000000 in
set_option maxRecDepth 100000 in
theorem begin_no (g c : Nat) (m : Int) (w : World) (hm : w.cell? ⟨0, 0, none⟩ = some (.int .i64 m)) (h0 : w.cell? ⟨g, 0, none⟩ = some (.string ⟨#[97, 110, 110]⟩)) (h1 : w.cell? ⟨g, 1, none⟩ = some (.string ⟨#[115, 51]⟩)) (hc : 1 ≤ c) :
    Calls Try.prog 9 #[.slice (some ⟨g, 0, none⟩) 1 c, .string ⟨#[80, 76, 65, 73, 78]⟩, .string ⟨#[]⟩, .string ⟨#[65, 71, 70, 117, 98, 103, 66, 122, 78, 65, 61, 61]⟩, .bool true] w fun e w' => ∃ X U, e = .returned (.tuple #[.pointer (some ⟨X, 0, none⟩), .int .i64 0]) ∧ w.heap.size ≤ X ∧ w'.heap[X]? = some (.cells #[U, .int .i64 3, .iface 85 (.agg #[]), .string ⟨#[]⟩] 50 (0, 0)) ∧ Below w.heap.size w w' := by
  have hu50 := Try.underlying50
  have hu64 := Try.underlying64
  obtain ⟨i1, hi, hz0, hz1, hz2⟩ := info_parts info41
  have hg := World.block_lt_of_cell? w _ h0
  have h0lt := World.block_lt_of_cell? w _ hm
  have HM := Lib.hid hm
  have H0 := Lib.hid h0
  have H1 := Lib.hid h1
  have HN := Lib.hid (show ∀ j u, [Value.string ⟨#[97, 110, 110]⟩, .string ⟨#[115, 51]⟩][j]? = some u → w.cell? ((⟨g, 0, none⟩ : Addr).add j) = some u from fun j u hu => by
    rw [Code.add_at]
    match j with
    | 0 => cases hu; rw [Nat.zero_add]; exact h0
    | 1 => cases hu; rw [Nat.zero_add]; exact h1
    | j + 2 => simp at hu)
  clear hm h0 h1
  go_enter Try.func9, Try.ntmps9
  go_wp2_with (at_builtin; refine wpList_append_lies _ rfl _ _ 25 rfl w.heap.size 41 i1 _ 2 32 Try.underlying25 hi hz0 hz1 hz2 rfl (by omega) _ 0 [] rfl (own_none _ _ _ _) ⟨g, 0, none⟩ 1 c [.string ⟨#[97, 110, 110]⟩, .string ⟨#[115, 51]⟩] rfl rfl HN.out (by intro u hu; simp only [List.mem_cons, List.not_mem_nil, or_false] at hu; rcases hu with rfl | rfl <;> rfl) (by omega) (by unfold maxLen; omega) (by omega) (Nat.le_refl _) _ rfl ?_)
  intro g2 cap w1 hown1 hgrow1 hat1 hlt1
  have x0 : w1.cell? ⟨g2, 0, none⟩ = some (.string ⟨#[97, 110, 110]⟩) := by
    have h := hown1.cells (g := g2) rfl 0 (.string ⟨#[97, 110, 110]⟩) rfl
    rwa [Code.add_at, Nat.zero_add] at h
  have x1 : w1.cell? ⟨g2, 1, none⟩ = some (.string ⟨#[115, 51]⟩) := by
    have h := hown1.cells (g := g2) rfl 1 (.string ⟨#[115, 51]⟩) rfl
    rwa [Code.add_at, Nat.zero_add] at h
  have hcap : 0 + 1 ≤ cap := by
    rcases hown1.2 with ⟨h, _⟩ | ⟨_, _, _, h, _, _, h4, _⟩
    · cases h
    · cases h; exact h4
  have hB1 : Below w.heap.size w w1 := (Below.refl _ _).grown hgrow1 (Nat.le_refl _) (fun k h => by cases h)
  have HB1 := Lib.hid hB1
  have X0 := Lib.hid x0
  have X1 := Lib.hid x1
  have hg2 : g2 < w1.heap.size := hlt1
  clear hown1 hgrow1 hat1 hlt1 hB1 x0 x1
  go_wp2_with fail
  refine (first_PLAIN ⟨#[]⟩ w1).mono ?_
  rintro e w2 ⟨rfl, hb2⟩
  have HB2 := Lib.hid (HB1.out.trans (hb2.mono HB1.out.size))
  have X02 := Lib.hid ((hb2.cell hg2).trans X0.out)
  have X12 := Lib.hid ((hb2.cell hg2).trans X1.out)
  have hg3 : g2 < w2.heap.size := Nat.lt_of_lt_of_le hg2 hb2.size
  clear hb2
  have hXn : (w2.alloc (.cells #[.slice (some ⟨g2, 0, none⟩) 1 cap, .int .i64 1, .iface 85 (.agg #[]), .string ⟨#[]⟩] 50)).heap[w2.heap.size]? = some (.cells #[.slice (some ⟨g2, 0, none⟩) 1 cap, .int .i64 1, .iface 85 (.agg #[]), .string ⟨#[]⟩] 50 (0, 0)) := heap_alloc_new w2 _
  have y0 := blk_cell hXn 0
  have y1 := blk_cell hXn 1
  have y2 := blk_cell hXn 2
  have y3 := blk_cell hXn 3
  simp only [List.getElem?_toArray, List.getElem?_cons_succ, List.getElem?_cons_zero] at y0 y1 y2 y3
  have HXN := Lib.hid hXn
  clear hXn
  have hta := assert_cram
  have hb3 : Below w2.heap.size w2 ((w2.alloc (.cells #[.slice (some ⟨g2, 0, none⟩) 1 cap, .int .i64 1, .iface 85 (.agg #[]), .string ⟨#[]⟩] 50)).alloc (.cells #[.string ⟨#[]⟩] 64)) := ((Below.refl _ _).alloc (Nat.le_refl _) _).alloc (by simp) _
  have hX3 : ((w2.alloc (.cells #[.slice (some ⟨g2, 0, none⟩) 1 cap, .int .i64 1, .iface 85 (.agg #[]), .string ⟨#[]⟩] 50)).alloc (.cells #[.string ⟨#[]⟩] 64)).heap[w2.heap.size]? = some (.cells #[.slice (some ⟨g2, 0, none⟩) 1 cap, .int .i64 1, .iface 85 (.agg #[]), .string ⟨#[]⟩] 50 (0, 0)) := (heap_alloc_old _ _ (by simp)).trans HXN.out
  have hB3 := HB2.out.trans (hb3.mono HB2.out.size)
  have HR := Lib.hid (read_no w2.heap.size g2 cap m ((w2.alloc (.cells #[.slice (some ⟨g2, 0, none⟩) 1 cap, .int .i64 1, .iface 85 (.agg #[]), .string ⟨#[]⟩] 50)).alloc (.cells #[.string ⟨#[]⟩] 64)) ((hB3.cell h0lt).trans HM.out) hX3 ((hb3.cell hg3).trans X02.out) ((hb3.cell hg3).trans X12.out) (by omega))
  have HX3 := Lib.hid hX3
  have HB3 := Lib.hid hB3
  clear hb3 hX3 hB3
  go_wp2_with fail
  refine HR.out.mono ?_
  rintro e w4 ⟨rfl, wz, hbz, rfl⟩
  have hXl := (Array.getElem?_eq_some_iff.1 HX3.out).1
  have hXz := (hbz.block _ hXl).trans HX3.out
  have HBZ := Lib.hid (HB3.out.trans (hbz.mono HB3.out.size))
  have HXZ := Lib.hid hXz
  have hw2 : w.heap.size ≤ w2.heap.size := HB2.out.size
  clear hXz hbz hta y0 y1 y2 y3
  go_wp2
  go_ret2
  exact ⟨w2.heap.size, _, rfl, hw2, blk_put HXZ.out 1 (.int .i64 3) rfl, HBZ.out.setCell (p := ⟨w2.heap.size, 1, none⟩) hw2 _⟩
set_option maxHeartbeats 4000000 in
set_option maxRecDepth 100000 in
theorem begin_login (g c : Nat) (m : Int) (w : World) (hm : w.cell? ⟨0, 0, none⟩ = some (.int .i64 m)) (h0 : w.cell? ⟨g, 0, none⟩ = some (.string ⟨#[97, 110, 110]⟩)) (h1 : w.cell? ⟨g, 1, none⟩ = some (.string ⟨#[115, 51]⟩)) (hc : 1 ≤ c) :
    Calls Try.prog 9 #[.slice (some ⟨g, 0, none⟩) 1 c, .string ⟨#[108, 111, 103, 105, 110]⟩, .string ⟨#[]⟩, .string ⟨#[]⟩, .bool false] w fun e w' => ∃ X U, e = .returned (.tuple #[.pointer (some ⟨X, 0, none⟩), .int .i64 0]) ∧ w.heap.size ≤ X ∧ w'.heap[X]? = some (.cells #[U, .int .i64 1, .iface 86 (.agg #[]), .string ⟨#[]⟩] 50 (0, 0)) ∧ Below w.heap.size w w' := by
  have hu50 := Try.underlying50
  have hu64 := Try.underlying64
  obtain ⟨i1, hi, hz0, hz1, hz2⟩ := info_parts info41
  have hg := World.block_lt_of_cell? w _ h0
  have h0lt := World.block_lt_of_cell? w _ hm
  have HM := Lib.hid hm
  have H0 := Lib.hid h0
  have H1 := Lib.hid h1
  have HN := Lib.hid (show ∀ j u, [Value.string ⟨#[97, 110, 110]⟩, .string ⟨#[115, 51]⟩][j]? = some u → w.cell? ((⟨g, 0, none⟩ : Addr).add j) = some u from fun j u hu => by
    rw [Code.add_at]
    match j with
    | 0 => cases hu; rw [Nat.zero_add]; exact h0
    | 1 => cases hu; rw [Nat.zero_add]; exact h1
    | j + 2 => simp at hu)
  clear hm h0 h1
  go_enter Try.func9, Try.ntmps9
  go_wp2_with (at_builtin; refine wpList_append_lies _ rfl _ _ 25 rfl w.heap.size 41 i1 _ 2 32 Try.underlying25 hi hz0 hz1 hz2 rfl (by omega) _ 0 [] rfl (own_none _ _ _ _) ⟨g, 0, none⟩ 1 c [.string ⟨#[97, 110, 110]⟩, .string ⟨#[115, 51]⟩] rfl rfl HN.out (by intro u hu; simp only [List.mem_cons, List.not_mem_nil, or_false] at hu; rcases hu with rfl | rfl <;> rfl) (by omega) (by unfold maxLen; omega) (by omega) (Nat.le_refl _) _ rfl ?_)
  intro g2 cap w1 hown1 hgrow1 hat1 hlt1
  have x0 : w1.cell? ⟨g2, 0, none⟩ = some (.string ⟨#[97, 110, 110]⟩) := by
    have h := hown1.cells (g := g2) rfl 0 (.string ⟨#[97, 110, 110]⟩) rfl
    rwa [Code.add_at, Nat.zero_add] at h
  have x1 : w1.cell? ⟨g2, 1, none⟩ = some (.string ⟨#[115, 51]⟩) := by
    have h := hown1.cells (g := g2) rfl 1 (.string ⟨#[115, 51]⟩) rfl
    rwa [Code.add_at, Nat.zero_add] at h
  have hcap : 0 + 1 ≤ cap := by
    rcases hown1.2 with ⟨h, _⟩ | ⟨_, _, _, h, _, _, h4, _⟩
    · cases h
    · cases h; exact h4
  have hB1 : Below w.heap.size w w1 := (Below.refl _ _).grown hgrow1 (Nat.le_refl _) (fun k h => by cases h)
  have HB1 := Lib.hid hB1
  have X0 := Lib.hid x0
  have X1 := Lib.hid x1
  have hg2 : g2 < w1.heap.size := hlt1
  clear hown1 hgrow1 hat1 hlt1 hB1 x0 x1
  go_wp2_with fail
  refine (first_login ⟨#[]⟩ w1).mono ?_
  rintro e w2 ⟨rfl, hb2⟩
  have HB2 := Lib.hid (HB1.out.trans (hb2.mono HB1.out.size))
  have X02 := Lib.hid ((hb2.cell hg2).trans X0.out)
  have X12 := Lib.hid ((hb2.cell hg2).trans X1.out)
  have hg3 : g2 < w2.heap.size := Nat.lt_of_lt_of_le hg2 hb2.size
  clear hb2
  have hXn : (w2.alloc (.cells #[.slice (some ⟨g2, 0, none⟩) 1 cap, .int .i64 1, .iface 86 (.agg #[]), .string ⟨#[]⟩] 50)).heap[w2.heap.size]? = some (.cells #[.slice (some ⟨g2, 0, none⟩) 1 cap, .int .i64 1, .iface 86 (.agg #[]), .string ⟨#[]⟩] 50 (0, 0)) := heap_alloc_new w2 _
  have y0 := blk_cell hXn 0
  have y1 := blk_cell hXn 1
  have y2 := blk_cell hXn 2
  have y3 := blk_cell hXn 3
  simp only [List.getElem?_toArray, List.getElem?_cons_succ, List.getElem?_cons_zero] at y0 y1 y2 y3
  have HXN := Lib.hid hXn
  clear hXn
  have hw2 : w.heap.size ≤ w2.heap.size := HB2.out.size
  have hbz := HB2.out.alloc HB2.out.size (.cells #[.slice (some ⟨g2, 0, none⟩) 1 cap, .int .i64 1, .iface 86 (.agg #[]), .string ⟨#[]⟩] 50)
  have HBZ := Lib.hid hbz
  clear hbz
  go_wp2
  go_ret2
  exact ⟨w2.heap.size, _, rfl, hw2, HXN.out, HBZ.out⟩
end Go.Proofs.Yticjpjgfccbhlaa.Parts
