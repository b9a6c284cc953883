/- runes.Decode by contract. -/
import Derived.Test.YtcnhnpkbklakoaaDoorRunesBad
import Derived.Test.YtcnhnpkbklakoaaDoorUnbase64
import Derived.Lib.OthersKept
import Derived.WalkSmall
import Derived.Laws.RangeAny
namespace Go.Proofs.YtcnhnpkbklakoaaDoor.Runes
open Go.RowKit Go.Proofs.YtcnhnpkbklakoaaDoorW.PrintWords Go.Proofs.YtcnhnpkbklakoaaDoorW.PrintLast Go.Proofs.YtcnhnpkbklakoaaDoorW.PrintMore Go.Proofs.YtcnhnpkbklakoaaDoor.PWordEncodes
open Go.Proofs.YtcnhnpkbklakoaaDoor.Code
attribute [local go_sem] max2_int min2_int max_two min_two max_three min_three max_four min_four
set_option linter.unusedVariables false
set_option linter.unusedSimpArgs false
theorem decode_pos (s : ByteArray) (i : Nat) : 1 ≤ (Utf8.decode s i).2 := by
  simp only [Utf8.decode]
  repeat' split
  all_goals simp
theorem decode_end (s : ByteArray) (i : Nat) (h : i < s.size) : i + (Utf8.decode s i).2 ≤ s.size := by
  simp only [Utf8.decode]
  repeat' split
  all_goals simp_all
  all_goals omega
theorem reads_lit (W : World) (e : TypeId) (k : IntKind) (xs : List Int) (hm : xs.length ≤ 9223372036854775807) : ReadsInt (W.alloc (.cells (nums k xs).toArray e)) k (some ⟨W.heap.size, 0, none⟩) xs.length xs := by
  obtain ⟨A, c, hv, h⟩ := own_reads (own_lit W 0 e k xs (Nat.zero_le _) hm)
  cases hv
  exact h
/-- the runes of a text, from a place on -/
def runesAt (s : ByteArray) (i : Nat) : List Int :=
  if h : i < s.size then ((Utf8.decode s i).1 : Int) :: runesAt s (i + (Utf8.decode s i).2) else []
termination_by s.size - i
decreasing_by have := decode_pos s i; omega
theorem runesAt_lt (s : ByteArray) (i : Nat) (h : i < s.size) : runesAt s i = ((Utf8.decode s i).1 : Int) :: runesAt s (i + (Utf8.decode s i).2) := by rw [runesAt, dif_pos h]
theorem runesAt_ge (s : ByteArray) (i : Nat) (h : ¬ i < s.size) : runesAt s i = [] := by rw [runesAt, dif_neg h]
/-- what Decode tells: the runes, the error, its place -/
def decV (t : ByteArray) : List Int × Int × Nat := if runesBad t.data.toList < t.size then ([], 50, runesBad t.data.toList) else (runesAt t 0, 0, 0)
set_option maxHeartbeats 4000000 in
set_option maxRecDepth 100000 in
theorem decode_calls (t : ByteArray) (w : World) (ht : t.size ≤ 3000000000) :
    Calls Tryd.prog 27 #[.string t] w fun e w' => ∃ V, e = .returned (.tuple #[V, .agg #[.int .i64 (decV t).2.1, .int .i64 ((decV t).2.2 : Nat)]]) ∧ w'.ownsRow w.heap.size 21 1 V (decV t).1.length (nums .i32 (decV t).1) ∧ Below w.heap.size w w' := by
  have hu88 := Tryd.underlying25
  have HB := Lib.hid (fun W => bad_calls t W (by omega))
  obtain ⟨N, hN⟩ : ∃ N, runesBad t.data.toList = N := ⟨_, rfl⟩
  rw [hN] at HB
  by_cases hlt : N < t.size
  · have hdv : decV t = ([], 50, N) := by unfold decV; rw [hN, if_pos hlt]
    rw [hdv]
    have hlt' : (N : Int) < (t.size : Int) := by omega
    clear hdv hN
    go_enter Tryd.func27, Tryd.ntmps27
    obtain ⟨W0, hW0⟩ : ∃ W0, W0 = w.alloc (.cells #[.int .i64 0, .int .i64 0] 25) := ⟨_, rfl⟩
    have hsz : W0.heap.size = w.heap.size + 1 := by rw [hW0]; simp
    have hbox : W0.heap[w.heap.size]? = some (.cells #[.int .i64 0, .int .i64 0] 25 (0, 0)) := by rw [hW0]; exact heap_alloc_new w _
    have hBw : Below w.heap.size w W0 := by rw [hW0]; exact (Below.refl _ _).alloc (Nat.le_refl _) _
    have HX := Lib.hid hbox
    have HBW := Lib.hid hBw
    have HW0 := Lib.hid hW0
    have HSZ := Lib.hid hsz
    clear hbox hBw hsz
    go_wp2_with fail
    rw [← HW0.out]
    refine (HB.out _).mono ?_
    rintro e w1 ⟨rfl, hb1⟩
    clear hW0
    have hb2 := (hb1.block _ (by have := HSZ.out; omega)).trans HX.out
    have b0 := blk_cell hb2 0
    have b1 := blk_cell hb2 1
    have g0 := blk_frozen hb2 0
    have g1 := blk_frozen hb2 1
    have HX2 := Lib.hid hb2
    have HBA := Lib.hid (HBW.out.trans (hb1.mono (by have := HSZ.out; omega)))
    have hIR : w.heap.size < w1.heap.size := by have := HSZ.out; have := hb1.size; omega
    clear hb2 hb1
    go_wp2
    refine bodyPost_ret (results_list (rs := [.tmp 2, .cell 3 25]) rfl (by simp) (.tmp (.cell w.heap.size 25 #[.int .i64 50, .int .i64 N] (0, 0) _ rfl (blk_put (blk_put HX2.out 0 (.int .i64 50) rfl) 1 (.int .i64 N) rfl) Tryd.underlying25 rfl (by kernel_rfl) .nil))) rfl ?_
    exact ⟨_, rfl, ⟨rfl, .inl ⟨rfl, rfl⟩⟩, ((HBA.out.setCell (p := ⟨w.heap.size, 0, none⟩) (Nat.le_refl _) _).setCell (p := ⟨w.heap.size, 1, none⟩) (Nat.le_refl _) _)⟩
  · obtain ⟨L, hL⟩ : ∃ L, L = runesAt t 0 := ⟨_, rfl⟩
    have hdv : decV t = (L, 0, 0) := by unfold decV; rw [hN, if_neg hlt, hL]
    rw [hdv]
    have hlt' : ¬ (N : Int) < (t.size : Int) := by omega
    have HL := Lib.hid hL
    clear hdv hN hL
    go_enter Tryd.func27, Tryd.ntmps27
    obtain ⟨W0, hW0⟩ : ∃ W0, W0 = w.alloc (.cells #[.int .i64 0, .int .i64 0] 25) := ⟨_, rfl⟩
    have hsz : W0.heap.size = w.heap.size + 1 := by rw [hW0]; simp
    have hbox : W0.heap[w.heap.size]? = some (.cells #[.int .i64 0, .int .i64 0] 25 (0, 0)) := by rw [hW0]; exact heap_alloc_new w _
    have hBw : Below w.heap.size w W0 := by rw [hW0]; exact (Below.refl _ _).alloc (Nat.le_refl _) _
    have HX := Lib.hid hbox
    have HBW := Lib.hid hBw
    have HW0 := Lib.hid hW0
    have HSZ := Lib.hid hsz
    clear hbox hBw hsz
    go_wp2_with fail
    rw [← HW0.out]
    refine (HB.out _).mono ?_
    rintro e w1 ⟨rfl, hb1⟩
    clear hW0
    have hb2 := (hb1.block _ (by have := HSZ.out; omega)).trans HX.out
    have b0 := blk_cell hb2 0
    have b1 := blk_cell hb2 1
    have g0 := blk_frozen hb2 0
    have g1 := blk_frozen hb2 1
    have HX2 := Lib.hid hb2
    have HBA := Lib.hid (HBW.out.trans (hb1.mono (by have := HSZ.out; omega)))
    have hIR : w.heap.size < w1.heap.size := by have := HSZ.out; have := hb1.size; omega
    clear hb2 hb1
    go_wp2
    go_loopg [5] t.size (fun g o wr => ∃ (k : Nat) (l : List Int), k ≤ t.size ∧ t.size - k ≤ g ∧ L = l ++ runesAt t k ∧ wr.heap[w1.heap.size]? = some (.stringIter t k) ∧ wr.ownsRow (w1.heap.size + 1) 21 1 o l.length (nums .i32 l) ∧ Below w1.heap.size w1 wr ∧ l.length ≤ k)
    case atStart => exact ⟨0, [], by omega, by omega, HL.out, World.iter_heap w1 t 0, own_nil _ _ _ _, (Below.refl _ _).alloc (by omega) _, by simp⟩
    case round =>
      obtain ⟨k, l, hk, hg, hl, hit, hown, hB, hlk⟩ := hrel
      have HLL := Lib.hid hl
      have HI := Lib.hid hit
      have HO := Lib.hid hown
      have HBR := Lib.hid hB
      clear hl hown hB
      by_cases hi : k < t.size
      · cases gk with
        | zero => omega
        | succ g =>
          have hnx := fun ty => Lib.run_next_any_at (P := Tryd.prog) wr w1.heap.size t k ty hit hi
          have hpos := decode_pos t k
          have hend := decode_end t k hi
          have hcons := runesAt_lt t k hi
          generalize Utf8.decode t k = D at hnx hpos hend hcons
          obtain ⟨r, n⟩ := D
          simp only at hnx hpos hend hcons
          have HCO := Lib.hid hcons
          clear hit hcons
          have hwi := Lib.below_iterAt HBR.out (Nat.le_refl _) t (k + n)
          have hit2 := Lib.iterAt_heap wr w1.heap.size t k (k + n) HI.out
          have hbase : w1.heap.size + 1 ≤ (wr.iterAt w1.heap.size t (k + n)).heap.size := (Array.getElem?_eq_some_iff.1 hit2).1
          have HWI := Lib.hid hwi
          have HIT2 := Lib.hid hit2
          clear hwi hit2
          go_wp2_with (at_builtin; refine print_append_row (w0 := (wr.iterAt w1.heap.size t (k + n)).alloc (.cells #[Value.int .i32 r] 21)) (w1.heap.size + 1) rfl (.tmp 21) (.tmp 23) 50 21 .i32 4 rfl Tryd.underlying50 info21 (by decide) _ l [(r : Int)] _ 1 1 rfl rfl ?ho ?hr ?hb ?hbase ?hl ?_)
          case ho => exact ((ownsRow_iterAt HO.out (Nat.lt_succ_self _) _ _).alloc _)
          case hr => exact reads_lit _ 21 .i32 [(r : Int)] (by simp)
          case hb => exact Below.refl _ _
          case hbase => rw [World.size_alloc]; omega
          case hl => omega
          intro v7 w7 ho7 hb7 hg7 hat7
          go_wp2
          go_roundg g
          case measure => omega
          case rel => exact ⟨k + n, l ++ [(r : Int)], by omega, by omega, by rw [HLL.out, HCO.out, List.append_assoc]; rfl, (hb7.block _ (by omega)).trans (by rw [heap_alloc_old _ _ (by omega)]; exact HIT2.out), by rw [List.length_append]; exact ho7, (HWI.out.alloc (Nat.le_of_succ_le hbase) _).trans (hb7.mono (by omega)), by rw [List.length_append]; simp; omega⟩
      · have hnx := fun ty => Lib.run_next_end_at (P := Tryd.prog) wr w1.heap.size t k ty hit hi
        have hb2 := (HBR.out.block _ hIR).trans HX2.out
        clear b0 b1 g0 g1
        have b0 := blk_cell hb2 0
        have b1 := blk_cell hb2 1
        have g0 := blk_frozen hb2 0
        have g1 := blk_frozen hb2 1
        have HX3 := Lib.hid hb2
        obtain rfl : k = t.size := by omega
        have hlL : l = L := by rw [HLL.out, runesAt_ge _ _ (Nat.lt_irrefl _), List.append_nil]
        subst hlL
        clear hb2 hit
        go_wp2
        refine bodyPost_ret (results_list (rs := [.tmp 2, .cell 3 25]) rfl (by simp) (.tmp (.cell w.heap.size 25 #[.int .i64 0, .int .i64 0] (0, 0) _ rfl (blk_put (blk_put HX3.out 0 (.int .i64 0) rfl) 1 (.int .i64 0) rfl) Tryd.underlying25 rfl (by kernel_rfl) .nil))) rfl ?_
        have hbw := HBA.out.trans (HBR.out.mono (Nat.le_of_lt hIR))
        have hnb : some w.heap.size ≠ u5.ownBlock := fun e => by have := own_base HO.out _ e.symm; omega
        exact ⟨_, rfl, own_setCell (own_setCell (own_low HO.out (by omega)) (p := ⟨w.heap.size, 0, none⟩) hnb _) (p := ⟨w.heap.size, 1, none⟩) hnb _, ((hbw.setCell (p := ⟨w.heap.size, 0, none⟩) (Nat.le_refl _) _).setCell (p := ⟨w.heap.size, 1, none⟩) (Nat.le_refl _) _)⟩
end Go.Proofs.YtcnhnpkbklakoaaDoor.Runes
