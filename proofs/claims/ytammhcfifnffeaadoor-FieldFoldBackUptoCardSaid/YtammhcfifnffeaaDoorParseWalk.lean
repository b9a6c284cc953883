/- field.Parse by contract. -/
import Derived.Test.YtammhcfifnffeaaDoorParseV
import Derived.Test.YtammhcfifnffeaaDoorBytesAny
import Derived.Laws.ResultCell
import Derived.Lib.SlBytesConst
import Derived.RegionTactic
import Derived.Maps.AppendAt
import Derived.ChangeAlike
namespace Go.Proofs.YtammhcfifnffeaaDoor.ParseWalk
open Go.RowKit Go.Shelf Go.Proofs.YtammhcfifnffeaaDoorW.PrintWords Go.Proofs.YtammhcfifnffeaaDoorW.PrintLast Go.Proofs.YtammhcfifnffeaaDoorW.PrintMore Go.Proofs.YtammhcfifnffeaaDoor.PFieldPrints Go.Proofs.YtammhcfifnffeaaDoor.AnyEnd Go.Proofs.YtammhcfifnffeaaDoor.Octet Go.Proofs.YtammhcfifnffeaaDoor.CheckWalk Go.Proofs.YtammhcfifnffeaaDoor.PrintWalk Go.Proofs.YtammhcfifnffeaaDoor.Hand Go.Proofs.YtammhcfifnffeaaDoor.BytesAny Go.Proofs.YtammhcfifnffeaaDoor.ParseV
set_option linter.unusedVariables false
set_option linter.unusedSimpArgs false

theorem bytes_at (s : ByteArray) (j : Nat) (hj : j < s.size) : (bytesOf s)[j]? = some ((s.get! j).toNat : Int) := by
  unfold bytesOf
  rw [List.getElem?_map, at_of_get s j hj]
  rfl
theorem bytes_len (s : ByteArray) : (bytesOf s).length = s.size := by unfold bytesOf; rw [List.length_map, data_length]
theorem add_at (b off j : Nat) : (⟨b, off, none⟩ : Addr).add j = ⟨b, off + j, none⟩ := by
  unfold Addr.add
  split
  · next h => subst h; rfl
  · rfl
theorem at_of_C {w : World} {A : Option Addr} {s : ByteArray} (h : Kd.C (Kd.int .u8) w A s.size (bytesOf s)) (h0 : 0 < s.size) : ∃ b off, A = some ⟨b, off, none⟩ ∧ At w b off s := by
  obtain ⟨ad, rfl, hc⟩ := h.2.2 h0
  have hx : ∀ j, j < s.size → w.cell? (ad.add j) = some (.int .u8 (s.get! j).toNat) := by
    intro j hj
    obtain ⟨cs, hl, hk, hu⟩ := hc j _ (bytes_at s j hj)
    obtain rfl : cs = [.int .u8 ((s.get! j).toNat : Int)] := hk
    have := hu 0 _ rfl
    rw [Nat.add_zero] at this
    rwa [show j * (Kd.int .u8).sz = j from Nat.mul_one j] at this
  obtain ⟨b, off, sp⟩ := ad
  have hsp : sp = none := by
    have := hx 0 h0
    unfold World.cell? at this
    split at this
    · cases sp with
      | none => rfl
      | some k => simp [Addr.add] at this
    · cases this
  subst hsp
  exact ⟨b, off, rfl, fun j hj => by rw [← add_at]; exact hx j hj⟩
theorem C_of_At {w : World} {b off : Nat} {s : ByteArray} (h : At w b off s) (hs : s.size ≤ 9223372036854775807) : Kd.C (Kd.int .u8) w (some ⟨b, off, none⟩) s.size (bytesOf s) := by
  refine ⟨bytes_len s, hs, fun _ => ⟨_, rfl, fun j p hj => ?_⟩⟩
  have hlt : j < s.size := by have := (List.getElem?_eq_some_iff.1 hj).1; rwa [bytes_len] at this
  rw [bytes_at s j hlt] at hj
  cases hj
  refine ⟨[.int .u8 ((s.get! j).toNat : Int)], rfl, rfl, fun i u hu => ?_⟩
  match i with
  | 0 =>
    cases hu
    rw [Nat.add_zero, show j * (Kd.int .u8).sz = j from Nat.mul_one j]
    rw [add_at]
    exact h j hlt
  | i + 1 => simp at hu
theorem At.take {w : World} {b off : Nat} {s : ByteArray} (h : At w b off s) (n : Nat) (hn : n ≤ s.size) : At w b off (s.extract 0 n) := by
  intro j hj
  have e : (s.extract 0 n).size = n := by simp [ByteArray.size_extract]; omega
  rw [e] at hj
  rw [h j (by omega)]
  congr 3
  have h1 := get_at (s.extract 0 n) j (by omega)
  have h2 := get_at s j (by omega)
  simp only [Nat.add_zero] at h1 h2
  rw [h1, h2]
  simp [ByteArray.getElem_extract]
/-- a cell of a row of one's own is written -/
theorem own_poke {W : World} {base g cap n size : Nat} {e : TypeId} {xs : List Value} (h : W.ownsRow base e size (.slice (some ⟨g, 0, none⟩) n cap) n xs) (j : Nat) (hj : j < n * size) (u : Value) :
    (W.setCell ⟨g, j, none⟩ u).ownsRow base e size (.slice (some ⟨g, 0, none⟩) n cap) n (xs.set j u) := by
  obtain ⟨hl, h⟩ := h
  refine ⟨by rw [List.length_set]; exact hl, ?_⟩
  rcases h with ⟨h, _⟩ | ⟨g', cap', cur, h, hb, hg, h1, h2, h3, h4⟩
  · cases h
  · cases h
    refine .inr ⟨g, cap, cur.setIfInBounds j u, rfl, hb, ?_, h1, h2, by simp [h3], ?_⟩
    · simp [World.setCell, Array.getElem?_modify, hg]
    · rw [← h4]
      simp [List.take_set]
theorem own_cell_at {w : World} {b e s g n cap : Nat} {xs : List Value} (h : w.ownsRow b e s (.slice (some ⟨g, 0, none⟩) n cap) n xs) (j : Nat) (u : Value) (hu : xs[j]? = some u) : w.cell? ⟨g, j, none⟩ = some u ∧ w.frozen? ⟨g, j, none⟩ = false := by
  obtain ⟨hl, h⟩ := h
  rcases h with ⟨h, _⟩ | ⟨g', cap', cur, h, hb, hg, h1, h2, h3, h4⟩
  · cases h
  · cases h
    have hj : j < n * s := by have := (List.getElem?_eq_some_iff.1 hu).1; omega
    refine ⟨?_, blk_frozen hg j⟩
    rw [blk_cell hg, ← hu, ← h4, List.getElem?_take, if_pos hj, Array.getElem?_toList]
theorem cellsOf_set (l : List S30) (k : Nat) (x : S30) (h : k < l.length) (f : ByteArray) (hf : l[k]? = some x) : (cellsOf l).set (k * 2 + 1) (.string f) = cellsOf (l.set k ⟨x.f0, f⟩) := by
  induction l generalizing k with
  | nil => simp at h
  | cons y l ih =>
    cases k with
    | zero =>
      simp only [List.getElem?_cons_zero, Option.some.injEq] at hf
      subst hf
      rfl
    | succ k =>
      simp only [List.getElem?_cons_succ] at hf
      simp only [List.length_cons] at h
      have := ih k (by omega) hf
      simp only [cellsOf, List.flatMap_cons, List.set_cons_succ] at this ⊢
      rw [← this]
      show ([Value.string y.f0, Value.string y.f1] ++ _).set _ _ = [Value.string y.f0, Value.string y.f1] ++ _
      rw [List.set_append_right _ _ (by simp; omega)]
      congr 2
      simp
      omega
set_option maxRecDepth 100000 in
theorem fail_calls (e a : Int) (w : World) : Calls Tryd.prog 47 #[.int .i64 e, .int .i64 a] w fun ex w' => ex = .returned (.tuple #[.slice none 0 0, .int .i64 0, .agg #[.int .i64 e, .int .i64 a]]) ∧ Below w.heap.size w w' := by
  go_enter Tryd.func47, Tryd.ntmps47
  have hu39 := Tryd.underlying39
  go_wp2
  refine bodyPost_ret (results_list (rs := [.tmp 4, .tmp 5, .cell 6 39]) rfl (by simp) (.tmp (.tmp (.cell w.heap.size 39 #[.int .i64 e, .int .i64 a] (0, 0) _ rfl (World.alloc_heap_new w _) Tryd.underlying39 rfl (by kernel_rfl) .nil)))) rfl ?_
  exact ⟨rfl, (Below.refl _ _).alloc (Nat.le_refl _) _⟩

/-- what holds between two rounds -/
structure Inv (w W : World) (v : Value) (acc : List S30) : Prop where
  bel : Below w.heap.size w W
  cell : W.heap[w.heap.size]? = some (.cells #[.int .i64 0, .int .i64 0] 39 (0, 0))
  own : W.ownsRow (w.heap.size + 1) 30 2 v acc.length (cellsOf acc)
theorem Inv.size {w W : World} {v : Value} {acc : List S30} (h : Inv w W v acc) : w.heap.size < W.heap.size := (Array.getElem?_eq_some_iff.1 h.cell).1
theorem Inv.under {w W W' : World} {v : Value} {acc : List S30} (h : Inv w W v acc) (hb : Below W.heap.size W W') : Inv w W' v acc :=
  ⟨h.bel.trans (hb.mono h.bel.size), (hb.block _ h.size).trans h.cell, pw_own_below h.own hb⟩
theorem index_at (b off c i : Nat) (s : ByteArray) (m : Int) (W : World) (h : At W b off s) (hi : i < s.size) (hs : s.size ≤ 1000000000) (hc : s.size ≤ c) (hm : W.cell? ⟨0, 0, none⟩ = some (.int .i64 m)) (hU : Lib.Utf8Tabs 1 2 W) :
    Calls Tryd.prog 48 #[.slice (some ⟨b, off + i, none⟩) (s.size - i) (c - i), .string ⟨#[13, 10]⟩] W fun e w' => e = .returned (.int .i64 (if lenRow (s.data.toList.drop i) < s.size - i then (lenRow (s.data.toList.drop i) : Int) else -1)) ∧ Below W.heap.size W w' := by
  have e : (s.extract i s.size).size = s.size - i := by simp [ByteArray.size_extract]
  have el : (s.extract i s.size).data.toList = s.data.toList.drop i := by
    rw [ByteArray.data_extract, Array.toList_extract, List.extract_eq_take_drop, List.take_of_length_le (by rw [List.length_drop, data_length]; exact Nat.le_refl _)]
  have := IndexAny_calls (s.extract i s.size) b (off + i) (c - i) m W (h.drop i (by omega)) (by omega) (by omega) (by omega) hm hU
  rw [e, el, lenRow_any, List.length_drop, data_length] at this
  exact this

/-- what bytes.HasPrefix is handed: a carriage return and a line feed in a block of their own -/
def lit (W : World) : World := W.alloc (.cells #[.int .u8 13, .int .u8 10] 5 (2, 3))
theorem lit_below (W : World) : Below W.heap.size W (lit W) := (Below.refl _ _).alloc (Nat.le_refl _) _
theorem lib_bytes (s : ByteArray) : Lib.bytesOf (bytesOf s) = s.data.toList := by
  unfold Lib.bytesOf bytesOf
  rw [List.map_map]
  conv => rhs; rw [← List.map_id s.data.toList]
  apply List.map_congr_left
  intro b _
  simp
theorem prefix_at (b off c k : Nat) (s : ByteArray) (W0 : World) (h : At W0 b off s) (hk : k ≤ s.size) (hc : s.size ≤ c) (W : World) (hb : Below W0.heap.size W0 W) :
    Calls Tryd.prog 49 #[.slice (some ⟨b, off + k, none⟩) (s.size - k) (c - k), .slice (some ⟨W.heap.size, 0, none⟩) 2 2] (lit W) fun e w' => e = .returned (.bool (isCRLF (s.data.toList.drop k))) ∧ w' = lit W := by
  have e : (s.extract k s.size).size = s.size - k := by simp [ByteArray.size_extract]
  have el : (s.extract k s.size).data.toList = s.data.toList.drop k := by
    rw [ByteArray.data_extract, Array.toList_extract, List.extract_eq_take_drop, List.take_of_length_le (by rw [List.length_drop, data_length]; exact Nat.le_refl _)]
  have hA := ((h.below hb).below (lit_below W)).drop k hk
  have h1 : Lib.BytesIn (lit W) (some ⟨b, off + k, none⟩) (s.size - k) (bytesOf (s.extract k s.size)) := by
    intro _
    refine ⟨b, off + k, rfl, fun i hi => ?_⟩
    rw [hA i (by omega), List.getD_eq_getElem?_getD, bytes_at _ i (by omega)]
    rfl
  have h2 : Lib.BytesIn (lit W) (some ⟨W.heap.size, 0, none⟩) 2 [13, 10] := by
    intro _
    refine ⟨W.heap.size, 0, rfl, fun i hi => ?_⟩
    have hh : (lit W).heap[W.heap.size]? = some (.cells #[.int .u8 13, .int .u8 10] 5 (2, 3)) := heap_alloc_new W _
    unfold World.cell?
    rw [hh]
    rcases (show i = 0 ∨ i = 1 by omega) with rfl | rfl <;> rfl
  have := Tryd.bytes_HasPrefix_all (some ⟨b, off + k, none⟩) (some ⟨W.heap.size, 0, none⟩) (s.size - k) (c - k) 2 2 (bytesOf (s.extract k s.size)) [13, 10] (lit W) (by rw [bytes_len, e]) rfl (by omega) h1 h2
  rw [lib_bytes, el] at this
  exact this
theorem Inv.spot {w W : World} {v : Value} {acc : List S30} (h : Inv w W v acc) : W.cell? ⟨w.heap.size, 0, none⟩ = some (.int .i64 0) ∧ W.cell? ⟨w.heap.size, 1, none⟩ = some (.int .i64 0) ∧ W.frozen? ⟨w.heap.size, 0, none⟩ = false ∧ W.frozen? ⟨w.heap.size, 1, none⟩ = false := by
  refine ⟨?_, ?_, blk_frozen h.cell 0, blk_frozen h.cell 1⟩
  · rw [blk_cell h.cell]; rfl
  · rw [blk_cell h.cell]; rfl
theorem own_low {w : World} {b b' e s n : Nat} {v : Value} {xs : List Value} (h : w.ownsRow b e s v n xs) (hb : b' ≤ b) : w.ownsRow b' e s v n xs := by
  obtain ⟨hl, h⟩ := h
  rcases h with h | ⟨g, cap, cur, h1, h2, h3⟩
  · exact ⟨hl, .inl h⟩
  · exact ⟨hl, .inr ⟨g, cap, cur, h1, by omega, h3⟩⟩
theorem Inv.put {w W : World} {v : Value} {acc : List S30} (h : Inv w W v acc) (x y : Int) :
    ((W.setCell ⟨w.heap.size, 0, none⟩ (.int .i64 x)).setCell ⟨w.heap.size, 1, none⟩ (.int .i64 y)).heap[w.heap.size]? = some (.cells #[.int .i64 x, .int .i64 y] 39 (0, 0)) ∧
    Below w.heap.size w ((W.setCell ⟨w.heap.size, 0, none⟩ (.int .i64 x)).setCell ⟨w.heap.size, 1, none⟩ (.int .i64 y)) ∧
    ((W.setCell ⟨w.heap.size, 0, none⟩ (.int .i64 x)).setCell ⟨w.heap.size, 1, none⟩ (.int .i64 y)).ownsRow w.heap.size 30 2 v acc.length (cellsOf acc) := by
  refine ⟨?_, (h.bel.setCell (p := ⟨w.heap.size, 0, none⟩) (Nat.le_refl _) _).setCell (p := ⟨w.heap.size, 1, none⟩) (Nat.le_refl _) _, ?_⟩
  · exact blk_put (blk_put h.cell 0 (.int .i64 x) rfl) 1 (.int .i64 y) rfl
  · have hne : some w.heap.size ≠ v.ownBlock := fun e => by have := own_base h.own _ e.symm; omega
    have h1 := own_setCell (own_setCell h.own (p := ⟨w.heap.size, 0, none⟩) hne (.int .i64 x)) (p := ⟨w.heap.size, 1, none⟩) hne (.int .i64 y)
    exact own_low h1 (by omega)
theorem goDone {L : List UInt8} {g i : Nat} {acc a : List S30} {j : Nat} {V : List S30 × Nat × Int × Nat} (h : parseGo L (g + 1) i acc = V) (hs : rowStep L i acc = .done a j) : V = (a, j, 0, 0) := by rw [← h, parseGo, hs]
theorem goFail {L : List UInt8} {g i : Nat} {acc : List S30} {e : Int} {j : Nat} {V : List S30 × Nat × Int × Nat} (h : parseGo L (g + 1) i acc = V) (hs : rowStep L i acc = .fail e j) : V = ([], 0, e, j) := by rw [← h, parseGo, hs]
theorem goNext {L : List UInt8} {g i : Nat} {acc a : List S30} {j : Nat} {V : List S30 × Nat × Int × Nat} (h : parseGo L (g + 1) i acc = V) (hs : rowStep L i acc = .next a j) : parseGo L g j a = V := by rw [← h, parseGo, hs]

theorem str_bytes (s : ByteArray) : strOfNums (bytesOf s) = s := by
  unfold strOfNums bytesOf
  apply ByteArray.ext
  apply Array.toList_inj.1
  simp [List.map_map, Function.comp_def]
theorem row_at (b off c i rl : Nat) (s : ByteArray) (W : World) (h : At W b off s) (hr : i + rl ≤ s.size) (hs : s.size ≤ 1000000000) : (convert 24 9 (.slice (some ⟨b, off + i, none⟩) rl c)).run Tryd.prog W = .ok (.string ⟨((s.data.toList.drop i).take rl).toArray⟩) W := by
  have e : (s.extract i s.size).size = s.size - i := by simp [ByteArray.size_extract]
  have e2 : ((s.extract i s.size).extract 0 rl).size = rl := by simp [ByteArray.size_extract]; omega
  have el : ((s.extract i s.size).extract 0 rl) = ⟨((s.data.toList.drop i).take rl).toArray⟩ := by
    apply ByteArray.ext
    apply Array.toList_inj.1
    rw [ByteArray.data_extract, Array.toList_extract, List.extract_eq_take_drop, ByteArray.data_extract, Array.toList_extract, List.extract_eq_take_drop, List.drop_zero, Nat.sub_zero]
    rw [List.take_of_length_le (show (List.drop i s.data.toList).length ≤ s.size - i by rw [List.length_drop, data_length]; exact Nat.le_refl _)]
  have hC := C_of_At (At.take (h.drop i (by omega)) rl (by omega)) (by omega)
  rw [e2] at hC
  have := Kd.C_string (c := c) Tryd.underlying24 Tryd.underlying5 Tryd.underlying9 hC
  rw [str_bytes, el] at this
  exact this
theorem own_form {w : World} {b e s n : Nat} {v : Value} {xs : List Value} (h : w.ownsRow b e s v n xs) (hn : 0 < n) : ∃ g cap, v = .slice (some ⟨g, 0, none⟩) n cap ∧ b ≤ g ∧ g < w.heap.size := by
  obtain ⟨_, h | ⟨g, cap, cur, h1, h2, h3, _⟩⟩ := h
  · omega
  · exact ⟨g, cap, h1, h2, blk_lt h3⟩

theorem last_cell (acc : List S30) (h : 0 < acc.length) : (cellsOf acc)[(acc.length - 1) * 2 + 1]? = some (.string (rd_T30 acc ((acc.length - 1 : Nat) : Int)).f1) := by
  have hlt : acc.length - 1 < acc.length := by omega
  have := cellsOf_at acc (acc.length - 1) _ (List.getElem?_eq_getElem hlt) 1 (by omega)
  rw [this]
  unfold rd_T30
  rw [List.getD_eq_getElem?_getD, Int.toNat_natCast, List.getElem?_eq_getElem hlt]
  rfl

theorem own_slice {w : World} {b e s n : Nat} {v : Value} {xs : List Value} (h : w.ownsRow b e s v n xs) : ∃ A cap, v = .slice A n cap := by
  obtain ⟨_, ⟨rfl, rfl⟩ | ⟨g, cap, cur, h1, _⟩⟩ := h
  · exact ⟨none, 0, rfl⟩
  · exact ⟨_, cap, h1⟩
theorem C_three (W : World) (x y z : ByteArray) : Kd.C Kd.string (W.alloc (.cells #[.string x, .string y, .string z] 9)) (some ⟨W.heap.size, 0, none⟩) 3 [x, y, z] := by
  have hh : (W.alloc (.cells #[.string x, .string y, .string z] 9)).heap[W.heap.size]? = some (.cells #[.string x, .string y, .string z] 9 (0, 0)) := heap_alloc_new W _
  refine ⟨rfl, by decide, fun _ => ⟨_, rfl, fun j p hj => ⟨[.string p], rfl, rfl, fun i u hu => ?_⟩⟩⟩
  obtain rfl : i = 0 := by
    have := (List.getElem?_eq_some_iff.1 hu).1
    simp only [List.length_cons, List.length_nil] at this
    omega
  cases hu
  rw [Nat.add_zero, show j * Kd.string.sz = j from Nat.mul_one j, add_plain, blk_cell hh]
  match j with
  | 0 => cases hj; rfl
  | 1 => cases hj; rfl
  | 2 => cases hj; rfl
  | j + 3 => simp at hj
theorem Inv.bumped {w W : World} {gb cap : Nat} {acc : List S30} (h : Inv w W (.slice (some ⟨gb, 0, none⟩) acc.length cap) acc) (h0 : 0 < acc.length) (t : List UInt8) :
    Inv w (W.setCell ⟨gb, (acc.length - 1) * 2 + 1, none⟩ (.string ⟨((rd_T30 acc ((acc.length - 1 : Nat) : Int)).f1.data.toList ++ [13, 10] ++ t).toArray⟩)) (.slice (some ⟨gb, 0, none⟩) acc.length cap) (bump acc t) := by
  have hgb : w.heap.size + 1 ≤ gb := by
    have := own_base h.own gb rfl
    omega
  refine ⟨h.bel.setCell (p := ⟨gb, (acc.length - 1) * 2 + 1, none⟩) (by show w.heap.size ≤ gb; omega) _, ?_, ?_⟩
  · rw [Below.heap_setCell W ⟨gb, (acc.length - 1) * 2 + 1, none⟩ _ _ (by show w.heap.size ≠ gb; omega)]
    exact h.cell
  · have hp := own_poke h.own ((acc.length - 1) * 2 + 1) (by omega) (.string ⟨((rd_T30 acc ((acc.length - 1 : Nat) : Int)).f1.data.toList ++ [13, 10] ++ t).toArray⟩)
    have hlt : acc.length - 1 < acc.length := by omega
    have hx : acc[acc.length - 1]? = some (rd_T30 acc ((acc.length - 1 : Nat) : Int)) := by
      unfold rd_T30
      rw [List.getD_eq_getElem?_getD, Int.toNat_natCast, List.getElem?_eq_getElem hlt]
      rfl
    rw [cellsOf_set acc (acc.length - 1) _ hlt _ hx] at hp
    rw [bump_length]
    exact hp
theorem bump_bound {acc : List S30} {i : Nat} (h : ∀ f ∈ acc, f.f0.size + f.f1.size ≤ i) (h0 : 0 < acc.length) (t : List UInt8) (j : Nat) (hj : i + t.length + 2 ≤ j) : ∀ f ∈ bump acc t, f.f0.size + f.f1.size ≤ j := by
  intro f hf
  unfold bump at hf
  have hlt : acc.length - 1 < acc.length := by omega
  rcases List.mem_or_eq_of_mem_set hf with hf | rfl
  · have := h f hf; omega
  · have hm : rd_T30 acc ((acc.length - 1 : Nat) : Int) ∈ acc := by
      unfold rd_T30
      rw [List.getD_eq_getElem?_getD, Int.toNat_natCast, List.getElem?_eq_getElem hlt]
      exact List.getElem_mem hlt
    have := h _ hm
    have e : (⟨((rd_T30 acc ((acc.length - 1 : Nat) : Int)).f1.data.toList ++ [13, 10] ++ t).toArray⟩ : ByteArray).size = (rd_T30 acc ((acc.length - 1 : Nat) : Int)).f1.size + 2 + t.length := by
      show (((rd_T30 acc ((acc.length - 1 : Nat) : Int)).f1.data.toList ++ [13, 10] ++ t).toArray).size = _
      rw [List.size_toArray, List.length_append, List.length_append, data_length]
      rfl
    simp only [e]
    omega

theorem Inv.pushed {w W W1 : World} {v v1 : Value} {acc : List S30} (h : Inv w W v acc) (x : S30) (ho : W1.ownsRow (w.heap.size + 1) 30 2 v1 (acc.length + 1) (cellsOf acc ++ [.string x.f0, .string x.f1])) (hg : W.grownBy W1 v.ownBlock) : Inv w W1 v1 (acc ++ [x]) := by
  refine ⟨h.bel.grown hg h.bel.size (fun k e => by have := own_base h.own k e; omega), (hg.block _ h.size (fun e => by have := own_base h.own _ e.symm; omega)).trans h.cell, ?_⟩
  rw [cellsOf_append, List.length_append]
  exact ho
theorem app_room {acc : List S30} (h : acc.length ≤ 4096) : (acc.length + 1) * 32 ≤ 140737488355328 := by omega
theorem crlf_end {s : ByteArray} {k : Nat} (h : isCRLF (s.data.toList.drop k) = true) (hs : s.data.toList.length = s.size) : k + 2 ≤ s.size := by
  have := crlf_len h
  rw [List.length_drop, hs] at this
  omega
theorem meas {z i rl g : Nat} (hi : i < z) (h : z - i < g + 1) : z - (i + rl + 2) < g := by omega
theorem ext_take (l : List UInt8) (k : Nat) : (⟨l.toArray⟩ : ByteArray).extract 0 k = ⟨(l.take k).toArray⟩ := by
  apply ByteArray.ext
  apply Array.toList_inj.1
  rw [ByteArray.data_extract, Array.toList_extract, List.extract_eq_take_drop]
  simp
theorem ext_drop (l : List UInt8) (k n : Nat) (hn : n = l.length) : (⟨l.toArray⟩ : ByteArray).extract k n = ⟨(l.drop k).toArray⟩ := by
  apply ByteArray.ext
  apply Array.toList_inj.1
  rw [ByteArray.data_extract, Array.toList_extract, List.extract_eq_take_drop]
  show (l.drop k).take (n - k) = l.drop k
  rw [List.take_of_length_le (by rw [List.length_drop, hn]; exact Nat.le_refl _)]
theorem pushed_bound {acc : List S30} {i : Nat} (h : ∀ f ∈ acc, f.f0.size + f.f1.size ≤ i) (ch : UInt8) (tl : List UInt8) (cb rl j : Nat) (hl : rl = tl.length + 1) (hc : cb < rl) (hj : j = i := by rfl) :
    ∀ f ∈ acc ++ [(⟨(⟨(ch :: tl).toArray⟩ : ByteArray).extract 0 cb, (⟨(ch :: tl).toArray⟩ : ByteArray).extract (cb + 1) rl⟩ : S30)], f.f0.size + f.f1.size ≤ j + rl + 2 := by
  intro f hf
  rcases List.mem_append.1 hf with hf | hf
  · have := h f hf; omega
  · rw [List.mem_singleton.1 hf]
    have e : (⟨(ch :: tl).toArray⟩ : ByteArray).size = tl.length + 1 := rfl
    simp only [ByteArray.size_extract, e]
    omega
theorem cb_facts (cb rl : Nat) (h : cb < rl) (hr : rl ≤ 998) : cb ≤ rl ∧ wrap64 ((cb : Int) + 1) = (cb : Int) + 1 ∧ (cb : Int) + 1 ≤ (rl : Int) ∧ (0 : Int) ≤ (cb : Int) + 1 ∧ ((cb : Int) + 1).toNat = cb + 1 :=
  ⟨by omega, by unfold wrap64; omega, by omega, by omega, by omega⟩
def T27 : Bool × List (List Nat × List Nat) := (true, [([], []), ([], []), ([], []), ([1, 2], [1, 2]), ([], []), ([], []), ([5], [5]), ([4, 6], [4, 6]), ([3, 7], [3, 7]), ([8], [8]), ([0, 9], [0, 9]), ([10, 10, 0, 1, 2, 3, 4, 5, 6, 7, 8, 9, 10], [0, 10])])
def B27 : List Nat := [0, 0, 0, 6, 0, 0, 32, 112, 254, 510, 1023, 2047]
theorem tab27 : rtab .any (opsOf Tryd.f22 27) = T27 := by kernel_rfl
theorem bits27 : waitsOk T27.2 B27 = true := by kernel_rfl

theorem prefix_nil (p1 : Option Addr) (c : Nat) (W : World) :
    Calls Tryd.prog 49 #[.slice p1 0 c, .slice (some ⟨W.heap.size, 0, none⟩) 2 2] (lit W) fun e w' => e = .returned (.bool false) ∧ w' = lit W := by
  have h2 : Lib.BytesIn (lit W) (some ⟨W.heap.size, 0, none⟩) 2 [13, 10] := by
    intro _
    refine ⟨W.heap.size, 0, rfl, fun i hi => ?_⟩
    have hh : (lit W).heap[W.heap.size]? = some (.cells #[.int .u8 13, .int .u8 10] 5 (2, 3)) := heap_alloc_new W _
    unfold World.cell?
    rw [hh]
    rcases (show i = 0 ∨ i = 1 by omega) with rfl | rfl <;> rfl
  exact Tryd.bytes_HasPrefix_all p1 (some ⟨W.heap.size, 0, none⟩) 0 c 2 2 [] [13, 10] (lit W) rfl rfl (Nat.zero_le _) (Lib.BytesIn.nil _ _ _) h2

set_option maxHeartbeats 8000000 in
set_option maxRecDepth 100000 in
theorem parse_walk (b off c : Nat) (s : ByteArray) (m : Int) (w : World) (h : At w b off s) (h0 : 0 < s.size) (hc : s.size ≤ c) (hs : s.size ≤ 1000000000) (hm : w.cell? ⟨0, 0, none⟩ = some (.int .i64 m)) (hT : Laid w) (hU : Lib.Utf8Tabs 1 2 w) :
    Calls Tryd.prog 22 #[.slice (some ⟨b, off, none⟩) s.size c] w fun e w' => ∃ v l i er sp, parseV s.data.toList = (l, i, er, sp) ∧ e = .returned (.tuple #[v, .int .i64 (i : Nat), .agg #[.int .i64 er, .int .i64 (sp : Nat)]]) ∧ w'.ownsRow w.heap.size 30 2 v l.length (cellsOf l) ∧ Below w.heap.size w w' := by
  have hu30 := Tryd.underlying30
  have hu39 := Tryd.underlying39
  have HA := Lib.hid h
  have HM := Lib.hid hm
  have HT := Lib.hid hT
  have HU := Lib.hid hU
  have h0lt := World.block_lt_of_cell? w _ hm
  have hsl : s.data.toList.length = s.size := data_length s
  have hV : ∃ V, parseV s.data.toList = V := ⟨_, rfl⟩
  obtain ⟨V, hV⟩ := hV
  rw [hV]
  unfold parseV at hV
  rw [hsl] at hV
  have HV := Lib.hid hV
  clear h hm hT hU hV
  go_enter Tryd.func22, Tryd.ntmps22
  go_wp2
  go_loopg [6, 7] (s.size + 1) (fun g v6 v7 wx => ∃ (i : Nat) (acc : List S30), v7 = .int .i64 i ∧ i ≤ s.size ∧ s.size - i < g ∧ acc.length ≤ 4096 ∧ (∀ f ∈ acc, f.f0.size + f.f1.size ≤ i) ∧ Inv w wx v6 acc ∧ parseGo s.data.toList g i acc = V)
  case atStart => exact ⟨0, [], rfl, by omega, by omega, by simp, by simp, ⟨(Below.refl _ _).alloc (Nat.le_refl _) _, World.alloc_heap_new w _, own_nil _ _ _ _⟩, HV.out⟩
  case round =>
    obtain ⟨i, acc, rfl, hile, hig, hal, hab, hinv, hgo⟩ := hrel
    cases gk with
    | zero => omega
    | succ g =>
      have HI := Lib.hid hinv
      have HB := Lib.hid hinv.bel
      have HAB := Lib.hid hab
      have HG := Lib.hid hgo
      have HC := Lib.hid ((hinv.bel.cell h0lt).trans HM.out)
      clear hinv hab hgo
      by_cases hi : i < s.size
      · have hiz : (i : Int) < (s.size : Int) := by omega
        have hx := index_at b off c i s m wr (HA.out.below HB.out) hi hs hc HC.out (Utf8Tabs_below HU.out HB.out)
        have hrl := lenRow_le (s.data.toList.drop i)
        rw [List.length_drop, hsl] at hrl
        obtain ⟨rl, hrle⟩ : ∃ rl, lenRow (s.data.toList.drop i) = rl := ⟨_, rfl⟩
        rw [hrle] at hx hrl
        have HRL := Lib.hid hrle
        clear hrle
        by_cases hr : rl < s.size - i
        · rw [if_pos hr] at hx
          have HX := Lib.hid hx
          clear hx
          have hnn : ¬ ((rl : Int) < 0) := by omega
          have hx9 := prefix_at b off c (i + rl) s wr (HA.out.below HB.out) (by omega) hc
          obtain ⟨cr, hcr⟩ : ∃ cr, isCRLF (s.data.toList.drop (i + rl)) = cr := ⟨_, rfl⟩
          rw [hcr] at hx9
          have HX9 := Lib.hid hx9
          have HCR := Lib.hid hcr
          clear hx9 hcr
          by_cases cA : rl = 0 ∧ cr = true
          · obtain ⟨rfl, rfl⟩ := cA
            go_wp2_with (first | (go_at_call 48; refine HX.out.mono ?_; rintro e w2 ⟨rfl, hw2⟩; have hcv := Lib.run_convert_bytes_const w2 24 5 #[.int .u8 13, .int .u8 10] 2 2 Tryd.underlying24 Tryd.underlying5; have HW2 := Lib.hid hw2; clear hw2) | (go_at_call 49; refine (HX9.out w2 HW2.out).mono ?_; rintro e w3 ⟨rfl, rfl⟩; have HI3 := Lib.hid ((HI.out.under HW2.out).under (lit_below w2)); obtain ⟨y0, y1, y2, y3⟩ := HI3.out.spot; clear hcv))
            have HF := Lib.hid (HI3.out.put 0 0)
            refine bodyPost_ret (results_list (rs := [.tmp 2, .tmp 3, .cell 4 39]) rfl (by simp) (.tmp (.tmp (.cell w.heap.size 39 #[.int .i64 0, .int .i64 0] (0, 0) _ rfl HF.out.1 Tryd.underlying39 rfl (by kernel_rfl) .nil)))) rfl ?_
            exact ⟨_, _, _, _, _, goDone HG.out (by unfold rowStep; rw [if_neg (by omega), if_pos ⟨HRL.out, by have := HCR.out; rwa [Nat.add_zero] at this⟩]), by simp, HF.out.2.2, HF.out.2.1⟩
          · have hst0 : rowStep s.data.toList i acc = if 998 < rl then .fail 160 (i + 998) else if cr = false then .fail 160 (i + rl) else
                if blankB ((s.data.toList.drop i).take rl) = true then
                  if acc = [] ∨ blanksB ((s.data.toList.drop i).take rl) = true then .fail 161 i
                  else .next (bump acc ((s.data.toList.drop i).take rl)) (i + rl + 2)
                else if badAt 11 ((s.data.toList.drop i).take rl) = 0 ∨ badAt 11 ((s.data.toList.drop i).take rl) = rl ∨ ((s.data.toList.drop i).take rl).getD (badAt 11 ((s.data.toList.drop i).take rl)) 0 ≠ 58 then .fail 160 (i + badAt 11 ((s.data.toList.drop i).take rl))
                else if acc.length = 4096 then .fail 160 i
                else .next (acc ++ [⟨⟨(((s.data.toList.drop i).take rl).take (badAt 11 ((s.data.toList.drop i).take rl))).toArray⟩, ⟨(((s.data.toList.drop i).take rl).drop (badAt 11 ((s.data.toList.drop i).take rl) + 1)).toArray⟩⟩]) (i + rl + 2) := by
              conv => lhs; unfold rowStep
              rw [if_neg (by omega), HRL.out, HCR.out, if_neg (fun e => cA ⟨e.1, by have := HCR.out; rw [e.1, Nat.add_zero] at this; rw [← this]; exact e.2⟩)]
            have HST := Lib.hid hst0
            clear hst0
            have cA2 : ((rl : Int) == 0) = false ∨ cr = false := by
              by_cases e : rl = 0
              · right
                cases hcr : cr with
                | false => rfl
                | true => exact absurd ⟨e, hcr⟩ cA
              · left
                exact beq_eq_false_iff_ne.2 (by omega)
            by_cases cB : 998 < rl
            · have hgt : decide ((998 : Int) < (rl : Int)) = true := decide_eq_true (by omega)
              have hz : ((rl : Int) == 0) = false := beq_eq_false_iff_ne.2 (by omega)
              go_wp2_with (first | (go_at_call 48; refine HX.out.mono ?_; rintro e w2 ⟨rfl, hw2⟩; have hcv := Lib.run_convert_bytes_const w2 24 5 #[.int .u8 13, .int .u8 10] 2 2 Tryd.underlying24 Tryd.underlying5; have HW2 := Lib.hid hw2; clear hw2) | (go_at_call 49; refine (HX9.out w2 HW2.out).mono ?_; rintro e w3 ⟨rfl, rfl⟩; have HI3 := Lib.hid ((HI.out.under HW2.out).under (lit_below w2)); obtain ⟨y0, y1, y2, y3⟩ := HI3.out.spot; clear hcv) | (go_at_call 47; refine (fail_calls _ _ _).mono ?_; rintro e w4 ⟨rfl, hw4⟩; have HI4 := Lib.hid (HI3.out.under hw4); obtain ⟨z0, z1, z2, z3⟩ := HI4.out.spot; clear hw4))
              have HF := Lib.hid (HI4.out.put 160 ((i : Int) + 998))
              refine bodyPost_ret (results_list (rs := [.tmp 2, .tmp 3, .cell 4 39]) rfl (by simp) (.tmp (.tmp (.cell w.heap.size 39 #[.int .i64 160, .int .i64 ((i : Int) + 998)] (0, 0) _ rfl HF.out.1 Tryd.underlying39 rfl (by kernel_rfl) .nil)))) rfl ?_
              exact ⟨_, _, _, _, _, goFail HG.out (by rw [HST.out, if_pos cB]), by simp, own_nil _ _ _ _, HF.out.2.1⟩
            · have hgt : decide ((998 : Int) < (rl : Int)) = false := decide_eq_false (by omega)
              cases hcr : cr with
              | false =>
                subst hcr
                clear cA cA2
                by_cases cC : rl = 0
                · subst cC
                  go_wp2_with (first | (go_at_call 48; refine HX.out.mono ?_; rintro e w2 ⟨rfl, hw2⟩; have hcv := Lib.run_convert_bytes_const w2 24 5 #[.int .u8 13, .int .u8 10] 2 2 Tryd.underlying24 Tryd.underlying5; have HW2 := Lib.hid hw2; clear hw2) | (go_at_call 49; refine (HX9.out w2 HW2.out).mono ?_; rintro e w3 ⟨rfl, rfl⟩; have HI3 := Lib.hid ((HI.out.under HW2.out).under (lit_below w2)); obtain ⟨y0, y1, y2, y3⟩ := HI3.out.spot; clear hcv) | (go_at_call 47; refine (fail_calls _ _ _).mono ?_; rintro e w4 ⟨rfl, hw4⟩; have HI4 := Lib.hid (HI3.out.under hw4); obtain ⟨z0, z1, z2, z3⟩ := HI4.out.spot; clear hw4))
                  have HF := Lib.hid (HI4.out.put 160 ((i : Int)))
                  refine bodyPost_ret (results_list (rs := [.tmp 2, .tmp 3, .cell 4 39]) rfl (by simp) (.tmp (.tmp (.cell w.heap.size 39 #[.int .i64 160, .int .i64 ((i : Int))] (0, 0) _ rfl HF.out.1 Tryd.underlying39 rfl (by kernel_rfl) .nil)))) rfl ?_
                  exact ⟨_, _, _, _, _, goFail HG.out (by rw [HST.out, if_neg cB]; first | rw [if_pos rfl] | rw [if_pos trivial]), by simp, own_nil _ _ _ _, HF.out.2.1⟩
                · have hz : ((rl : Int) == 0) = false := beq_eq_false_iff_ne.2 (by omega)
                  go_wp2_with (first | (go_at_call 48; refine HX.out.mono ?_; rintro e w2 ⟨rfl, hw2⟩; have hcv := Lib.run_convert_bytes_const w2 24 5 #[.int .u8 13, .int .u8 10] 2 2 Tryd.underlying24 Tryd.underlying5; have HW2 := Lib.hid hw2; clear hw2) | (go_at_call 49; refine (HX9.out w2 HW2.out).mono ?_; rintro e w3 ⟨rfl, rfl⟩; have HI3 := Lib.hid ((HI.out.under HW2.out).under (lit_below w2)); obtain ⟨y0, y1, y2, y3⟩ := HI3.out.spot; clear hcv) | (go_at_call 47; refine (fail_calls _ _ _).mono ?_; rintro e w4 ⟨rfl, hw4⟩; have HI4 := Lib.hid (HI3.out.under hw4); obtain ⟨z0, z1, z2, z3⟩ := HI4.out.spot; clear hw4))
                  have HF := Lib.hid (HI4.out.put 160 ((i : Int) + rl))
                  refine bodyPost_ret (results_list (rs := [.tmp 2, .tmp 3, .cell 4 39]) rfl (by simp) (.tmp (.tmp (.cell w.heap.size 39 #[.int .i64 160, .int .i64 ((i : Int) + rl)] (0, 0) _ rfl HF.out.1 Tryd.underlying39 rfl (by kernel_rfl) .nil)))) rfl ?_
                  exact ⟨_, _, _, _, _, goFail HG.out (by rw [HST.out, if_neg cB]; first | rw [if_pos rfl] | rw [if_pos trivial]), by simp, own_nil _ _ _ _, HF.out.2.1⟩
              | true =>
                subst hcr
                have hrl0 : rl ≠ 0 := fun e => cA ⟨e, rfl⟩
                have hz : ((rl : Int) == 0) = false := beq_eq_false_iff_ne.2 (by omega)
                clear cA cA2
                have hst1 := HST.out
                rw [if_neg cB, if_neg (by simp)] at hst1
                obtain ⟨row, hrow⟩ : ∃ row, (s.data.toList.drop i).take rl = row := ⟨_, rfl⟩
                have hrlen : row.length = rl := by rw [← hrow, List.length_take, List.length_drop, hsl]; omega
                rw [hrow] at hst1
                cases row with
                | nil => exact absurd hrlen.symm hrl0
                | cons ch tl =>
                simp only [List.length_cons] at hrlen
                have HROW := Lib.hid hrow
                have HSZ := Lib.hid (show (⟨(ch :: tl).toArray⟩ : ByteArray).size ≤ 9223372036854775807 by show (ch :: tl).length ≤ _; simp only [List.length_cons]; omega)
                clear hrow
                cases hbl : blankB (ch :: tl)
                · rw [hbl, if_neg (by simp)] at hst1
                  have HBL := Lib.hid (blank_no hbl)
                  clear HST
                  obtain ⟨Au, cap, rfl⟩ := own_slice HI.out.own
                  have hbd : ∀ W, Below w.heap.size w W → Calls Tryd.prog 50 #[.int .i64 11, .string ⟨(ch :: tl).toArray⟩] W fun e w' => e = .returned (.int .i64 (badAt 11 (ch :: tl))) ∧ Below W.heap.size W w' := fun W hW => Bad_calls 11 (by decide) (by decide) ⟨(ch :: tl).toArray⟩ (by show (ch :: tl).length ≤ _; simp only [List.length_cons]; omega) W (HT.out.below HT.out.size hW)
                  have hcle := badAt_le 11 (ch :: tl)
                  simp only [List.length_cons] at hcle
                  obtain ⟨cb, hcb⟩ : ∃ cb, badAt 11 (ch :: tl) = cb := ⟨_, rfl⟩
                  rw [hcb] at hbd hst1 hcle
                  have HBD := Lib.hid hbd
                  clear hbd hcb
                  by_cases c0 : cb = 0
                  · rw [if_pos (.inl c0), c0, Nat.add_zero] at hst1
                    have HST := Lib.hid hst1
                    have hc0 : ((cb : Int) == 0) = true := beq_iff_eq.2 (by omega)
                    clear hst1
                    go_wp2_with (first | (go_at_call 48; refine HX.out.mono ?_; rintro e w2 ⟨rfl, hw2⟩; have hcv := Lib.run_convert_bytes_const w2 24 5 #[.int .u8 13, .int .u8 10] 2 2 Tryd.underlying24 Tryd.underlying5; have HW2 := Lib.hid hw2; clear hw2) | (go_at_call 49; refine (HX9.out w2 HW2.out).mono ?_; rintro e w3 ⟨rfl, rfl⟩; have hIn3 := (HI.out.under HW2.out).under (lit_below w2); have q := row_at b off (c - i) i rl s (lit w2) (HA.out.below hIn3.bel) (by omega) hs; rw [HROW.out] at q; have HI3 := Lib.hid hIn3; clear hcv hIn3) | (go_at_call 34; refine (field_blank.calls _ _ _ HBL.out).mono ?_; rintro e w5 ⟨rfl, ⟨⟨nd, rfl⟩⟩⟩; have HI5 := Lib.hid (HI3.out.under (pw_below_drewN (Below.refl _ _) nd))) | (go_at_call 50; refine (HBD.out _ HI5.out.bel).mono ?_; rintro e w6 ⟨rfl, hw6⟩; have HI6 := Lib.hid (HI5.out.under hw6); clear hw6) | (go_at_call 47; refine (fail_calls _ _ _).mono ?_; rintro e w4 ⟨rfl, hw4⟩; have HI4 := Lib.hid (HI6.out.under hw4); obtain ⟨z0, z1, z2, z3⟩ := HI4.out.spot; clear hw4))
                    have HF := Lib.hid (HI4.out.put 160 (i : Int))
                    refine bodyPost_ret (results_list (rs := [.tmp 2, .tmp 3, .cell 4 39]) rfl (by simp) (.tmp (.tmp (.cell w.heap.size 39 #[.int .i64 160, .int .i64 (i : Int)] (0, 0) _ rfl HF.out.1 Tryd.underlying39 rfl (by kernel_rfl) .nil)))) rfl ?_
                    exact ⟨_, _, _, _, _, goFail HG.out (by exact HST.out), by simp, own_nil _ _ _ _, HF.out.2.1⟩
                  · have hc0 : ((cb : Int) == 0) = false := beq_eq_false_iff_ne.2 (by omega)
                    by_cases c1 : cb = rl
                    · rw [if_pos (.inr (.inl c1)), c1] at hst1
                      have HST := Lib.hid hst1
                      have hc1 : ((cb : Int) == (rl : Int)) = true := beq_iff_eq.2 (congrArg Int.ofNat c1)
                      clear hst1
                      go_wp2_with (first | (go_at_call 48; refine HX.out.mono ?_; rintro e w2 ⟨rfl, hw2⟩; have hcv := Lib.run_convert_bytes_const w2 24 5 #[.int .u8 13, .int .u8 10] 2 2 Tryd.underlying24 Tryd.underlying5; have HW2 := Lib.hid hw2; clear hw2) | (go_at_call 49; refine (HX9.out w2 HW2.out).mono ?_; rintro e w3 ⟨rfl, rfl⟩; have hIn3 := (HI.out.under HW2.out).under (lit_below w2); have q := row_at b off (c - i) i rl s (lit w2) (HA.out.below hIn3.bel) (by omega) hs; rw [HROW.out] at q; have HI3 := Lib.hid hIn3; clear hcv hIn3) | (go_at_call 34; refine (field_blank.calls _ _ _ HBL.out).mono ?_; rintro e w5 ⟨rfl, ⟨⟨nd, rfl⟩⟩⟩; have HI5 := Lib.hid (HI3.out.under (pw_below_drewN (Below.refl _ _) nd))) | (go_at_call 50; refine (HBD.out _ HI5.out.bel).mono ?_; rintro e w6 ⟨rfl, hw6⟩; have HI6 := Lib.hid (HI5.out.under hw6); clear hw6) | (go_at_call 47; refine (fail_calls _ _ _).mono ?_; rintro e w4 ⟨rfl, hw4⟩; have HI4 := Lib.hid (HI6.out.under hw4); obtain ⟨z0, z1, z2, z3⟩ := HI4.out.spot; clear hw4))
                      have HF := Lib.hid (HI4.out.put 160 ((i : Int) + rl))
                      refine bodyPost_ret (results_list (rs := [.tmp 2, .tmp 3, .cell 4 39]) rfl (by simp) (.tmp (.tmp (.cell w.heap.size 39 #[.int .i64 160, .int .i64 ((i : Int) + rl)] (0, 0) _ rfl HF.out.1 Tryd.underlying39 rfl (by kernel_rfl) .nil)))) rfl ?_
                      exact ⟨_, _, _, _, _, goFail HG.out (by exact HST.out), by simp, own_nil _ _ _ _, HF.out.2.1⟩
                    · have hc1 : ((cb : Int) == (rl : Int)) = false := beq_eq_false_iff_ne.2 (by omega)
                      have hclt : cb < (ch :: tl).length := by simp only [List.length_cons]; omega
                      obtain ⟨bb, hbb⟩ : ∃ bb, (ch :: tl)[cb]'hclt = bb := ⟨_, rfl⟩
                      have hgd : (ch :: tl).getD cb 0 = bb := by rw [List.getD_eq_getElem?_getD, List.getElem?_eq_getElem hclt, hbb]; rfl
                      rw [hgd] at hst1
                      have hix : ∀ h, (⟨(ch :: tl).toArray⟩ : ByteArray)[cb]'h = bb := fun h => hbb
                      by_cases c2 : bb = 58
                      · subst c2
                        rw [if_neg (by simp [c0, c1])] at hst1
                        by_cases c3 : acc.length = 4096
                        · rw [if_pos c3] at hst1
                          have HST := Lib.hid hst1
                          have hc3 : ((acc.length : Int) == 4096) = true := beq_iff_eq.2 (by omega)
                          clear hst1
                          go_wp2_with (first | (go_at_call 48; refine HX.out.mono ?_; rintro e w2 ⟨rfl, hw2⟩; have hcv := Lib.run_convert_bytes_const w2 24 5 #[.int .u8 13, .int .u8 10] 2 2 Tryd.underlying24 Tryd.underlying5; have HW2 := Lib.hid hw2; clear hw2) | (go_at_call 49; refine (HX9.out w2 HW2.out).mono ?_; rintro e w3 ⟨rfl, rfl⟩; have hIn3 := (HI.out.under HW2.out).under (lit_below w2); have q := row_at b off (c - i) i rl s (lit w2) (HA.out.below hIn3.bel) (by omega) hs; rw [HROW.out] at q; have HI3 := Lib.hid hIn3; clear hcv hIn3) | (go_at_call 34; refine (field_blank.calls _ _ _ HBL.out).mono ?_; rintro e w5 ⟨rfl, ⟨⟨nd, rfl⟩⟩⟩; have HI5 := Lib.hid (HI3.out.under (pw_below_drewN (Below.refl _ _) nd))) | (go_at_call 50; refine (HBD.out _ HI5.out.bel).mono ?_; rintro e w6 ⟨rfl, hw6⟩; have HI6 := Lib.hid (HI5.out.under hw6); clear hw6) | (go_at_call 47; refine (fail_calls _ _ _).mono ?_; rintro e w4 ⟨rfl, hw4⟩; have HI4 := Lib.hid (HI6.out.under hw4); obtain ⟨z0, z1, z2, z3⟩ := HI4.out.spot; clear hw4))
                          have HF := Lib.hid (HI4.out.put 160 ((i : Int)))
                          refine bodyPost_ret (results_list (rs := [.tmp 2, .tmp 3, .cell 4 39]) rfl (by simp) (.tmp (.tmp (.cell w.heap.size 39 #[.int .i64 160, .int .i64 ((i : Int))] (0, 0) _ rfl HF.out.1 Tryd.underlying39 rfl (by kernel_rfl) .nil)))) rfl ?_
                          exact ⟨_, _, _, _, _, goFail HG.out (by exact HST.out), by simp, own_nil _ _ _ _, HF.out.2.1⟩
                        · rw [if_neg c3] at hst1
                          have HST := Lib.hid hst1
                          have hc3 : ((acc.length : Int) == 4096) = false := beq_eq_false_iff_ne.2 (fun e => c3 (Int.ofNat_inj.1 e))
                          clear hst1
                          go_wp2_with (first | (go_at_call 48; refine HX.out.mono ?_; rintro e w2 ⟨rfl, hw2⟩; have hcv := Lib.run_convert_bytes_const w2 24 5 #[.int .u8 13, .int .u8 10] 2 2 Tryd.underlying24 Tryd.underlying5; have HW2 := Lib.hid hw2; clear hw2) | (go_at_call 49; refine (HX9.out w2 HW2.out).mono ?_; rintro e w3 ⟨rfl, rfl⟩; have hIn3 := (HI.out.under HW2.out).under (lit_below w2); have q := row_at b off (c - i) i rl s (lit w2) (HA.out.below hIn3.bel) (by omega) hs; rw [HROW.out] at q; have HI3 := Lib.hid hIn3; clear hcv hIn3) | (go_at_call 34; refine (field_blank.calls _ _ _ HBL.out).mono ?_; rintro e w5 ⟨rfl, ⟨⟨nd, rfl⟩⟩⟩; have HI5 := Lib.hid (HI3.out.under (pw_below_drewN (Below.refl _ _) nd))) | (go_at_call 50; refine (HBD.out _ HI5.out.bel).mono ?_; rintro e w6 ⟨rfl, hw6⟩; have HI6 := Lib.hid (HI5.out.under hw6); clear hw6))
                          obtain ⟨hle1, hw1, hle2, hle3, ht1⟩ := cb_facts cb rl (Nat.lt_of_le_of_ne (hrlen ▸ hcle) c1) (Nat.le_of_not_lt cB)
                          refine start_ (n := 12) (S := fun w' => True) (ds := []) #[false, false, false, false, false, false, false, false, false, false, false, false] (by kernel_rfl) rfl rfl trivial (fun hHeld => ?_); refine with_tabW tab27 bits27 (fun HT_ HW_ => ?_)
                          have HI6d := Lib.hid (HI6.out.under (pw_below_drewN (Below.refl _ _) 1))
                          rw [show w6.drewN 1 = w6.drew from rfl] at HI6d
                          generalize w6.drew = w58 at HI6d hHeld ⊢
                          refine pure_ (i := 0) (N := some 135) (v := ?_) (a' := ?_) #[true, false, false, false, false, false, false, false, false, false, false, false] rfl rfl (any_of HT_.out (by kernel_rfl)) (fun _ _ _ h => h) (Or.inl ⟨by rfl, ?_⟩) ?_ ?_
                          rotate_left
                          · intro w'
                            go_simp
                            with_reducible rfl
                          rotate_left
                          · simp only [Act.put, List.setIfInBounds_toArray, List.set_cons_zero, List.set_cons_succ, i64_w, i32_w]
                            rfl
                          refine pure_ (i := 1) (N := some 136) (v := ?_) (a' := ?_) #[true, true, false, false, false, false, false, false, false, false, false, false] rfl rfl (any_of HT_.out (by kernel_rfl)) (fun _ _ _ h => h) (Or.inl ⟨by rfl, ?_⟩) ?_ ?_
                          rotate_left
                          · intro w'
                            go_simp
                            with_reducible rfl
                          rotate_left
                          · simp only [Act.put, List.setIfInBounds_toArray, List.set_cons_zero, List.set_cons_succ, i64_w, i32_w]
                            rfl
                          refine pure_ (i := 2) (N := some 137) (v := ?_) (a' := ?_) #[true, true, true, false, false, false, false, false, false, false, false, false] rfl rfl (any_of HT_.out (by kernel_rfl)) (fun _ _ _ h => h) (Or.inl ⟨by rfl, ?_⟩) ?_ ?_
                          rotate_left
                          · intro w'
                            go_simp
                            with_reducible rfl
                          rotate_left
                          · simp only [Act.put, List.setIfInBounds_toArray, List.set_cons_zero, List.set_cons_succ, i64_w, i32_w]
                            rfl
                          refine pure_ (i := 3) (N := some 138) (v := ?_) (a' := ?_) #[true, true, true, true, false, false, false, false, false, false, false, false] rfl rfl (any_of HT_.out (by kernel_rfl)) (fun _ _ _ h => h) (Or.inl ⟨by rfl, ?_⟩) ?_ ?_
                          rotate_left
                          · intro w'
                            go_simp
                            with_reducible rfl
                          rotate_left
                          · simp only [Act.put, List.setIfInBounds_toArray, List.set_cons_zero, List.set_cons_succ, i64_w, i32_w]
                            rfl
                          refine pure_ (i := 4) (N := some 139) (v := ?_) (a' := ?_) #[true, true, true, true, true, false, false, false, false, false, false, false] rfl rfl (any_of HT_.out (by kernel_rfl)) (fun _ _ _ h => h) (Or.inl ⟨by rfl, ?_⟩) ?_ ?_
                          rotate_left
                          · intro w'
                            go_simp
                            with_reducible rfl
                          rotate_left
                          · simp only [Act.put, List.setIfInBounds_toArray, List.set_cons_zero, List.set_cons_succ, i64_w, i32_w]
                            rfl
                          refine pure_ (i := 5) (N := some 140) (v := ?_) (a' := ?_) #[true, true, true, true, true, true, false, false, false, false, false, false] rfl rfl (any_of HT_.out (by kernel_rfl)) (fun _ _ _ h => h) (Or.inl ⟨by rfl, ?_⟩) ?_ ?_
                          rotate_left
                          · intro w'
                            go_simp
                            with_reducible rfl
                          rotate_left
                          · simp only [Act.put, List.setIfInBounds_toArray, List.set_cons_zero, List.set_cons_succ, i64_w, i32_w]
                            rfl
                          refine pure_ (i := 6) (N := some 141) (v := ?_) (a' := ?_) #[true, true, true, true, true, true, true, false, false, false, false, false] rfl rfl (any_of HT_.out (by kernel_rfl)) (fun _ _ _ h => h) (Or.inl ⟨by rfl, ?_⟩) ?_ ?_
                          rotate_left
                          · intro w'
                            go_simp
                            with_reducible rfl
                          rotate_left
                          · simp only [Act.put, List.setIfInBounds_toArray, List.set_cons_zero, List.set_cons_succ, i64_w, i32_w]
                            rfl
                          refine pure_ (i := 7) (N := some 142) (v := ?_) (a' := ?_) #[true, true, true, true, true, true, true, true, false, false, false, false] rfl rfl (any_of HT_.out (by kernel_rfl)) (fun _ _ _ h => h) (Or.inl ⟨by rfl, ?_⟩) ?_ ?_
                          rotate_left
                          · intro w'
                            go_simp
                            with_reducible rfl
                          rotate_left
                          · simp only [Act.put, List.setIfInBounds_toArray, List.set_cons_zero, List.set_cons_succ, i64_w, i32_w]
                            rfl
                          refine pure_ (i := 8) (N := some 143) (v := ?_) (a' := ?_) #[true, true, true, true, true, true, true, true, true, false, false, false] rfl rfl (any_of HT_.out (by kernel_rfl)) (fun _ _ _ h => h) (Or.inl ⟨by rfl, ?_⟩) ?_ ?_
                          rotate_left
                          · intro w'
                            go_simp
                            with_reducible rfl
                          rotate_left
                          · simp only [Act.put, List.setIfInBounds_toArray, List.set_cons_zero, List.set_cons_succ, i64_w, i32_w]
                            rfl
                          refine one_ (i := 9) (N := some 144) #[true, true, true, true, true, true, true, true, true, true, false, false] rfl rfl (one_of HT_.out (by kernel_rfl)) (by decide) (fun K hK => ?_)
                          refine value_ (w1 := ?_) (v := ?_) (by rfl) rfl ?_ ?_
                          rotate_left 2
                          · go_simp
                            constructor
                            · rfl
                            · rfl
                          refine hK.out _ _ trivial (fun hHeld => ?_)
                          clear hK K
                          refine norm_ (a' := ?_) ?_ ?_
                          rotate_left
                          · show Act.put _ (some 144) _ = _
                            simp only [Act.put, List.setIfInBounds_toArray, List.set_cons_zero, List.set_cons_succ, i64_w, i32_w]
                            rfl
                          refine one_ (i := 10) (N := some 145) #[true, true, true, true, true, true, true, true, true, true, true, false] rfl rfl (one_of HT_.out (by kernel_rfl)) (by decide) (fun K hK => ?_)
                          refine step_append_cells (w0 := w58) (w.heap.size + 1) (by rfl) (.tmp 135) (.tmp 144) 22 30 (.agg #[(.string ⟨#[]⟩), (.string ⟨#[]⟩)]) 2 32 rfl Tryd.underlying22 info30 rfl (by decide) (by decide) (.slice Au acc.length cap) acc.length (cellsOf acc) [.string ((⟨(ch :: tl).toArray⟩ : ByteArray).extract 0 cb), .string ((⟨(ch :: tl).toArray⟩ : ByteArray).extract (cb + 1) rl)] rfl rfl rfl (one_two _ _) HI6d.out.own (Below.refl _ _) HI6d.out.size (app_room hal) ?_
                          intro v8 w8 ho hb hg hat
                          have HI8 := Lib.hid (HI6d.out.pushed ⟨(⟨(ch :: tl).toArray⟩ : ByteArray).extract 0 cb, (⟨(ch :: tl).toArray⟩ : ByteArray).extract (cb + 1) rl⟩ ho hg)
                          clear ho hb hg hat
                          refine hK.out _ _ trivial (fun hHeld => ?_)
                          clear hK K
                          refine norm_ (a' := ?_) ?_ ?_
                          rotate_left
                          · show Act.put _ (some 145) _ = _
                            simp only [Act.put, List.setIfInBounds_toArray, List.set_cons_zero, List.set_cons_succ, i64_w, i32_w]
                            rfl
                          refine pure_ (i := 11) (N := some 6) (v := ?_) (a' := ?_) #[true, true, true, true, true, true, true, true, true, true, true, true] rfl rfl (any_of HT_.out (by kernel_rfl)) (fun _ _ _ h => h) (Or.inl ⟨by rfl, ?_⟩) ?_ ?_
                          rotate_left
                          · intro w'
                            go_simp
                            with_reducible rfl
                          rotate_left
                          · simp only [Act.put, List.setIfInBounds_toArray, List.set_cons_zero, List.set_cons_succ, i64_w, i32_w]
                            rfl
                          refine done_ (done_of HT_.out (by kernel_rfl)) ?_
                          try go_wp2
                          have hEnd : i + rl + 2 ≤ s.size := crlf_end HCR.out hsl
                          have hmea : s.size - (i + rl + 2) < g := meas hi hig
                          go_roundg g
                          case measure => exact Nat.lt_succ_self g
                          case rel => exact ⟨i + rl + 2, _, by go_num, hEnd, hmea, by rw [List.length_append]; exact Nat.lt_of_le_of_ne hal c3, pushed_bound HAB.out ch tl cb rl i hrlen.symm (Nat.lt_of_le_of_ne (hrlen ▸ hcle) c1), HI8.out, by rw [ext_take, ext_drop _ _ _ hrlen.symm]; exact goNext HG.out HST.out⟩
                      · rw [if_pos (.inr (.inr c2))] at hst1
                        have HST := Lib.hid hst1
                        have hc2 : ((bb.toNat : Int) != 58) = true := bne_iff_ne.2 (fun e => c2 (UInt8.toNat_inj.1 (show bb.toNat = 58 by omega)))
                        clear hst1
                        go_wp2_with (first | (go_at_call 48; refine HX.out.mono ?_; rintro e w2 ⟨rfl, hw2⟩; have hcv := Lib.run_convert_bytes_const w2 24 5 #[.int .u8 13, .int .u8 10] 2 2 Tryd.underlying24 Tryd.underlying5; have HW2 := Lib.hid hw2; clear hw2) | (go_at_call 49; refine (HX9.out w2 HW2.out).mono ?_; rintro e w3 ⟨rfl, rfl⟩; have hIn3 := (HI.out.under HW2.out).under (lit_below w2); have q := row_at b off (c - i) i rl s (lit w2) (HA.out.below hIn3.bel) (by omega) hs; rw [HROW.out] at q; have HI3 := Lib.hid hIn3; clear hcv hIn3) | (go_at_call 34; refine (field_blank.calls _ _ _ HBL.out).mono ?_; rintro e w5 ⟨rfl, ⟨⟨nd, rfl⟩⟩⟩; have HI5 := Lib.hid (HI3.out.under (pw_below_drewN (Below.refl _ _) nd))) | (go_at_call 50; refine (HBD.out _ HI5.out.bel).mono ?_; rintro e w6 ⟨rfl, hw6⟩; have HI6 := Lib.hid (HI5.out.under hw6); clear hw6) | (go_at_call 47; refine (fail_calls _ _ _).mono ?_; rintro e w4 ⟨rfl, hw4⟩; have HI4 := Lib.hid (HI6.out.under hw4); obtain ⟨z0, z1, z2, z3⟩ := HI4.out.spot; clear hw4))
                        have HF := Lib.hid (HI4.out.put 160 ((i : Int) + cb))
                        refine bodyPost_ret (results_list (rs := [.tmp 2, .tmp 3, .cell 4 39]) rfl (by simp) (.tmp (.tmp (.cell w.heap.size 39 #[.int .i64 160, .int .i64 ((i : Int) + cb)] (0, 0) _ rfl HF.out.1 Tryd.underlying39 rfl (by kernel_rfl) .nil)))) rfl ?_
                        exact ⟨_, _, _, _, _, goFail HG.out (by exact HST.out), by simp, own_nil _ _ _ _, HF.out.2.1⟩
                · rw [hbl, if_pos rfl] at hst1
                  have HBL := Lib.hid (blank_yes hbl)
                  clear HST
                  by_cases hacc : acc = []
                  · subst hacc
                    obtain ⟨Au, cap, rfl⟩ := own_slice HI.out.own
                    rw [if_pos (.inl rfl)] at hst1
                    have HST := Lib.hid hst1
                    clear hst1
                    go_wp2_with (first | (go_at_call 48; refine HX.out.mono ?_; rintro e w2 ⟨rfl, hw2⟩; have hcv := Lib.run_convert_bytes_const w2 24 5 #[.int .u8 13, .int .u8 10] 2 2 Tryd.underlying24 Tryd.underlying5; have HW2 := Lib.hid hw2; clear hw2) | (go_at_call 49; refine (HX9.out w2 HW2.out).mono ?_; rintro e w3 ⟨rfl, rfl⟩; have hIn3 := (HI.out.under HW2.out).under (lit_below w2); have q := row_at b off (c - i) i rl s (lit w2) (HA.out.below hIn3.bel) (by omega) hs; rw [HROW.out] at q; have HI3 := Lib.hid hIn3; clear hcv hIn3) | (go_at_call 34; refine (field_blank.calls _ _ _ HBL.out).mono ?_; rintro e w5 ⟨rfl, ⟨⟨nd, rfl⟩⟩⟩; have HI5 := Lib.hid (HI3.out.under (pw_below_drewN (Below.refl _ _) nd))) | (go_at_call 47; refine (fail_calls _ _ _).mono ?_; rintro e w4 ⟨rfl, hw4⟩; have HI4 := Lib.hid (HI5.out.under hw4); obtain ⟨z0, z1, z2, z3⟩ := HI4.out.spot; clear hw4))
                    have HF := Lib.hid (HI4.out.put 161 ((i : Int)))
                    refine bodyPost_ret (results_list (rs := [.tmp 2, .tmp 3, .cell 4 39]) rfl (by simp) (.tmp (.tmp (.cell w.heap.size 39 #[.int .i64 161, .int .i64 ((i : Int))] (0, 0) _ rfl HF.out.1 Tryd.underlying39 rfl (by kernel_rfl) .nil)))) rfl ?_
                    exact ⟨_, _, _, _, _, goFail HG.out (by exact HST.out), by simp, own_nil _ _ _ _, HF.out.2.1⟩
                  · have hal0 : acc.length ≠ 0 := fun e => hacc (List.eq_nil_of_length_eq_zero e)
                    have hal1 : ((acc.length : Int) == 0) = false := beq_eq_false_iff_ne.2 (by omega)
                    obtain ⟨gb, cap, rfl, hgb0, hgb1⟩ := own_form HI.out.own (by omega)
                    have hlc := last_cell acc (by omega)
                    have HLC := Lib.hid hlc
                    clear hlc
                    cases hbb : blanksB (ch :: tl)
                    · have HBB := Lib.hid (show blanksB (⟨(ch :: tl).toArray⟩ : ByteArray).data.toList = false from hbb)
                      rw [if_neg (by rw [hbb]; simp [hacc])] at hst1
                      have HST := Lib.hid hst1
                      clear hst1
                      obtain ⟨nb, hnb⟩ : ∃ nb : ByteArray, nb = ⟨((rd_T30 acc ((acc.length - 1 : Nat) : Int)).f1.data.toList ++ [13, 10] ++ (ch :: tl)).toArray⟩ := ⟨_, rfl⟩
                      have hfl : ([(rd_T30 acc ((acc.length - 1 : Nat) : Int)).f1, ⟨#[13, 10]⟩, ⟨(ch :: tl).toArray⟩] : List ByteArray).flatMap bytesOf = bytesOf nb := by
                        rw [hnb]
                        simp [bytesOf]
                      have hbd := bump_bound HAB.out (by omega) (ch :: tl) (i + (tl.length + 1) + 2) (by simp only [List.length_cons]; omega) _ (List.mem_iff_getElem?.2 ⟨acc.length - 1, by unfold bump; rw [List.getElem?_set_self (by omega)]⟩)
                      rw [← hnb] at hbd
                      obtain ⟨kt, hkt⟩ := together_f [(rd_T30 acc ((acc.length - 1 : Nat) : Int)).f1, ⟨#[13, 10]⟩, ⟨(ch :: tl).toArray⟩] (by rw [hfl, bytes_len]; simp only at hbd; omega) (by simp)
                      rw [hfl] at hkt
                      have HKT := Lib.hid hkt
                      have HNB := Lib.hid hnb
                      clear hnb
                      have HEND := Lib.hid (show i + rl + 2 ≤ s.size by have := crlf_len HCR.out; rw [List.length_drop, hsl] at this; omega)
                      clear hfl hbd hkt
                      go_wp2_with (first | (go_at_call 48; refine HX.out.mono ?_; rintro e w2 ⟨rfl, hw2⟩; have hcv := Lib.run_convert_bytes_const w2 24 5 #[.int .u8 13, .int .u8 10] 2 2 Tryd.underlying24 Tryd.underlying5; have HW2 := Lib.hid hw2; clear hw2) | (go_at_call 49; refine (HX9.out w2 HW2.out).mono ?_; rintro e w3 ⟨rfl, rfl⟩; have hIn3 := (HI.out.under HW2.out).under (lit_below w2); have q := row_at b off (c - i) i rl s (lit w2) (HA.out.below hIn3.bel) (by omega) hs; rw [HROW.out] at q; have HI3 := Lib.hid hIn3; clear hcv hIn3) | (go_at_call 34; refine (field_blank.calls _ _ _ HBL.out).mono ?_; rintro e w5 ⟨rfl, ⟨⟨nd, rfl⟩⟩⟩; have HI5 := Lib.hid (HI3.out.under (pw_below_drewN (Below.refl _ _) nd))) | (go_at_call 33; refine (empty_calls ⟨(ch :: tl).toArray⟩ _ HSZ.out).mono ?_; rintro e w6 ⟨rfl, hw6⟩; rw [HBB.out]; have HI6 := Lib.hid (HI5.out.under hw6); obtain ⟨p0, p1⟩ := own_cell_at HI6.out.own _ _ HLC.out; clear hw6))
                      have hCT := field_together.calls kt (some ⟨w6.heap.size, 0, none⟩) 3 [(rd_T30 acc ((acc.length - 1 : Nat) : Int)).f1, ⟨#[13, 10]⟩, ⟨(ch :: tl).toArray⟩] _ _ (C_three w6 _ _ _) (Nat.le_refl 3) HKT.out
                      refine hCT.mono ?_
                      rintro e w7 ⟨v7, rfl, hR7, hb7⟩
                      obtain ⟨A7, c7, rfl, hc7, hC7⟩ := Kd.R_reads hR7
                      have q7 := Kd.C_string (c := c7) Tryd.underlying24 Tryd.underlying5 Tryd.underlying9 hC7
                      rw [str_bytes] at q7
                      have HI7 := Lib.hid ((HI6.out.under ((Below.refl _ _).alloc (Nat.le_refl _) _)).under hb7)
                      obtain ⟨p2, p3⟩ := own_cell_at HI7.out.own _ _ HLC.out
                      clear hR7 hb7 hC7 hCT
                      go_wp2
                      go_roundg g
                      case measure => omega
                      case rel => exact ⟨i + rl + 2, bump acc (ch :: tl), by go_num, HEND.out, by omega, by rw [bump_length]; exact hal, bump_bound HAB.out (by omega) (ch :: tl) _ (by simp only [List.length_cons]; omega), (by rw [HNB.out]; exact HI7.out.bumped (by omega) (ch :: tl)), goNext HG.out HST.out⟩
                    · have HBB := Lib.hid (show blanksB (⟨(ch :: tl).toArray⟩ : ByteArray).data.toList = true from hbb)
                      rw [if_pos (.inr hbb)] at hst1
                      have HST := Lib.hid hst1
                      clear hst1
                      go_wp2_with (first | (go_at_call 48; refine HX.out.mono ?_; rintro e w2 ⟨rfl, hw2⟩; have hcv := Lib.run_convert_bytes_const w2 24 5 #[.int .u8 13, .int .u8 10] 2 2 Tryd.underlying24 Tryd.underlying5; have HW2 := Lib.hid hw2; clear hw2) | (go_at_call 49; refine (HX9.out w2 HW2.out).mono ?_; rintro e w3 ⟨rfl, rfl⟩; have hIn3 := (HI.out.under HW2.out).under (lit_below w2); have q := row_at b off (c - i) i rl s (lit w2) (HA.out.below hIn3.bel) (by omega) hs; rw [HROW.out] at q; have HI3 := Lib.hid hIn3; clear hcv hIn3) | (go_at_call 34; refine (field_blank.calls _ _ _ HBL.out).mono ?_; rintro e w5 ⟨rfl, ⟨⟨nd, rfl⟩⟩⟩; have HI5 := Lib.hid (HI3.out.under (pw_below_drewN (Below.refl _ _) nd))) | (go_at_call 33; refine (empty_calls ⟨(ch :: tl).toArray⟩ _ HSZ.out).mono ?_; rintro e w6 ⟨rfl, hw6⟩; rw [HBB.out]; have HI6 := Lib.hid (HI5.out.under hw6); clear hw6) | (go_at_call 47; refine (fail_calls _ _ _).mono ?_; rintro e w4 ⟨rfl, hw4⟩; have HI4 := Lib.hid (HI6.out.under hw4); obtain ⟨z0, z1, z2, z3⟩ := HI4.out.spot; clear hw4))
                      have HF := Lib.hid (HI4.out.put 161 ((i : Int)))
                      refine bodyPost_ret (results_list (rs := [.tmp 2, .tmp 3, .cell 4 39]) rfl (by simp) (.tmp (.tmp (.cell w.heap.size 39 #[.int .i64 161, .int .i64 ((i : Int))] (0, 0) _ rfl HF.out.1 Tryd.underlying39 rfl (by kernel_rfl) .nil)))) rfl ?_
                      exact ⟨_, _, _, _, _, goFail HG.out (by exact HST.out), by simp, own_nil _ _ _ _, HF.out.2.1⟩
        · have hrl2 : rl = s.size - i := by omega
          rw [if_neg hr] at hx
          have HX := Lib.hid hx
          clear hx
          have hstE : rowStep s.data.toList i acc = if 998 < rl then .fail 160 (i + 998) else .fail 160 (i + rl) := by
            unfold rowStep
            rw [if_neg (by omega), HRL.out, if_neg (fun e => by omega)]
            have he : isCRLF (s.data.toList.drop (i + rl)) = false := by
              rw [List.drop_eq_nil_of_le (by omega)]
              rfl
            rw [he, if_pos (show (false : Bool) = false from rfl)]
          have hz : ((s.size : Int) - (i : Int) == 0) = false := beq_eq_false_iff_ne.2 (by omega)
          have hnp : (s.size : Int) - (i : Int) = (rl : Int) := by omega
          have HST := Lib.hid hstE
          have HNP := Lib.hid hnp
          clear hstE hnp
          by_cases cB : 998 < rl
          · have hgt : decide ((998 : Int) < (s.size : Int) - (i : Int)) = true := decide_eq_true (by omega)
            go_wp2_with (first | (go_at_call 48; refine HX.out.mono ?_; rintro e w2 ⟨rfl, hw2⟩; have hcv := Lib.run_convert_bytes_const w2 24 5 #[.int .u8 13, .int .u8 10] 2 2 Tryd.underlying24 Tryd.underlying5; have HW2 := Lib.hid hw2; clear hw2) | (go_at_call 49; refine (prefix_nil _ _ w2).mono ?_; rintro e w3 ⟨rfl, rfl⟩; have HI3 := Lib.hid ((HI.out.under HW2.out).under (lit_below w2)); obtain ⟨y0, y1, y2, y3⟩ := HI3.out.spot; clear hcv) | (go_at_call 47; refine (fail_calls _ _ _).mono ?_; rintro e w4 ⟨rfl, hw4⟩; have HI4 := Lib.hid (HI3.out.under hw4); obtain ⟨z0, z1, z2, z3⟩ := HI4.out.spot; clear hw4))
            all_goals (
              have HF := Lib.hid (HI4.out.put 160 ((i : Int) + 998))
              refine bodyPost_ret (results_list (rs := [.tmp 2, .tmp 3, .cell 4 39]) rfl (by simp) (.tmp (.tmp (.cell w.heap.size 39 #[.int .i64 160, .int .i64 ((i : Int) + 998)] (0, 0) _ rfl HF.out.1 Tryd.underlying39 rfl (by kernel_rfl) .nil)))) rfl ?_
              exact ⟨_, _, _, _, _, goFail HG.out (by rw [HST.out, if_pos cB]), by simp, own_nil _ _ _ _, HF.out.2.1⟩
              )
          · have hgt : decide ((998 : Int) < (s.size : Int) - (i : Int)) = false := decide_eq_false (by omega)
            go_wp2_with (first | (go_at_call 48; refine HX.out.mono ?_; rintro e w2 ⟨rfl, hw2⟩; have hcv := Lib.run_convert_bytes_const w2 24 5 #[.int .u8 13, .int .u8 10] 2 2 Tryd.underlying24 Tryd.underlying5; have HW2 := Lib.hid hw2; clear hw2) | (go_at_call 49; refine (prefix_nil _ _ w2).mono ?_; rintro e w3 ⟨rfl, rfl⟩; have HI3 := Lib.hid ((HI.out.under HW2.out).under (lit_below w2)); obtain ⟨y0, y1, y2, y3⟩ := HI3.out.spot; clear hcv) | (go_at_call 47; refine (fail_calls _ _ _).mono ?_; rintro e w4 ⟨rfl, hw4⟩; have HI4 := Lib.hid (HI3.out.under hw4); obtain ⟨z0, z1, z2, z3⟩ := HI4.out.spot; clear hw4))
            all_goals (
              have HF := Lib.hid (HI4.out.put 160 ((i : Int) + ((s.size : Int) - (i : Int))))
              refine bodyPost_ret (results_list (rs := [.tmp 2, .tmp 3, .cell 4 39]) rfl (by simp) (.tmp (.tmp (.cell w.heap.size 39 #[.int .i64 160, .int .i64 ((i : Int) + ((s.size : Int) - (i : Int)))] (0, 0) _ rfl HF.out.1 Tryd.underlying39 rfl (by kernel_rfl) .nil)))) rfl ?_
              exact ⟨_, _, _, _, _, goFail HG.out (by rw [HST.out, if_neg cB]), by rw [HNP.out]; simp, own_nil _ _ _ _, HF.out.2.1⟩
              )
      · obtain rfl : i = s.size := by omega
        have hiz : ¬ ((s.size : Int) < (s.size : Int)) := by omega
        obtain ⟨y0, y1, y2, y3⟩ := HI.out.spot
        go_wp2
        have HF := Lib.hid (HI.out.put 0 0)
        refine bodyPost_ret (results_list (rs := [.tmp 2, .tmp 3, .cell 4 39]) rfl (by simp) (.tmp (.tmp (.cell w.heap.size 39 #[.int .i64 0, .int .i64 0] (0, 0) _ rfl HF.out.1 Tryd.underlying39 rfl (by kernel_rfl) .nil)))) rfl ?_
        exact ⟨_, _, _, _, _, goDone HG.out (by unfold rowStep; rw [if_pos (by omega)]), by simp, HF.out.2.2, HF.out.2.1⟩

set_option maxHeartbeats 2000000 in
set_option maxRecDepth 100000 in
theorem parse_empty (A : Option Addr) (c : Nat) (w : World) :
    Calls Tryd.prog 22 #[.slice A 0 c] w fun e w' => e = .returned (.tuple #[.slice none 0 0, .int .i64 0, .agg #[.int .i64 0, .int .i64 0]]) ∧ Below w.heap.size w w' := by
  have hu39 := Tryd.underlying39
  go_enter Tryd.func22, Tryd.ntmps22
  go_wp2
  go_loop [6, 7] (fun v6 v7 => v6 = .slice none 0 0 ∧ v7 = .int .i64 0) (fun _ _ => 0)
  case atStart => exact ⟨rfl, rfl⟩
  case round =>
    obtain ⟨rfl, rfl⟩ := hrel
    go_wp2
    refine bodyPost_ret (results_list (rs := [.tmp 2, .tmp 3, .cell 4 39]) rfl (by simp) (.tmp (.tmp (.cell w.heap.size 39 #[.int .i64 0, .int .i64 0] (0, 0) _ rfl (World.alloc_heap_new w _) Tryd.underlying39 rfl (by kernel_rfl) .nil)))) rfl ?_
    exact ⟨rfl, (Below.refl _ _).alloc (Nat.le_refl _) _⟩
/-- field.Parse -/
theorem parse_calls (A : Option Addr) (c : Nat) (s : ByteArray) (m : Int) (w : World) (hr : Kd.C (Kd.int .u8) w A s.size (bytesOf s)) (hc : s.size ≤ c) (hs : s.size ≤ 1000000000) (hm : w.cell? ⟨0, 0, none⟩ = some (.int .i64 m)) (hT : Laid w) (hU : Lib.Utf8Tabs 1 2 w) :
    Calls Tryd.prog 22 #[.slice A s.size c] w fun e w' => ∃ v l i er sp, parseV s.data.toList = (l, i, er, sp) ∧ e = .returned (.tuple #[v, .int .i64 (i : Nat), .agg #[.int .i64 er, .int .i64 (sp : Nat)]]) ∧ w'.ownsRow w.heap.size 30 2 v l.length (cellsOf l) ∧ Below w.heap.size w w' := by
  by_cases h0 : 0 < s.size
  · obtain ⟨b, off, rfl, hA⟩ := at_of_C hr h0
    exact parse_walk b off c s m w hA h0 hc hs hm hT hU
  · have hz : s.size = 0 := by omega
    have hl : s.data.toList = [] := List.eq_nil_of_length_eq_zero (by rw [data_length]; exact hz)
    rw [hz, hl]
    refine (parse_empty A c w).mono ?_
    rintro e w' ⟨rfl, hb⟩
    exact ⟨_, [], 0, 0, 0, rfl, rfl, own_nil _ _ _ _, hb⟩
end Go.Proofs.YtammhcfifnffeaaDoor.ParseWalk
