/- The function spoilInts by contract, and the words that it wants. -/
import Derived.Test.YtammhcfifnffeaaDoorPFieldPrintsx0
import Derived.Lib.Hide
namespace Go.Proofs.YtammhcfifnffeaaDoor.Spoil
open Go.RowKit Go.Proofs.YtammhcfifnffeaaDoorW.PrintWords Go.Proofs.YtammhcfifnffeaaDoor.PFieldPrints
set_option linter.unusedVariables false
set_option linter.unusedSimpArgs false

/-- No block of cells changes its kind or its size. -/
structure Shaped (w w' : World) : Prop where
  mk :: (out : ∀ (k : Nat) (cur : Array Value) (e : TypeId) (fr : Nat × Nat), w.heap[k]? = some (.cells cur e fr) → ∃ cur', w'.heap[k]? = some (.cells cur' e fr) ∧ cur'.size = cur.size)
theorem Shaped.refl (w : World) : Shaped w w := ⟨fun _ cur _ _ h => ⟨cur, h, rfl⟩⟩
theorem Shaped.trans {w w1 w2 : World} (h : Shaped w w1) (k : Shaped w1 w2) : Shaped w w2 := ⟨fun i cur e fr hi => by
  obtain ⟨c1, h1, s1⟩ := h.out i cur e fr hi
  obtain ⟨c2, h2, s2⟩ := k.out i c1 e fr h1
  exact ⟨c2, h2, s2.trans s1⟩⟩
theorem Shaped.of_below {w w1 : World} (h : Below w.heap.size w w1) : Shaped w w1 := ⟨fun i cur e fr hi => ⟨cur, blk_below hi h, rfl⟩⟩
theorem Shaped.alloc {w w1 : World} (h : Shaped w w1) (o : Obj) : Shaped w (w1.alloc o) := h.trans (.of_below (below_alloc (Below.refl _ _) o))
theorem Shaped.drew {w w1 : World} (h : Shaped w w1) : Shaped w w1.drew := h.trans (.of_below (below_drew (Below.refl _ _)))
theorem Shaped.drewN {w w1 : World} (h : Shaped w w1) (n : Nat) : Shaped w (w1.drewN n) := h.trans (.of_below (pw_below_drewN (Below.refl _ _) n))
theorem Shaped.set {w w1 : World} (h : Shaped w w1) (p : Addr) (u : Value) : Shaped w (w1.setCell p u) := h.trans ⟨fun i cur e fr hi => by
  by_cases hp : i = p.block
  · subst hp
    refine ⟨if p.spot.isSome then cur else cur.setIfInBounds p.off u, ?_, by split <;> simp⟩
    simp [World.setCell, Array.getElem?_modify, hi]
  · exact ⟨cur, by rw [Below.heap_setCell w1 p u i hp]; exact hi, rfl⟩⟩
theorem Shaped.setRow {w : World} {g : Nat} {cur : Array Value} {e : TypeId} (hg : w.heap[g]? = some (.cells cur e (0, 0))) (c : Array Value) (hc : c.size = cur.size) : Shaped w (w.setRow g c) := ⟨fun i cur' e' fr hi => by
  by_cases hp : i = g
  · subst hp
    rw [hg] at hi
    injection hi with hi
    injection hi with h1 h2 h3
    subst h1 h2 h3
    exact ⟨c, setRow_heap w i _ c _ _ hg, hc⟩
  · exact ⟨cur', by rw [setRow_other w g i c hp]; exact hi, rfl⟩⟩
theorem Shaped.own {w w1 : World} (h : Shaped w w1) {b e s : Nat} {v : Value} {n : Nat} (ho : ∃ xs, w.ownsRow b e s v n xs) : ∃ xs, w1.ownsRow b e s v n xs := by
  obtain ⟨xs, hl, ho⟩ := ho
  rcases ho with ⟨rfl, rfl⟩ | ⟨g, cap, cur, rfl, hb, hg, h1, h2, h3, h4⟩
  · exact ⟨[], own_nil _ _ _ _⟩
  · obtain ⟨c', hg', hs⟩ := h.out g cur e (0, 0) hg
    refine ⟨c'.toList.take (n * s), ?_, .inr ⟨g, cap, c', rfl, hb, hg', h1, h2, hs.trans h3, rfl⟩⟩
    have : n * s ≤ cap * s := Nat.mul_le_mul_right _ h1
    rw [List.length_take, Array.length_toList, hs, h3]
    omega

section
variable {P : Program} (w : World)
theorem run_append_shaped (base : Nat) (t ty e : TypeId) (i : TypeInfo) (z : Value) (size bytes : Nat) (ht : P.underlying t = some (.slice e)) (hi : P.info? e = some i) (hz : i.zero = some z)
    (hsize : i.size = size) (hby : i.bytes = bytes) (v : Value) (n : Nat) (xs : List Value) (hown : w.ownsRow base e size v n xs)
    (a : Addr) (m c : Nat) (news : List Value) (hl : news.length = m * size) (hnews : ∀ j u, news[j]? = some u → w.cell? (a.add j) = some u) (h1 : ∀ u ∈ news, u.oneCell' = true)
    (h63 : n + m ≤ maxLen) (hbytes : (n + m) * bytes ≤ 140737488355328) (v' : Value) (w' : World) (hrun : (Builtin.append_ #[t, t] ty #[v, .slice (some a) m c]).run P w = .ok v' w') : Shaped w w' := by
  subst hsize
  subst hby
  have hsmall : n + m ≤ 9223372036854775807 := by simp only [maxLen] at h63; omega
  rcases hown.2 with ⟨rfl, rfl⟩ | ⟨g, cap, cur, rfl, hbg, hg, hnc, hcm, hcs, htake⟩
  · have hx : xs = [] := List.eq_nil_of_length_eq_zero (by simpa using hown.1)
    subst hx
    by_cases hm : m = 0
    · subst hm
      have hn : news = [] := List.eq_nil_of_length_eq_zero (by simpa using hl)
      subst hn
      have hr : (Builtin.append_ #[t, t] ty #[.slice none 0 0, .slice (some a) 0 c]).run P w = .ok (.slice none 0 0) w := by
        simp [Builtin.append_, run_underlying ht, sizeOf, typeInfo, hi, Builtin.lenOf, Builtin.firstCells, loadCells, loadCellsFrom]
      rw [hr] at hrun
      injection hrun with _ hw
      subst hw
      exact .refl _
    · have hr := run_append_nil (P := P) w t ty e i z ht hi hz a m c news hl hnews (by omega) (by omega) (by have hb := hbytes; simp only [Nat.zero_add] at hb; omega)
      rw [hr] at hrun
      injection hrun with _ hw
      subst hw
      exact ((Shaped.refl _).drew).alloc _
  · by_cases hroom : n + m ≤ cap
    · have hfit : n * i.size + news.length ≤ cur.size := by rw [hl, hcs, ← Nat.add_mul]; exact Nat.mul_le_mul_right _ hroom
      have hr := run_append_room (P := P) w t ty e i ht hi g n cap cur hg a m c news hl hnews h1 hroom hfit
      rw [hr] at hrun
      injection hrun with _ hw
      subst hw
      refine Shaped.setRow hg _ ?_
      simp only [List.size_toArray, List.length_append, List.length_take, List.length_drop, Array.length_toList]
      omega
    · have holds : ∀ j u, xs[j]? = some u → w.cell? ((⟨g, 0, none⟩ : Addr).add j) = some u := hown.cells (g := g) rfl
      have hr := run_append_grow (P := P) w t ty e i z ht hi hz ⟨g, 0, none⟩ n cap xs hown.1 holds a m c news hl hnews (by omega) (by omega) (growslice_fits (by omega) hbytes)
      rw [hr] at hrun
      injection hrun with _ hw
      subst hw
      exact ((Shaped.refl _).drew).alloc _

theorem wpList_append_shaped {ops : Array Oper} {rest : List Oper} {o : Oper} {a : Act} {Q : Exit → Act → World → Prop} (hgd : o.guard = none) (s x : Operand) (t : TypeId)
    (ho : o.op = .call { callee := .builtin .append, args := #[s, x], argTypes := #[t, t] })
    (base : Nat) (e : TypeId) (i : TypeInfo) (z : Value) (size bytes : Nat) (ht : P.underlying t = some (.slice e)) (hi : P.info? e = some i) (hz : i.zero = some z)
    (hsize : i.size = size) (hby : i.bytes = bytes) (hzs : z.cells.size = size) (hsz : 0 < size)
    (v : Value) (n : Nat) (hs : a.eval s = v) (hown : ∃ xs, w.ownsRow base e size v n xs)
    (ad : Addr) (m c : Nat) (news : List Value) (hx : a.eval x = .slice (some ad) m c) (hl : news.length = m * size) (hnews : ∀ j u, news[j]? = some u → w.cell? (ad.add j) = some u) (h1 : ∀ u ∈ news, u.oneCell' = true)
    (h63 : n + m ≤ maxLen) (hbytes : (n + m) * bytes ≤ 140737488355328) (hbase : base ≤ w.heap.size)
    (h : ∀ v' w', (∃ ys, w'.ownsRow base e size v' (n + m) ys) → w.grownBy w' v.ownBlock → Shaped w w' → (v'.ownBlock = v.ownBlock ∨ v'.ownBlock = some w.heap.size) → wpList P ops Q rest (a.put o.dst v') w') :
    wpList P ops Q (o :: rest) a w := by
  obtain ⟨xs, hown⟩ := hown
  refine wpList_plain hgd fun K hK => ?_
  obtain ⟨v', w', hr, h2, h3, h4, h5⟩ := run_append_own_at (P := P) w base t o.type e i z size bytes ht hi hz hsize hby hzs hsz v n xs hown ad m c news hl hnews h1 h63 hbytes hbase
  have hsh := run_append_shaped (P := P) w base t o.type e i z size bytes ht hi hz hsize hby v n xs hown ad m c news hl hnews h1 h63 hbytes v' w' hr
  unfold Oper.wp execOp
  simp only [ho, resolve, invoke, builtin, Sem.run_bind, Sem.run_pure, Result.andThen_ok, List.map_toArray, List.map_cons, List.map_nil, hs, hx, hr]
  exact hK _ _ (h v' w' ⟨_, h2⟩ h3 hsh h5)
end

/-- A cell of a row that is owned: what it holds, and that it may be written. -/
theorem own_cell_at {w : World} {b e s g n cap : Nat} (h : ∃ xs, w.ownsRow b e s (.slice (some ⟨g, 0, none⟩) n cap) n xs) (j : Nat) (hj : j < n * s) : ∃ u, w.cell? ⟨g, j, none⟩ = some u ∧ w.frozen? ⟨g, j, none⟩ = false := by
  obtain ⟨xs, hl, h⟩ := h
  rcases h with ⟨h, _⟩ | ⟨g', cap', cur, h, hb, hg, h1, h2, h3, h4⟩
  · cases h
  · cases h
    have hlt : j < cur.size := by
      have : n * s ≤ cap * s := Nat.mul_le_mul_right _ h1
      omega
    exact ⟨cur[j], by rw [blk_cell hg, Array.getElem?_eq_getElem hlt], blk_frozen hg j⟩
theorem own_form {w : World} {b e s n : Nat} {v : Value} (h : ∃ xs, w.ownsRow b e s v n xs) : v = .slice none 0 0 ∧ n = 0 ∨ ∃ g cap, v = .slice (some ⟨g, 0, none⟩) n cap ∧ b ≤ g ∧ g < w.heap.size ∧ n ≤ cap := by
  obtain ⟨xs, _, ⟨h, h'⟩ | ⟨g, cap, cur, h, hb, hg, h1, _⟩⟩ := h
  · exact .inl ⟨h, h'⟩
  · exact .inr ⟨g, cap, h, hb, blk_lt hg, h1⟩

/-- What a spoiling leaves: only the row's own block, and new ones, are others. -/
structure Spoilt (w w' : World) (v : Value) : Prop where
  mk :: (grown : w.grownBy w' v.ownBlock) (shaped : Shaped w w')
theorem grown_refl (w : World) (r : Option Nat) : w.grownBy w r := ⟨rfl, rfl, rfl, Nat.le_refl _, fun _ _ _ => rfl⟩
theorem Spoilt.refl (w : World) (v : Value) : Spoilt w w v := ⟨grown_refl _ _, .refl _⟩
theorem Spoilt.set {w w1 : World} {v : Value} (h : Spoilt w w1 v) (g j : Nat) (hg : v.ownBlock = some g ∨ w.heap.size ≤ g) (u : Value) : Spoilt w (w1.setCell ⟨g, j, none⟩ u) v := by
  refine ⟨⟨h.grown.os, h.grown.tape, h.grown.output, ?_, fun k hk hne => ?_⟩, h.shaped.set _ _⟩
  · have := h.grown.size
    simpa [World.setCell] using this
  · rw [Below.heap_setCell w1 ⟨g, j, none⟩ u k ?_]
    · exact h.grown.block k hk hne
    · rintro rfl
      rcases hg with hg | hg
      · exact hne hg.symm
      · omega
theorem Spoilt.grow {w w1 w2 : World} {v u : Value} (h : Spoilt w w1 v) (hg : w1.grownBy w2 u.ownBlock) (hs : Shaped w1 w2) (hu : u.ownBlock = v.ownBlock ∨ ∃ k, u.ownBlock = some k ∧ w.heap.size ≤ k) : Spoilt w w2 v := by
  refine ⟨⟨hg.os.trans h.grown.os, hg.tape.trans h.grown.tape, hg.output.trans h.grown.output, Nat.le_trans h.grown.size hg.size, fun k hk hne => ?_⟩, h.shaped.trans hs⟩
  rw [hg.block k (Nat.lt_of_lt_of_le hk h.grown.size) ?_, h.grown.block k hk hne]
  rcases hu with hu | ⟨k', hu, hk'⟩
  · rw [hu]; exact hne
  · rw [hu]
    intro he
    cases he
    omega
theorem Spoilt.below {w w1 w2 : World} {v : Value} (h : Spoilt w w1 v) (hb : Below w1.heap.size w1 w2) : Spoilt w w2 v :=
  ⟨⟨hb.os.trans h.grown.os, hb.tape.trans h.grown.tape, hb.output.trans h.grown.output, Nat.le_trans h.grown.size hb.size, fun k hk hne => (hb.block k (Nat.lt_of_lt_of_le hk h.grown.size)).trans (h.grown.block k hk hne)⟩, h.shaped.trans (.of_below hb)⟩
theorem add_lit0 (g j : Nat) : (⟨g, 0, none⟩ : Addr).add j = ⟨g, j, none⟩ := add_plain g j

