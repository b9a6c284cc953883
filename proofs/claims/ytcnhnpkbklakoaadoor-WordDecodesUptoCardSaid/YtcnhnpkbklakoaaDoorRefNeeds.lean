/- posthornref17.Is and Needs by contract; Needs is the program's. -/
import Derived.Test.YtcnhnpkbklakoaaDoorSplitW
import Derived.Test.YtcnhnpkbklakoaaDoorPartsEnd
namespace Go.Proofs.YtcnhnpkbklakoaaDoor.Word
open Go.RowKit Go.Proofs.YtcnhnpkbklakoaaDoorW.PrintWords Go.Proofs.YtcnhnpkbklakoaaDoorW.PrintLast Go.Proofs.YtcnhnpkbklakoaaDoorW.PrintMore Go.Proofs.YtcnhnpkbklakoaaDoor.PWordEncodes
open Go.Proofs.YtcnhnpkbklakoaaDoor.Code Go.Proofs.YtcnhnpkbklakoaaDoor.Runes Go.Proofs.YtcnhnpkbklakoaaDoor.Pieces
open Go.Proofs.YtcnhnpkbklakoaaDoor.PWordDecodes (posthornref17_Parts.calls)
attribute [local go_sem] max2_int min2_int max_two min_two max_three min_three max_four min_four
set_option linter.unusedVariables false
set_option linter.unusedSimpArgs false
/-! ### the parts of a text, run by run -/
def run (g : Bool) (l : List UInt8) : Prop := ∀ x ∈ l, blankB x = g
theorem go_more (g : Bool) : ∀ (l r : List UInt8) (i : Nat) (acc : List Pt) (p : Pt), run g l → p.gap = g → splitGo (l ++ r) i (acc ++ [p]) = splitGo r (i + l.length) (acc ++ [⟨p.pos, p.text ++ ⟨l.toArray⟩, g⟩])
  | [], r, i, acc, p, _, hg => by
    have hp : p = ⟨p.pos, p.text ++ ⟨#[]⟩, g⟩ := by
      cases p
      simp only at hg ⊢
      subst hg
      congr 1
      exact ba_ext (by rw [data_app]; simp)
    rw [← hp]
    rfl
  | x :: l, r, i, acc, p, hl, hg => by
    have hx := hl x (by simp)
    rw [List.cons_append, splitGo_cons, step_same acc p i x (by rw [hg, hx])]
    rw [go_more g l r (i + 1) acc ⟨p.pos, p.text ++ ⟨#[x]⟩, p.gap⟩ (fun y hy => hl y (by simp [hy])) hg]
    have e1 : p.text ++ ⟨#[x]⟩ ++ ⟨l.toArray⟩ = p.text ++ ⟨(x :: l).toArray⟩ := ba_ext (by simp [data_app])
    simp only [e1, List.length_cons]
    rw [show i + 1 + l.length = i + (l.length + 1) by omega]
/-- a run that begins where the last part is of the other kind -/
theorem go_run (g : Bool) (l r : List UInt8) (i : Nat) (acc : List Pt) (hl : run g l) (hne : l ≠ []) (ha : acc = [] ∨ ∃ a p, acc = a ++ [p] ∧ p.gap ≠ g) : splitGo (l ++ r) i acc = splitGo r (i + l.length) (acc ++ [⟨i, ⟨l.toArray⟩, g⟩]) := by
  cases l with
  | nil => exact absurd rfl hne
  | cons x l =>
    have hx := hl x (by simp)
    have hs : splitStep acc i x = acc ++ [⟨i, ⟨#[x]⟩, g⟩] := by
      rcases ha with rfl | ⟨a, p, rfl, hp⟩
      · rw [step_empty, hx]; rfl
      · rw [step_other a p i x (by rw [hx]; exact hp), hx]
    rw [List.cons_append, splitGo_cons, hs, go_more g l r (i + 1) acc ⟨i, ⟨#[x]⟩, g⟩ (fun y hy => hl y (by simp [hy])) rfl]
    have e1 : (⟨#[x]⟩ : ByteArray) ++ ⟨l.toArray⟩ = ⟨(x :: l).toArray⟩ := ba_ext (by simp [data_app])
    simp only [e1, List.length_cons]
    rw [show i + 1 + l.length = i + (l.length + 1) by omega]
/-- the parts from a place on that is no blank's end: gap and word, gap and word -/
def segs (s : ByteArray) : Nat → Nat → List Pt
  | 0, _ => []
  | d + 1, i => if i < s.size then (if i < wAt s i then [⟨i, s.extract i (wAt s i), true⟩] else []) ++ (if wAt s i < eAt s i then [⟨wAt s i, s.extract (wAt s i) (eAt s i), false⟩] else []) ++ segs s d (eAt s i) else []
theorem tw_split (p : UInt8 → Bool) : ∀ l : List UInt8, (∀ x ∈ l.takeWhile p, p x = true) ∧ (l.dropWhile p = [] ∨ ∃ c r, l.dropWhile p = c :: r ∧ p c = false)
  | [] => ⟨fun x hx => by simp at hx, Or.inl rfl⟩
  | x :: l => by
    obtain ⟨h1, h2⟩ := tw_split p l
    cases hx : p x
    · refine ⟨fun y hy => by simp [List.takeWhile_cons, hx] at hy, Or.inr ⟨x, l, by simp [List.dropWhile_cons, hx], hx⟩⟩
    · refine ⟨fun y hy => ?_, by simpa [List.dropWhile_cons, hx] using h2⟩
      rw [List.takeWhile_cons, if_pos hx] at hy
      rcases List.mem_cons.1 hy with rfl | hy
      · exact hx
      · exact h1 y hy
theorem drop_tw (p : UInt8 → Bool) (l : List UInt8) : l.drop (l.takeWhile p).length = l.dropWhile p := by
  induction l with
  | nil => rfl
  | cons x l ih =>
    cases hx : p x
    · simp [List.takeWhile_cons, List.dropWhile_cons, hx]
    · simp [List.takeWhile_cons, List.dropWhile_cons, hx, ih]
theorem take_tw (p : UInt8 → Bool) (l : List UInt8) : l.take (l.takeWhile p).length = l.takeWhile p := by
  induction l with
  | nil => rfl
  | cons x l ih =>
    cases hx : p x
    · simp [List.takeWhile_cons, hx]
    · simp [List.takeWhile_cons, hx, ih]
theorem place_run (s : ByteArray) (i : Nat) (b : Bool) (hi : i ≤ s.size) : s.data.toList.drop i = (s.extract i (rowV s i b)).data.toList ++ s.data.toList.drop (rowV s i b) ∧ run b (s.extract i (rowV s i b)).data.toList ∧ (s.extract i (rowV s i b)).data.toList.length = rowV s i b - i ∧ (s.data.toList.drop (rowV s i b) = [] ∨ ∃ c r, s.data.toList.drop (rowV s i b) = c :: r ∧ blankB c ≠ b) := by
  have hle := rowV_le s i b hi
  have hx : (s.extract i (rowV s i b)).data.toList = (s.data.toList.drop i).takeWhile fun x => blankB x == b := by
    rw [Lib.extract_data]
    unfold rowV
    rw [Nat.add_sub_cancel_left]
    exact take_tw _ _
  have hd : s.data.toList.drop (rowV s i b) = (s.data.toList.drop i).dropWhile fun x => blankB x == b := by
    unfold rowV
    rw [← List.drop_drop, drop_tw]
  obtain ⟨h1, h2⟩ := tw_split (fun x => blankB x == b) (s.data.toList.drop i)
  refine ⟨?_, ?_, ?_, ?_⟩
  · rw [hx, hd]; exact List.takeWhile_append_dropWhile.symm
  · intro y hy
    rw [hx] at hy
    exact eq_of_beq (h1 y hy)
  · rw [hx]; unfold rowV; omega
  · rw [hd]
    rcases h2 with h2 | ⟨c, r, h2, h3⟩
    · exact Or.inl h2
    · exact Or.inr ⟨c, r, h2, fun e => by rw [e] at h3; simp at h3⟩
theorem segs_go (s : ByteArray) : ∀ (d i : Nat) (acc : List Pt), s.size - i ≤ d → i ≤ s.size →
    (s.data.toList.drop i = [] ∨ acc = [] ∨ ∃ a p c r, acc = a ++ [p] ∧ p.gap = false ∧ s.data.toList.drop i = c :: r ∧ blankB c = true) → splitGo (s.data.toList.drop i) i acc = acc ++ segs s d i
  | 0, i, acc, hd, hi, _ => by
    rw [List.drop_eq_nil_of_le (by rw [data_length]; omega)]
    simp [splitGo, segs]
  | d + 1, i, acc, hd, hi, hB => by
    by_cases hlt : i < s.size
    · have hla := at_le s i hi
      have hmo := eAt_more s i hlt
      have hne : s.data.toList.drop i ≠ [] := by
        rw [Code.drop_at s i hlt]; simp
      obtain ⟨x1, x2, x3, x4⟩ := place_run s i true hi
      change s.data.toList.drop i = (s.extract i (wAt s i)).data.toList ++ s.data.toList.drop (wAt s i) at x1
      change run true (s.extract i (wAt s i)).data.toList at x2
      change (s.extract i (wAt s i)).data.toList.length = wAt s i - i at x3
      change s.data.toList.drop (wAt s i) = [] ∨ ∃ c r, s.data.toList.drop (wAt s i) = c :: r ∧ blankB c ≠ true at x4
      obtain ⟨y1, y2, y3, y4⟩ := place_run s (wAt s i) false (by omega)
      change s.data.toList.drop (wAt s i) = (s.extract (wAt s i) (eAt s i)).data.toList ++ s.data.toList.drop (eAt s i) at y1
      change run false (s.extract (wAt s i) (eAt s i)).data.toList at y2
      change (s.extract (wAt s i) (eAt s i)).data.toList.length = eAt s i - wAt s i at y3
      change s.data.toList.drop (eAt s i) = [] ∨ ∃ c r, s.data.toList.drop (eAt s i) = c :: r ∧ blankB c ≠ false at y4
      have hS : segs s (d + 1) i = (if i < wAt s i then [⟨i, s.extract i (wAt s i), true⟩] else []) ++ (if wAt s i < eAt s i then [⟨wAt s i, s.extract (wAt s i) (eAt s i), false⟩] else []) ++ segs s d (eAt s i) := by rw [segs, if_pos hlt]
      rw [hS]
      generalize hW : wAt s i = W at *
      generalize hE : eAt s i = E at *
      -- the gap
      have h1 : ∃ acc1, acc1 = acc ++ (if i < W then [⟨i, s.extract i W, true⟩] else []) ∧ splitGo (s.data.toList.drop i) i acc = splitGo (s.data.toList.drop W) W acc1 ∧ (acc1 = [] ∨ ∃ a p, acc1 = a ++ [p] ∧ p.gap ≠ false) := by
        by_cases hw : i < W
        · refine ⟨acc ++ [⟨i, s.extract i W, true⟩], by rw [if_pos hw], ?_, Or.inr ⟨acc, _, rfl, by simp⟩⟩
          have hxne : (s.extract i W).data.toList ≠ [] := by
            intro e
            rw [e] at x3
            simp at x3
            omega
          have ha : acc = [] ∨ ∃ a p, acc = a ++ [p] ∧ p.gap ≠ true := by
            rcases hB with h | h | ⟨a, p, c, r, h, hp, _⟩
            · exact absurd h hne
            · exact Or.inl h
            · exact Or.inr ⟨a, p, h, by rw [hp]; decide⟩
          conv => lhs; rw [x1]
          rw [go_run true _ _ i acc x2 hxne ha, x3, mk_self, show i + (W - i) = W by omega]
        · have hWi : W = i := by omega
          refine ⟨acc, by rw [if_neg hw, List.append_nil], by rw [hWi], ?_⟩
          rcases hB with h | h | ⟨a, p, c, r, h, hp, hc, hb⟩
          · exact absurd h hne
          · exact Or.inl h
          · exfalso
            rw [hWi] at x4
            rcases x4 with h' | ⟨c', r', h', hb'⟩
            · exact hne h'
            · rw [hc] at h'
              injection h' with h1 _
              subst h1
              exact hb' hb
      obtain ⟨acc1, hacc1, hgo1, ha1⟩ := h1
      rw [hgo1]
      by_cases he : W < E
      · have hyne : (s.extract W E).data.toList ≠ [] := by
          intro e
          rw [e] at y3
          simp at y3
          omega
        rw [if_pos he]
        conv => lhs; rw [y1]
        rw [go_run false _ _ W acc1 y2 hyne ha1, y3, mk_self, show W + (E - W) = E by omega]
        rw [segs_go s d E _ (by omega) (by omega) ?_, hacc1]
        · simp only [List.append_assoc]
        · rcases y4 with h | ⟨c, r, h, hb⟩
          · exact Or.inl h
          · exact Or.inr (Or.inr ⟨acc1, _, c, r, rfl, rfl, h, by cases hq : blankB c; exact absurd hq hb; rfl⟩)
      · have hEW : E = W := by omega
        have hnil : s.data.toList.drop W = [] := by
          rcases x4 with h | ⟨c, r, h, hb⟩
          · exact h
          · rw [hEW] at y4
            rcases y4 with h' | ⟨c', r', h', hb'⟩
            · exact h'
            · rw [h] at h'
              injection h' with h1 _
              subst h1
              cases hq : blankB c
              · exact absurd hq hb'
              · exact absurd hq hb
        rw [if_neg he, hEW, List.append_nil]
        rw [segs_go s d W acc1 (by omega) (by omega) (Or.inl hnil), hacc1]
        simp only [List.append_assoc]
    · rw [List.drop_eq_nil_of_le (by rw [data_length]; omega), segs, if_neg hlt]
      simp [splitGo]
theorem splitV_segs (s : ByteArray) : splitV s = segs s s.size 0 := by
  have := segs_go s s.size 0 [] (by omega) (by omega) (Or.inr (Or.inl rfl))
  rw [List.drop_zero, List.nil_append] at this
  exact this
def isP (p : Pt) : Bool := (cutV p.text).2.2.2 && !p.gap
theorem cut_nothing : (cutV ⟨#[]⟩).2.2.2 = false := by decide
theorem cut_blank (x : ByteArray) (h : run true x.data.toList) : (cutV x).2.2.2 = false := by
  cases hc : (cutV x).2.2.2
  · rfl
  · obtain ⟨b, c, d, hf⟩ := cut_form x hc
    have := h 61 (by rw [hf.eq]; simp)
    exact absurd this (by decide)
theorem needs_segs (s : ByteArray) : ∀ (d i : Nat), i ≤ s.size → needsGo s d i = (segs s d i).any isP
  | 0, i, _ => rfl
  | d + 1, i, hi => by
    rw [needsGo, segs]
    by_cases hlt : i < s.size
    · have hla := at_le s i hi
      rw [if_pos hlt, if_pos hlt]
      simp only [List.any_append]
      have h1 : (if i < wAt s i then [(⟨i, s.extract i (wAt s i), true⟩ : Pt)] else []).any isP = false := by
        split
        · simp [isP]
        · rfl
      rw [h1, Bool.false_or, ← needs_segs s d _ hla.2.2]
      by_cases he : wAt s i < eAt s i
      · rw [if_pos he]
        simp only [List.any_cons, List.any_nil, isP, Bool.not_false, Bool.and_true, Bool.or_false]
        cases hc : (cutV (s.extract (wAt s i) (eAt s i))).2.2.2 <;> simp
      · have hx : s.extract (wAt s i) (eAt s i) = ⟨#[]⟩ := ba_ext (by
          rw [Lib.extract_data, show eAt s i - wAt s i = 0 by omega]
          rfl)
        rw [if_neg he, hx, cut_nothing]
        simp
    · rw [if_neg hlt, if_neg hlt]; rfl
set_option maxHeartbeats 2000000 in
set_option maxRecDepth 100000 in
theorem is_calls (p : Pt) (hs : p.text.size ≤ 1000000000) (w : World) :
    Calls Tryd.prog 34 #[.agg #[.int .i64 (p.pos : Int), .string p.text, .bool p.gap]] w fun e w' => e = .returned (.bool (isP p)) ∧ Below w.heap.size w w' := by
  obtain ⟨pos, text, gap⟩ := p
  obtain ⟨⟨r1, r2, r3, r4⟩, hr, hok, _⟩ := parts_f text hs
  simp only at hok
  have HP := Lib.hid (fun W => posthornref17_Parts.calls _ text r1 r2 r3 r4 W hr)
  have hb : isP ⟨pos, text, gap⟩ = (r4 && !gap) := by unfold isP; rw [hok]
  rw [hb]
  have hB := (Below.refl w.heap.size w).alloc (Nat.le_refl _) (.cells #[.int .i64 (pos : Int), .string text, .bool gap] 59)
  have HB := Lib.hid hB
  have hsz : w.heap.size < (w.alloc (.cells #[.int .i64 (pos : Int), .string text, .bool gap] 59)).heap.size := by simp
  clear hr hok hB hb
  go_enter Tryd.func34, Tryd.ntmps34
  go_wp2_with fail
  refine (HP.out _).mono ?_
  rintro e w1 ⟨rfl, hb1⟩
  have hX := (hb1.block w.heap.size hsz).trans (heap_alloc_new w (.cells #[.int .i64 (pos : Int), .string text, .bool gap] 59))
  have x2 := blk_cell hX 2
  have HB1 := Lib.hid (HB.out.trans (hb1.mono HB.out.size))
  clear hX hb1
  simp only [List.getElem?_toArray, List.getElem?_cons_succ, List.getElem?_cons_zero] at x2
  cases r4
  · go_wp2
    go_ret
    exact ⟨rfl, HB1.out⟩
  · cases gap
    · go_wp2
      go_ret
      exact ⟨rfl, HB1.out⟩
    · go_wp2
      go_ret
      exact ⟨rfl, HB1.out⟩
theorem cells3_get : ∀ (l : List Pt) (k : Nat) (p : Pt), l[k]? = some p → ∀ q, q < 3 → (l.flatMap cellsP)[k * 3 + q]? = (cellsP p)[q]?
  | [], k, p, h => by simp at h
  | y :: l, 0, p, h => by
    simp only [List.getElem?_cons_zero, Option.some.injEq] at h
    subst h
    intro q hq
    rw [List.flatMap_cons, List.getElem?_append_left (by simp [cellsP]; omega), Nat.zero_mul, Nat.zero_add]
  | y :: l, k + 1, p, h => by
    rw [List.getElem?_cons_succ] at h
    intro q hq
    have := cells3_get l k p h q hq
    rw [List.flatMap_cons, List.getElem?_append_right (by simp [cellsP]; omega), ← this]
    congr 1
    simp [cellsP]
    omega
theorem segs_size (s : ByteArray) : ∀ (d i : Nat), ∀ p ∈ segs s d i, p.text.size ≤ s.size
  | 0, i, p, h => by cases h
  | d + 1, i, p, h => by
    rw [segs] at h
    split at h
    · rcases List.mem_append.1 h with h | h
      · rcases List.mem_append.1 h with h | h
        · split at h
          · simp at h; subst h; show (s.extract _ _).size ≤ _; rw [ByteArray.size_extract]; omega
          · cases h
        · split at h
          · simp at h; subst h; show (s.extract _ _).size ≤ _; rw [ByteArray.size_extract]; omega
          · cases h
      · exact segs_size s d _ p h
    · cases h
theorem isIn12_all : ∀ n : Fin 256, Octet.isIn 12 n.val = decide (n.val = 9 ∨ (32 ≤ n.val ∧ n.val ≤ 126)) := by decide +kernel
theorem isIn12 (x : UInt8) : Octet.isIn 12 x.toNat = decide (x.toNat = 9 ∨ (32 ≤ x.toNat ∧ x.toNat ≤ 126)) := isIn12_all ⟨x.toNat, x.toNat_lt⟩
theorem needs_bad (s : ByteArray) (k : Nat) (x : UInt8) (hx : s.data.toList[k]? = some x) (h : Octet.isIn 12 x.toNat = false) : needsV s = true := by
  unfold needsV
  rw [if_pos]
  have hl : s.data.toList.length = s.size := data_length s
  have h1 : Octet.badAt 12 s.data.toList ≠ s.data.toList.length := fun e => by
    have ha := (Octet.badAt_full 12 s.data.toList).1 e
    rw [List.all_eq_true] at ha
    have := ha x (List.mem_of_getElem? hx)
    rw [h] at this
    cases this
  have h2 := Octet.badAt_le 12 s.data.toList
  rw [hl] at h1 h2
  omega
theorem needs_good (s : ByteArray) (h : ∀ (j : Nat) b, s.data.toList[j]? = some b → Octet.isIn 12 b.toNat = true) : needsV s = (splitV s).any isP := by
  unfold needsV
  have hl : s.data.toList.length = s.size := data_length s
  rw [Octet.badAt_all h, hl, if_neg (Nat.lt_irrefl _), splitV_segs, needs_segs s s.size 0 (by omega)]
set_option maxHeartbeats 8000000 in
set_option maxRecDepth 100000 in
theorem splitStep_len (acc : List Pt) (i : Nat) (x : UInt8) : (splitStep acc i x).length ≤ acc.length + 1 := by
  unfold splitStep
  split
  · split
    · simp only [List.length_append, List.length_dropLast, List.length_singleton]; omega
    · simp
  · simp
theorem splitGo_len : ∀ (l : List UInt8) (i : Nat) (acc : List Pt), (splitGo l i acc).length ≤ acc.length + l.length
  | [], i, acc => by simp [splitGo]
  | x :: r, i, acc => by
    rw [splitGo_cons]
    have h1 := splitGo_len r (i + 1) (splitStep acc i x)
    have h2 := splitStep_len acc i x
    simp only [List.length_cons]
    omega
theorem splitV_len (s : ByteArray) : (splitV s).length ≤ s.size := by
  have h := splitGo_len s.data.toList 0 []
  rw [data_length] at h
  simpa [splitV] using h
theorem refneeds_calls (s : ByteArray) (w : World) (hs : s.size ≤ 1000000000) :
    Calls Tryd.prog 16 #[.string s] w fun e w' => e = .returned (.bool (needsV s)) ∧ Below w.heap.size w w' := by
  have hu59 := Tryd.underlying59
  obtain ⟨R, hR⟩ : ∃ R, R = needsV s := ⟨_, rfl⟩
  rw [← hR]
  have HR := Lib.hid hR
  have HSP := Lib.hid (split_calls s w hs)
  have hsz : ∀ p ∈ splitV s, p.text.size ≤ s.size := by rw [splitV_segs]; exact segs_size s s.size 0
  have hln := splitV_len s
  obtain ⟨L, hL⟩ : ∃ L, splitV s = L := ⟨_, rfl⟩
  rw [hL] at HSP hsz hln
  have HLN := Lib.hid hln
  have HL := Lib.hid hL
  have HSZ := Lib.hid hsz
  clear hR hL hsz hln
  go_enter Tryd.func16, Tryd.ntmps16
  go_wp2
  go_loop [3] (fun v => ∃ k : Nat, k ≤ s.size ∧ v = .int .i64 k ∧ ∀ (j : Nat) b, j < k → s.data.toList[j]? = some b → Octet.isIn 12 b.toNat = true) (fun v => s.size - (intOf v).toNat)
  case atStart => exact ⟨0, by omega, rfl, fun j b h => by omega⟩
  case round =>
    obtain ⟨k, hk, rfl, hall⟩ := hrel
    have HALL := Lib.hid hall
    clear hall
    by_cases hlt : k < s.size
    · obtain ⟨x, hx⟩ : ∃ x : UInt8, s[k]'hlt = x := ⟨_, rfl⟩
      have hxl : s.data.toList[k]? = some x := by rw [← hx]; exact Lib.data_getElem? s k hlt
      have HXL := Lib.hid hxl
      have hx256 := x.toNat_lt
      clear hxl
      cases hin : Octet.isIn 12 x.toNat
      · have hRt : R = true := by rw [HR.out]; exact needs_bad s k x HXL.out hin
        subst hRt
        rw [isIn12, decide_eq_false_iff_not] at hin
        have q1 : ((x.toNat : Int) != 9) = true := bne_iff_ne.2 (by omega)
        by_cases h32 : x.toNat < 32
        · have q2 : decide ((x.toNat : Int) < 32) = true := decide_eq_true (by omega)
          clear hin
          go_wp2
          go_ret
          exact ⟨rfl, Below.refl _ _⟩
        · have q2 : decide ((x.toNat : Int) < 32) = false := decide_eq_false (by omega)
          have q3 : decide ((126 : Int) < (x.toNat : Int)) = true := decide_eq_true (by omega)
          clear hin
          go_wp2
          go_ret
          exact ⟨rfl, Below.refl _ _⟩
      · have HNX : Hid (∀ (j : Nat) b, j < k + 1 → s.data.toList[j]? = some b → Octet.isIn 12 b.toNat = true) := Lib.hid (fun j b h hb => by
          rcases Nat.lt_or_ge j k with h' | h'
          · exact HALL.out j b h' hb
          · obtain rfl : j = k := by omega
            rw [HXL.out] at hb
            cases hb
            exact hin)
        rw [isIn12, decide_eq_true_eq] at hin
        by_cases h9 : x.toNat = 9
        · have q1 : ((x.toNat : Int) != 9) = false := bne_eq_false_iff_eq.2 (by omega)
          clear hin h9
          go_wp2
          go_round
          case rel => exact ⟨k + 1, by omega, by go_num, HNX.out⟩
          case measure => simp [intOf]; omega
        · have q1 : ((x.toNat : Int) != 9) = true := bne_iff_ne.2 (by omega)
          have q2 : decide ((x.toNat : Int) < 32) = false := decide_eq_false (by omega)
          have q3 : decide ((126 : Int) < (x.toNat : Int)) = false := decide_eq_false (by omega)
          clear hin h9
          go_wp2
          go_round
          case rel => exact ⟨k + 1, by omega, by go_num, HNX.out⟩
          case measure => simp [intOf]; omega
    · obtain rfl : k = s.size := by omega
      have HRA := Lib.hid (show R = L.any isP by
        rw [HR.out, ← HL.out]
        exact needs_good s (fun j b hb => HALL.out j b (by
          have := (List.getElem?_eq_some_iff.1 hb).1
          rw [data_length] at this
          exact this) hb))
      go_wp2_with fail
      refine HSP.out.mono ?_
      rintro e w1 ⟨V, rfl, ho, hb1⟩
      obtain ⟨A, cp, rfl⟩ := own_slice ho
      obtain ⟨n, hn⟩ : ∃ n, n = L.length := ⟨_, rfl⟩
      have hns : n ≤ s.size := by rw [hn]; exact HLN.out
      rw [← hn] at ho ⊢
      have HO := Lib.hid ho
      have HB1 := Lib.hid hb1
      have HN := Lib.hid hn
      have hz1 := hb1.size
      clear ho hb1 hn
      go_wp2
      go_loopw [31] (fun v wr => ∃ j : Nat, j ≤ n ∧ v = .int .i64 j ∧ R = (L.drop j).any isP ∧ Below w1.heap.size w1 wr) (fun v _ => n - (intOf v).toNat)
      case atStart => exact ⟨0, by omega, rfl, HRA.out, Below.refl _ _⟩
      case round =>
        obtain ⟨j, hj, rfl, hr, hB⟩ := hrel
        have HRR := Lib.hid hr
        have HB := Lib.hid hB
        have hzr := hB.size
        clear hr hB
        by_cases hjn : j < n
        · obtain ⟨p, hp⟩ : ∃ p, L[j]? = some p := ⟨_, List.getElem?_eq_getElem (by have := HN.out; omega)⟩
          have hps := HSZ.out p (List.mem_of_getElem? hp)
          obtain ⟨g, cap, heq, _, hglt⟩ := HO.out.form (by omega)
          cases heq
          have hc := cells3_get L j p hp
          have ca : ∀ q, q < 3 → wr.cell? ⟨g, j * 3 + q, none⟩ = (cellsP p)[q]? := fun q hq => by
            rw [← hc q hq, HB.out.cell (by exact hglt)]
            exact HO.out.cellAt (j * 3 + q) (by omega)
          have c0 := ca 0 (by omega)
          have c1 := ca 1 (by omega)
          have c2 := ca 2 (by omega)
          have hdrop : L.drop j = p :: L.drop (j + 1) := by
            obtain ⟨hj', rfl⟩ := List.getElem?_eq_some_iff.1 hp
            exact List.drop_eq_getElem_cons hj'
          have HRP := Lib.hid (show R = (isP p || (L.drop (j + 1)).any isP) by rw [HRR.out, hdrop, List.any_cons])
          have HIS := Lib.hid (fun W => is_calls p (by omega) W)
          obtain ⟨b, hb⟩ : ∃ b, b = isP p := ⟨_, rfl⟩
          rw [← hb] at HRP HIS
          obtain ⟨pos, text, gap⟩ := p
          simp only [cellsP, List.getElem?_cons_zero, List.getElem?_cons_succ, Nat.add_zero] at c0 c1 c2
          have HB2 := Lib.hid (HB.out.alloc hzr (.cells #[.int .i64 (pos : Int), .string text, .bool gap] 59))
          clear hp hc ca hdrop hb
          go_wp2_with fail
          refine (HIS.out _).mono ?_
          rintro e w3 ⟨rfl, hb3⟩
          have HB3 := Lib.hid (HB2.out.trans (hb3.mono HB2.out.size))
          clear hb3
          cases b
          · have HRN := Lib.hid (show R = (L.drop (j + 1)).any isP by rw [HRP.out, Bool.false_or])
            go_wp2
            go_roundw
            case rel => exact ⟨j + 1, by omega, by go_num, HRN.out, HB3.out⟩
            case measure => simp [intOf]; omega
          · have hRt : R = true := by rw [HRP.out, Bool.true_or]
            subst hRt
            go_wp2
            go_ret
            exact ⟨rfl, HB1.out.trans (HB3.out.mono hz1)⟩
        · obtain rfl : j = n := by omega
          have hRf : R = false := by rw [HRR.out, List.drop_eq_nil_of_le (by have := HN.out; omega)]; rfl
          subst hRf
          go_wp2
          go_ret
          exact ⟨rfl, HB1.out.trans (HB.out.mono hz1)⟩
end Go.Proofs.YtcnhnpkbklakoaaDoor.Word
