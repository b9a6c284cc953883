/- posthornref17.Split by contract. (The steps of its region: printed by tools/split.py.) -/
import Derived.Test.YtcnhnpkbklakoaaDoorPartsPure
namespace Go.Proofs.YtcnhnpkbklakoaaDoor.Word
open Go.RowKit Go.Proofs.YtcnhnpkbklakoaaDoorW.PrintWords Go.Proofs.YtcnhnpkbklakoaaDoorW.PrintLast Go.Proofs.YtcnhnpkbklakoaaDoorW.PrintMore Go.Proofs.YtcnhnpkbklakoaaDoor.PWordEncodes
open Go.Proofs.YtcnhnpkbklakoaaDoor.Code Go.Proofs.YtcnhnpkbklakoaaDoor.Runes Go.Proofs.YtcnhnpkbklakoaaDoor.Pieces
attribute [local go_sem] max2_int min2_int max_two min_two max_three min_three max_four min_four
set_option linter.unusedVariables false
set_option linter.unusedSimpArgs false
/-- a word or a gap of a text -/
structure Pt where
  (pos : Nat) (text : ByteArray) (gap : Bool)
def cellsP (p : Pt) : List Value := [.int .i64 (p.pos : Int), .string p.text, .bool p.gap]
def splitStep (acc : List Pt) (i : Nat) (x : UInt8) : List Pt :=
  match acc.getLast? with
  | some p => if p.gap = blankB x then acc.dropLast ++ [⟨p.pos, p.text ++ ⟨#[x]⟩, p.gap⟩] else acc ++ [⟨i, ⟨#[x]⟩, blankB x⟩]
  | none => acc ++ [⟨i, ⟨#[x]⟩, blankB x⟩]
def splitGo (s : List UInt8) : Nat → List Pt → List Pt :=
  match s with
  | [] => fun _ acc => acc
  | x :: r => fun i acc => splitGo r (i + 1) (splitStep acc i x)
theorem splitGo_cons (x : UInt8) (r : List UInt8) (i : Nat) (acc : List Pt) : splitGo (x :: r) i acc = splitGo r (i + 1) (splitStep acc i x) := rfl
def splitV (s : ByteArray) : List Pt := splitGo s.data.toList 0 []
theorem step_empty (i : Nat) (x : UInt8) : splitStep [] i x = [⟨i, ⟨#[x]⟩, blankB x⟩] := rfl
theorem step_same (l : List Pt) (p : Pt) (i : Nat) (x : UInt8) (h : p.gap = blankB x) : splitStep (l ++ [p]) i x = l ++ [⟨p.pos, p.text ++ ⟨#[x]⟩, p.gap⟩] := by
  unfold splitStep
  simp [h]
theorem step_other (l : List Pt) (p : Pt) (i : Nat) (x : UInt8) (h : ¬ p.gap = blankB x) : splitStep (l ++ [p]) i x = (l ++ [p]) ++ [⟨i, ⟨#[x]⟩, blankB x⟩] := by
  unfold splitStep
  simp [h]
theorem info59 : (Tryd.prog.info? 59).map (fun i => (i.zero, i.size, i.bytes)) = some (some (.agg #[.int .i64 0, .string ⟨#[]⟩, .bool false]), 3, 32) := by kernel_rfl
theorem cells3_at (l : List Pt) (p : Pt) (q : Nat) (hq : q < 3) : ((l ++ [p]).flatMap cellsP)[l.length * 3 + q]? = (cellsP p)[q]? := by
  have hl : ∀ l : List Pt, (l.flatMap cellsP).length = l.length * 3 := by
    intro l
    induction l with
    | nil => rfl
    | cons y l ih => rw [List.flatMap_cons, List.length_append, ih]; simp [cellsP]; omega
  rw [List.flatMap_append, List.getElem?_append_right (by rw [hl]; omega), hl]
  rw [show l.length * 3 + q - l.length * 3 = q by omega]
  simp [List.flatMap_cons]
theorem cells3_len (l : List Pt) : (l.flatMap cellsP).length = l.length * 3 := by
  induction l with
  | nil => rfl
  | cons y l ih => rw [List.flatMap_cons, List.length_append, ih]; simp [cellsP]; omega
theorem cells3_set (l : List Pt) (p : Pt) (t : ByteArray) : ((l ++ [p]).flatMap cellsP).set (l.length * 3 + 1) (.string t) = (l ++ [(⟨p.pos, t, p.gap⟩ : Pt)]).flatMap cellsP := by
  rw [List.flatMap_append, List.flatMap_append, List.set_append_right _ _ (by rw [cells3_len]; omega), cells3_len]
  rw [show l.length * 3 + 1 - l.length * 3 = 1 by omega]
  rfl
theorem one_slice (s : ByteArray) (k : Nat) (h : k < s.size) (W : World) : (Instr.slice 9 (.string s) (some (.int .i64 (k : Int))) (some (.int .i64 ((k : Int) + 1))) none).run Tryd.prog W = .ok (.string ⟨#[s[k]'h]⟩) W := by
  have this := slice_str s k (k + 1) (by omega) (by omega) W
  have he : s.extract k (k + 1) = ⟨#[s[k]'h]⟩ := ba_ext (by
    rw [Lib.extract_data, Code.drop_at s k h, show k + 1 - k = 1 by omega]
    rfl)
  rw [he] at this
  exact this
theorem blank_three (x : UInt8) : (((x.toNat : Int) == 32) = true ∧ blankB x = true) ∨ (((x.toNat : Int) == 32) = false ∧ ((x.toNat : Int) == 9) = true ∧ blankB x = true) ∨ (((x.toNat : Int) == 32) = false ∧ ((x.toNat : Int) == 9) = false ∧ blankB x = false) := by
  by_cases h1 : x = 32
  · subst h1; left; decide
  · by_cases h2 : x = 9
    · subst h2; right; left; decide
    · right; right
      refine ⟨beq_eq_false_iff_ne.2 (fun e => h1 (UInt8.toNat_inj.1 (by rw [show (32 : UInt8).toNat = 32 from rfl]; omega))), beq_eq_false_iff_ne.2 (fun e => h2 (UInt8.toNat_inj.1 (by rw [show (9 : UInt8).toNat = 9 from rfl]; omega))), ?_⟩
      cases hb : blankB x
      · rfl
      · rcases (blank_iff x).1 hb with h | h
        · exact absurd h h1
        · exact absurd h h2
set_option maxHeartbeats 16000000 in
set_option maxRecDepth 100000 in
theorem split_calls (s : ByteArray) (w : World) (hs : s.size ≤ 1000000000) :
    Calls Tryd.prog 33 #[.string s] w fun e w' => ∃ V, e = .returned V ∧ w'.ownsRow w.heap.size 59 3 V (splitV s).length ((splitV s).flatMap cellsP) ∧ Below w.heap.size w w' := by
  have hu59 := Tryd.underlying59
  obtain ⟨R, hR⟩ : ∃ R, R = splitV s := ⟨_, rfl⟩
  rw [← hR]
  have HR := Lib.hid (show R = splitGo s.data.toList 0 [] from hR)
  clear hR
  go_enter Tryd.func33, Tryd.ntmps33
  go_wp2
  go_loopw [3, 4] (fun o v wr => ∃ (k : Nat) (acc : List Pt), k ≤ s.size ∧ v = .int .i64 k ∧ R = splitGo (s.data.toList.drop k) k acc ∧ wr.ownsRow w.heap.size 59 3 o acc.length (acc.flatMap cellsP) ∧ Below w.heap.size w wr ∧ acc.length ≤ k ∧ (∀ q ∈ acc, q.text.size ≤ k)) (fun _ v _ => s.size - (intOf v).toNat)
  case atStart => exact ⟨0, [], by omega, rfl, HR.out, own_nil _ _ _ _, Below.refl _ _, by simp, (fun q hq => by cases hq)⟩
  case round =>
    obtain ⟨k, acc, hk, rfl, hg, hO, hB, hlen, hts⟩ := hrel
    have HG := Lib.hid hg
    have HO := Lib.hid hO
    have HB := Lib.hid hB
    have HTS := Lib.hid hts
    have hz : w.heap.size ≤ wr.heap.size := hB.size
    clear hg hO hB hts
    by_cases hlt : k < s.size
    · obtain ⟨x, hx⟩ : ∃ x : UInt8, s[k]'hlt = x := ⟨_, rfl⟩
      have hgo := HG.out
      rw [Code.drop_at s k hlt, hx, splitGo_cons] at hgo
      have HGO := Lib.hid hgo
      have hsl := fun W => hx ▸ one_slice s k hlt W
      have hb3 := blank_three x
      have HX := Lib.hid hx
      clear hgo
      rcases List.eq_nil_or_concat acc with rfl | ⟨l, p, rfl⟩
      · obtain ⟨A0, cp0, rfl⟩ := own_slice HO.out
        rcases hb3 with ⟨q1, hgb⟩ | ⟨q1, q2, hgb⟩ | ⟨q1, q2, hgb⟩
        · go_wp2_with (at_builtin; refine print_append_cells (w0 := wr) w.heap.size rfl (.tmp 51) (.tmp 60) 56 59 (.agg #[.int .i64 0, .string ⟨#[]⟩, .bool false]) 3 32 rfl Tryd.underlying56 info59 rfl (by decide) (by decide) _ ([] : List Pt).length (([] : List Pt).flatMap cellsP) [.int .i64 (k : Int), .string ⟨#[x]⟩, .bool true] rfl rfl rfl ?h1 ?ho ?hb ?hbase ?hl ?_)
          case h1 => intro u hu; simp at hu; rcases hu with rfl | rfl | rfl <;> rfl
          case ho => exact HO.out
          case hb => exact Below.refl _ _
          case hbase => exact hz
          case hl => simp
          intro v7 w7 ho7 hb7 hg7 hat7
          have HO7 := Lib.hid ho7
          have HB7 := Lib.hid (HB.out.trans (hb7.mono (Nat.le_refl _)))
          clear ho7 hb7 hg7 hat7
          go_wp2
          go_roundw
          case rel => exact ⟨k + 1, [⟨k, ⟨#[x]⟩, true⟩], by omega, by go_num, by rw [HGO.out, step_empty, hgb], by simpa [cellsP] using HO7.out, HB7.out, by simp, (fun q hq => by simp at hq; subst hq; show 1 ≤ k + 1; omega)⟩
          case measure => simp [intOf]; omega
        · go_wp2_with (at_builtin; refine print_append_cells (w0 := wr) w.heap.size rfl (.tmp 51) (.tmp 60) 56 59 (.agg #[.int .i64 0, .string ⟨#[]⟩, .bool false]) 3 32 rfl Tryd.underlying56 info59 rfl (by decide) (by decide) _ ([] : List Pt).length (([] : List Pt).flatMap cellsP) [.int .i64 (k : Int), .string ⟨#[x]⟩, .bool true] rfl rfl rfl ?h1 ?ho ?hb ?hbase ?hl ?_)
          case h1 => intro u hu; simp at hu; rcases hu with rfl | rfl | rfl <;> rfl
          case ho => exact HO.out
          case hb => exact Below.refl _ _
          case hbase => exact hz
          case hl => simp
          intro v7 w7 ho7 hb7 hg7 hat7
          have HO7 := Lib.hid ho7
          have HB7 := Lib.hid (HB.out.trans (hb7.mono (Nat.le_refl _)))
          clear ho7 hb7 hg7 hat7
          go_wp2
          go_roundw
          case rel => exact ⟨k + 1, [⟨k, ⟨#[x]⟩, true⟩], by omega, by go_num, by rw [HGO.out, step_empty, hgb], by simpa [cellsP] using HO7.out, HB7.out, by simp, (fun q hq => by simp at hq; subst hq; show 1 ≤ k + 1; omega)⟩
          case measure => simp [intOf]; omega
        · go_wp2_with (at_builtin; refine print_append_cells (w0 := wr) w.heap.size rfl (.tmp 51) (.tmp 60) 56 59 (.agg #[.int .i64 0, .string ⟨#[]⟩, .bool false]) 3 32 rfl Tryd.underlying56 info59 rfl (by decide) (by decide) _ ([] : List Pt).length (([] : List Pt).flatMap cellsP) [.int .i64 (k : Int), .string ⟨#[x]⟩, .bool false] rfl rfl rfl ?h1 ?ho ?hb ?hbase ?hl ?_)
          case h1 => intro u hu; simp at hu; rcases hu with rfl | rfl | rfl <;> rfl
          case ho => exact HO.out
          case hb => exact Below.refl _ _
          case hbase => exact hz
          case hl => simp
          intro v7 w7 ho7 hb7 hg7 hat7
          have HO7 := Lib.hid ho7
          have HB7 := Lib.hid (HB.out.trans (hb7.mono (Nat.le_refl _)))
          clear ho7 hb7 hg7 hat7
          go_wp2
          go_roundw
          case rel => exact ⟨k + 1, [⟨k, ⟨#[x]⟩, false⟩], by omega, by go_num, by rw [HGO.out, step_empty, hgb], by simpa [cellsP] using HO7.out, HB7.out, by simp, (fun q hq => by simp at hq; subst hq; show 1 ≤ k + 1; omega)⟩
          case measure => simp [intOf]; omega
      · rw [List.concat_eq_append] at HGO HO HTS hlen
        rw [List.length_append, List.length_singleton] at HO hlen
        obtain ⟨j, hj⟩ : ∃ j, j = l.length := ⟨_, rfl⟩
        rw [← hj] at HO hlen
        obtain ⟨g, cap, rfl, _, hglt⟩ := HO.out.form (by omega)
        have hcp := own_cap HO.out
        have e1 := HO.out.cellAt (j * 3 + 1) (by omega)
        have e2 := HO.out.cellAt (j * 3 + 2) (by omega)
        rw [hj, cells3_at l p 1 (by omega), ← hj] at e1
        rw [hj, cells3_at l p 2 (by omega), ← hj] at e2
        have c1 : wr.cell? ⟨g, j * 3 + 1, none⟩ = some (.string p.text) := e1
        have c2 : wr.cell? ⟨g, j * 3 + 2, none⟩ = some (.bool p.gap) := e2
        have f1 := HO.out.frozenAt (j * 3 + 1)
        have hpt := HTS.out p (by simp)
        have HJ := Lib.hid hj
        clear e1 e2 hj
        by_cases hsame : p.gap = blankB x
        · have HGS := Lib.hid (show R = splitGo (s.data.toList.drop (k + 1)) (k + 1) (l ++ [⟨p.pos, p.text ++ ⟨#[x]⟩, p.gap⟩]) by rw [HGO.out, step_same l p k x hsame])
          have hgg : (p.gap == blankB x) = true := by rw [hsame]; cases blankB x <;> rfl
          have HST := Lib.hid (HO.out.stored (j * 3 + 1) (.string (p.text ++ ⟨#[x]⟩)))
          have u1 : (9223372036854775807 < p.text.size + 1) = False := eq_false (by omega)
          rcases hb3 with ⟨q1, hgb⟩ | ⟨q1, q2, hgb⟩ | ⟨q1, q2, hgb⟩
          all_goals
            rw [hgb] at hgg
            have q5 : wrap64 (j : Int) = (j : Int) := by unfold wrap64; omega
            have q6 : wrap64 ((k : Int) + 1) = (k : Int) + 1 := by unfold wrap64; omega
            have q7 : ((j : Int) < (j : Int) + 1) = True := eq_true (by omega)
            have q8 : (0 ≤ (j : Int)) = True := eq_true (by omega)
            go_wp2
            refine start_ (n := 15) (S := fun w' => w'.cell? ⟨g, j * 3 + 1, none⟩ = some (.string p.text)) (ds := [14]) #[false, false, false, false, false, false, false, false, false, false, false, false, false, false, false] (by kernel_rfl) rfl rfl (c1) (fun hHeld => ?_)
            refine pure_ (i := 0) (N := some 37) (v := ?_) (a' := ?_) #[true, false, false, false, false, false, false, false, false, false, false, false, false, false, false] rfl rfl (by kernel_rfl) (fun _ _ _ h => h) (Or.inl ⟨by rfl, ?_⟩) ?_ ?_
            rotate_left
            · intro w'
              go_simp
              with_reducible rfl
            rotate_left
            · simp only [Act.put, List.setIfInBounds_toArray, List.set_cons_zero, List.set_cons_succ, i64_w, i32_w]
              rfl
            refine pure_ (i := 1) (N := some 38) (v := ?_) (a' := ?_) #[true, true, false, false, false, false, false, false, false, false, false, false, false, false, false] rfl rfl (by kernel_rfl) (fun _ _ _ h => h) (Or.inl ⟨by rfl, ?_⟩) ?_ ?_
            rotate_left
            · intro w'
              go_simp
              with_reducible rfl
            rotate_left
            · simp only [Act.put, List.setIfInBounds_toArray, List.set_cons_zero, List.set_cons_succ, i64_w, i32_w]
              rfl
            refine pure_ (i := 2) (N := some 39) (v := ?_) (a' := ?_) #[true, true, true, false, false, false, false, false, false, false, false, false, false, false, false] rfl rfl (by kernel_rfl) (fun _ _ _ h => h) (Or.inl ⟨by rfl, ?_⟩) ?_ ?_
            rotate_left
            · intro w'
              go_simp
              with_reducible rfl
            rotate_left
            · simp only [Act.put, List.setIfInBounds_toArray, List.set_cons_zero, List.set_cons_succ, i64_w, i32_w]
              rfl
            refine pure_ (i := 3) (N := some 40) (v := ?_) (a' := ?_) #[true, true, true, true, false, false, false, false, false, false, false, false, false, false, false] rfl rfl (by kernel_rfl) (fun _ _ _ h => h) (Or.inl ⟨by rfl, ?_⟩) ?_ ?_
            rotate_left
            · intro w'
              go_simp
              with_reducible rfl
            rotate_left
            · simp only [Act.put, List.setIfInBounds_toArray, List.set_cons_zero, List.set_cons_succ, i64_w, i32_w]
              rfl
            refine pure_ (i := 4) (N := some 41) (v := ?_) (a' := ?_) #[true, true, true, true, true, false, false, false, false, false, false, false, false, false, false] rfl rfl (by kernel_rfl) (fun _ _ _ h => h) (Or.inl ⟨by rfl, ?_⟩) ?_ ?_
            rotate_left
            · intro w'
              go_simp
              with_reducible rfl
            rotate_left
            · simp only [Act.put, List.setIfInBounds_toArray, List.set_cons_zero, List.set_cons_succ, i64_w, i32_w]
              rfl
            refine pure_ (i := 6) (N := some 43) (v := ?_) (a' := ?_) #[true, true, true, true, true, false, true, false, false, false, false, false, false, false, false] rfl rfl (by kernel_rfl) (fun _ _ _ h => h) (Or.inl ⟨by rfl, ?_⟩) ?_ ?_
            rotate_left
            · intro w'
              go_simp
              with_reducible rfl
            rotate_left
            · simp only [Act.put, List.setIfInBounds_toArray, List.set_cons_zero, List.set_cons_succ, i64_w, i32_w]
              rfl
            refine pure_ (i := 7) (N := some 44) (v := ?_) (a' := ?_) #[true, true, true, true, true, false, true, true, false, false, false, false, false, false, false] rfl rfl (by kernel_rfl) (fun _ _ _ h => h) (Or.inl ⟨by rfl, ?_⟩) ?_ ?_
            rotate_left
            · intro w'
              go_simp
              with_reducible rfl
            rotate_left
            · simp only [Act.put, List.setIfInBounds_toArray, List.set_cons_zero, List.set_cons_succ, i64_w, i32_w]
              rfl
            refine pure_ (i := 8) (N := some 45) (v := ?_) (a' := ?_) #[true, true, true, true, true, false, true, true, true, false, false, false, false, false, false] rfl rfl (by kernel_rfl) (fun _ _ _ h => h) (Or.inl ⟨by rfl, ?_⟩) ?_ ?_
            rotate_left
            · intro w'
              go_simp
              with_reducible rfl
            rotate_left
            · simp only [Act.put, List.setIfInBounds_toArray, List.set_cons_zero, List.set_cons_succ, i64_w, i32_w]
              rfl
            refine pure_ (i := 9) (N := some 46) (v := ?_) (a' := ?_) #[true, true, true, true, true, false, true, true, true, true, false, false, false, false, false] rfl rfl (by kernel_rfl) (fun _ _ _ h => h) (Or.inl ⟨by rfl, ?_⟩) ?_ ?_
            rotate_left
            · intro w'
              go_simp
              with_reducible rfl
            rotate_left
            · simp only [Act.put, List.setIfInBounds_toArray, List.set_cons_zero, List.set_cons_succ, i64_w, i32_w]
              rfl
            refine pure_ (i := 10) (N := some 47) (v := ?_) (a' := ?_) #[true, true, true, true, true, false, true, true, true, true, true, false, false, false, false] rfl rfl (by kernel_rfl) (fun _ _ _ h => h) (Or.inl ⟨by rfl, ?_⟩) ?_ ?_
            rotate_left
            · intro w'
              go_simp
              with_reducible rfl
            rotate_left
            · simp only [Act.put, List.setIfInBounds_toArray, List.set_cons_zero, List.set_cons_succ, i64_w, i32_w]
              rfl
            refine take_ (i := 5) (N := some 42) (v := ?_) (a' := ?_) #[true, true, true, true, true, true, true, true, true, true, true, false, false, false, false] rfl rfl (by kernel_rfl) (fun _ _ _ h => h) (Or.inl ⟨by rfl, ?_⟩) hHeld ?_ ?_
            rotate_left
            · intro w' s0
              go_simp
              with_reducible rfl
            rotate_left
            · simp only [Act.put, List.setIfInBounds_toArray, List.set_cons_zero, List.set_cons_succ, i64_w, i32_w]
              rfl
            refine pure_ (i := 11) (N := some 48) (v := ?_) (a' := ?_) #[true, true, true, true, true, true, true, true, true, true, true, true, false, false, false] rfl rfl (by kernel_rfl) (fun _ _ _ h => h) (Or.inl ⟨by rfl, ?_⟩) ?_ ?_
            rotate_left
            · intro w'
              go_simp
              with_reducible rfl
            rotate_left
            · simp only [Act.put, List.setIfInBounds_toArray, List.set_cons_zero, List.set_cons_succ, i64_w, i32_w]
              rfl
            refine pure_ (i := 12) (N := some 49) (v := ?_) (a' := ?_) #[true, true, true, true, true, true, true, true, true, true, true, true, true, false, false] rfl rfl (by kernel_rfl) (fun _ _ _ h => h) (Or.inl ⟨by rfl, ?_⟩) ?_ ?_
            rotate_left
            · intro w'
              go_simp
              with_reducible rfl
            rotate_left
            · simp only [Act.put, List.setIfInBounds_toArray, List.set_cons_zero, List.set_cons_succ, i64_w, i32_w]
              rfl
            refine pure_ (i := 13) (N := some 50) (v := ?_) (a' := ?_) #[true, true, true, true, true, true, true, true, true, true, true, true, true, true, false] rfl rfl (by kernel_rfl) (fun _ _ _ h => h) (Or.inl ⟨by rfl, ?_⟩) ?_ ?_
            rotate_left
            · intro w'
              go_simp
              with_reducible rfl
            rotate_left
            · simp only [Act.put, List.setIfInBounds_toArray, List.set_cons_zero, List.set_cons_succ, i64_w, i32_w]
              rfl
            refine last_ (i := 14) (N := none) #[true, true, true, true, true, true, true, true, true, true, true, true, true, true, true] rfl rfl (by kernel_rfl) (by decide) (fun K hK => ?_)
            refine skip_ (w1 := ?_) (by rfl) rfl ?_ ?_
            rotate_left
            · go_simp
              rfl
            refine hK.out _ _ ?_
            clear hK K
            refine done_ (by kernel_rfl) ?_
            clear q5 q6 q7 q8
            go_wp2
            go_roundw
            case rel =>
              refine ⟨k + 1, l ++ [⟨p.pos, p.text ++ ⟨#[x]⟩, p.gap⟩], by omega, by go_num, HGS.out, ?_, ?_, by have := HJ.out; rw [List.length_append]; simp; omega, ?_⟩
              · have h := HST.out.1
                rw [HJ.out, cells3_set, ← HJ.out] at h
                rw [List.length_append, List.length_singleton, ← HJ.out]
                exact h
              · exact (HB.out.setCell (p := ⟨g, j * 3 + 1, none⟩) (own_base HO.out g rfl) _).drew
              · intro q hq
                rcases List.mem_append.1 hq with hq | hq
                · have := HTS.out q (by simp [hq]); omega
                · simp at hq; subst hq; simp only [ByteArray.size_append]; have : (⟨#[x]⟩ : ByteArray).size = 1 := rfl; omega
            case measure => simp [intOf]; omega
        · have HGS := Lib.hid (show R = splitGo (s.data.toList.drop (k + 1)) (k + 1) ((l ++ [p]) ++ [⟨k, ⟨#[x]⟩, blankB x⟩]) by rw [HGO.out, step_other l p k x hsame])
          have hgg : (p.gap == blankB x) = false := by
            cases h : (p.gap == blankB x)
            · rfl
            · exact absurd (eq_of_beq h) hsame
          rcases hb3 with ⟨q1, hgb⟩ | ⟨q1, q2, hgb⟩ | ⟨q1, q2, hgb⟩
          · rw [hgb] at hgg
            go_wp2_with (at_builtin; refine print_append_cells (w0 := wr) w.heap.size rfl (.tmp 51) (.tmp 60) 56 59 (.agg #[.int .i64 0, .string ⟨#[]⟩, .bool false]) 3 32 rfl Tryd.underlying56 info59 rfl (by decide) (by decide) _ (j + 1) ((l ++ [p]).flatMap cellsP) [.int .i64 (k : Int), .string ⟨#[x]⟩, .bool true] rfl rfl rfl ?h1 ?ho ?hb ?hbase ?hl ?_)
            case h1 => intro u hu; simp at hu; rcases hu with rfl | rfl | rfl <;> rfl
            case ho => exact HO.out
            case hb => exact Below.refl _ _
            case hbase => exact hz
            case hl => omega
            intro v7 w7 ho7 hb7 hg7 hat7
            have HO7 := Lib.hid ho7
            have HB7 := Lib.hid (HB.out.trans (hb7.mono (Nat.le_refl _)))
            clear ho7 hb7 hg7 hat7
            go_wp2
            go_roundw
            case rel => exact ⟨k + 1, (l ++ [p]) ++ [⟨k, ⟨#[x]⟩, true⟩], by omega, by go_num, by rw [HGS.out, hgb], (by have h := HO7.out; rw [List.length_append, List.length_append, List.length_singleton, List.length_singleton, ← HJ.out]; simpa [List.flatMap_append, List.flatMap_cons, cellsP] using h), HB7.out, by have := HJ.out; rw [List.length_append, List.length_append]; simp; omega, (fun q hq => by
              rcases List.mem_append.1 hq with hq | hq
              · have := HTS.out q hq; omega
              · simp at hq; subst hq; show 1 ≤ k + 1; omega)⟩
            case measure => simp [intOf]; omega
          · rw [hgb] at hgg
            go_wp2_with (at_builtin; refine print_append_cells (w0 := wr) w.heap.size rfl (.tmp 51) (.tmp 60) 56 59 (.agg #[.int .i64 0, .string ⟨#[]⟩, .bool false]) 3 32 rfl Tryd.underlying56 info59 rfl (by decide) (by decide) _ (j + 1) ((l ++ [p]).flatMap cellsP) [.int .i64 (k : Int), .string ⟨#[x]⟩, .bool true] rfl rfl rfl ?h1 ?ho ?hb ?hbase ?hl ?_)
            case h1 => intro u hu; simp at hu; rcases hu with rfl | rfl | rfl <;> rfl
            case ho => exact HO.out
            case hb => exact Below.refl _ _
            case hbase => exact hz
            case hl => omega
            intro v7 w7 ho7 hb7 hg7 hat7
            have HO7 := Lib.hid ho7
            have HB7 := Lib.hid (HB.out.trans (hb7.mono (Nat.le_refl _)))
            clear ho7 hb7 hg7 hat7
            go_wp2
            go_roundw
            case rel => exact ⟨k + 1, (l ++ [p]) ++ [⟨k, ⟨#[x]⟩, true⟩], by omega, by go_num, by rw [HGS.out, hgb], (by have h := HO7.out; rw [List.length_append, List.length_append, List.length_singleton, List.length_singleton, ← HJ.out]; simpa [List.flatMap_append, List.flatMap_cons, cellsP] using h), HB7.out, by have := HJ.out; rw [List.length_append, List.length_append]; simp; omega, (fun q hq => by
              rcases List.mem_append.1 hq with hq | hq
              · have := HTS.out q hq; omega
              · simp at hq; subst hq; show 1 ≤ k + 1; omega)⟩
            case measure => simp [intOf]; omega
          · rw [hgb] at hgg
            go_wp2_with (at_builtin; refine print_append_cells (w0 := wr) w.heap.size rfl (.tmp 51) (.tmp 60) 56 59 (.agg #[.int .i64 0, .string ⟨#[]⟩, .bool false]) 3 32 rfl Tryd.underlying56 info59 rfl (by decide) (by decide) _ (j + 1) ((l ++ [p]).flatMap cellsP) [.int .i64 (k : Int), .string ⟨#[x]⟩, .bool false] rfl rfl rfl ?h1 ?ho ?hb ?hbase ?hl ?_)
            case h1 => intro u hu; simp at hu; rcases hu with rfl | rfl | rfl <;> rfl
            case ho => exact HO.out
            case hb => exact Below.refl _ _
            case hbase => exact hz
            case hl => omega
            intro v7 w7 ho7 hb7 hg7 hat7
            have HO7 := Lib.hid ho7
            have HB7 := Lib.hid (HB.out.trans (hb7.mono (Nat.le_refl _)))
            clear ho7 hb7 hg7 hat7
            go_wp2
            go_roundw
            case rel => exact ⟨k + 1, (l ++ [p]) ++ [⟨k, ⟨#[x]⟩, false⟩], by omega, by go_num, by rw [HGS.out, hgb], (by have h := HO7.out; rw [List.length_append, List.length_append, List.length_singleton, List.length_singleton, ← HJ.out]; simpa [List.flatMap_append, List.flatMap_cons, cellsP] using h), HB7.out, by have := HJ.out; rw [List.length_append, List.length_append]; simp; omega, (fun q hq => by
              rcases List.mem_append.1 hq with hq | hq
              · have := HTS.out q hq; omega
              · simp at hq; subst hq; show 1 ≤ k + 1; omega)⟩
            case measure => simp [intOf]; omega
    · obtain rfl : k = s.size := by omega
      have hfin : R = acc := by rw [HG.out, List.drop_eq_nil_of_le (by rw [data_length]; exact Nat.le_refl _)]; rfl
      subst hfin
      go_wp2
      refine bodyPost_ret (v := u3) (by simp [results, Tryd.results33, go_sem]) rfl ?_
      exact ⟨_, rfl, HO.out, HB.out⟩
end Go.Proofs.YtcnhnpkbklakoaaDoor.Word
