/- code.Reader.take by contract. -/
import Derived.Test.YtcnhnpkbklakoaaDoorReader
import Derived.RegionTactic
import Derived.Deep.CutBlock
import Derived.Deep.DeepCutAuto
import Derived.ChangeAlike
namespace Go.Proofs.YtcnhnpkbklakoaaDoor.Code
open Go.RowKit Go.Proofs.YtcnhnpkbklakoaaDoorW.PrintWords Go.Proofs.YtcnhnpkbklakoaaDoorW.PrintLast Go.Proofs.YtcnhnpkbklakoaaDoorW.PrintMore Go.Proofs.YtcnhnpkbklakoaaDoor.PWordEncodes
attribute [local go_sem] max2_int min2_int max_two min_two max_three min_three max_four min_four
set_option linter.unusedVariables false
set_option linter.unusedSimpArgs false
open Go.Proofs.YtcnhnpkbklakoaaDoor.CodeValue (code_value.f code_value.calls)
/-- what a letter says -/
def valV (n : Nat) : Int := if 65 ≤ n ∧ n ≤ 90 then n - 65 else if 97 ≤ n ∧ n ≤ 122 then n - 71 else if 48 ≤ n ∧ n ≤ 57 then n + 4 else if n = 43 then 62 else if n = 47 then 63 else if n = 61 then 64 else 65
theorem val_all : ∀ n : Fin 256, code_value.f 10 ((n.val : Nat) : Int) = some (valV n.val) := by decide +kernel
theorem value_calls (c : UInt8) (w : World) : Calls Tryd.prog 98 #[.int .u8 (c.toNat : Int)] w fun e w' => e = .returned (.int .u8 (valV c.toNat)) ∧ Drawn0 w w' :=
  code_value.calls 10 _ _ w (val_all ⟨c.toNat, c.toNat_lt⟩)
structure St where
  (q0 q1 q2 q3 : Int) (n : Nat) (over : Bool)
def b0 (q0 q1 : Int) : Int := bits .or .u8 (q0 * 4 % 256) (q1 / 16)
def b1 (q1 q2 : Int) : Int := bits .or .u8 (q1 * 16 % 256) (q2 / 4)
def b2 (q2 q3 : Int) : Int := bits .or .u8 (q2 * 64 % 256) q3
def grp (q0 q1 q2 q3 : Int) : List Int := if q2 = 64 then [b0 q0 q1] else if q3 = 64 then [b0 q0 q1, b1 q1 q2] else [b0 q0 q1, b1 q1 q2, b2 q2 q3]
def put1 (s : St) (v : Int) : St := if s.n = 0 then { s with q0 := v, n := 1 } else if s.n = 1 then { s with q1 := v, n := 2 } else { s with q2 := v, n := 3 }
def takeV (s : St) (d : List Int) (c : Nat) : St × List Int × Int :=
  if nextV s.q1 s.q2 s.n s.over (valV c) ≠ 0 then (s, d, nextV s.q1 s.q2 s.n s.over (valV c))
  else if s.n < 3 then (put1 s (valV c), d, 0)
  else ({ s with q3 := valV c, n := 0, over := valV c == 64 }, d ++ grp s.q0 s.q1 s.q2 (valV c), 0)
def rdS (w : World) (R : Nat) (s : St) : Prop := rd8 w R s.q0 s.q1 s.q2 s.q3 s.n s.over
theorem val_range (c : UInt8) : 0 ≤ valV c.toNat ∧ valV c.toNat ≤ 65 := by
  unfold valV
  repeat' split
  all_goals omega
theorem reads_blk {W : World} {B : Nat} {cs : Array Value} {t : TypeId} (h : W.heap[B]? = some (.cells cs t (0, 0))) (l : List Int) (hc : ∀ (j : Nat) x, l[j]? = some x → cs[j]? = some (.int .u8 x)) (hl : l.length ≤ 100) : ReadsInt W .u8 (some ⟨B, 0, none⟩) l.length l :=
  Kd.reads_of_C (enc := Value.int .u8) (d := (0 : Int)) (h1 := fun _ => rfl) (C_of_atI rfl (fun j x hx => by rw [Nat.zero_add, blk_cell h]; exact hc j x hx) (by omega))
theorem new_at {W : World} {o : Obj} {k : Nat} (h : W.heap.size = k) : (W.alloc o).heap[k]? = some o := h ▸ heap_alloc_new W o
theorem rd_old {W : World} {R : Nat} {q0 q1 q2 q3 : Int} {n : Nat} {ov : Bool} (h : rd8 W R q0 q1 q2 q3 n ov) (o : Obj) : rd8 (W.alloc o) R q0 q1 q2 q3 n ov := (heap_alloc_old W o (Array.getElem?_eq_some_iff.1 h).1).trans h
theorem below_al {w W : World} {o : Obj} (h : Below w.heap.size w W) : Below w.heap.size w (W.alloc o) := h.alloc h.size o
theorem below_st {w W : World} {p : Addr} {u : Value} (hp : w.heap.size ≤ p.block) (h : Below w.heap.size w W) : Below w.heap.size w (W.setCell p u) := h.setCell hp u
theorem rd_set {w : World} {R : Nat} {q0 q1 q2 q3 : Int} {over : Bool} (v : Int) (ov : Bool) (h : w.heap[R]? = some (.cells #[.bool true, .int .u8 q0, .int .u8 q1, .int .u8 q2, .int .u8 q3, .int .i64 3, .bool over, .int .i64 0] 105 (0, 0))) :
    rd8 ((((w.setCell ⟨R, 4, none⟩ (.int .u8 v)).setCell ⟨R, 5, none⟩ (.int .i64 4)).setCell ⟨R, 5, none⟩ (.int .i64 0)).setCell ⟨R, 6, none⟩ (.bool ov)) R q0 q1 q2 v 0 ov :=
  blk_put (blk_put (blk_put (blk_put h 4 (.int .u8 v) rfl) 5 (.int .i64 4) rfl) 5 (.int .i64 0) rfl) 6 (.bool ov) rfl
set_option maxHeartbeats 4000000 in
set_option maxRecDepth 100000 in
theorem take_calls (w0 : World) (R : Nat) (s : St) (d : List Int) (V : Value) (c : UInt8) (w : World) (hR : rdS w R s) (hn : s.n ≤ 3) (h1 : 0 ≤ s.q1 ∧ s.q1 < 256) (h2 : 0 ≤ s.q2 ∧ s.q2 < 256)
    (hO : w.ownsRow w0.heap.size 5 1 V d.length (nums .u8 d)) (hne : ∀ k, V.ownBlock = some k → k ≠ R) (hB : Below w0.heap.size w0 w) (hR0 : w0.heap.size ≤ R) (hd : d.length ≤ 100000000000) :
    Calls Tryd.prog 77 #[.pointer (some ⟨R, 0, none⟩), V, .int .u8 (c.toNat : Int)] w fun e w' => ∃ V' s' d' er, takeV s d c.toNat = (s', d', er) ∧ e = .returned (.tuple #[V', .int .i64 er]) ∧ w'.ownsRow w0.heap.size 5 1 V' d'.length (nums .u8 d') ∧ (∀ k, V'.ownBlock = some k → k ≠ R) ∧ rdS w' R s' ∧ Below w0.heap.size w0 w' := by
  obtain ⟨q0, q1, q2, q3, n, over⟩ := s
  simp only [rdS] at *
  have hV0 := value_calls c w
  have hvr := val_range c
  obtain ⟨v, hv⟩ : ∃ v, valV c.toNat = v := ⟨_, rfl⟩
  rw [hv] at hV0 hvr
  have HV := Lib.hid hV0
  have HVV := Lib.hid hv
  clear hV0 hv
  have HO := Lib.hid hO
  have HB := Lib.hid hB
  have HR := Lib.hid hR
  have HN := Lib.hid (fun nd => next_calls R q0 q1 q2 q3 n over v (w.drewN nd) (blk_drewN hR nd) hn h1 h2)
  clear hO hB hR
  go_enter Tryd.func77, Tryd.ntmps77
  go_wp2_with fail
  refine HV.out.mono ?_
  rintro e w1 ⟨rfl, ⟨⟨n1, rfl⟩⟩⟩
  go_wp2_with fail
  refine (HN.out n1).mono ?_
  rintro e w2 ⟨rfl, ⟨⟨n2, rfl⟩⟩⟩
  have hRn : w.heap[R]? = some (.cells #[.bool true, .int .u8 q0, .int .u8 q1, .int .u8 q2, .int .u8 q3, .int .i64 n, .bool over, .int .i64 0] 105 (0, 0)) := HR.out
  have HRN := Lib.hid hRn
  clear hRn
  by_cases he : nextV q1 q2 n over v = 0
  · have he1 : (nextV q1 q2 n over v != 0) = false := bne_eq_false_iff_eq.2 he
    have hRn := HRN.out
    have x0 := blk_cell hRn 0
    have x1 := blk_cell hRn 1
    have x2 := blk_cell hRn 2
    have x3 := blk_cell hRn 3
    have x4 := blk_cell hRn 4
    have x5 := blk_cell hRn 5
    have x6 := blk_cell hRn 6
    have f1 := blk_frozen hRn 1
    have f2 := blk_frozen hRn 2
    have f3 := blk_frozen hRn 3
    have f4 := blk_frozen hRn 4
    have f5 := blk_frozen hRn 5
    have f6 := blk_frozen hRn 6
    simp only [List.getElem?_toArray, List.getElem?_cons_succ, List.getElem?_cons_zero] at x0 x1 x2 x3 x4 x5 x6
    clear hRn
    obtain rfl | rfl | rfl | rfl : n = 0 ∨ n = 1 ∨ n = 2 ∨ n = 3 := by omega
    · go_wp2
      go_region
      go_wp2
      go_ret2
      exact ⟨V, _, d, _, by unfold takeV put1; rw [HVV.out, if_neg (fun e => e he)]; rfl, rfl, own_setCell (own_setCell (show (w.drewN _).ownsRow w0.heap.size 5 1 V d.length (nums .u8 d) from HO.out) (p := ⟨R, 1, none⟩) (fun e => hne R e.symm rfl) _) (p := ⟨R, 5, none⟩) (fun e => hne R e.symm rfl) _, hne, blk_put (blk_put (blk_drewN HRN.out _) 1 (.int .u8 v) rfl) 5 (.int .i64 1) rfl, ((pw_below_drewN HB.out _).setCell (p := ⟨R, 1, none⟩) hR0 _).setCell (p := ⟨R, 5, none⟩) hR0 _⟩
    · go_wp2
      go_region
      go_wp2
      go_ret2
      exact ⟨V, _, d, _, by unfold takeV put1; rw [HVV.out, if_neg (fun e => e he)]; rfl, rfl, own_setCell (own_setCell (show (w.drewN _).ownsRow w0.heap.size 5 1 V d.length (nums .u8 d) from HO.out) (p := ⟨R, 2, none⟩) (fun e => hne R e.symm rfl) _) (p := ⟨R, 5, none⟩) (fun e => hne R e.symm rfl) _, hne, blk_put (blk_put (blk_drewN HRN.out _) 2 (.int .u8 v) rfl) 5 (.int .i64 2) rfl, ((pw_below_drewN HB.out _).setCell (p := ⟨R, 2, none⟩) hR0 _).setCell (p := ⟨R, 5, none⟩) hR0 _⟩
    · go_wp2
      go_region
      go_wp2
      go_ret2
      exact ⟨V, _, d, _, by unfold takeV put1; rw [HVV.out, if_neg (fun e => e he)]; rfl, rfl, own_setCell (own_setCell (show (w.drewN _).ownsRow w0.heap.size 5 1 V d.length (nums .u8 d) from HO.out) (p := ⟨R, 3, none⟩) (fun e => hne R e.symm rfl) _) (p := ⟨R, 5, none⟩) (fun e => hne R e.symm rfl) _, hne, blk_put (blk_put (blk_drewN HRN.out _) 3 (.int .u8 v) rfl) 5 (.int .i64 3) rfl, ((pw_below_drewN HB.out _).setCell (p := ⟨R, 3, none⟩) hR0 _).setCell (p := ⟨R, 5, none⟩) hR0 _⟩
    · by_cases h64 : q2 = 64
      · subst h64
        have hRl : R < w.heap.size := (Array.getElem?_eq_some_iff.1 HRN.out).1
        go_wp2
        go_region
        go_upto_region 24 with fail
        go_wp2_with (at_builtin; refine print_append_row (w0 := w0) w0.heap.size rfl (.tmp 90) (.tmp 92) 39 5 .u8 1 rfl Tryd.underlying39 info5 (by decide) V d [b0 q0 q1] (some ⟨w.heap.size + 1, 0, none⟩) 1 3 rfl rfl ?ho ?hr ?hb ?hbase ?hl ?_)
        case ho => exact (((own_setCell (own_setCell (own_setCell (own_setCell (show (w.drewN _).ownsRow w0.heap.size 5 1 V d.length (nums .u8 d) from HO.out) (p := ⟨R, 4, none⟩) (fun e => hne R e.symm rfl) _) (p := ⟨R, 5, none⟩) (fun e => hne R e.symm rfl) _) (p := ⟨R, 5, none⟩) (fun e => hne R e.symm rfl) _) (p := ⟨R, 6, none⟩) (fun e => hne R e.symm rfl) _).alloc _).alloc _)
        case hr => exact reads_blk (new_at (by simp)) [b0 q0 q1] (fun j x hx => by match j with | 0 => cases hx; rfl | j + 1 => simp at hx) (by simp)
        case hb => exact (below_al (below_al (below_st hR0 (below_st hR0 (below_st hR0 (below_st hR0 (pw_below_drewN HB.out _)))))))
        case hbase => exact (below_al (below_al (below_st hR0 (below_st hR0 (below_st hR0 (below_st hR0 (pw_below_drewN HB.out _))))))).size
        case hl => omega
        intro v7 w7 ho7 hb7 hg7 hat7
        go_wp2
        go_ret2
        refine ⟨v7, ⟨q0, q1, 64, v, 0, (v == 64)⟩, d ++ [b0 q0 q1], 0, ?_, rfl, (by rw [List.length_append]; exact ho7), ?_, (show rd8 w7 R q0 q1 64 v 0 (v == 64) from (hg7.block R ?_ ?_).trans (rd_old (rd_old (rd_set v (v == 64) (blk_drewN HRN.out _)) _) _)), hb7⟩
        · unfold takeV; rw [HVV.out, if_neg (fun e => e he), if_neg (Nat.lt_irrefl 3)]; simp only [grp, if_true]; done
        · intro k hk
          rcases hat7 with h | ⟨b, h, hb⟩
          · rw [h] at hk; exact hne k hk
          · rw [h] at hk; cases hk; omega
        · first | exact fun e => hne R e.symm rfl | (simp; omega) | omega
        · first | exact fun e => hne R e.symm rfl | (simp; omega) | omega
      · have g64 : (q2 == 64) = false := beq_eq_false_iff_ne.2 h64
        by_cases g3 : v = 64
        · subst g3
          have hRl : R < w.heap.size := (Array.getElem?_eq_some_iff.1 HRN.out).1
          go_wp2
          go_region
          go_upto_region 24 with fail
          go_wp2_with (at_builtin; refine print_append_row (w0 := w0) w0.heap.size rfl (.tmp 90) (.tmp 92) 39 5 .u8 1 rfl Tryd.underlying39 info5 (by decide) V d [b0 q0 q1, b1 q1 q2] (some ⟨w.heap.size + 1, 0, none⟩) 2 3 rfl rfl ?ho ?hr ?hb ?hbase ?hl ?_)
          case ho => exact (((own_setCell (own_setCell (own_setCell (own_setCell (show (w.drewN _).ownsRow w0.heap.size 5 1 V d.length (nums .u8 d) from HO.out) (p := ⟨R, 4, none⟩) (fun e => hne R e.symm rfl) _) (p := ⟨R, 5, none⟩) (fun e => hne R e.symm rfl) _) (p := ⟨R, 5, none⟩) (fun e => hne R e.symm rfl) _) (p := ⟨R, 6, none⟩) (fun e => hne R e.symm rfl) _).alloc _).alloc _)
          case hr => exact reads_blk (new_at (by simp)) [b0 q0 q1, b1 q1 q2] (fun j x hx => by match j with | 0 => cases hx; rfl | 1 => cases hx; rfl | j + 2 => simp at hx) (by simp)
          case hb => exact (below_al (below_al (below_st hR0 (below_st hR0 (below_st hR0 (below_st hR0 (pw_below_drewN HB.out _)))))))
          case hbase => exact (below_al (below_al (below_st hR0 (below_st hR0 (below_st hR0 (below_st hR0 (pw_below_drewN HB.out _))))))).size
          case hl => omega
          intro v7 w7 ho7 hb7 hg7 hat7
          go_wp2
          go_ret2
          refine ⟨v7, ⟨q0, q1, q2, 64, 0, true⟩, d ++ [b0 q0 q1, b1 q1 q2], 0, ?_, rfl, (by rw [List.length_append]; exact ho7), ?_, (show rd8 w7 R q0 q1 q2 64 0 true from (hg7.block R ?_ ?_).trans (rd_old (rd_old (rd_set 64 true (blk_drewN HRN.out _)) _) _)), hb7⟩
          · unfold takeV; rw [HVV.out, if_neg (fun e => e he), if_neg (Nat.lt_irrefl 3)]; simp only [grp, if_neg h64, if_true]; rfl
          · intro k hk
            rcases hat7 with h | ⟨b, h, hb⟩
            · rw [h] at hk; exact hne k hk
            · rw [h] at hk; cases hk; omega
          · first | exact fun e => hne R e.symm rfl | (simp; omega) | omega
          · first | exact fun e => hne R e.symm rfl | (simp; omega) | omega
        · have g65 : (v == 64) = false := beq_eq_false_iff_ne.2 g3
          have hRl : R < w.heap.size := (Array.getElem?_eq_some_iff.1 HRN.out).1
          go_wp2
          go_region
          go_upto_region 24 with fail
          go_wp2_with (at_builtin; refine print_append_row (w0 := w0) w0.heap.size rfl (.tmp 90) (.tmp 92) 39 5 .u8 1 rfl Tryd.underlying39 info5 (by decide) V d [b0 q0 q1, b1 q1 q2, b2 q2 v] (some ⟨w.heap.size + 1, 0, none⟩) 3 3 rfl rfl ?ho ?hr ?hb ?hbase ?hl ?_)
          case ho => exact (((own_setCell (own_setCell (own_setCell (own_setCell (show (w.drewN _).ownsRow w0.heap.size 5 1 V d.length (nums .u8 d) from HO.out) (p := ⟨R, 4, none⟩) (fun e => hne R e.symm rfl) _) (p := ⟨R, 5, none⟩) (fun e => hne R e.symm rfl) _) (p := ⟨R, 5, none⟩) (fun e => hne R e.symm rfl) _) (p := ⟨R, 6, none⟩) (fun e => hne R e.symm rfl) _).alloc _).alloc _)
          case hr => exact reads_blk (new_at (by simp)) [b0 q0 q1, b1 q1 q2, b2 q2 v] (fun j x hx => by match j with | 0 => cases hx; rfl | 1 => cases hx; rfl | 2 => cases hx; rfl | j + 3 => simp at hx) (by simp)
          case hb => exact (below_al (below_al (below_st hR0 (below_st hR0 (below_st hR0 (below_st hR0 (pw_below_drewN HB.out _)))))))
          case hbase => exact (below_al (below_al (below_st hR0 (below_st hR0 (below_st hR0 (below_st hR0 (pw_below_drewN HB.out _))))))).size
          case hl => omega
          intro v7 w7 ho7 hb7 hg7 hat7
          go_wp2
          go_ret2
          refine ⟨v7, ⟨q0, q1, q2, v, 0, false⟩, d ++ [b0 q0 q1, b1 q1 q2, b2 q2 v], 0, ?_, rfl, (by rw [List.length_append]; exact ho7), ?_, (show rd8 w7 R q0 q1 q2 v 0 false from (hg7.block R ?_ ?_).trans (rd_old (rd_old (rd_set v false (blk_drewN HRN.out _)) _) _)), hb7⟩
          · unfold takeV; rw [HVV.out, if_neg (fun e => e he), if_neg (Nat.lt_irrefl 3)]; simp only [grp, if_neg h64, if_neg g3]; rw [g65]
          · intro k hk
            rcases hat7 with h | ⟨b, h, hb⟩
            · rw [h] at hk; exact hne k hk
            · rw [h] at hk; cases hk; omega
          · first | exact fun e => hne R e.symm rfl | (simp; omega) | omega
          · first | exact fun e => hne R e.symm rfl | (simp; omega) | omega
  · have he1 : (nextV q1 q2 n over v != 0) = true := bne_iff_ne.2 he
    go_wp2
    go_ret2
    exact ⟨V, _, d, _, by unfold takeV; rw [HVV.out, if_pos he], rfl, HO.out, hne, (show rd8 (w.drewN _) R q0 q1 q2 q3 n over from blk_drewN HRN.out _), pw_below_drewN HB.out _⟩
end Go.Proofs.YtcnhnpkbklakoaaDoor.Code
