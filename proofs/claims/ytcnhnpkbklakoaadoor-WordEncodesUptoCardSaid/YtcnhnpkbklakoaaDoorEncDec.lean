/- posthornref05.Decode: its runes, or its error. -/
import Derived.Test.YtcnhnpkbklakoaaDoorBadPure
import Derived.Laws.AppendOwn
namespace Go.Proofs.YtcnhnpkbklakoaaDoor.Word
open Go.RowKit Go.Shelf Go.Proofs.YtcnhnpkbklakoaaDoorW.PrintWords Go.Proofs.YtcnhnpkbklakoaaDoorW.PrintLast Go.Proofs.YtcnhnpkbklakoaaDoorW.PrintMore Go.Proofs.YtcnhnpkbklakoaaDoor.PWordDecodes
open Go.Proofs.YtcnhnpkbklakoaaDoor.Code Go.Proofs.YtcnhnpkbklakoaaDoor.Runes Go.Proofs.YtcnhnpkbklakoaaDoor.Pieces
attribute [local go_sem] max2_int min2_int max_two min_two max_three min_three max_four min_four
set_option linter.unusedVariables false
set_option linter.unusedSimpArgs false
theorem good32 {r : Int} (h : Good r) : wrap32 r = r := by
  have := (good_iff r).1 h
  unfold wrap32
  omega
theorem val_loop (b : List UInt8) (at_ : Nat) (h : at_ ≤ b.length) (hb : b.length < 1099511627776) (k : Nat) : ∀ (f n : Nat), n + f = 5 → 1 ≤ n → ∃ r, posthornref05_One.l0 (2 * f + 6 + k) (natsOf b) (at_ : Int) (n : Int) = some (r, (oneFrom (b.drop at_) f n : Int)) ∧ (oneFrom (b.drop at_) f n ≠ 0 → Good r ∧ encB r = (b.drop at_).take (oneFrom (b.drop at_) f n))
  | 0, n, h1, h2 => by
    refine ⟨0, ?_, fun h => absurd rfl h⟩
    show posthornref05_One.l0 (2 * 0 + 6 + k) (natsOf b) (at_ : Int) (n : Int) = some ((0 : Int), (0 : Int))
    rw [show 2 * 0 + 6 + k = (k + 4) + 1 + 1 from by omega, posthornref05_One.l0, if_neg (by omega), posthornref05_One.j1, if_neg (by decide)]
  | f + 1, n, h1, h2 => by
    have w1 : wrap64 ((at_ : Int) + (n : Int)) = ((at_ + n : Nat) : Int) := by
      rw [wrap_at _ (by omega) (by omega)]
      omega
    have hl : ((natsOf b).length : Int) = (b.length : Int) := by rw [natsOf_len]
    rw [show 2 * (f + 1) + 6 + k = (2 * f + 6 + k) + 1 + 1 from by omega, posthornref05_One.l0, if_pos (by clear w1; omega), w1, hl, posthornref05_One.j1, oneFrom]
    clear w1
    by_cases h3 : at_ + n ≤ b.length
    · rw [if_pos (decide_eq_true (by omega)), if_pos (by omega)]
      have w1 : wrap64 ((at_ : Int) + (n : Int)) = ((at_ + n : Nat) : Int) := by
        rw [wrap_at _ (by omega) (by omega)]
        omega
      rw [w1, hl]
      clear w1
      rw [if_pos (by omega), if_pos (by omega), Int.toNat_natCast, Int.toNat_natCast, natsOf_take, natsOf_drop, List.drop_take, show at_ + n - at_ = n from by omega]
      have hq : (List.take n (b.drop at_)).length = n := by
        rw [List.length_take, List.length_drop]
        omega
      rw [show 2 * f + 6 + k = (2 * f + 2 + k) + 4 from by omega, made_f _ (by omega) (by omega), if_pos (by rw [List.length_drop]; omega)]
      show ∃ r, (if okq (List.take n (b.drop at_)) (valQ (List.take n (b.drop at_))) = true then some (wrap32 (valQ (List.take n (b.drop at_))), (n : Int)) else _) = _ ∧ _
      by_cases h4 : okq (List.take n (b.drop at_)) (valQ (List.take n (b.drop at_))) = true
      · rw [if_pos h4, if_pos h4]
        obtain ⟨g1, g2⟩ := okq_good h4
        exact ⟨_, rfl, fun _ => by rw [good32 g1]; exact ⟨g1, g2⟩⟩
      · rw [if_neg h4, if_neg h4, wrap_at _ (by omega) (by omega)]
        obtain ⟨r, hr, hv⟩ := val_loop b at_ h hb k f (n + 1) (by omega) (by omega)
        exact ⟨r, by rw [← hr, show 2 * f + 2 + k + 4 = 2 * f + 6 + k from by omega]; rfl, hv⟩
    · rw [if_neg (by rw [decide_eq_true_eq]; omega), if_neg (by rw [List.length_drop]; omega)]
      exact ⟨0, rfl, fun h => absurd rfl h⟩
theorem enc_inj {r x : Int} (hr : Good r) (hx : Good x) (h : encB r = encB x) : r = x := by
  obtain ⟨c, rfl, hc⟩ := good_cast hr
  obtain ⟨d, rfl, hd⟩ := good_cast hx
  have h1 := val_enc c hc
  have h2 := val_enc d hd
  rw [h] at h1
  omega
theorem one_enc (b : List UInt8) (at_ : Nat) (h : at_ ≤ b.length) (hb : b.length < 1099511627776) (x : Int) (L : List Int) (hx : Good x) (hd : b.drop at_ = encB x ++ L.flatMap encB) : posthornref05_One.f 14 (natsOf b) (at_ : Int) = some (x, ((encB x).length : Int)) ∧ at_ + (encB x).length ≤ b.length ∧ 1 ≤ (encB x).length ∧ b.drop (at_ + (encB x).length) = L.flatMap encB := by
  have hq : oneFrom (b.drop at_) 4 1 = (encB x).length := by
    rw [hd]
    exact q_enc x hx _
  obtain ⟨r, h1, h2⟩ := val_loop b at_ h hb 0 4 1 (by omega) (by omega)
  obtain ⟨_, _, _, _, e3, _⟩ := enc_head x hx
  rw [hq] at h1 h2
  obtain ⟨g1, g2⟩ := h2 (by omega)
  rw [hd, List.take_left' rfl] at g2
  have e := enc_inj g1 hx g2
  subst e
  have hl : (b.drop at_).length = (encB r).length + (L.flatMap encB).length := by rw [hd, List.length_append]
  rw [List.length_drop] at hl
  refine ⟨h1, by omega, e3, ?_⟩
  rw [← List.drop_drop, hd, List.drop_left' rfl]
theorem info21 : (Tryd.prog.info? 21).map (fun i => (i.zero, i.size, i.bytes)) = some (some (.int .i32 0), 1, 4) := by kernel_rfl
set_option maxHeartbeats 8000000 in
set_option maxRecDepth 100000 in
theorem refrunes_calls (s : ByteArray) (w : World) (hs : s.size ≤ 1000000000) :
    Calls Tryd.prog 31 #[.string s] w fun e w' => ∃ V a, e = .returned (.tuple #[V, .agg #[.int .i64 (decV s).2.1, .int .i64 a]]) ∧ w'.ownsRow (w.heap.size + 1) 21 1 V (decV s).1.length (nums .i32 (decV s).1) ∧ Below w.heap.size w w' := by
  have hu25 := Tryd.underlying25
  obtain ⟨b, hb⟩ : ∃ b, b = s.data.toList := ⟨_, rfl⟩
  have hbl : b.length = s.size := by rw [hb, data_length]
  obtain ⟨kb, nb, hb1, hb2, hb3⟩ := bad_f b (by omega)
  obtain ⟨W0, hW0⟩ : ∃ W0, W0 = w.alloc (.cells #[.int .i64 0, .int .i64 0] 25) := ⟨_, rfl⟩
  have hsz : W0.heap.size = w.heap.size + 1 := by rw [hW0]; simp
  have hbox : W0.heap[w.heap.size]? = some (.cells #[.int .i64 0, .int .i64 0] 25 (0, 0)) := by rw [hW0]; exact heap_alloc_new w _
  have hBw : Below w.heap.size w W0 := by rw [hW0]; exact (Below.refl _ _).alloc (Nat.le_refl _) _
  have KB := fun W => print_bytes (P := Tryd.prog) 9 39 5 Tryd.underlying9 Tryd.underlying39 Tryd.underlying5 s W
  obtain ⟨cp, hcp⟩ : ∃ cp, cp = grownCap W0 s.size 0 5 := ⟨_, rfl⟩
  have hcpl : s.size ≤ cp := by
    rw [hcp]
    exact grownCap_ge _ _ _ _
  obtain ⟨W1, hW1⟩ : ∃ W1, W1 = Lib.bytesWorld W0 5 s := ⟨_, rfl⟩
  have KB0 : (convert 9 39 (.string s)).run Tryd.prog (w.alloc (.cells #[.int .i64 0, .int .i64 0] 25)) = .ok (.slice (some ⟨w.heap.size + 1, 0, none⟩) s.size cp) W1 := by rw [← hW0, KB W0, hsz, hcp, hW1]
  have hB1 : Below W0.heap.size W0 W1 := by rw [hW1]; exact bytes_below (Below.refl _ _) (Nat.le_refl _) 5 s
  have hC1 : Kd.C (Kd.int .u8) W1 (some ⟨w.heap.size + 1, 0, none⟩) s.size (natsOf b) := by
    rw [hW1, hb, ← hsz]
    exact Kd.C_of_reads (h1 := fun _ => rfl) (bytes_reads W0 5 s (by omega))
  have hlen : (natsOf b).length = s.size := by rw [natsOf_len, hbl]
  have HBAD := Lib.hid (fun W (hC : Kd.C (Kd.int .u8) W (some ⟨w.heap.size + 1, 0, none⟩) s.size (natsOf b)) => (show Calls Tryd.prog 56 #[.slice (some ⟨w.heap.size + 1, 0, none⟩) s.size cp] W fun e w' => e = .returned (.int .i64 (nb : Int)) ∧ Below W.heap.size W w' from by
    have h := posthornref05_Bad.calls kb (some ⟨w.heap.size + 1, 0, none⟩) cp (natsOf b) (nb : Int) W (by rw [hlen]; exact hC) (by rw [hlen]; exact hcpl) hb1
    rwa [hlen] at h))
  have HONE := Lib.hid (fun W (hC : Kd.C (Kd.int .u8) W (some ⟨w.heap.size + 1, 0, none⟩) s.size (natsOf b)) (a r n : Int) (ho : posthornref05_One.f 14 (natsOf b) a = some (r, n)) => (show Calls Tryd.prog 57 #[.slice (some ⟨w.heap.size + 1, 0, none⟩) s.size cp, .int .i64 a] W fun e w' => e = .returned (.tuple #[.int .i32 r, .int .i64 n]) ∧ Below W.heap.size W w' from by
    have h := posthornref05_One.calls 14 (some ⟨w.heap.size + 1, 0, none⟩) cp (natsOf b) a r n W (by rw [hlen]; exact hC) (by rw [hlen]; exact hcpl) ho
    rwa [hlen] at h))
  have HX := Lib.hid hbox
  have HBW := Lib.hid hBw
  have HSZ := Lib.hid hsz
  have HB1 := Lib.hid hB1
  have HC1 := Lib.hid hC1
  have hIR : w.heap.size < W1.heap.size := by have := hB1.size; omega
  have HX1 := Lib.hid ((hB1.block w.heap.size (by omega)).trans hbox)
  have HB := Lib.hid hb
  have HN3 := Lib.hid hb3
  have HCPE := Lib.hid hcp
  clear hbox hBw hsz hB1 hC1 hW1 hW0 KB hcp hlen hb1 hb hb3
  by_cases hlt : nb < s.size
  · have hdv : decV s = ([], 50, runesBad s.data.toList) := by
      unfold decV
      rw [if_pos]
      have h1 := runesBad_le s.data.toList
      rw [data_length] at h1
      have h2 : ¬ runesBad b = b.length := fun h => by
        have := HN3.out.2 h
        omega
      rw [HB.out, data_length] at h2
      omega
    rw [hdv]
    clear hdv
    have q1 : decide ((nb : Int) < (s.size : Int)) = true := decide_eq_true (by omega)
    go_enter Tryd.func31, Tryd.ntmps31
    go_wp2_with fail
    refine (HBAD.out W1 HC1.out).mono ?_
    rintro e w2 ⟨rfl, hb2⟩
    have hX2 := (hb2.block w.heap.size hIR).trans HX1.out
    have e0 := blk_cell hX2 0
    have e1 := blk_cell hX2 1
    have f0 := blk_frozen hX2 0
    have f1 := blk_frozen hX2 1
    have HX2 := Lib.hid hX2
    have HBZ := Lib.hid (HBW.out.trans ((HB1.out.trans (hb2.mono (by have := HB1.out.size; omega))).mono (by have := HSZ.out; omega)))
    clear hX2 hb2
    go_wp2
    refine bodyPost_ret (results_list (rs := [.tmp 2, .cell 3 25]) rfl (by simp) (.tmp (.cell w.heap.size 25 #[.int .i64 50, .int .i64 (nb : Int)] (0, 0) _ rfl (blk_put (blk_put HX2.out 0 (.int .i64 50) rfl) 1 (.int .i64 (nb : Int)) rfl) Tryd.underlying25 rfl (by kernel_rfl) .nil))) rfl ?_
    exact ⟨_, _, rfl, ⟨rfl, .inl ⟨rfl, rfl⟩⟩, (HBZ.out.setCell (p := ⟨w.heap.size, 0, none⟩) (Nat.le_refl _) _).setCell (p := ⟨w.heap.size, 1, none⟩) (Nat.le_refl _) _⟩
  · have hfull : runesBad s.data.toList = s.size := by
      have h1 := HN3.out.1 (by omega)
      rw [HB.out, data_length] at h1
      exact h1
    have hdv : decV s = (runesAt s 0, 0, 0) := by
      unfold decV
      rw [hfull, if_neg (Nat.lt_irrefl _)]
    rw [hdv]
    obtain ⟨hgood, hall⟩ := good_text s hfull
    obtain ⟨RL, hRL⟩ : ∃ RL, RL = runesAt s 0 := ⟨_, rfl⟩
    rw [← hRL] at hgood hall ⊢
    have HALL := Lib.hid (show b.drop 0 = RL.flatMap encB by rw [List.drop_zero, HB.out, hall]; rfl)
    have HGOOD := Lib.hid hgood
    have q1 : decide ((nb : Int) < (s.size : Int)) = false := decide_eq_false (by omega)
    clear hdv hfull hgood hall hRL
    go_enter Tryd.func31, Tryd.ntmps31
    go_wp2_with fail
    refine (HBAD.out W1 HC1.out).mono ?_
    rintro e w2 ⟨rfl, hb2⟩
    have HB2 := Lib.hid hb2
    have hz2 := hb2.size
    clear hb2
    go_wp2
    go_loopw [6, 7] (fun o v wr => ∃ (k : Nat) (l r : List Int), k ≤ s.size ∧ v = .int .i64 k ∧ (∀ x ∈ r, Good x) ∧ b.drop k = r.flatMap encB ∧ RL = l ++ r ∧ wr.ownsRow W1.heap.size 21 1 o l.length (nums .i32 l) ∧ Below W1.heap.size W1 wr ∧ l.length ≤ k) (fun _ v _ => s.size - (intOf v).toNat)
    case atStart => exact ⟨0, [], RL, by omega, rfl, HGOOD.out, HALL.out, rfl, own_nil _ _ _ _, HB2.out, by simp⟩
    case round =>
      obtain ⟨k, l, r, hk, rfl, hg, hd, hL, hO, hB, hlk⟩ := hrel
      have HO := Lib.hid hO
      have HBR := Lib.hid hB
      have HL := Lib.hid hL
      have hzr := hB.size
      clear hO hB hL
      by_cases hlt2 : k < s.size
      · cases r with
        | nil =>
          exfalso
          have : (b.drop k).length = 0 := by rw [hd]; rfl
          rw [List.length_drop] at this
          omega
        | cons x r =>
          obtain ⟨h1, h2, h3, h4⟩ := one_enc b k (by omega) (by omega) x r (hg x (List.mem_cons_self ..)) hd
          obtain ⟨n, hn⟩ : ∃ n, n = (encB x).length := ⟨_, rfl⟩
          rw [← hn] at h1 h2 h3 h4
          have HH := Lib.hid (HONE.out wr (Kd.C_below HC1.out HBR.out) (k : Int) x (n : Int) h1)
          have HG := Lib.hid (fun y hy => hg y (List.mem_cons_of_mem _ hy))
          have H4 := Lib.hid h4
          have q2 : decide ((k : Int) < (s.size : Int)) = true := decide_eq_true (by omega)
          clear h1 h4 hg hd hn
          go_wp2_with fail
          refine HH.out.mono ?_
          rintro e w3 ⟨rfl, hb3⟩
          have HB3 := Lib.hid (HBR.out.trans (hb3.mono hzr))
          have HO3 := Lib.hid (pw_own_below HO.out hb3)
          have hz3 := HB3.out.size
          clear hb3
          go_wp2_with (at_builtin; refine print_append_row (w0 := w3.alloc (.cells #[.int .i32 x] 21)) W1.heap.size rfl (.tmp 30) (.tmp 32) 50 21 .i32 4 rfl Tryd.underlying50 info21 (by decide) _ l [x] _ 1 1 rfl rfl ?ho ?hr ?hb ?hbase ?hl ?_)
          case ho => exact HO3.out.alloc _
          case hr => exact reads_lit _ 21 .i32 [x] (by simp)
          case hb => exact Below.refl _ _
          case hbase => rw [World.size_alloc]; omega
          case hl => omega
          intro v7 w7 ho7 hb7 hg7 hat7
          have HO7 := Lib.hid ho7
          have HB7 := Lib.hid ((HB3.out.alloc hz3 _).trans hb7)
          clear ho7 hb7 hg7 hat7
          go_wp2
          go_roundw
          case rel => exact ⟨k + n, l ++ [x], r, by omega, by go_num, HG.out, H4.out, by rw [HL.out, List.append_assoc]; rfl, by rw [List.length_append]; exact HO7.out, HB7.out, by rw [List.length_append]; simp; omega⟩
          case measure => simp [intOf]; omega
      · have q2 : decide ((k : Int) < (s.size : Int)) = false := decide_eq_false (by omega)
        have hr : r = [] := by
          cases r with
          | nil => rfl
          | cons x r =>
            exfalso
            have h1 : (b.drop k).length = 0 := by rw [List.length_drop]; omega
            rw [hd, List.flatMap_cons, List.length_append] at h1
            obtain ⟨_, _, _, _, e3, _⟩ := enc_head x (hg x (List.mem_cons_self ..))
            omega
        subst hr
        have hRL : RL = l := by rw [HL.out, List.append_nil]
        subst hRL
        have hX2 := (HBR.out.block w.heap.size hIR).trans HX1.out
        have e0 := blk_cell hX2 0
        have e1 := blk_cell hX2 1
        have f0 := blk_frozen hX2 0
        have f1 := blk_frozen hX2 1
        have HX2 := Lib.hid hX2
        have HBZ := Lib.hid (HBW.out.trans ((HB1.out.trans (HBR.out.mono (by have := HB1.out.size; omega))).mono (by have := HSZ.out; omega)))
        clear hX2 hg hd
        go_wp2
        refine bodyPost_ret (results_list (rs := [.tmp 2, .cell 3 25]) rfl (by simp) (.tmp (.cell w.heap.size 25 #[.int .i64 0, .int .i64 0] (0, 0) _ rfl (blk_put (blk_put HX2.out 0 (.int .i64 0) rfl) 1 (.int .i64 0) rfl) Tryd.underlying25 rfl (by kernel_rfl) .nil))) rfl ?_
        have hnb : some w.heap.size ≠ u6.ownBlock := fun e => by have := own_base HO.out _ e.symm; omega
        exact ⟨_, _, rfl, own_setCell (own_setCell (own_low HO.out (by have := HB1.out.size; have := HSZ.out; omega)) (p := ⟨w.heap.size, 0, none⟩) hnb _) (p := ⟨w.heap.size, 1, none⟩) hnb _, ((HBZ.out.setCell (p := ⟨w.heap.size, 0, none⟩) (Nat.le_refl _) _).setCell (p := ⟨w.heap.size, 1, none⟩) (Nat.le_refl _) _)⟩
end Go.Proofs.YtcnhnpkbklakoaaDoor.Word
