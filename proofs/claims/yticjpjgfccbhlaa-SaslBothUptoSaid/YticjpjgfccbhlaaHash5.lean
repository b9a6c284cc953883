/- hash: Hash.Sum by contract. (The steps of its region that draws: printed by tools/hsum.py.) -/
import Derived.Test.YticjpjgfccbhlaaHash4
namespace Go.Proofs.Yticjpjgfccbhlaa.Hash
open Go.RowKit Go.Proofs.YticjpjgfccbhlaaW.PrintWords Go.Proofs.YticjpjgfccbhlaaW.PrintLast Go.Proofs.YticjpjgfccbhlaaW.PrintMore Go.Proofs.Yticjpjgfccbhlaa.PSaslBoth
attribute [local go_sem] max2_int min2_int max_two min_two max_three min_three max_four min_four
set_option linter.unusedVariables false
set_option linter.unusedSimpArgs false
theorem own_lt {w : World} {b e s n : Nat} {v : Value} {xs : List Value} (h : w.ownsRow b e s v n xs) : ∀ k, v.ownBlock = some k → k < w.heap.size := fun k hk => (h.lt k hk).2
theorem reads_lit (W : World) (e : TypeId) (k : IntKind) (xs : List Int) (hm : xs.length ≤ 9223372036854775807) : ReadsInt (W.alloc (.cells (nums k xs).toArray e)) k (some ⟨W.heap.size, 0, none⟩) xs.length xs := by
  obtain ⟨A, c, hv, h⟩ := own_reads (own_lit W 0 e k xs (Nat.zero_le _) hm)
  cases hv
  exact h
/-- noughts up to the place of the length -/
def padZ : Nat → List Int → List Int
  | 0, l => l
  | f + 1, l => if l.length % 64 = 56 then l else padZ f (l ++ [0])
theorem padZ_len : ∀ (f : Nat) (l : List Int), l.length ≤ 120 → 120 - l.length ≤ f → (padZ f l).length % 64 = 56 ∧ (padZ f l).length ≤ 120
  | 0, l, h, h2 => by
    have : l.length = 120 := by omega
    rw [padZ, this]
    decide
  | f + 1, l, h, h2 => by
    rw [padZ]
    split
    · rename_i h3
      exact ⟨h3, h⟩
    · rename_i h3
      have : l.length ≠ 120 := fun e => h3 (by rw [e])
      exact padZ_len f (l ++ [0]) (by simp; omega) (by simp; omega)
theorem padZ_fuel : ∀ (f f' : Nat) (l : List Int), l.length ≤ 120 → 120 - l.length ≤ f → 120 - l.length ≤ f' → padZ f l = padZ f' l
  | 0, 0, _, _, _, _ => rfl
  | 0, f' + 1, l, h, h1, _ => by
    have e : l.length = 120 := by omega
    rw [padZ, padZ, if_pos (by rw [e])]
  | f + 1, 0, l, h, _, h1 => by
    have e : l.length = 120 := by omega
    rw [padZ, padZ, if_pos (by rw [e])]
  | f + 1, f' + 1, l, h, h1, h2 => by
    rw [padZ, padZ]
    split
    · rfl
    · rename_i h3
      have : l.length ≠ 120 := fun e => h3 (by rw [e])
      exact padZ_fuel f f' _ (by simp; omega) (by simp; omega) (by simp; omega)
/-- the length in bits, as bytes -/
def bitB (U : Int) (k : Nat) : Int := U / 2 ^ (8 * k) % 256
def bitsV (U : Int) (k : Nat) : List Int := (List.range k).map (bitB U)
theorem bitsV_more (U : Int) (k : Nat) : bitsV U (k + 1) = bitsV U k ++ [bitB U k] := by
  unfold bitsV
  rw [List.range_succ, List.map_append]
  rfl
def lenU (n : Int) : Int := IntKind.u64.wrap (IntKind.u64.wrap n * 8)
def padV (rest : List Int) (n : Int) : List Int := padZ 120 (rest ++ [128]) ++ bitsV (lenU n) 8
theorem eatV_all (T S : Nat → Int) : ∀ (f : Nat) (x : Four) (l : List Int), l.length ≤ f → l.length % 64 = 0 → (eatV T S f x l).2 = []
  | 0, x, l, h, _ => by
    rw [eatV]
    show l = []
    exact List.eq_nil_of_length_eq_zero (by omega)
  | f + 1, x, l, h, h2 => by
    rw [eatV]
    split
    · rename_i h3
      exact eatV_all T S f _ _ (by rw [List.length_drop]; omega) (by rw [List.length_drop]; omega)
    · show l = []
      exact List.eq_nil_of_length_eq_zero (by omega)
set_option maxHeartbeats 4000000 in
set_option maxRecDepth 100000 in
theorem sum_calls (T S : Nat → Int) (g : Nat) (r0 r1 r2 r3 n : Int) (A : Option Addr) (lr cr : Nat) (rest : List Int) (w : World)
    (hg : w.heap[g]? = some (.cells (hashCells (r0, r1, r2, r3) (.slice A lr cr) n) 161 (0, 0)))
    (hr : Kd.C (Kd.int .u8) w A lr rest) (hrl : rest.length = lr) (hrc : lr ≤ cr) (hlr : lr < 64)
    (hT : ∀ j, j < 64 → w.cell? ⟨1, j, none⟩ = some (.int .u32 (T j))) (hS : ∀ j, j < 16 → w.cell? ⟨2, j, none⟩ = some (.int .u8 (S j))) (hS0 : ∀ j, j < 16 → 0 ≤ S j) :
    Calls Try.prog 108 #[.pointer (some ⟨g, 0, none⟩)] w fun e w' => e = .returned (.agg (cellsN 16 (digB (eatV T S (padV rest n).length (r0, r1, r2, r3) (padV rest n)).1))) ∧ Below w.heap.size w w' := by
  obtain ⟨PV, hPV⟩ : ∃ P, P = padV rest n := ⟨_, rfl⟩
  rw [← hPV]
  obtain ⟨FR, hFR⟩ : ∃ F, F = (eatV T S PV.length (r0, r1, r2, r3) PV).1 := ⟨_, rfl⟩
  rw [← hFR]
  have HPV := Lib.hid hPV
  have HFR := Lib.hid hFR
  obtain ⟨W0, hW0⟩ : ∃ W0, W0 = w.alloc (.cells (cellsN 16 fun _ => 0) 108) := ⟨_, rfl⟩
  have hsz : W0.heap.size = w.heap.size + 1 := by rw [hW0]; simp
  have HX := Lib.hid (show W0.heap[w.heap.size]? = some (.cells (cellsN 16 fun _ => 0) 108 (0, 0)) by rw [hW0]; exact heap_alloc_new w _)
  have HBW := Lib.hid (show Below w.heap.size w W0 by rw [hW0]; exact (Below.refl _ _).alloc (Nat.le_refl _) _)
  have HSZ := Lib.hid hsz
  have HW0 := Lib.hid (show W0 = w.alloc (.cells #[.int .u8 0, .int .u8 0, .int .u8 0, .int .u8 0, .int .u8 0, .int .u8 0, .int .u8 0, .int .u8 0, .int .u8 0, .int .u8 0, .int .u8 0, .int .u8 0, .int .u8 0, .int .u8 0, .int .u8 0, .int .u8 0] 108) by rw [hW0]; rfl)
  have hglt := blk_lt hg
  have HG0 := Lib.hid ((HBW.out.block g hglt).trans hg)
  have HC0 := Lib.hid (Kd.C_below hr HBW.out)
  have x0 := blk_cell HG0.out 0
  have x5 := blk_cell HG0.out 5
  simp only [hashCells, List.getElem?_toArray, List.getElem?_cons_succ, List.getElem?_cons_zero] at x0 x5
  have y0 : (w.alloc (.cells #[.int .u8 0, .int .u8 0, .int .u8 0, .int .u8 0, .int .u8 0, .int .u8 0, .int .u8 0, .int .u8 0, .int .u8 0, .int .u8 0, .int .u8 0, .int .u8 0, .int .u8 0, .int .u8 0, .int .u8 0, .int .u8 0] 108)).cell? ⟨g, 0, none⟩ = some (.bool true) := HW0.out ▸ x0
  have y5 : (w.alloc (.cells #[.int .u8 0, .int .u8 0, .int .u8 0, .int .u8 0, .int .u8 0, .int .u8 0, .int .u8 0, .int .u8 0, .int .u8 0, .int .u8 0, .int .u8 0, .int .u8 0, .int .u8 0, .int .u8 0, .int .u8 0, .int .u8 0] 108)).cell? ⟨g, 5, none⟩ = some (.slice A lr cr) := HW0.out ▸ x5
  clear hPV hFR hW0 hsz x0 x5
  go_enter Try.func108, Try.ntmps108
  go_wp2_with (at_builtin; rw [← HW0.out]; refine print_append_row (w0 := W0.alloc (.cells #[] 5)) W0.heap.size rfl (.tmp 17) (.tmp 21) 73 5 .u8 1 rfl Try.underlying73 info5 (by decide) _ ([] : List Int) rest _ lr _ rfl rfl ?ho ?hr ?hb ?hbase ?hl ?_)
  case ho => exact (by have h := own_lit W0 W0.heap.size 5 .u8 [] (Nat.le_refl _) (by simp); rw [HSZ.out] at h ⊢; exact h)
  case hr => exact Kd.reads_of_C (enc := Value.int .u8) (d := (0 : Int)) (h1 := fun _ => rfl) (Kd.C_below HC0.out ((Below.refl W0.heap.size W0).alloc (Nat.le_refl _) _))
  case hb => exact Below.refl _ _
  case hbase => rw [World.size_alloc]; omega
  case hl => exact (by simp; omega)
  intro v1 w1 how1 hbw1 hgw1 hatw1
  have HOw1 := Lib.hid (show w1.ownsRow W0.heap.size 5 1 v1 (([] : List Int) ++ rest).length (nums .u8 (([] : List Int) ++ rest)) by simpa [hrl] using how1)
  have HB1 := Lib.hid (((Below.refl W0.heap.size W0).alloc (Nat.le_refl _) (.cells #[] 5)).trans hbw1)
  have hz1 := HB1.out.size
  clear how1 hbw1 hgw1 hatw1
  rw [List.nil_append] at HOw1
  go_wp2_with (at_builtin; refine print_append_row (w0 := w1.alloc (.cells #[.int .u8 128] 5)) W0.heap.size rfl (.tmp 23) (.tmp 24) 73 5 .u8 1 rfl Try.underlying73 info5 (by decide) _ rest [(128 : Int)] _ 1 _ rfl rfl ?ho ?hr ?hb ?hbase ?hl ?_)
  case ho => exact HOw1.out.alloc _
  case hr => exact reads_lit _ 5 .u8 [(128 : Int)] (by simp)
  case hb => exact Below.refl _ _
  case hbase => rw [World.size_alloc]; omega
  case hl => exact (by simp; omega)
  intro v2 w2 how2 hbw2 hgw2 hatw2
  have HOw2 := Lib.hid (show w2.ownsRow W0.heap.size 5 1 v2 (rest ++ [(128 : Int)]).length (nums .u8 (rest ++ [(128 : Int)])) by simpa [hrl] using how2)
  have HB2 := Lib.hid ((HB1.out.alloc hz1 (.cells #[.int .u8 128] 5)).trans hbw2)
  clear how2 hbw2 hgw2 hatw2
  go_wp2
  go_loopw [3] (fun o wr => ∃ (l : List Int), wr.ownsRow W0.heap.size 5 1 o l.length (nums .u8 l) ∧ Below W0.heap.size W0 wr ∧ padZ (120 - l.length) l = padZ 120 (rest ++ [128]) ∧ l.length ≤ 120 ∧ 1 ≤ l.length) (fun o _ => 120 - lenOf o)
  case atStart => exact ⟨rest ++ [128], HOw2.out, HB2.out, padZ_fuel _ _ _ (by simp; omega) (by simp) (by simp; omega), by simp; omega, by simp⟩
  case round =>
    obtain ⟨l, hO, hB, hp, hl, hl1⟩ := hrel
    have HO := Lib.hid hO
    have HB := Lib.hid hB
    have HP := Lib.hid hp
    have hz := hB.size
    obtain ⟨A3, c3, rfl⟩ := own_slice hO
    clear hO hB hp
    have hm : Int.tmod (l.length : Int) 64 = ((l.length % 64 : Nat) : Int) := by
      rw [Int.tmod_eq_emod_of_nonneg (by omega)]
      omega
    have hm2 : (l.length : Int) % 64 = ((l.length % 64 : Nat) : Int) := by omega
    by_cases h56 : l.length % 64 = 56
    · have q1 : ((((l.length % 64 : Nat) : Int)) != 56) = false := by rw [h56]; rfl
      have q2 : ((((l.length % 64 : Nat) : Int)) == 56) = true := by rw [h56]; rfl
      have hpz : padZ 120 (rest ++ [128]) = l := by
        rw [← HP.out]
        cases he : 120 - l.length with
        | zero => rfl
        | succ m => rw [padZ, if_pos h56]
      rw [h56] at hm hm2
      have HPZ := Lib.hid hpz
      clear hpz
      have HGR := Lib.hid ((HB.out.block g (by have := HSZ.out; omega)).trans HG0.out)
      have z6 := blk_cell HGR.out 6
      simp only [hashCells, List.getElem?_toArray, List.getElem?_cons_succ, List.getElem?_cons_zero] at z6
      go_wp2
      generalize hU : IntKind.u64.wrap (IntKind.u64.wrap n * 8) = U
      have HU := Lib.hid (show lenU n = U from hU)
      clear hU
      obtain ⟨l0, hl0⟩ : ∃ l0, l0 = l := ⟨_, rfl⟩
      have hl0l : l0.length ≤ 120 := by rw [hl0]; exact hl
      have hl56 : l0.length % 64 = 56 := by rw [hl0]; exact h56
      have hPVE : PV = l0 ++ bitsV U 8 := by rw [HPV.out, padV, HPZ.out, HU.out, hl0]
      have HPVE := Lib.hid hPVE
      have hO3 := HO.out
      rw [← hl0] at hO3 ⊢
      have HO3 := Lib.hid hO3
      clear hO3 hPVE z6 q1 q2 hm hm2 hl0
      go_loopw [3, 39] (fun o v wq => ∃ k : Nat, k ≤ 8 ∧ v = .int .i64 k ∧ wq.ownsRow W0.heap.size 5 1 o (l0 ++ bitsV U k).length (nums .u8 (l0 ++ bitsV U k)) ∧ Below W0.heap.size W0 wq) (fun _ v _ => 8 - (intOf v).toNat)
      case atStart => exact ⟨0, by omega, rfl, by simpa [bitsV] using HO3.out, HB.out⟩
      case round =>
        obtain ⟨k, hk, rfl, hO, hB⟩ := hrel
        have HO8 := Lib.hid hO
        have HB8 := Lib.hid hB
        have hz8 := hB.size
        clear hO hB
        by_cases hk8 : k < 8
        · obtain ⟨lk, hlk⟩ : ∃ lk, lk = l0 ++ bitsV U k := ⟨_, rfl⟩
          have hlkl : lk.length ≤ 128 := by rw [hlk, List.length_append]; unfold bitsV; simp; omega
          rw [← hlk] at HO8
          have HLK := Lib.hid hlk
          clear hlk
          go_wp2_with (at_builtin; refine print_append_row (w0 := wr.alloc (.cells #[.int .u8 (bitB U k)] 5)) W0.heap.size rfl (.tmp 42) (.tmp 48) 73 5 .u8 1 rfl Try.underlying73 info5 (by decide) _ lk [bitB U k] _ 1 _ rfl rfl ?ho ?hr ?hb ?hbase ?hl ?_)
          case ho => exact HO8.out.alloc _
          case hr => exact reads_lit _ 5 .u8 [bitB U k] (by simp)
          case hb => exact Below.refl _ _
          case hbase => rw [World.size_alloc]; omega
          case hl => exact (by simp; omega)
          intro v9 w9 how9 hbw9 hgw9 hatw9
          have HOw9 := Lib.hid (show w9.ownsRow W0.heap.size 5 1 v9 (lk ++ [bitB U k]).length (nums .u8 (lk ++ [bitB U k])) by simpa [hrl] using how9)
          have HB9 := Lib.hid ((HB8.out.alloc hz8 (.cells #[.int .u8 (bitB U k)] 5)).trans hbw9)
          clear how9 hbw9 hgw9 hatw9
          have e9 : l0 ++ bitsV U (k + 1) = lk ++ [bitB U k] := by rw [bitsV_more, HLK.out, List.append_assoc]
          have HE9 := Lib.hid e9
          clear e9
          go_wp2
          go_roundw
          case rel => exact ⟨k + 1, by omega, by go_num, by rw [HE9.out]; exact HOw9.out, HB9.out⟩
          case measure => simp [intOf]; omega
        · have hk8' : k = 8 := by omega
          subst hk8'
          rw [← HPVE.out] at HO8
          have hPVl : PV.length % 64 = 0 ∧ PV.length ≤ 128 := by
            rw [HPVE.out, List.length_append]
            unfold bitsV
            simp only [List.length_map, List.length_range]
            omega
          obtain ⟨A9, c9, rfl, hc9, hC9⟩ := Kd.R_reads (Kd.R_of_own (enc := Value.int .u8) (h1 := fun _ => rfl) (ok := fun _ => True) HO8.out (fun _ _ => trivial))
          have hown := own_lt HO8.out
          have HGR := Lib.hid ((HB8.out.block g (by have := HSZ.out; omega)).trans HG0.out)
          have HXR := Lib.hid ((HB8.out.block w.heap.size (by have := HSZ.out; omega)).trans HX.out)
          have z1 := blk_cell HGR.out 1
          have z2 := blk_cell HGR.out 2
          have z3 := blk_cell HGR.out 3
          have z4 := blk_cell HGR.out 4
          simp only [hashCells, List.getElem?_toArray, List.getElem?_cons_succ, List.getElem?_cons_zero] at z1 z2 z3 z4
          have HC9 := Lib.hid hC9
          obtain ⟨W6, hW6⟩ : ∃ W6, W6 = wr.alloc (.cells (cells4 (r0, r1, r2, r3)) 158) := ⟨_, rfl⟩
          obtain ⟨b6, hb6⟩ : ∃ b6, b6 = wr.heap.size := ⟨_, rfl⟩
          have hA9 : ∀ ad, A9 = some ad → 0 < PV.length → ad.block < b6 := by
            intro ad he h0
            obtain ⟨b7, o7, e, _⟩ := atI_of_C hC9 h0
            rw [he] at e
            injection e with e
            subst e he
            rw [hb6]
            exact hown b7 rfl
          have HA9 := Lib.hid hA9
          have HG6 := Lib.hid (show W6.heap[b6]? = some (.cells (cells4 (r0, r1, r2, r3)) 158 (0, 0)) by rw [hW6, hb6]; exact heap_alloc_new _ _)
          have HX6 := Lib.hid (show W6.heap[w.heap.size]? = some (.cells (cellsN 16 fun _ => 0) 108 (0, 0)) by rw [hW6, heap_alloc_old _ _ (by have := HSZ.out; omega)]; exact HXR.out)
          have HB6 := Lib.hid (show Below W0.heap.size W0 W6 by rw [hW6]; exact HB8.out.alloc hz8 _)
          have HC6 := Lib.hid (show Kd.C (Kd.int .u8) W6 A9 PV.length PV by rw [hW6]; exact Kd.C_below hC9 ((Below.refl wr.heap.size wr).alloc (Nat.le_refl _) _))
          have hb6w : w.heap.size < b6 := by have := HSZ.out; omega
          have hb6le : W0.heap.size ≤ b6 := by rw [hb6]; exact hz8
          have hb6lt : b6 < W6.heap.size := by rw [hW6, hb6]; simp
          have HW6 := Lib.hid (show W6 = wr.alloc (.cells #[.int .u32 r0, .int .u32 r1, .int .u32 r2, .int .u32 r3] 158) from hW6)
          have HB6E := Lib.hid hb6
          clear hC9 hA9 hW6 hb6
          go_wp2
          rw [← HW6.out, ← HB6E.out]
          go_loopw [3] (fun o wq => ∃ (A1 : Option Addr) (c1 : Nat) (m : List Int) (y : Four), o = .slice A1 m.length c1 ∧ m.length ≤ c1 ∧ m.length ≤ 128 ∧ Kd.C (Kd.int .u8) wq A1 m.length m ∧ (∀ ad, A1 = some ad → 0 < m.length → ad.block < b6) ∧ wq.heap[b6]? = some (.cells (cells4 y) 158 (0, 0)) ∧ Near b6 W6 wq ∧ FR = (eatV T S m.length y m).1 ∧ m.length % 64 = 0) (fun o _ => lenOf o)
          case atStart => exact ⟨A9, c9, PV, (r0, r1, r2, r3), rfl, hc9, hPVl.2, HC6.out, HA9.out, HG6.out, Near.refl _ _, HFR.out, hPVl.1⟩
          case round =>
            obtain ⟨A1, c1, l, ⟨y0, y1, y2, y3⟩, rfl, hlc, hla, hC, hA, hG, hN, hQ, hmod⟩ := hrel
            have HCR := Lib.hid hC
            have HAR := Lib.hid hA
            have HGR := Lib.hid hG
            have HBR := Lib.hid hN
            have HQR := Lib.hid hQ
            clear hC hA hG hN hQ
            by_cases h0 : 0 < l.length
            · have h64 : 64 ≤ l.length := by omega
              have q1 : decide (0 < (l.length : Int)) = true := decide_eq_true (by omega)
              obtain ⟨bb, oo, rfl, _⟩ := atI_of_C HCR.out (by omega)
              have hbb : bb < b6 := HAR.out _ rfl (by omega)
              have hl64 : (l.take 64).length = 64 := by rw [List.length_take]; omega
              have HC64 := Lib.hid (C_cut HCR.out 64 h64)
              have z1 := blk_cell HGR.out 0
              have z2 := blk_cell HGR.out 1
              have z3 := blk_cell HGR.out 2
              have z4 := blk_cell HGR.out 3
              simp only [cells4, List.getElem?_toArray, List.getElem?_cons_succ, List.getElem?_cons_zero] at z1 z2 z3 z4
              have f1 := blk_frozen HGR.out 0
              have f2 := blk_frozen HGR.out 1
              have f3 := blk_frozen HGR.out 2
              have f4 := blk_frozen HGR.out 3
              have zl := load_row (C_drew HC64.out) hl64 _ rfl
              have zs : ∀ W, (Instr.sliceAt 73 (.slice (some ⟨bb, oo, none⟩) l.length c1) none (some (.int .i64 64)) none).run Try.prog W = .ok (.slice (some ⟨bb, oo, none⟩) 64 c1) W := by
                intro W
                have hx : ((c1 : Int) < 64) = False := eq_false (by omega)
                go_simp
              have za : ∀ W, (Instr.arrayAt 152 (.slice (some ⟨bb, oo, none⟩) 64 c1)).run Try.prog W = .ok (.pointer (some ⟨bb, oo, none⟩)) W := fun W => run_arrayAt W 152 5 64 _ 64 c1 Try.underlying152 (Nat.le_refl _)
              obtain ⟨v, hv⟩ : ∃ v, v = withV T S (y0, y1, y2, y3) (row (l.take 64)) := ⟨_, rfl⟩
              obtain ⟨v0, v1', v2', v3⟩ := v
              have HV := Lib.hid hv
              have HWI := Lib.hid (fun W (hB : Near b6 W6 W) => (show Calls Try.prog 110 #[.agg #[.int .u32 y0, .int .u32 y1, .int .u32 y2, .int .u32 y3], .agg (nums .u8 (l.take 64)).toArray] W fun e w' => e = .returned (.agg #[.int .u32 v0, .int .u32 v1', .int .u32 v2', .int .u32 v3]) ∧ Below W.heap.size W w' from by
                have ht : ∀ j, j < 64 → W.cell? ⟨1, j, none⟩ = some (.int .u32 (T j)) := fun j hj => hB.cell ((HB6.out.cell (Nat.lt_of_lt_of_le (World.block_lt_of_cell? w _ (hT j hj)) HBW.out.size)).trans ((HBW.out.cell (World.block_lt_of_cell? w _ (hT j hj))).trans (hT j hj))) (by omega)
                have hs : ∀ j, j < 16 → W.cell? ⟨2, j, none⟩ = some (.int .u8 (S j)) := fun j hj => hB.cell ((HB6.out.cell (Nat.lt_of_lt_of_le (World.block_lt_of_cell? w _ (hS j hj)) HBW.out.size)).trans ((HBW.out.cell (World.block_lt_of_cell? w _ (hS j hj))).trans (hS j hj))) (by have := World.block_lt_of_cell? w _ (hS j hj); show 2 ≠ b6; have h : 2 < w.heap.size := this; omega)
                have h := with_calls T S y0 y1 y2 y3 (l.take 64) hl64 W ht hs hS0
                rw [← hv] at h
                exact h))
              clear hv
              go_wp2
              refine start_ (n := 7) (S := fun w' => w'.cell? ⟨b6, 0, none⟩ = some (.int .u32 y0) ∧ w'.cell? ⟨b6, 1, none⟩ = some (.int .u32 y1) ∧ w'.cell? ⟨b6, 2, none⟩ = some (.int .u32 y2) ∧ w'.cell? ⟨b6, 3, none⟩ = some (.int .u32 y3) ∧ w'.frozen? ⟨b6, 0, none⟩ = false ∧ w'.frozen? ⟨b6, 1, none⟩ = false ∧ w'.frozen? ⟨b6, 2, none⟩ = false ∧ w'.frozen? ⟨b6, 3, none⟩ = false ∧ (Instr.loadAt 152 (.pointer (some ⟨bb, oo, none⟩))).run Try.prog w' = .ok (.agg (nums .u8 (l.take 64)).toArray) w') (ds := [6]) #[false, false, false, false, false, false, false] (by kernel_rfl) rfl rfl ⟨z1, z2, z3, z4, f1, f2, f3, f4, zl⟩ (fun hHeld => ?_)
              generalize hdr : wr.drew = wq at hHeld ⊢
              have HBQ := Lib.hid (show Near b6 W6 wq from hdr ▸ HBR.out.drew)
              have HGQ := Lib.hid (show wq.heap[b6]? = some (.cells (cells4 (y0, y1, y2, y3)) 158 (0, 0)) from (congrArg (fun W => W.heap[b6]?) hdr).symm.trans HGR.out)
              have HCQ := Lib.hid (show Kd.C (Kd.int .u8) wq (some ⟨bb, oo, none⟩) 64 (l.take 64) from hdr ▸ C_drew HC64.out)
              have HCQL := Lib.hid (show Kd.C (Kd.int .u8) wq (some ⟨bb, oo, none⟩) l.length l from hdr ▸ C_drew HCR.out)
              clear hdr
              refine pure_ (i := 1) (N := some 61) (v := ?_) (a' := ?_) #[false, true, false, false, false, false, false] rfl rfl (by kernel_rfl) (fun _ _ _ h => h) (Or.inl ⟨by rfl, ?_⟩) ?_ ?_
              rotate_left
              · intro w'
                go_simp
                with_reducible rfl
              rotate_left
              · simp only [Act.put, List.setIfInBounds_toArray, List.set_cons_zero, List.set_cons_succ, i64_w, i32_w]
                rfl
              refine pure_ (i := 2) (N := some 62) (v := ?_) (a' := ?_) #[false, true, true, false, false, false, false] rfl rfl (by kernel_rfl) (fun _ _ _ h => h) (Or.inl ⟨by rfl, ?_⟩) ?_ ?_
              rotate_left
              · intro w'
                go_simp
                with_reducible rfl
              rotate_left
              · simp only [Act.put, List.setIfInBounds_toArray, List.set_cons_zero, List.set_cons_succ, i64_w, i32_w]
                rfl
              refine pure_ (i := 3) (N := some 63) (v := ?_) (a' := ?_) #[false, true, true, true, false, false, false] rfl rfl (by kernel_rfl) (fun _ _ _ h => h) (Or.inl ⟨by rfl, ?_⟩) ?_ ?_
              rotate_left
              · intro w'
                go_simp
                with_reducible rfl
              rotate_left
              · simp only [Act.put, List.setIfInBounds_toArray, List.set_cons_zero, List.set_cons_succ, i64_w, i32_w]
                rfl
              refine take_ (i := 0) (N := some 60) (v := ?_) (a' := ?_) #[true, true, true, true, false, false, false] rfl rfl (by kernel_rfl) (fun _ _ _ h => h) (Or.inl ⟨by rfl, ?_⟩) hHeld ?_ ?_
              rotate_left
              · rintro w' ⟨s0, s1, s2, s3, s4, s5, s6, s7, s8⟩
                go_simp
                with_reducible rfl
              rotate_left
              · simp only [Act.put, List.setIfInBounds_toArray, List.set_cons_zero, List.set_cons_succ, i64_w, i32_w]
                rfl
              refine take_ (i := 4) (N := some 64) (v := ?_) (a' := ?_) #[true, true, true, true, true, false, false] rfl rfl (by kernel_rfl) (fun _ _ _ h => h) (Or.inl ⟨by rfl, ?_⟩) hHeld ?_ ?_
              rotate_left
              · rintro w' ⟨s0, s1, s2, s3, s4, s5, s6, s7, s8⟩
                refine (exec_load (t := 152) (x := .tmp 63) (p := .pointer (some ⟨bb, oo, none⟩)) rfl rfl s8).trans ?_
                with_reducible rfl
              rotate_left
              · simp only [Act.put, List.setIfInBounds_toArray, List.set_cons_zero, List.set_cons_succ, i64_w, i32_w]
                rfl
              refine one_ (i := 5) (N := some 65) #[true, true, true, true, true, true, false] rfl rfl (by kernel_rfl) (by decide) (fun K hK => ?_)
              refine goes_ Try.func110 (by kernel_rfl) rfl #[.agg #[.int .u32 y0, .int .u32 y1, .int .u32 y2, .int .u32 y3], .agg (nums .u8 (l.take 64)).toArray] (by rfl) rfl rfl (by simp only [List.map_toArray, List.map_cons, List.map_nil]; rfl) ?_
              with_reducible refine (HWI.out wq HBQ.out).mono ?_
              rintro e w7 ⟨rfl, hb7⟩
              refine ⟨_, rfl, ?_⟩
              have HB7 := Lib.hid (HBQ.out.trans (Near.of_below (g := b6) hb7))
              have HG7 := Lib.hid ((hb7.block b6 (blk_lt HGQ.out)).trans HGQ.out)
              have HC7 := Lib.hid (Kd.C_below HCQ.out hb7)
              have HC7L := Lib.hid (Kd.C_below HCQL.out hb7)
              clear hb7
              refine hK.out _ _ ⟨blk_cell HG7.out 0, blk_cell HG7.out 1, blk_cell HG7.out 2, blk_cell HG7.out 3, blk_frozen HG7.out 0, blk_frozen HG7.out 1, blk_frozen HG7.out 2, blk_frozen HG7.out 3, load_row HC7.out hl64 _ rfl⟩ (fun hHeld => ?_)
              clear hK K
              refine norm_ (a' := ?_) ?_ ?_
              rotate_left
              · show Act.put _ (some 65) _ = _
                simp only [Act.put, List.setIfInBounds_toArray, List.set_cons_zero, List.set_cons_succ, i64_w, i32_w]
                rfl
              refine last_ (i := 6) (N := none) #[true, true, true, true, true, true, true] rfl rfl (by kernel_rfl) (by decide) (fun K hK => ?_)
              refine skip_ (w1 := ?_) (by rfl) rfl ?_ ?_
              rotate_left
              · go_simp
                rfl
              refine hK.out _ _ ?_
              clear hK K
              refine done_ (by kernel_rfl) ?_

              go_wp2
              refine ⟨⟨_, c1 - 64, l.drop 64, (v0, v1', v2', v3), by rw [List.length_drop], by rw [List.length_drop]; omega, by rw [List.length_drop]; omega, ?_, ?_, ?_, (((HB7.out.setCell 0 _).setCell 1 _).setCell 2 _).setCell 3 _, ?_, by rw [List.length_drop]; omega⟩, ?_⟩
              · rw [List.length_drop]
                refine C_near ((((Near.refl b6 w7).setCell 0 _).setCell 1 _).setCell 2 _ |>.setCell 3 _) (C_tail 64 HC7L.out h64 (by omega) hlc) (fun ad he _ => ?_)
                split at he <;> (cases he; show bb ≠ b6; omega)
              · intro ad he _
                split at he <;> (cases he; exact hbb)
              · exact blk_put (blk_put (blk_put (blk_put HG7.out 0 _ rfl) 1 _ rfl) 2 _ rfl) 3 _ rfl
              · rw [HQR.out, HV.out]
                obtain ⟨m, hm⟩ : ∃ m, l.length = m + 1 := ⟨l.length - 1, by omega⟩
                rw [hm, eatV, if_pos h64]
                rw [eatV_fuel T S m (l.drop 64).length _ _ (by rw [List.length_drop]; omega) (Nat.le_refl _)]
              · show l.length - 64 < l.length
                omega
            · have hl0 : l = [] := List.eq_nil_of_length_eq_zero (by omega)
              have hfr : FR = (y0, y1, y2, y3) := by
                rw [HQR.out, hl0]
                rfl
              subst hfr
              have z1 := blk_cell HGR.out 0
              have z2 := blk_cell HGR.out 1
              have z3 := blk_cell HGR.out 2
              have z4 := blk_cell HGR.out 3
              simp only [cells4, List.getElem?_toArray, List.getElem?_cons_succ, List.getElem?_cons_zero] at z1 z2 z3 z4
              have q1 : decide (0 < (l.length : Int)) = false := decide_eq_false (by omega)
              obtain ⟨D, hD⟩ : ∃ D, D = digB (y0, y1, y2, y3) := ⟨_, rfl⟩
              have HDI := Lib.hid (fun W => (show Calls Try.prog 111 #[.agg #[.int .u32 y0, .int .u32 y1, .int .u32 y2, .int .u32 y3]] W fun e w' => e = .returned (.agg #[.int .u8 (D 0), .int .u8 (D 1), .int .u8 (D 2), .int .u8 (D 3), .int .u8 (D 4), .int .u8 (D 5), .int .u8 (D 6), .int .u8 (D 7), .int .u8 (D 8), .int .u8 (D 9), .int .u8 (D 10), .int .u8 (D 11), .int .u8 (D 12), .int .u8 (D 13), .int .u8 (D 14), .int .u8 (D 15)]) ∧ Below W.heap.size W w' from by
                have h := digest_calls y0 y1 y2 y3 W
                rw [← hD] at h
                exact h))
              have HD := Lib.hid hD
              clear hD hl0
              go_wp2_with fail
              refine (HDI.out wr).mono ?_
              rintro e wE ⟨rfl, hbE⟩
              have HXE := Lib.hid ((hbE.block w.heap.size (by have := HBR.out.size; omega)).trans ((HBR.out.block w.heap.size (by omega) (by omega)).trans HX6.out))
              have HBE := Lib.hid ((HBW.out.trans ((HB6.out.trans ((HBR.out.below (B := W0.heap.size) hb6le HB6.out.size).trans (hbE.mono (by have := HBR.out.size; have := HB6.out.size; omega)))).mono (by have := HSZ.out; omega))))
              clear hbE
              have c0 := (blk_cell HXE.out 0).trans (cellsN_at 16 _ 0 (by decide))
              have g0 := blk_frozen HXE.out 0
              have c1 := (blk_cell HXE.out 1).trans (cellsN_at 16 _ 1 (by decide))
              have g1 := blk_frozen HXE.out 1
              have c2 := (blk_cell HXE.out 2).trans (cellsN_at 16 _ 2 (by decide))
              have g2 := blk_frozen HXE.out 2
              have c3 := (blk_cell HXE.out 3).trans (cellsN_at 16 _ 3 (by decide))
              have g3 := blk_frozen HXE.out 3
              have c4 := (blk_cell HXE.out 4).trans (cellsN_at 16 _ 4 (by decide))
              have g4 := blk_frozen HXE.out 4
              have c5 := (blk_cell HXE.out 5).trans (cellsN_at 16 _ 5 (by decide))
              have g5 := blk_frozen HXE.out 5
              have c6 := (blk_cell HXE.out 6).trans (cellsN_at 16 _ 6 (by decide))
              have g6 := blk_frozen HXE.out 6
              have c7 := (blk_cell HXE.out 7).trans (cellsN_at 16 _ 7 (by decide))
              have g7 := blk_frozen HXE.out 7
              have c8 := (blk_cell HXE.out 8).trans (cellsN_at 16 _ 8 (by decide))
              have g8 := blk_frozen HXE.out 8
              have c9 := (blk_cell HXE.out 9).trans (cellsN_at 16 _ 9 (by decide))
              have g9 := blk_frozen HXE.out 9
              have c10 := (blk_cell HXE.out 10).trans (cellsN_at 16 _ 10 (by decide))
              have g10 := blk_frozen HXE.out 10
              have c11 := (blk_cell HXE.out 11).trans (cellsN_at 16 _ 11 (by decide))
              have g11 := blk_frozen HXE.out 11
              have c12 := (blk_cell HXE.out 12).trans (cellsN_at 16 _ 12 (by decide))
              have g12 := blk_frozen HXE.out 12
              have c13 := (blk_cell HXE.out 13).trans (cellsN_at 16 _ 13 (by decide))
              have g13 := blk_frozen HXE.out 13
              have c14 := (blk_cell HXE.out 14).trans (cellsN_at 16 _ 14 (by decide))
              have g14 := blk_frozen HXE.out 14
              have c15 := (blk_cell HXE.out 15).trans (cellsN_at 16 _ 15 (by decide))
              have g15 := blk_frozen HXE.out 15
              go_wp2
              have hp := put_mix 15 (by decide) (put_mix 14 (by decide) (put_mix 13 (by decide) (put_mix 12 (by decide) (put_mix 11 (by decide) (put_mix 10 (by decide) (put_mix 9 (by decide) (put_mix 8 (by decide) (put_mix 7 (by decide) (put_mix 6 (by decide) (put_mix 5 (by decide) (put_mix 4 (by decide) (put_mix 3 (by decide) (put_mix 2 (by decide) (put_mix 1 (by decide) (put_mix 0 (by decide) ((show wE.heap[w.heap.size]? = some (.cells (cellsN 16 (mix D (fun _ => 0) 0)) 108 (0, 0)) by rw [mix_none]; exact HXE.out)))))))))))))))))
              rw [mix_full] at hp
              rw [← HD.out]
              refine bodyPost_ret (results_single rfl (.cell w.heap.size 108 (cellsN 16 D) (0, 0) _ rfl hp Try.underlying108 rfl (by rw [cellsN_size]; kernel_rfl) .nil)) rfl ?_
              exact ⟨rfl, Below.setCell (Below.setCell (Below.setCell (Below.setCell (Below.setCell (Below.setCell (Below.setCell (Below.setCell (Below.setCell (Below.setCell (Below.setCell (Below.setCell (Below.setCell (Below.setCell (Below.setCell (Below.setCell (HBE.out) (p := ⟨w.heap.size, 0, none⟩) (Nat.le_refl _) (.int .u8 (D 0))) (p := ⟨w.heap.size, 1, none⟩) (Nat.le_refl _) (.int .u8 (D 1))) (p := ⟨w.heap.size, 2, none⟩) (Nat.le_refl _) (.int .u8 (D 2))) (p := ⟨w.heap.size, 3, none⟩) (Nat.le_refl _) (.int .u8 (D 3))) (p := ⟨w.heap.size, 4, none⟩) (Nat.le_refl _) (.int .u8 (D 4))) (p := ⟨w.heap.size, 5, none⟩) (Nat.le_refl _) (.int .u8 (D 5))) (p := ⟨w.heap.size, 6, none⟩) (Nat.le_refl _) (.int .u8 (D 6))) (p := ⟨w.heap.size, 7, none⟩) (Nat.le_refl _) (.int .u8 (D 7))) (p := ⟨w.heap.size, 8, none⟩) (Nat.le_refl _) (.int .u8 (D 8))) (p := ⟨w.heap.size, 9, none⟩) (Nat.le_refl _) (.int .u8 (D 9))) (p := ⟨w.heap.size, 10, none⟩) (Nat.le_refl _) (.int .u8 (D 10))) (p := ⟨w.heap.size, 11, none⟩) (Nat.le_refl _) (.int .u8 (D 11))) (p := ⟨w.heap.size, 12, none⟩) (Nat.le_refl _) (.int .u8 (D 12))) (p := ⟨w.heap.size, 13, none⟩) (Nat.le_refl _) (.int .u8 (D 13))) (p := ⟨w.heap.size, 14, none⟩) (Nat.le_refl _) (.int .u8 (D 14))) (p := ⟨w.heap.size, 15, none⟩) (Nat.le_refl _) (.int .u8 (D 15))⟩
    · have q1 : ((((l.length % 64 : Nat) : Int)) == 56) = false := beq_eq_false_iff_ne.2 (by omega)
      have q3 : ¬ ((((l.length % 64 : Nat) : Int)) = 56) := by omega
      obtain ⟨md, hmd⟩ : ∃ md : Int, md = ((l.length % 64 : Nat) : Int) := ⟨_, rfl⟩
      rw [← hmd] at hm hm2 q1 q3
      have q4 : (md != 56) = true := bne_iff_ne.2 q3
      clear hmd
      go_wp2_with (at_builtin; refine print_append_row (w0 := wr.alloc (.cells #[.int .u8 0] 5)) W0.heap.size rfl (.tmp 30) (.tmp 31) 73 5 .u8 1 rfl Try.underlying73 info5 (by decide) _ l [(0 : Int)] _ 1 _ rfl rfl ?ho ?hr ?hb ?hbase ?hl ?_)
      case ho => exact HO.out.alloc _
      case hr => exact reads_lit _ 5 .u8 [(0 : Int)] (by simp)
      case hb => exact Below.refl _ _
      case hbase => rw [World.size_alloc]; omega
      case hl => exact (by simp; omega)
      intro v4 w4 how4 hbw4 hgw4 hatw4
      have HOw4 := Lib.hid (show w4.ownsRow W0.heap.size 5 1 v4 (l ++ [(0 : Int)]).length (nums .u8 (l ++ [(0 : Int)])) by simpa [hrl] using how4)
      have HB4 := Lib.hid ((HB.out.alloc hz (.cells #[.int .u8 0] 5)).trans hbw4)
      clear how4 hbw4 hgw4 hatw4
      obtain ⟨A4, c4, rfl⟩ := own_slice HOw4.out
      go_wp2
      refine ⟨⟨l ++ [0], HOw4.out, HB4.out, ?_, ?_, ?_⟩, ?_⟩
      · rw [← HP.out]
        have h120 : l.length < 120 := by
          rcases Nat.lt_or_ge l.length 120 with h | h
          · exact h
          · exact absurd (show l.length % 64 = 56 by rw [show l.length = 120 by omega]) h56
        obtain ⟨m, hm⟩ : ∃ m, 120 - l.length = m + 1 := ⟨119 - l.length, by omega⟩
        rw [hm, padZ, if_neg h56, show 120 - (l ++ [(0 : Int)]).length = m by simp; omega]
      · have h120 : l.length ≠ 120 := fun h => h56 (by rw [h])
        simp
        omega
      · simp
      · have h120 : l.length ≠ 120 := fun h => h56 (by rw [h])
        show 120 - (l ++ [(0 : Int)]).length < 120 - l.length
        simp
        omega
end Go.Proofs.Yticjpjgfccbhlaa.Hash
