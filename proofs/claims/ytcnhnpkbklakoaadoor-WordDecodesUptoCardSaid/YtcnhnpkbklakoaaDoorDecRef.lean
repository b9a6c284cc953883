/- posthornref17.Decode by contract: over the list of words and gaps. -/
import Derived.Test.YtcnhnpkbklakoaaDoorRefParts
namespace Go.Proofs.YtcnhnpkbklakoaaDoor.Word
open Go.RowKit Go.Shelf Go.Proofs.YtcnhnpkbklakoaaDoorW.PrintWords Go.Proofs.YtcnhnpkbklakoaaDoorW.PrintLast Go.Proofs.YtcnhnpkbklakoaaDoorW.PrintMore Go.Proofs.YtcnhnpkbklakoaaDoor.PWordDecodes
open Go.Proofs.YtcnhnpkbklakoaaDoor.Code Go.Proofs.YtcnhnpkbklakoaaDoor.Runes Go.Proofs.YtcnhnpkbklakoaaDoor.Pieces Go.Proofs.YtcnhnpkbklakoaaDoor.Unhex
attribute [local go_sem] max2_int min2_int max_two min_two max_three min_three max_four min_four
set_option linter.unusedVariables false
set_option linter.unusedSimpArgs false
/-- is there an encoded word at a place of the list? -/
def isAt (L : List Pt) (j : Nat) : Bool := match L[j]? with
  | some p => isP p
  | none => false
def betw (L : List Pt) (j : Nat) (p : Pt) : Bool := p.gap && decide (0 < j) && isAt L (j - 1) && isAt L (j + 1)
/-- Decode over the list -/
def decL (L : List Pt) : List Pt → Nat → ByteArray → ByteArray × Int × Int
  | [], _, o => (o, 0, 0)
  | p :: r, j, o =>
    if isP p = false then (if betw L j p = true then decL L r (j + 1) o else decL L r (j + 1) (o ++ p.text)) else
    if (meansV (cutV p.text).1 []).2.1 = false then (E0, 171, (p.pos : Int) + 2) else
    if 0 ≤ (bytesV (cutV p.text).2.1 (cutV p.text).2.2.1).2 then
      (E0, 170, (p.pos : Int) + (((cutV p.text).1.size : Int) + 5 + (bytesV (cutV p.text).2.1 (cutV p.text).2.2.1).2)) else
    if (meansV (cutV p.text).1 (u8s (bytesV (cutV p.text).2.1 (cutV p.text).2.2.1).1)).2.2 = false then
      (E0, 170, (p.pos : Int) + (((cutV p.text).1.size : Int) + 5)) else
    decL L r (j + 1) (o ++ (meansV (cutV p.text).1 (u8s (bytesV (cutV p.text).2.1 (cutV p.text).2.2.1).1)).1)
theorem segs_pos (s : ByteArray) : ∀ (d i : Nat), i ≤ s.size → ∀ p ∈ segs s d i, p.pos ≤ s.size
  | 0, i, _, p, h => by cases h
  | d + 1, i, hi, p, h => by
    have hla := at_le s i hi
    rw [segs] at h
    split at h
    · rcases List.mem_append.1 h with h | h
      · rcases List.mem_append.1 h with h | h
        · split at h
          · simp at h; subst h; show i ≤ _; omega
          · cases h
        · split at h
          · simp at h; subst h; show wAt s i ≤ _; omega
          · cases h
      · exact segs_pos s d _ hla.2.2 p h
    · cases h
theorem means_known (ch : ByteArray) (b : List UInt8) : (meansV ch b).2.1 = (meansV ch []).2.1 := by
  rw [Bool.eq_iff_iff, known_iff, known_iff]
/-- the third condition of Decode, by the three names -/
theorem names_three (N : ByteArray) : ((N.toList = [117, 116, 102, 45, 56] ∨ N.toList = [117, 115, 45, 97, 115, 99, 105, 105] ∨ N.toList = [105, 115, 111, 45, 56, 56, 53, 57, 45, 49]) ∨ (¬ N.toList = [117, 116, 102, 45, 56] ∧ ¬ N.toList = [117, 115, 45, 97, 115, 99, 105, 105] ∧ ¬ N.toList = [105, 115, 111, 45, 56, 56, 53, 57, 45, 49])) := by
  by_cases h1 : N.toList = [117, 116, 102, 45, 56]
  · exact Or.inl (Or.inl h1)
  · by_cases h2 : N.toList = [117, 115, 45, 97, 115, 99, 105, 105]
    · exact Or.inl (Or.inr (Or.inl h2))
    · by_cases h3 : N.toList = [105, 115, 111, 45, 56, 56, 53, 57, 45, 49]
      · exact Or.inl (Or.inr (Or.inr h3))
      · exact Or.inr ⟨h1, h2, h3⟩
set_option maxHeartbeats 16000000 in
set_option maxRecDepth 100000 in
theorem refdecode_calls (s : ByteArray) (w : World) (hs : s.size ≤ 100000000) :
    Calls Tryd.prog 15 #[.string s] w fun e w' => e = .returned (.tuple #[.string (decL (splitV s) (splitV s) 0 ⟨#[]⟩).1, .agg #[.int .i64 (decL (splitV s) (splitV s) 0 ⟨#[]⟩).2.1, .int .i64 (decL (splitV s) (splitV s) 0 ⟨#[]⟩).2.2]]) ∧ Below w.heap.size w w' := by
  have hu25 := Tryd.underlying25
  have hu59 := Tryd.underlying59
  obtain ⟨W0, hW0⟩ : ∃ W0, W0 = w.alloc (.cells #[.int .i64 0, .int .i64 0] 25) := ⟨_, rfl⟩
  have hsz : W0.heap.size = w.heap.size + 1 := by rw [hW0]; simp
  have hbox : W0.heap[w.heap.size]? = some (.cells #[.int .i64 0, .int .i64 0] 25 (0, 0)) := by rw [hW0]; exact heap_alloc_new w _
  have hBw : Below w.heap.size w W0 := by rw [hW0]; exact (Below.refl _ _).alloc (Nat.le_refl _) _
  have HX := Lib.hid hbox
  have HBW := Lib.hid hBw
  have HSZ := Lib.hid hsz
  have HSP := Lib.hid (split_calls s W0 (by omega))
  have htx : ∀ p ∈ splitV s, p.text.size ≤ s.size := by rw [splitV_segs]; exact segs_size s s.size 0
  have hps : ∀ p ∈ splitV s, p.pos ≤ s.size := by rw [splitV_segs]; exact segs_pos s s.size 0 (by omega)
  have hln := splitV_len s
  obtain ⟨L, hL⟩ : ∃ L, splitV s = L := ⟨_, rfl⟩
  rw [hL] at HSP htx hps hln ⊢
  obtain ⟨R, hR⟩ : ∃ R, R = decL L L 0 ⟨#[]⟩ := ⟨_, rfl⟩
  rw [← hR]
  obtain ⟨r0, r1, r2⟩ := R
  have HR := Lib.hid hR
  have HTX := Lib.hid htx
  have HPS := Lib.hid hps
  have HW0 := Lib.hid hW0
  obtain ⟨n, hn⟩ : ∃ n, n = L.length := ⟨_, rfl⟩
  rw [← hn] at HSP hln
  have HN := Lib.hid hn
  clear hbox hBw hsz hR hL htx hps hW0 hn
  go_enter Tryd.func15, Tryd.ntmps15
  go_wp2_with fail
  rw [← HW0.out]
  refine HSP.out.mono ?_
  rintro e w1 ⟨V, rfl, ho, hb1⟩
  obtain ⟨A, cp, rfl⟩ := own_slice ho
  have HO := Lib.hid ho
  have HB1 := Lib.hid hb1
  have hz1 := hb1.size
  have HX1 := Lib.hid ((hb1.block w.heap.size (by have := HSZ.out; omega)).trans HX.out)
  clear ho hb1
  go_wp2
  go_loopw [4, 23] (fun o v wr => ∃ (j : Nat) (t : ByteArray), j ≤ n ∧ v = .int .i64 j ∧ o = .string t ∧ (r0, r1, r2) = decL L (L.drop j) j t ∧ Below w1.heap.size w1 wr ∧ t.size ≤ 1200000000 * j) (fun _ v _ => n - (intOf v).toNat)
  case atStart => exact ⟨0, ⟨#[]⟩, by omega, rfl, rfl, HR.out, Below.refl _ _, by decide⟩
  case round =>
    obtain ⟨j, t, hj, rfl, rfl, hg, hB, hts⟩ := hrel
    have HG := Lib.hid hg
    have HB := Lib.hid hB
    have hzr := hB.size
    clear hg hB
    by_cases hjn : j < n
    · obtain ⟨p, hp⟩ : ∃ p, L[j]? = some p := ⟨_, List.getElem?_eq_getElem (by have := HN.out; omega)⟩
      have htx := HTX.out p (List.mem_of_getElem? hp)
      have hpp := HPS.out p (List.mem_of_getElem? hp)
      obtain ⟨g, cap, heq, _, hglt⟩ := HO.out.form (by omega)
      cases heq
      have CA : ∀ (i : Nat) (q : Pt), L[i]? = some q → i < n → ∀ (W : World), Below w1.heap.size w1 W → W.cell? ⟨g, i * 3, none⟩ = some (.int .i64 (q.pos : Int)) ∧ W.cell? ⟨g, i * 3 + 1, none⟩ = some (.string q.text) ∧ W.cell? ⟨g, i * 3 + 2, none⟩ = some (.bool q.gap) := by
        intro i q hq hi W hW
        have hc := cells3_get L i q hq
        have ca : ∀ z, z < 3 → W.cell? ⟨g, i * 3 + z, none⟩ = (cellsP q)[z]? := fun z hz => by
          rw [← hc z hz, hW.cell (by exact hglt)]
          exact HO.out.cellAt (i * 3 + z) (by omega)
        exact ⟨ca 0 (by omega), ca 1 (by omega), ca 2 (by omega)⟩
      have HCA := Lib.hid CA
      clear CA
      obtain ⟨c0, c1, c2⟩ := HCA.out j p hp hjn wr HB.out
      have hdrop : L.drop j = p :: L.drop (j + 1) := by
        obtain ⟨hj', rfl⟩ := List.getElem?_eq_some_iff.1 hp
        exact List.drop_eq_getElem_cons hj'
      have hg2 := HG.out
      rw [hdrop, decL] at hg2
      have HG2 := Lib.hid hg2
      have HIS := Lib.hid (fun W => is_calls p (by omega) W)
      obtain ⟨b, hb⟩ : ∃ b, b = isP p := ⟨_, rfl⟩
      have HBP := Lib.hid hb
      rw [← hb] at HIS
      obtain ⟨pos, text, gap⟩ := p
      simp only at c0 c1 c2 htx hpp
      have HB2 := Lib.hid (HB.out.alloc hzr (.cells #[.int .i64 (pos : Int), .string text, .bool gap] 59))
      have hz2 : wr.heap.size < (wr.alloc (.cells #[.int .i64 (pos : Int), .string text, .bool gap] 59)).heap.size := by simp
      clear hdrop hb hg2
      go_wp2_with fail
      refine (HIS.out _).mono ?_
      rintro e w3 ⟨rfl, hb3⟩
      have H73 := Lib.hid ((hb3.block wr.heap.size hz2).trans (heap_alloc_new wr (.cells #[.int .i64 (pos : Int), .string text, .bool gap] 59)))
      have HB3 := Lib.hid (HB2.out.trans (hb3.mono HB2.out.size))
      have hz3 := HB3.out.size
      clear hb3
      obtain ⟨b7, hb7⟩ : ∃ b7, b7 = wr.heap.size := ⟨_, rfl⟩
      rw [← hb7] at H73 ⊢
      clear hb7 hz2
      have x0 := blk_cell H73.out 0
      have x1 := blk_cell H73.out 1
      have x2 := blk_cell H73.out 2
      simp only [List.getElem?_toArray, List.getElem?_cons_succ, List.getElem?_cons_zero] at x0 x1 x2
      cases b
      · cases gap
        · have hbw : betw L j ⟨pos, text, false⟩ = false := rfl
          have HF := Lib.hid (show (r0, r1, r2) = decL L (L.drop (j + 1)) (j + 1) (t ++ text) by
            have := HG2.out
            rw [if_pos HBP.out.symm, hbw, if_neg (by decide)] at this
            exact this)
          have u1 : (9223372036854775807 < t.size + text.size) = False := eq_false (by omega)
          clear HG2 hbw
          go_wp2
          go_roundw
          case rel => exact ⟨j + 1, t ++ text, by omega, by go_num, rfl, HF.out, HB3.out, by rw [ByteArray.size_append]; omega⟩
          case measure => simp [intOf]; omega
        · have HF0 : betw L j ⟨pos, text, true⟩ = false → Hid ((r0, r1, r2) = decL L (L.drop (j + 1)) (j + 1) (t ++ text)) := fun h => Lib.hid (by
            have := HG2.out
            rw [if_pos HBP.out.symm, h, if_neg (by decide)] at this
            exact this)
          have HF1 : betw L j ⟨pos, text, true⟩ = true → Hid ((r0, r1, r2) = decL L (L.drop (j + 1)) (j + 1) t) := fun h => Lib.hid (by
            have := HG2.out
            rw [if_pos HBP.out.symm, h, if_pos rfl] at this
            exact this)
          have u1 : (9223372036854775807 < t.size + text.size) = False := eq_false (by omega)
          by_cases h0 : j = 0
          · have HF := HF0 (by unfold betw; rw [h0]; rfl)
            have q1 : decide ((0 : Int) < (j : Int)) = false := decide_eq_false (by omega)
            clear HF0 HF1 HG2
            go_wp2
            go_roundw
            case rel => exact ⟨j + 1, t ++ text, by omega, by go_num, rfl, HF.out, HB3.out, by rw [ByteArray.size_append]; omega⟩
            case measure => simp [intOf]; omega
          · obtain ⟨i, hi⟩ : ∃ i, i + 1 = j := ⟨j - 1, by omega⟩
            have q1 : decide ((0 : Int) < (j : Int)) = true := decide_eq_true (by omega)
            have hji : j - 1 = i := by omega
            by_cases h1 : j + 1 < n
            · have q3 : decide ((j : Int) + 1 < (n : Int)) = true := decide_eq_true (by omega)
              obtain ⟨p0, hp0⟩ : ∃ p, L[i]? = some p := ⟨_, List.getElem?_eq_getElem (by have := HN.out; omega)⟩
              obtain ⟨p1, hp1⟩ : ∃ p, L[j + 1]? = some p := ⟨_, List.getElem?_eq_getElem (by have := HN.out; omega)⟩
              have htx0 := HTX.out p0 (List.mem_of_getElem? hp0)
              have htx1 := HTX.out p1 (List.mem_of_getElem? hp1)
              have hin : i < n := by omega
              have e0 : betw L j ⟨pos, text, true⟩ = (isP p0 && isP p1) := by
                unfold betw isAt
                rw [hji, hp0, hp1, decide_eq_true (show 0 < j by omega)]
                rfl
              have HI0 := Lib.hid (fun W => is_calls p0 (by omega) W)
              have HI1 := Lib.hid (fun W => is_calls p1 (by omega) W)
              obtain ⟨b0, hb0⟩ : ∃ b, b = isP p0 := ⟨_, rfl⟩
              obtain ⟨b1, hb1⟩ : ∃ b, b = isP p1 := ⟨_, rfl⟩
              rw [← hb0] at HI0 e0
              rw [← hb1] at HI1 e0
              have HP1 := Lib.hid hp1
              obtain ⟨d0, d1, d2⟩ := HCA.out i p0 hp0 hin w3 HB3.out
              obtain ⟨pos0, text0, gap0⟩ := p0
              simp only at d0 d1 d2
              clear hp0 hp1 hb0 hb1 htx0 htx1
              go_wp2_with fail
              refine (HI0.out _).mono ?_
              rintro e w4 ⟨rfl, hb4⟩
              have HB4 := Lib.hid (HB3.out.trans (hb4.mono hz3))
              have H74 := Lib.hid ((hb4.block b7 (blk_lt H73.out)).trans H73.out)
              clear hb4 d0 d1 d2 x0 x1 x2
              have hz4 := HB4.out.size
              have x0 := blk_cell H74.out 0
              have x1 := blk_cell H74.out 1
              have x2 := blk_cell H74.out 2
              simp only [List.getElem?_toArray, List.getElem?_cons_succ, List.getElem?_cons_zero] at x0 x1 x2
              cases b0
              · have HF := HF0 e0
                clear HF0 HF1 HG2
                go_wp2
                go_roundw
                case rel => exact ⟨j + 1, t ++ text, by omega, by go_num, rfl, HF.out, HB4.out, by rw [ByteArray.size_append]; omega⟩
                case measure => simp [intOf]; omega
              · obtain ⟨d0, d1, d2⟩ := HCA.out (j + 1) p1 HP1.out h1 w4 HB4.out
                obtain ⟨pos1, text1, gap1⟩ := p1
                simp only at d0 d1 d2
                go_wp2_with fail
                refine (HI1.out _).mono ?_
                rintro e w5 ⟨rfl, hb5⟩
                have HB5 := Lib.hid (HB4.out.trans (hb5.mono hz4))
                have H75 := Lib.hid ((hb5.block b7 (blk_lt H74.out)).trans H74.out)
                clear hb5 d0 d1 d2 x0 x1 x2
                have x0 := blk_cell H75.out 0
                have x1 := blk_cell H75.out 1
                have x2 := blk_cell H75.out 2
                simp only [List.getElem?_toArray, List.getElem?_cons_succ, List.getElem?_cons_zero] at x0 x1 x2
                cases b1
                · have HF := HF0 e0
                  clear HF0 HF1 HG2
                  go_wp2
                  go_roundw
                  case rel => exact ⟨j + 1, t ++ text, by omega, by go_num, rfl, HF.out, HB5.out, by rw [ByteArray.size_append]; omega⟩
                  case measure => simp [intOf]; omega
                · have HF := HF1 e0
                  clear HF0 HF1 HG2
                  go_wp2
                  go_roundw
                  case rel => exact ⟨j + 1, t, by omega, by go_num, rfl, HF.out, HB5.out, by omega⟩
                  case measure => simp [intOf]; omega
            · have q3 : decide ((j : Int) + 1 < (n : Int)) = false := decide_eq_false (by omega)
              have e0 : betw L j ⟨pos, text, true⟩ = false := by
                unfold betw isAt
                rw [List.getElem?_eq_none (show L.length ≤ j + 1 by have := HN.out; omega), Bool.and_false]
              have HF := HF0 e0
              clear HF0 HF1 HG2
              go_wp2
              go_roundw
              case rel => exact ⟨j + 1, t ++ text, by omega, by go_num, rfl, HF.out, HB3.out, by rw [ByteArray.size_append]; omega⟩
              case measure => simp [intOf]; omega
      · have hip : isP ⟨pos, text, gap⟩ = true := HBP.out.symm
        have hcut : (cutV text).2.2.2 = true := by
          unfold isP at hip
          rw [Bool.and_eq_true] at hip
          exact hip.1
        obtain ⟨C, hC⟩ : ∃ C, C = cutV text := ⟨_, rfl⟩
        have hg := HG2.out
        rw [if_neg (by rw [hip]; decide)] at hg
        try simp only at hg
        rw [← hC] at hg hcut
        obtain ⟨k0, k1, k2, k3⟩ := C
        simp only at hcut hg
        subst hcut
        obtain ⟨hk0, hk2, c, rfl, hcc⟩ := cutV_props text k0 k1 k2 hC
        have HPA := Lib.hid (fun W => refparts_calls text k0 ⟨#[c]⟩ k2 hC (by omega) W)
        have HNM := Lib.hid (fun W => name_calls k0 W (by omega))
        obtain ⟨N, hN⟩ : ∃ N, N = nameR k0 := ⟨_, rfl⟩
        rw [← hN] at HNM
        have hkn := known_iff k0 []
        rw [← hN] at hkn
        have hn3 := names_three N
        obtain ⟨M, hM⟩ : ∃ M, M = (meansV k0 []).2.1 := ⟨_, rfl⟩
        rw [← hM] at hg hkn
        have HM := Lib.hid hM
        have HG3 := Lib.hid hg
        have HCC := Lib.hid hcc
        clear hip hC hg hN hM c0 c1 c2 HG2 HBP hcc HIS
        go_wp2_with fail
        refine (HPA.out _).mono ?_
        rintro e w4 ⟨rfl, hb4⟩
        have HB4 := Lib.hid (HB3.out.trans (hb4.mono hz3))
        have H74 := Lib.hid ((hb4.block b7 (blk_lt H73.out)).trans H73.out)
        clear hb4 x0 x1 x2
        have hz4 := HB4.out.size
        go_wp2_with fail
        refine (HNM.out _).mono ?_
        rintro e w5 ⟨rfl, hb5⟩
        have HB5 := Lib.hid (HB4.out.trans (hb5.mono hz4))
        have H75 := Lib.hid ((hb5.block b7 (blk_lt H74.out)).trans H74.out)
        clear hb5
        have hz5 := HB5.out.size
        have x0 := blk_cell H75.out 0
        simp only [List.getElem?_toArray, List.getElem?_cons_succ, List.getElem?_cons_zero] at x0
        rcases hn3 with hn3 | ⟨n1, n2, n3⟩
        · have hMt : M = true := hkn.2 hn3
          subst hMt
          have hg := HG3.out
          rw [if_neg (by decide)] at hg
          have HG4 := Lib.hid hg
          have HMK := Lib.hid (show ∀ b, (meansV k0 b).2.1 = true from fun b => by rw [means_known, ← HM.out])
          have HBY := Lib.hid (fun W => refbytes_calls k2 c HCC.out W (by omega))
          obtain ⟨hbl, hbn, hbw⟩ := bytesV_props ⟨#[c]⟩ k2
          obtain ⟨BV, hBV⟩ : ∃ BV, BV = bytesV ⟨#[c]⟩ k2 := ⟨_, rfl⟩
          rw [← hBV] at hbl hbn hbw HBY hg
          obtain ⟨bl, bw⟩ := BV
          simp only at hbl hbn hbw hg
          have HG4 := Lib.hid hg
          have HBL := Lib.hid hbl
          have HBWR := Lib.hid hbw
          clear hg hbl hbw hBV HG3 HM HCC hkn
          obtain ⟨M2, hM2⟩ : ∃ M2, M2 = meansV k0 (u8s bl) := ⟨_, rfl⟩
          have hg := HG4.out
          rw [← hM2] at hg
          obtain ⟨t0, t1, t2⟩ := M2
          simp only at hg
          have ht0 : t0.size ≤ 4 * bl.length := by
            have := meansV_size k0 (u8s bl)
            rw [← hM2, u8s_length] at this
            exact this
          have HM2 := Lib.hid hM2
          have HGO := Lib.hid hg
          have u1 : (9223372036854775807 < t.size + t0.size) = False := eq_false (by omega)
          clear hg hM2 HG4
          rcases hn3 with n1 | n2 | n3
          · have v1 : (N.toList == [117, 116, 102, 45, 56]) = true := by rw [n1]; rfl
            go_wp2_with fail
            refine (HBY.out _).mono ?_
            rintro e w6 ⟨V, rfl, ho6, hb6⟩
            obtain ⟨A, cp6, rfl, hcp, hC6⟩ := own_C rfl ho6
            have HB6 := Lib.hid (HB5.out.trans (hb6.mono hz5))
            have hz6 := HB6.out.size
            have HC6 := Lib.hid (show Kd.C (Kd.int .u8) w6 A bl.length (natsOf (u8s bl)) by
              rw [natsOf_u8s HBL.out]
              exact hC6)
            clear ho6 hb6 hC6 x0
            by_cases hw : 0 ≤ bw
            · have hg := HGO.out
              rw [if_pos hw] at hg
              have h0 := (show r0 = ⟨#[]⟩ from congrArg (·.1) hg)
              have h1 := (show r1 = 170 from congrArg (·.2.1) hg)
              have h2' := (show r2 = (pos : Int) + ((k0.size : Int) + 5 + bw) from congrArg (·.2.2) hg)
              have h2 : r2 = (pos : Int) + 2 + (k0.size : Int) + 3 + bw := by omega
              have hbw2 : bw ≤ k2.size := by rcases HBWR.out with h | h <;> omega
              have q9 : decide (0 ≤ bw) = true := decide_eq_true hw
              clear h2' hg HGO
              subst h0 h1 h2
              have hX6 := (HB6.out.block w.heap.size (by have := HSZ.out; omega)).trans HX1.out
              have e0 := blk_cell hX6 0
              have e1 := blk_cell hX6 1
              have f0 := blk_frozen hX6 0
              have f1 := blk_frozen hX6 1
              have HX6 := Lib.hid hX6
              have HBZ := Lib.hid (HBW.out.trans ((HB1.out.trans (HB6.out.mono hz1)).mono (by have := HSZ.out; omega)))
              clear hX6
              go_wp2
              refine bodyPost_ret (results_list (rs := [.tmp 2, .cell 3 25]) rfl (by simp) (.tmp (.cell w.heap.size 25 #[.int .i64 (170), .int .i64 ((pos : Int) + 2 + (k0.size : Int) + 3 + bw)] (0, 0) _ rfl (blk_put (blk_put HX6.out 0 (.int .i64 (170)) rfl) 1 (.int .i64 ((pos : Int) + 2 + (k0.size : Int) + 3 + bw)) rfl) Tryd.underlying25 rfl (by kernel_rfl) .nil))) rfl ?_
              exact ⟨rfl, (HBZ.out.setCell (p := ⟨w.heap.size, 0, none⟩) (Nat.le_refl _) _).setCell (p := ⟨w.heap.size, 1, none⟩) (Nat.le_refl _) _⟩
            · have hg := HGO.out
              rw [if_neg hw] at hg
              have HG5 := Lib.hid hg
              have q9 : decide (0 ≤ bw) = false := decide_eq_false hw
              clear hg HGO
              go_wp2_with fail
              refine (refmeans_calls k0 A cp6 bl.length (u8s bl) (u8s_length bl) w6 HC6.out hcp (by omega) (by omega) (HMK.out _)).mono ?_
              rintro e w7 ⟨X, rfl, hX, hb7'⟩
              rw [← HM2.out] at hX ⊢
              have HB7 := Lib.hid (HB6.out.trans (hb7'.mono hz6))
              have hz7 := HB7.out.size
              clear hb7'
              simp only at hX
              cases t2
              · have hg := HG5.out
                rw [if_pos rfl] at hg
                have h0 := (show r0 = ⟨#[]⟩ from congrArg (·.1) hg)
                have h1 := (show r1 = 170 from congrArg (·.2.1) hg)
                have h2' := (show r2 = (pos : Int) + ((k0.size : Int) + 5) from congrArg (·.2.2) hg)
                have h2 : r2 = (pos : Int) + 2 + (k0.size : Int) + 3 := by omega
                clear h2' hg HG5 hX
                subst h0 h1 h2
                have hX6 := (HB7.out.block w.heap.size (by have := HSZ.out; omega)).trans HX1.out
                have e0 := blk_cell hX6 0
                have e1 := blk_cell hX6 1
                have f0 := blk_frozen hX6 0
                have f1 := blk_frozen hX6 1
                have HX6 := Lib.hid hX6
                have HBZ := Lib.hid (HBW.out.trans ((HB1.out.trans (HB7.out.mono hz1)).mono (by have := HSZ.out; omega)))
                clear hX6
                go_wp2
                refine bodyPost_ret (results_list (rs := [.tmp 2, .cell 3 25]) rfl (by simp) (.tmp (.cell w.heap.size 25 #[.int .i64 (170), .int .i64 ((pos : Int) + 2 + (k0.size : Int) + 3)] (0, 0) _ rfl (blk_put (blk_put HX6.out 0 (.int .i64 (170)) rfl) 1 (.int .i64 ((pos : Int) + 2 + (k0.size : Int) + 3)) rfl) Tryd.underlying25 rfl (by kernel_rfl) .nil))) rfl ?_
                exact ⟨rfl, (HBZ.out.setCell (p := ⟨w.heap.size, 0, none⟩) (Nat.le_refl _) _).setCell (p := ⟨w.heap.size, 1, none⟩) (Nat.le_refl _) _⟩
              · have hg := HG5.out
                rw [if_neg (by decide)] at hg
                have HF := Lib.hid (show (r0, r1, r2) = decL L (L.drop (j + 1)) (j + 1) (t ++ t0) from hg)
                obtain rfl : X = t0 := hX rfl
                clear hg HG5 hX
                go_wp2
                go_roundw
                case rel => exact ⟨j + 1, t ++ X, by omega, by go_num, rfl, HF.out, HB7.out, by rw [ByteArray.size_append]; omega⟩
                case measure => simp [intOf]; omega
          · have n1 : ¬ N.toList = [117, 116, 102, 45, 56] := by rw [n2]; decide
            have v1 : (N.toList == [117, 116, 102, 45, 56]) = false := by rw [n2]; rfl
            have v2 : (N.toList == [117, 115, 45, 97, 115, 99, 105, 105]) = true := by rw [n2]; rfl
            go_wp2_with fail
            refine (HBY.out _).mono ?_
            rintro e w6 ⟨V, rfl, ho6, hb6⟩
            obtain ⟨A, cp6, rfl, hcp, hC6⟩ := own_C rfl ho6
            have HB6 := Lib.hid (HB5.out.trans (hb6.mono hz5))
            have hz6 := HB6.out.size
            have HC6 := Lib.hid (show Kd.C (Kd.int .u8) w6 A bl.length (natsOf (u8s bl)) by
              rw [natsOf_u8s HBL.out]
              exact hC6)
            clear ho6 hb6 hC6 x0
            by_cases hw : 0 ≤ bw
            · have hg := HGO.out
              rw [if_pos hw] at hg
              have h0 := (show r0 = ⟨#[]⟩ from congrArg (·.1) hg)
              have h1 := (show r1 = 170 from congrArg (·.2.1) hg)
              have h2' := (show r2 = (pos : Int) + ((k0.size : Int) + 5 + bw) from congrArg (·.2.2) hg)
              have h2 : r2 = (pos : Int) + 2 + (k0.size : Int) + 3 + bw := by omega
              have hbw2 : bw ≤ k2.size := by rcases HBWR.out with h | h <;> omega
              have q9 : decide (0 ≤ bw) = true := decide_eq_true hw
              clear h2' hg HGO
              subst h0 h1 h2
              have hX6 := (HB6.out.block w.heap.size (by have := HSZ.out; omega)).trans HX1.out
              have e0 := blk_cell hX6 0
              have e1 := blk_cell hX6 1
              have f0 := blk_frozen hX6 0
              have f1 := blk_frozen hX6 1
              have HX6 := Lib.hid hX6
              have HBZ := Lib.hid (HBW.out.trans ((HB1.out.trans (HB6.out.mono hz1)).mono (by have := HSZ.out; omega)))
              clear hX6
              go_wp2
              refine bodyPost_ret (results_list (rs := [.tmp 2, .cell 3 25]) rfl (by simp) (.tmp (.cell w.heap.size 25 #[.int .i64 (170), .int .i64 ((pos : Int) + 2 + (k0.size : Int) + 3 + bw)] (0, 0) _ rfl (blk_put (blk_put HX6.out 0 (.int .i64 (170)) rfl) 1 (.int .i64 ((pos : Int) + 2 + (k0.size : Int) + 3 + bw)) rfl) Tryd.underlying25 rfl (by kernel_rfl) .nil))) rfl ?_
              exact ⟨rfl, (HBZ.out.setCell (p := ⟨w.heap.size, 0, none⟩) (Nat.le_refl _) _).setCell (p := ⟨w.heap.size, 1, none⟩) (Nat.le_refl _) _⟩
            · have hg := HGO.out
              rw [if_neg hw] at hg
              have HG5 := Lib.hid hg
              have q9 : decide (0 ≤ bw) = false := decide_eq_false hw
              clear hg HGO
              go_wp2_with fail
              refine (refmeans_calls k0 A cp6 bl.length (u8s bl) (u8s_length bl) w6 HC6.out hcp (by omega) (by omega) (HMK.out _)).mono ?_
              rintro e w7 ⟨X, rfl, hX, hb7'⟩
              rw [← HM2.out] at hX ⊢
              have HB7 := Lib.hid (HB6.out.trans (hb7'.mono hz6))
              have hz7 := HB7.out.size
              clear hb7'
              simp only at hX
              cases t2
              · have hg := HG5.out
                rw [if_pos rfl] at hg
                have h0 := (show r0 = ⟨#[]⟩ from congrArg (·.1) hg)
                have h1 := (show r1 = 170 from congrArg (·.2.1) hg)
                have h2' := (show r2 = (pos : Int) + ((k0.size : Int) + 5) from congrArg (·.2.2) hg)
                have h2 : r2 = (pos : Int) + 2 + (k0.size : Int) + 3 := by omega
                clear h2' hg HG5 hX
                subst h0 h1 h2
                have hX6 := (HB7.out.block w.heap.size (by have := HSZ.out; omega)).trans HX1.out
                have e0 := blk_cell hX6 0
                have e1 := blk_cell hX6 1
                have f0 := blk_frozen hX6 0
                have f1 := blk_frozen hX6 1
                have HX6 := Lib.hid hX6
                have HBZ := Lib.hid (HBW.out.trans ((HB1.out.trans (HB7.out.mono hz1)).mono (by have := HSZ.out; omega)))
                clear hX6
                go_wp2
                refine bodyPost_ret (results_list (rs := [.tmp 2, .cell 3 25]) rfl (by simp) (.tmp (.cell w.heap.size 25 #[.int .i64 (170), .int .i64 ((pos : Int) + 2 + (k0.size : Int) + 3)] (0, 0) _ rfl (blk_put (blk_put HX6.out 0 (.int .i64 (170)) rfl) 1 (.int .i64 ((pos : Int) + 2 + (k0.size : Int) + 3)) rfl) Tryd.underlying25 rfl (by kernel_rfl) .nil))) rfl ?_
                exact ⟨rfl, (HBZ.out.setCell (p := ⟨w.heap.size, 0, none⟩) (Nat.le_refl _) _).setCell (p := ⟨w.heap.size, 1, none⟩) (Nat.le_refl _) _⟩
              · have hg := HG5.out
                rw [if_neg (by decide)] at hg
                have HF := Lib.hid (show (r0, r1, r2) = decL L (L.drop (j + 1)) (j + 1) (t ++ t0) from hg)
                obtain rfl : X = t0 := hX rfl
                clear hg HG5 hX
                go_wp2
                go_roundw
                case rel => exact ⟨j + 1, t ++ X, by omega, by go_num, rfl, HF.out, HB7.out, by rw [ByteArray.size_append]; omega⟩
                case measure => simp [intOf]; omega
          · have n1 : ¬ N.toList = [117, 116, 102, 45, 56] := by rw [n3]; decide
            have n2 : ¬ N.toList = [117, 115, 45, 97, 115, 99, 105, 105] := by rw [n3]; decide
            have v1 : (N.toList == [117, 116, 102, 45, 56]) = false := by rw [n3]; rfl
            have v2 : (N.toList == [117, 115, 45, 97, 115, 99, 105, 105]) = false := by rw [n3]; rfl
            have v3 : (N.toList == [105, 115, 111, 45, 56, 56, 53, 57, 45, 49]) = true := by rw [n3]; rfl
            go_wp2_with fail
            refine (HBY.out _).mono ?_
            rintro e w6 ⟨V, rfl, ho6, hb6⟩
            obtain ⟨A, cp6, rfl, hcp, hC6⟩ := own_C rfl ho6
            have HB6 := Lib.hid (HB5.out.trans (hb6.mono hz5))
            have hz6 := HB6.out.size
            have HC6 := Lib.hid (show Kd.C (Kd.int .u8) w6 A bl.length (natsOf (u8s bl)) by
              rw [natsOf_u8s HBL.out]
              exact hC6)
            clear ho6 hb6 hC6 x0
            by_cases hw : 0 ≤ bw
            · have hg := HGO.out
              rw [if_pos hw] at hg
              have h0 := (show r0 = ⟨#[]⟩ from congrArg (·.1) hg)
              have h1 := (show r1 = 170 from congrArg (·.2.1) hg)
              have h2' := (show r2 = (pos : Int) + ((k0.size : Int) + 5 + bw) from congrArg (·.2.2) hg)
              have h2 : r2 = (pos : Int) + 2 + (k0.size : Int) + 3 + bw := by omega
              have hbw2 : bw ≤ k2.size := by rcases HBWR.out with h | h <;> omega
              have q9 : decide (0 ≤ bw) = true := decide_eq_true hw
              clear h2' hg HGO
              subst h0 h1 h2
              have hX6 := (HB6.out.block w.heap.size (by have := HSZ.out; omega)).trans HX1.out
              have e0 := blk_cell hX6 0
              have e1 := blk_cell hX6 1
              have f0 := blk_frozen hX6 0
              have f1 := blk_frozen hX6 1
              have HX6 := Lib.hid hX6
              have HBZ := Lib.hid (HBW.out.trans ((HB1.out.trans (HB6.out.mono hz1)).mono (by have := HSZ.out; omega)))
              clear hX6
              go_wp2
              refine bodyPost_ret (results_list (rs := [.tmp 2, .cell 3 25]) rfl (by simp) (.tmp (.cell w.heap.size 25 #[.int .i64 (170), .int .i64 ((pos : Int) + 2 + (k0.size : Int) + 3 + bw)] (0, 0) _ rfl (blk_put (blk_put HX6.out 0 (.int .i64 (170)) rfl) 1 (.int .i64 ((pos : Int) + 2 + (k0.size : Int) + 3 + bw)) rfl) Tryd.underlying25 rfl (by kernel_rfl) .nil))) rfl ?_
              exact ⟨rfl, (HBZ.out.setCell (p := ⟨w.heap.size, 0, none⟩) (Nat.le_refl _) _).setCell (p := ⟨w.heap.size, 1, none⟩) (Nat.le_refl _) _⟩
            · have hg := HGO.out
              rw [if_neg hw] at hg
              have HG5 := Lib.hid hg
              have q9 : decide (0 ≤ bw) = false := decide_eq_false hw
              clear hg HGO
              go_wp2_with fail
              refine (refmeans_calls k0 A cp6 bl.length (u8s bl) (u8s_length bl) w6 HC6.out hcp (by omega) (by omega) (HMK.out _)).mono ?_
              rintro e w7 ⟨X, rfl, hX, hb7'⟩
              rw [← HM2.out] at hX ⊢
              have HB7 := Lib.hid (HB6.out.trans (hb7'.mono hz6))
              have hz7 := HB7.out.size
              clear hb7'
              simp only at hX
              cases t2
              · have hg := HG5.out
                rw [if_pos rfl] at hg
                have h0 := (show r0 = ⟨#[]⟩ from congrArg (·.1) hg)
                have h1 := (show r1 = 170 from congrArg (·.2.1) hg)
                have h2' := (show r2 = (pos : Int) + ((k0.size : Int) + 5) from congrArg (·.2.2) hg)
                have h2 : r2 = (pos : Int) + 2 + (k0.size : Int) + 3 := by omega
                clear h2' hg HG5 hX
                subst h0 h1 h2
                have hX6 := (HB7.out.block w.heap.size (by have := HSZ.out; omega)).trans HX1.out
                have e0 := blk_cell hX6 0
                have e1 := blk_cell hX6 1
                have f0 := blk_frozen hX6 0
                have f1 := blk_frozen hX6 1
                have HX6 := Lib.hid hX6
                have HBZ := Lib.hid (HBW.out.trans ((HB1.out.trans (HB7.out.mono hz1)).mono (by have := HSZ.out; omega)))
                clear hX6
                go_wp2
                refine bodyPost_ret (results_list (rs := [.tmp 2, .cell 3 25]) rfl (by simp) (.tmp (.cell w.heap.size 25 #[.int .i64 (170), .int .i64 ((pos : Int) + 2 + (k0.size : Int) + 3)] (0, 0) _ rfl (blk_put (blk_put HX6.out 0 (.int .i64 (170)) rfl) 1 (.int .i64 ((pos : Int) + 2 + (k0.size : Int) + 3)) rfl) Tryd.underlying25 rfl (by kernel_rfl) .nil))) rfl ?_
                exact ⟨rfl, (HBZ.out.setCell (p := ⟨w.heap.size, 0, none⟩) (Nat.le_refl _) _).setCell (p := ⟨w.heap.size, 1, none⟩) (Nat.le_refl _) _⟩
              · have hg := HG5.out
                rw [if_neg (by decide)] at hg
                have HF := Lib.hid (show (r0, r1, r2) = decL L (L.drop (j + 1)) (j + 1) (t ++ t0) from hg)
                obtain rfl : X = t0 := hX rfl
                clear hg HG5 hX
                go_wp2
                go_roundw
                case rel => exact ⟨j + 1, t ++ X, by omega, by go_num, rfl, HF.out, HB7.out, by rw [ByteArray.size_append]; omega⟩
                case measure => simp [intOf]; omega
        · have hMf : M = false := by
            cases M
            · rfl
            · rcases hkn.1 rfl with h | h | h
              · exact absurd h n1
              · exact absurd h n2
              · exact absurd h n3
          subst hMf
          have hg := HG3.out
          rw [if_pos rfl] at hg
          have h0 := (show r0 = ⟨#[]⟩ from congrArg (·.1) hg)
          have h1 := (show r1 = 171 from congrArg (·.2.1) hg)
          have h2 := (show r2 = (pos : Int) + 2 from congrArg (·.2.2) hg)
          subst h0 h1 h2
          have v1 : (N.toList == [117, 116, 102, 45, 56]) = false := beq_eq_false_iff_ne.2 n1
          have v2 : (N.toList == [117, 115, 45, 97, 115, 99, 105, 105]) = false := beq_eq_false_iff_ne.2 n2
          have v3 : (N.toList == [105, 115, 111, 45, 56, 56, 53, 57, 45, 49]) = false := beq_eq_false_iff_ne.2 n3
          clear hkn hg HG3 HM
          have hX6 := (HB5.out.block w.heap.size (by have := HSZ.out; omega)).trans HX1.out
          have e0 := blk_cell hX6 0
          have e1 := blk_cell hX6 1
          have f0 := blk_frozen hX6 0
          have f1 := blk_frozen hX6 1
          have HX6 := Lib.hid hX6
          have HBZ := Lib.hid (HBW.out.trans ((HB1.out.trans (HB5.out.mono hz1)).mono (by have := HSZ.out; omega)))
          clear hX6
          go_wp2
          go_region
          go_wp2
          refine bodyPost_ret (results_list (rs := [.tmp 2, .cell 3 25]) rfl (by simp) (.tmp (.cell w.heap.size 25 #[.int .i64 (171), .int .i64 ((pos : Int) + 2)] (0, 0) _ rfl (blk_put (blk_put HX6.out 0 (.int .i64 (171)) rfl) 1 (.int .i64 ((pos : Int) + 2)) rfl) Tryd.underlying25 rfl (by kernel_rfl) .nil))) rfl ?_
          exact ⟨rfl, (HBZ.out.drew.setCell (p := ⟨w.heap.size, 0, none⟩) (Nat.le_refl _) _).setCell (p := ⟨w.heap.size, 1, none⟩) (Nat.le_refl _) _⟩
    · have hje : j = n := by omega
      have hg := HG.out
      rw [List.drop_eq_nil_of_le (by have := HN.out; omega), decL] at hg
      have h0 := (show r0 = t from congrArg (·.1) hg)
      have h1 := (show r1 = 0 from congrArg (·.2.1) hg)
      have h2 := (show r2 = 0 from congrArg (·.2.2) hg)
      subst h0 h1 h2
      subst hje
      clear hg HG
      have hX6 := (HB.out.block w.heap.size (by have := HSZ.out; omega)).trans HX1.out
      have e0 := blk_cell hX6 0
      have e1 := blk_cell hX6 1
      have f0 := blk_frozen hX6 0
      have f1 := blk_frozen hX6 1
      have HX6 := Lib.hid hX6
      have HBZ := Lib.hid (HBW.out.trans ((HB1.out.trans (HB.out.mono hz1)).mono (by have := HSZ.out; omega)))
      clear hX6
      go_wp2
      refine bodyPost_ret (results_list (rs := [.tmp 2, .cell 3 25]) rfl (by simp) (.tmp (.cell w.heap.size 25 #[.int .i64 (0), .int .i64 (0)] (0, 0) _ rfl (blk_put (blk_put HX6.out 0 (.int .i64 (0)) rfl) 1 (.int .i64 (0)) rfl) Tryd.underlying25 rfl (by kernel_rfl) .nil))) rfl ?_
      exact ⟨rfl, (HBZ.out.setCell (p := ⟨w.heap.size, 0, none⟩) (Nat.le_refl _) _).setCell (p := ⟨w.heap.size, 1, none⟩) (Nat.le_refl _) _⟩
end Go.Proofs.YtcnhnpkbklakoaaDoor.Word
