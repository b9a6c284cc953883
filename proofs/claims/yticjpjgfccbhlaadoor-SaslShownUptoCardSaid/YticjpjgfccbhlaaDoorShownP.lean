/- SaslShown: Yes is told only behind a line that shows it: plain. -/
import Derived.Test.YticjpjgfccbhlaaDoorShows
namespace Go.Proofs.YticjpjgfccbhlaaDoor.Sasl
open Go.RowKit Go.Proofs.YticjpjgfccbhlaaDoorW.PrintWords Go.Proofs.YticjpjgfccbhlaaDoor.PSaslStale Go.Proofs.YticjpjgfccbhlaaDoor.Hash
open Go.Proofs.YticjpjgfccbhlaaDoor.Code (unV)
set_option linter.unusedVariables false
set_option linter.unusedSimpArgs false
/-! what Begin's error is -/
theorem first_place (m stamp : ByteArray) : (placeV m = 0 ∧ firstV m stamp = some .plain) ∨ (placeV m = 1 ∧ firstV m stamp = some .login) ∨ (placeV m = 2 ∧ firstV m stamp = some (.cram stamp)) ∨ (placeV m = -1 ∧ firstV m stamp = none) := by
  unfold placeV firstV
  by_cases c1 : upV m = sPLAIN
  · rw [if_pos c1, if_pos c1]; exact .inl ⟨rfl, rfl⟩
  · rw [if_neg c1, if_neg c1]
    by_cases c2 : upV m = sLOGIN
    · rw [if_pos c2, if_pos c2]; exact .inr (.inl ⟨rfl, rfl⟩)
    · rw [if_neg c2, if_neg c2]
      by_cases c3 : upV m = sCRAM
      · rw [if_pos c3, if_pos c3]; exact .inr (.inr (.inl ⟨rfl, rfl⟩))
      · rw [if_neg c3, if_neg c3]; exact .inr (.inr (.inr ⟨rfl, rfl⟩))
theorem plainT_er (us : List S40) (l : List ByteArray) : (plainT us l).er = if l.length = 3 then 0 else 221 := by
  by_cases h : l.length = 3
  · obtain ⟨x, l, rfl⟩ := List.exists_cons_of_length_eq_add_one h
    obtain ⟨y, l, rfl⟩ := List.exists_cons_of_length_eq_add_one (by simpa using h)
    obtain ⟨z, l, rfl⟩ := List.exists_cons_of_length_eq_add_one (by simpa using h)
    obtain rfl : l = [] := List.length_eq_zero_iff.1 (by simpa using h)
    rfl
  · rw [if_neg h, plainT_bad us l h]
theorem readT_er (T S : Nat → Int) (x : XS) (a : ByteArray) : (readT T S x a).2 = (takeV T S x.us x.nx a).er := by
  unfold readT
  by_cases h : (takeV T S x.us x.nx a).er ≠ 0
  · simp only [h, if_true, ne_eq, not_false_eq_true]
  · have h0 : (takeV T S x.us x.nx a).er = 0 := by simpa using h
    simp only [h0, ne_eq, not_true_eq_false, if_false]
    cases (takeV T S x.us x.nx a).next with
    | some s => rfl
    | none => cases (takeV T S x.us x.nx a).right <;> rfl
theorem want_eq (T S : Nat → Int) (us : List S40) (m stamp a : ByteArray) (has : Bool) : (beginV T S us m stamp a has).2 = wantV m a has := by
  obtain ⟨b, hb⟩ : ∃ b, b = if a = eqL then (⟨#[]⟩ : ByteArray) else a := ⟨_, rfl⟩
  have hr : ∀ s : Stp, (readV T S ⟨us, 1, s, ⟨#[]⟩⟩ b).2 = if (unV b.data.toList).2.1 ≠ 0 then 221 else (takeV T S us s (strOfNums (unV b.data.toList).1)).er := by
    intro s
    unfold readV
    by_cases h : (unV b.data.toList).2.1 ≠ 0
    · rw [if_pos h, if_pos h]
    · rw [if_neg h, if_neg h, readT_er]
  have hw : ∀ s : Stp, s.isCram = false → (if s.isCram = true then (none, 221) else if (readV T S ⟨us, 1, s, ⟨#[]⟩⟩ b).2 ≠ 0 then (none, (readV T S ⟨us, 1, s, ⟨#[]⟩⟩ b).2) else (some (readV T S ⟨us, 1, s, ⟨#[]⟩⟩ b).1, 0) : Option XS × Int).2 = (readV T S ⟨us, 1, s, ⟨#[]⟩⟩ b).2 := by
    intro s hc
    rw [if_neg (by rw [hc]; decide)]
    by_cases h : (readV T S ⟨us, 1, s, ⟨#[]⟩⟩ b).2 ≠ 0
    · rw [if_pos h]
    · rw [if_neg h]; exact (Decidable.not_not.1 h).symm
  unfold beginV wantV
  rw [← hb]
  rcases first_place m stamp with ⟨h1, h2⟩ | ⟨h1, h2⟩ | ⟨h1, h2⟩ | ⟨h1, h2⟩
  · rw [h1, h2, if_neg (by decide)]
    cases has with
    | false => rfl
    | true =>
      simp only [Bool.true_eq_false, if_false]
      rw [hw .plain rfl, hr]
      have ht : (takeV T S us .plain (strOfNums (unV b.data.toList).1)).er = if (splitL (strOfNums (unV b.data.toList).1)).length = 3 then 0 else 221 := plainT_er us _
      rw [ht]
      unfold readableV
      by_cases c : (unV b.data.toList).2.1 = 0 <;> by_cases d : (splitL (strOfNums (unV b.data.toList).1)).length = 3 <;> simp [c, d]
  · rw [h1, h2, if_neg (by decide)]
    cases has with
    | false => rfl
    | true =>
      simp only [Bool.true_eq_false, if_false]
      rw [hw .login rfl, hr]
      have ht : (takeV T S us .login (strOfNums (unV b.data.toList).1)).er = 0 := rfl
      rw [ht]
      unfold readableV
      by_cases c : (unV b.data.toList).2.1 = 0 <;> simp [c]
  · rw [h1, h2, if_neg (by decide)]
    cases has with
    | false => rfl
    | true => simp [Stp.isCram]
  · rw [h1, h2, if_pos (by decide)]
/-! what is split is joined -/
theorem index0 (l : List UInt8) (i : Nat) (h : Lib.index l [0] = i) : l[i]? = some 0 := by
  rw [Lib.index_one] at h
  induction l generalizing i with
  | nil => simp [Lib.indexByte] at h
  | cons b l ih =>
    rw [Lib.indexByte] at h
    by_cases c : (b == 0) = true
    · rw [if_pos c] at h
      obtain rfl : i = 0 := by omega
      have : b = 0 := by simpa using c
      simp [this]
    · rw [if_neg c] at h
      by_cases d : (Lib.indexByte l 0 == -1) = true
      · rw [if_pos d] at h; omega
      · rw [if_neg d] at h
        have hg := Lib.indexByte_ge l 0
        have hd : Lib.indexByte l 0 ≠ -1 := by simpa using d
        obtain ⟨j, hj⟩ := Int.eq_ofNat_of_zero_le (show 0 ≤ Lib.indexByte l 0 by omega)
        obtain rfl : i = j + 1 := by omega
        simpa using ih j hj
theorem split_join : ∀ (k : Nat) (s : List UInt8), [0].intercalate (Lib.splitK [0] 0 k s) = s
  | 0, s => by simp [Lib.splitK, List.intercalate]
  | k + 1, s => by
    rw [Lib.splitK]
    by_cases h : (Lib.index s [0] == -1) = true
    · rw [if_pos h]; simp [List.intercalate]
    · rw [if_neg h]
      have hne : Lib.index s [0] ≠ -1 := by simpa using h
      have hg : -1 ≤ Lib.index s [0] := by rw [Lib.index_one]; exact Lib.indexByte_ge s 0
      obtain ⟨i, hi⟩ := Int.eq_ofNat_of_zero_le (show 0 ≤ Lib.index s [0] by omega)
      have h0 := index0 s i hi
      have ih := split_join k (s.drop (i + 1))
      rw [hi, Int.toNat_natCast]
      have hcons : ∀ (x : List UInt8) (L : List (List UInt8)), L ≠ [] → [0].intercalate (x :: L) = x ++ 0 :: [0].intercalate L := by
        intro x L hL
        cases L with
        | nil => exact absurd rfl hL
        | cons y L => simp [List.intercalate, List.intersperse]
      have hnil : Lib.splitK [0] 0 k (s.drop (i + 1)) ≠ [] := by
        cases k with
        | zero => simp [Lib.splitK]
        | succ k => rw [Lib.splitK]; split <;> simp
      rw [hcons _ _ (by simpa using hnil)]
      show s.take (i + 0) ++ 0 :: [0].intercalate (Lib.splitK [0] 0 k (s.drop (i + [(0 : UInt8)].length))) = s
      rw [show i + [(0 : UInt8)].length = i + 1 from rfl, ih, Nat.add_zero]
      have hlt : i < s.length := (List.getElem?_eq_some_iff.1 h0).1
      have he : s[i]'hlt = 0 := (List.getElem?_eq_some_iff.1 h0).2
      rw [← he, ← List.drop_eq_getElem_cons hlt, List.take_append_drop]
theorem splitL_join (a l0 l1 l2 : ByteArray) (h : splitL a = [l0, l1, l2]) : a = l0 ++ ⟨#[0]⟩ ++ l1 ++ ⟨#[0]⟩ ++ l2 := by
  have hd := Lib.splitB_data ⟨#[0]⟩ 0 (Lib.countB a ⟨#[0]⟩) a
  have hs := split_join (Lib.countB a ⟨#[0]⟩) a.data.toList
  change (splitL a).map (·.data.toList) = Lib.splitK [0] 0 _ _ at hd
  rw [← hd, h] at hs
  apply ba_ext
  rw [← hs, data_app, data_app, data_app, data_app]
  simp [List.intercalate, List.intersperse]
theorem lastSp_join (a : ByteArray) (h : lastSp a ≠ -1) : a = a.extract 0 (lastSp a).toNat ++ ⟨#[32]⟩ ++ a.extract ((lastSp a).toNat + 1) a.size := by
  unfold lastSp at h ⊢
  rcases Lib.lastIndexByte_spec a 32 with ⟨h1, _⟩ | ⟨i, hi, h2, h3, _⟩
  · exact absurd h1 h
  · rw [h2, Int.toNat_natCast]
    have hb : a.data.toList[i]? = some (a[i]'hi) := Lib.data_getElem? a i hi
    rw [byte_at! a i hi _ hb] at h3
    have e : a[i]'hi = 32 := UInt8.toNat_inj.1 (show (a[i]'hi).toNat = (32 : UInt8).toNat by have : (32 : UInt8).toNat = 32 := rfl; omega)
    apply ba_ext
    rw [data_app, data_app]
    simp only [ByteArray.data_extract, Array.toList_extract, List.extract_eq_take_drop, List.drop_zero, Nat.sub_zero]
    have hlt : i < a.data.toList.length := by rw [data_length]; exact hi
    have he : a.data.toList[i]'hlt = 32 := by
      have h4 := hb
      rw [List.getElem?_eq_getElem hlt, e] at h4
      exact Option.some.inj h4
    rw [List.take_of_length_le (l := List.drop (i + 1) a.data.toList) (by rw [List.length_drop, data_length]; omega), List.append_assoc]
    show _ = List.take i a.data.toList ++ (32 :: List.drop (i + 1) a.data.toList)
    rw [← he, ← List.drop_eq_getElem_cons hlt, List.take_append_drop]
/-! the exchange and what was said -/
def ShownBy (T S : Nat → Int) (us : List S40) (stamp nm : ByteArray) (said : List ByteArray) : Prop :=
  ∃ (p : Nat) (u : S40) (q : Nat), us[p]? = some u ∧ u.f0 = nm ∧ q < said.length ∧ HitAt T S stamp nm u said q
theorem rdOf_app (said : List ByteArray) (t : ByteArray) (q : Nat) (h : q < said.length) : rdOf ByteArray.empty (said ++ [t]) (q : Int) = rdOf ByteArray.empty said (q : Int) := by
  unfold rdOf
  rw [Int.toNat_natCast, List.getD_eq_getElem?_getD, List.getD_eq_getElem?_getD, List.getElem?_append_left h]
theorem rdOf_last (said : List ByteArray) (t : ByteArray) : rdOf ByteArray.empty (said ++ [t]) (said.length : Int) = t := by
  unfold rdOf
  rw [Int.toNat_natCast, List.getD_eq_getElem?_getD, List.getElem?_append_right (Nat.le_refl _), Nat.sub_self]
  rfl
theorem ShownBy.app {T S : Nat → Int} {us : List S40} {stamp nm : ByteArray} {said : List ByteArray} (h : ShownBy T S us stamp nm said) (t : ByteArray) : ShownBy T S us stamp nm (said ++ [t]) := by
  obtain ⟨p, u, q, h1, h2, h3, h4⟩ := h
  refine ⟨p, u, q, h1, h2, by rw [List.length_append]; omega, ?_⟩
  unfold HitAt at h4 ⊢
  rw [rdOf_app said t q h3, rdOf_app said t (q - 1) (by omega)]
  exact h4
structure InvX (T S : Nat → Int) (us : List S40) (stamp : ByteArray) (x : XS) (said : List ByteArray) : Prop where
  eu : x.us = us
  ok : OkX x
  st : (x.st = 1 ∧ (x.nx = .plain ∨ x.nx = .login ∨ x.nx = .cram stamp ∨ ∃ nm, x.nx = .word nm ∧ 0 < said.length ∧ dec (rdOf ByteArray.empty said ((said.length - 1 : Nat) : Int)) = nm)) ∨ (x.st = 2 ∧ ShownBy T S us stamp x.nm said) ∨ x.st = 3 ∨ x.st = 4
theorem any_at {us : List S40} {p : S40 → Bool} (h : us.any p = true) : ∃ (i : Nat) (u : S40), us[i]? = some u ∧ p u = true := by
  obtain ⟨u, hm, hu⟩ := List.any_eq_true.1 h
  obtain ⟨i, hi, e⟩ := List.mem_iff_getElem.1 hm
  exact ⟨i, u, by rw [List.getElem?_eq_getElem hi, e], hu⟩
/-- an exchange that still asks reads a line -/
theorem inv_read {T S : Nat → Int} {us : List S40} {stamp : ByteArray} {x : XS} {said : List ByteArray} (h : InvX T S us stamp x said) (h1 : x.st = 1) (t : ByteArray) (he : (readV T S x t).2 = 0) : InvX T S us stamp (readV T S x t).1 (said ++ [t]) := by
  have hst := h.st
  have hu := h.eu
  have hok := h.ok
  obtain ⟨xus, xst, xnx, xnm⟩ := x
  simp only at h1 hst hu
  subst h1 hu
  have hnx : xnx = .plain ∨ xnx = .login ∨ xnx = .cram stamp ∨ ∃ nm, xnx = .word nm ∧ 0 < said.length ∧ dec (rdOf ByteArray.empty said ((said.length - 1 : Nat) : Int)) = nm := by
    rcases hst with h | h | h | h
    · exact h.2
    · exact absurd h.1 (by decide)
    · exact absurd h (by decide)
    · exact absurd h (by decide)
  clear hst
  have hun : (unV t.data.toList).2.1 = 0 := by
    by_cases c : (unV t.data.toList).2.1 = 0
    · exact c
    · unfold readV at he
      rw [if_pos c] at he
      exact absurd he (by show ¬ (221 : Int) = 0; decide)
  have hread : readV T S ⟨xus, 1, xnx, xnm⟩ t = readT T S ⟨xus, 1, xnx, xnm⟩ (dec t) := by
    unfold readV
    rw [if_neg (by simpa using hun)]
    rfl
  rw [hread] at he ⊢
  rw [readT_er] at he
  simp only at he
  obtain ⟨a, ha⟩ : ∃ a, a = dec t := ⟨_, rfl⟩
  rw [← ha] at he ⊢
  have hlast := rdOf_last said t
  have hlen : said.length < (said ++ [t]).length := by rw [List.length_append]; simp
  -- how it ends
  have fin : ∀ (nm : ByteArray) (r : Bool), takeV T S xus xnx a = ⟨none, nm, r, 0⟩ → (r = true → ShownBy T S xus stamp nm (said ++ [t])) → InvX T S xus stamp (readT T S ⟨xus, 1, xnx, xnm⟩ a).1 (said ++ [t]) := by
    intro nm r hv hs
    unfold readT
    simp only [hv]
    cases r with
    | true => exact ⟨rfl, hok, .inr (.inl ⟨rfl, hs rfl⟩)⟩
    | false => exact ⟨rfl, hok, .inr (.inr (.inl rfl))⟩
  rcases hnx with rfl | rfl | rfl | ⟨nm, rfl, hp, hd⟩
  · have hl : (splitL a).length = 3 := by
      have e : (takeV T S xus .plain a).er = if (splitL a).length = 3 then 0 else 221 := plainT_er xus _
      rw [e] at he
      by_cases c : (splitL a).length = 3
      · exact c
      · rw [if_neg c] at he; exact absurd he (by decide)
    obtain ⟨l0, l1, l2, hL⟩ : ∃ l0 l1 l2, splitL a = [l0, l1, l2] := by
      match splitL a, hl with
      | [x, y, z], _ => exact ⟨x, y, z, rfl⟩
    have hv : takeV T S xus .plain a = ⟨none, l1, decide (l0 = ⟨#[]⟩ ∨ l0 = l1) && pairedV xus l1 l2, 0⟩ := by
      show plainT xus (splitL a) = _
      rw [hL]
      rfl
    refine fin _ _ hv fun hr => ?_
    rw [Bool.and_eq_true, decide_eq_true_eq] at hr
    obtain ⟨p, u, hu1, hu2⟩ := any_at hr.2
    have hu3 : u.f0 = l1 ∧ u.f1 = l2 := by simpa using hu2
    refine ⟨p, u, said.length, hu1, hu3.1, hlen, ?_⟩
    have hj := splitL_join a l0 l1 l2 hL
    unfold HitAt
    rw [hlast, ← ha, hu3.2]
    rcases hr.1 with h0 | h0
    · left
      rw [hj, h0]
      apply ba_ext
      simp only [data_app]
      simp
    · right; left
      rw [hj, h0]
  · refine ⟨rfl, ⟨hok.1, True.intro⟩, .inl ⟨rfl, .inr (.inr (.inr ⟨a, rfl, by omega, ?_⟩))⟩⟩
    rw [List.length_append]
    show dec (rdOf ByteArray.empty (said ++ [t]) ((said.length + 1 - 1 : Nat) : Int)) = a
    rw [Nat.add_sub_cancel, hlast, ha]
  · have hl : lastSp a ≠ -1 := fun c => by
      have e : (takeV T S xus (.cram stamp) a).er = 221 := by show (if lastSp a = -1 then (⟨none, ⟨#[]⟩, false, 221⟩ : Took) else _).er = 221; rw [if_pos c]
      rw [e] at he
      exact absurd he (by decide)
    have hv : takeV T S xus (.cram stamp) a = ⟨none, a.extract 0 (lastSp a).toNat, shownV T S xus stamp (a.extract 0 (lastSp a).toNat) (a.extract ((lastSp a).toNat + 1) a.size), 0⟩ := by show (if lastSp a = -1 then (⟨none, ⟨#[]⟩, false, 221⟩ : Took) else _) = _; rw [if_neg hl]
    refine fin _ _ hv fun hr => ?_
    obtain ⟨p, u, hu1, hu2⟩ := any_at hr
    have hu3 : u.f0 = a.extract 0 (lastSp a).toNat ∧ digestV T S u.f1 stamp = a.extract ((lastSp a).toNat + 1) a.size := by simpa using hu2
    refine ⟨p, u, said.length, hu1, hu3.1, hlen, ?_⟩
    unfold HitAt
    rw [hlast, ← ha, hu3.2]
    exact .inr (.inr (.inl (lastSp_join a hl)))
  · have hv : takeV T S xus (.word nm) a = ⟨none, nm, pairedV xus nm a, 0⟩ := rfl
    refine fin _ _ hv fun hr => ?_
    obtain ⟨p, u, hu1, hu2⟩ := any_at hr
    have hu3 : u.f0 = nm ∧ u.f1 = a := by simpa using hu2
    refine ⟨p, u, said.length, hu1, hu3.1, hlen, ?_⟩
    unfold HitAt
    rw [hlast, ← ha, rdOf_app said t (said.length - 1) (by omega)]
    exact .inr (.inr (.inr ⟨hu3.2.symm, hp, hd⟩))
end Go.Proofs.YticjpjgfccbhlaaDoor.Sasl
