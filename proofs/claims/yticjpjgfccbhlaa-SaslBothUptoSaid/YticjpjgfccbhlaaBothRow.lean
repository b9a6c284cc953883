/- SaslBoth holds of all texts of bulk at most 1048576. -/
import Derived.Test.YticjpjgfccbhlaaRows
import Derived.Test.YticjpjgfccbhlaaOpen
import Derived.Lib.SmallJoins
import Derived.Test.YticjpjgfccbhlaaOpenU
import Derived.Test.YticjpjgfccbhlaaBoth
import Derived.WalkKit
import Derived.Shelf.Vars
import Derived.ProofKit
import Derived.OpenShut
import Derived.ShutString
import Derived.ChangeOld
import Derived.Below
import Derived.SizedLaws
import Derived.HandedShaped
import Derived.Deep.DeepHandedRow
namespace Go.Proofs.Yticjpjgfccbhlaa.saslBoth
open Go.ChangeShapes Go.WideShapes Go.ChangeAt Go.RowKit Go.Proofs.Yticjpjgfccbhlaa.Witness Go.Proofs.Yticjpjgfccbhlaa.Open
open Go.ChangeMaps (open_string shut_string)
set_option linter.unusedVariables false
noncomputable def theWorld (os : Os) : World := World.holding Try.prog os ⟨#[], #[], []⟩
theorem laid_met (os : Os) : laidMet Try.prog Rows.saslBothUptoRow.laid ((theWorld os).forCall (fun _ _ => 0) ⟨#[], #[.slice none 0 0, .agg #[.string ByteArray.empty, .string ByteArray.empty], .string ByteArray.empty], []⟩).memory :=
  laidMet_of_run' 8 (by kernel_rfl) (by kernel_rfl)
theorem reads (os : Os) {H : Type} (enc : TypeId × Value → H) : ∃ places, DataW.whole enc Try.prog ((theWorld os).forCall (fun _ _ => 0) ⟨#[], #[.slice none 0 0, .agg #[.string ByteArray.empty, .string ByteArray.empty], .string ByteArray.empty], []⟩).memory Try.f6.params.toList Rows.saslBothSpec.vars false #[.slice none 0 0, .agg #[.string ByteArray.empty, .string ByteArray.empty], Value.string ByteArray.empty].toList 8 = some ([.nil, .agg [.lit (.string []), .lit (.string [])], .lit (.string [])], [], places) :=
  ⟨[], by kernel_rfl⟩
set_option maxRecDepth 100000 in
theorem lifted (os : Os) (started : os.Started) (H : Type) (enc : TypeId × Value → H) (F : Stop.Interp) :
    ReturnsInHanded {} Try.checked os 6 .any ((Rows.OpenSpec.upto Rows.saslBothSpec).preRow enc Try.prog Try.f6 Rows.saslBothUptoRow.domain false Rows.saslBothUptoRow.laid) (((Rows.OpenSpec.upto Rows.saslBothSpec).at F).post enc Try.prog Try.f6 false true false false) := by
  obtain ⟨places, hx⟩ := reads os enc
  refine returnsInHanded_of_row (C := Try.checked) (s := Rows.OpenSpec.upto Rows.saslBothSpec) own started (by kernel_rfl) Try.func6
    (witness_row_at (enc := enc) (C := Try.checked) false (theWorld os) #[.slice none 0 0, .agg #[.string ByteArray.empty, .string ByteArray.empty], .string ByteArray.empty] rfl (by kernel_rfl) (by kernel_rfl) (by kernel_rfl)
      (OpenSpec.preRow_of_cond 8 hx (by kernel_rfl) (fun k hk => by cases hk; kernel_rfl) (by kernel_rfl) (laid_met os))) ?_
  intro W base args ds gs before hval0 hW _ hcond hsz0 hL hsh _
  have hk := hcond _ rfl
  have hsz1 : (DataW.weightsEach Try.prog (Try.f6.params.toList ++ Rows.saslBothSpec.plain.varTypes Try.prog) (ds ++ gs)).all (· ≤ reachBytes) = true := hsz0
  have hval : ∀ (j : Nat) t v, Try.f6.params[j]? = some t → args[j]? = some v → Value.okWide Try.prog W .any base t v := hval0
  have hW' := hW
  obtain ⟨p, q, hA0, hV, rfl, hfz, hnd⟩ := hW
  have hA : DataW.TrodAll enc Try.prog W 0 (fun _ => true) true Try.f6.params.toList args.toList ds p := hA0
  rw [Try.params6] at hA hval hsz1
  obtain ⟨v0, vs0, d0, ds0, p0, q0, hargs, rfl, rfl, h0, r0⟩ := trodAll_cons hA
  obtain ⟨v1, vs1, d1, ds1, p1, q1, rfl, rfl, rfl, h1, r1⟩ := trodAll_cons r0
  obtain ⟨v2, vs2, d2, ds2, p2, q2, rfl, rfl, rfl, h2, r2⟩ := trodAll_cons r1
  obtain ⟨rfl, rfl, rfl⟩ := trodAll_nil r2
  obtain rfl : args = #[v0, v1, v2] := by cases args; simp_all
  obtain ⟨rfl, rfl⟩ := trodVars_none hV
  have k0 := h0
  have lt0 : ∀ x ∈ p0, x.block < W.heap.size := by obtain ⟨m, hm⟩ := k0; exact DataW.trod_lt m _ _ _ hm
  have k1 := h1
  have lt1 : ∀ x ∈ p1, x.block < W.heap.size := by obtain ⟨m, hm⟩ := k1; exact DataW.trod_lt m _ _ _ hm
  have k2 := h2
  have lt2 : ∀ x ∈ p2, x.block < W.heap.size := by obtain ⟨m, hm⟩ := k2; exact DataW.trod_lt m _ _ _ hm
  have wt0 : ∀ m ∈ d0.weights Try.prog 25, m ≤ reachBytes := fun m hm => by simpa using List.all_eq_true.1 hsz1 _ (DataW.weights_mem_each (j := 0) rfl rfl m hm)
  obtain ⟨a0, len0, cap0, rfl⟩ := okWide_slice Try.underlying25 (hval 0 25 v0 rfl rfl)
  obtain ⟨fuel0, hf0⟩ := h0
  obtain ⟨A0, n0, c0, us0, hcs0, hul0, hnc0, hnil0, hC0, hB0, hS0⟩ := Open.open_users hf0 wt0
  simp only [Value.cells, List.cons.injEq, Value.slice.injEq, and_true] at hcs0
  obtain ⟨rfl, rfl, rfl⟩ := hcs0
  obtain ⟨a1, c1, y1, z1, fu1, rfl, rfl, rfl, fa1, fb1⟩ := Go.Joins.open_agg2 (t := 41) Try.underlying41 (by kernel_rfl) (by kernel_rfl) (hval 1 41 v1 rfl rfl) h1
  obtain ⟨s1a, ea1, rfl, _⟩ := DataW.trod_string Try.underlying9 fa1
  obtain ⟨s1b, eb1, rfl, _⟩ := DataW.trod_string Try.underlying9 fb1
  obtain rfl : a1 = .string s1a := by simpa using ea1
  obtain rfl : c1 = .string s1b := by simpa using eb1
  obtain ⟨s2, rfl, rfl, rfl, _⟩ := open_string Try.underlying9 (hval 2 9 v2 rfl rfl) h2
  have hsz : s1a.size + s1b.size + s2.size + Rows.uptoBulk d0 ≤ 1048576 := by
    have h := of_decide_eq_true hk
    simp only [List.append_nil, Rows.uptoBulkAll, Rows.uptoBulk] at h
    have es1a : s1a.data.toList.length = s1a.size := by rw [Array.length_toList]; rfl
    have es1b : s1b.data.toList.length = s1b.size := by rw [Array.length_toList]; rfl
    have es2 : s2.data.toList.length = s2.size := by rw [Array.length_toList]; rfl
    omega
  have hlu0 : us0.length ≤ 1048576 ∧ ∀ u ∈ us0, u.f1.size ≤ 1048576 := Open.users_ok hS0 (show Rows.uptoBulk d0 ≤ _ by omega)
  obtain ⟨m, hm⟩ : ∃ m, W.cell? ⟨0, 0, none⟩ = some (.int .i64 m) := cell_of_shapedOpen_int (t := 3) (zero := #[.int .i64 0]) hsh (of_decide_eq_true (by kernel_rfl)) (by kernel_rfl) rfl (by kernel_rfl) (by kernel_rfl) Try.underlying3
  obtain ⟨TT, SS, hTS⟩ := Open.tabs_of hsh
  clear hA0 hval0
  refine (Sasl.both_calls a0 len0 cap0 us0 s1a s1b s2 W (Sasl.Env.of_cell (T := TT) (S := SS) (B := 3) m hTS hm (Nat.le_refl _) hTS.size) hC0 hul0 hnc0 ⟨by omega, fun u hu => by have := hlu0.2 u hu; omega⟩ (by omega) (by omega) (by omega)).mono fun e W' ⟨he, bel⟩ => ?_
  subst he
  exact ⟨_, rfl, _, _, _, [], _, [], hW', trodAll_mk1 (shut_bool Try.underlying4 _), (trodAll_cons_mk (Below.trod laidOut (by kernel_rfl) (of_decide_eq_true (by kernel_rfl)) k0 bel lt0) (trodAll_cons_mk (Below.trod laidOut (by kernel_rfl) (of_decide_eq_true (by kernel_rfl)) k1 bel lt1) (trodAll_cons_mk (Below.trod laidOut (by kernel_rfl) (of_decide_eq_true (by kernel_rfl)) k2 bel lt2) trodAll_mk0))), rfl, bel.frame _, fun h => by cases h⟩
theorem said : Rows.SaslBothUptoSaid :=
  OpenClaim.holds_of_cond 6 Try.f6 rfl rfl rfl rfl rfl rfl rfl ⟨rfl, rfl, rfl, rfl, rfl⟩ rfl rfl rfl rfl rfl (by kernel_rfl) Try.func6 (by kernel_rfl)
    (of_decide_eq_true (by kernel_rfl)) (by unfold Func.isWrapper; first | (rw [if_pos (by decide +kernel)]; kernel_rfl) | (rw [if_neg (by decide +kernel)]; exact ⟨rfl, rfl⟩))
    (fun os started H enc _ F => by rw [OpenClaim.pre_eq_preRow]; exact lifted os started H enc F)
#print axioms said
end Go.Proofs.Yticjpjgfccbhlaa.saslBoth
namespace Go.Proofs.Yticjpjgfccbhlaa
theorem saslBothUpto_holds : Rows.SaslBothUptoSaid := saslBoth.said
end Go.Proofs.Yticjpjgfccbhlaa
