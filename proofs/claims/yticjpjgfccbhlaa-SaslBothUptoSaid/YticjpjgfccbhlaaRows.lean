/-
  No cell of these rows narrows 'for every input' (looked for: loops, veiled, ifaces, maps, wideKeys, modest, calm, conditions, laid).
  DERIVED. THE GIVEN ROWS OF THIS SEAT. 4 by the template 'for every input the law returns true; each argument reads behind the call as it read before'; 0 by the template 'total and deterministic' (their statements: YticjpjgfccbhlaaTotals.lean).
  GIVEN WITH THE SEED: the statements are not yours to turn. If you find one false, say at which input.
  Laid BY PROGRAM, IN A SANDBOX (cutbox-rows.mjs): the forced cells as the released guide's own fill.sh prints them over the translation 88bf4a208cb1eac2… (all of the seat's roots in one cut). By AI agents, Wed Nov 11 2026. No macro, syntax, notation, axiom, sorry.
-/
import Derived.Test.YticjpjgfccbhlaaChecked
import GoSem.Claim
import GoSem.ClaimJoined
import GoSem.ClaimMapViews
import Derived.JoinedTies
import Derived.KernelRfl
namespace Go.Proofs.Yticjpjgfccbhlaa
/- THE CELL 'sum', in the pinned program and in every row, IS THE sha256 OF THE DUMP (.gsa) THAT YticjpjgfccbhlaaProg.lean LOADS. Nothing in Lean hashes anything: it is a label: what it is worth is what the hold of that sum in a sandbox is worth. -/
noncomputable def Try.pinned : Pinned := { name := "yticjpjgfccbhlaa", sum := "88bf4a208cb1eac29cf438900845d5e835cb14ff1811effb7841615aeaa8e3e3", checked := Try.checked }
namespace Rows
def none {H : Type} : Left H := { results := [], args := [] }

/-- 'posthornlaw22.SaslNames': WHATEVER THE INPUT: true; the input reads as it did. -/
def saslNamesSpec : ChangeSpec := { name := "saslNames", fn := fun _ => fun
  | [d] => { results := [.lit (.bool true)], args := [d] }
  | _ => none }
def saslNamesRow : OpenClaim := { program := "yticjpjgfccbhlaa", sum := "88bf4a208cb1eac29cf438900845d5e835cb14ff1811effb7841615aeaa8e3e3", func := "posthorn/posthornlaw22.SaslNames", spec := "saslNames", apart := false }
def SaslNamesSaid : Prop := saslNamesRow.holds Try.pinned (OpenSpec.ofChange saslNamesSpec)

/-- ITS FALSE NEIGHBOUR: 'it returns false'. Refute it at one input. -/
def saslNamesWrong : ChangeSpec := { name := "saslNames", fn := fun _ => fun
  | [d] => { results := [.lit (.bool false)], args := [d] }
  | _ => none }
def SaslNamesWrongFalsely : Prop := saslNamesRow.holds Try.pinned (OpenSpec.ofChange saslNamesWrong)

/-- 'posthornlaw22.SaslTalks': WHATEVER THE INPUT: true; the input reads as it did. -/
def saslTalksSpec : ChangeSpec := { name := "saslTalks", fn := fun _ => fun
  | [d1, d2] => { results := [.lit (.bool true)], args := [d1, d2] }
  | _ => none }
def saslTalksRow : OpenClaim := { program := "yticjpjgfccbhlaa", sum := "88bf4a208cb1eac29cf438900845d5e835cb14ff1811effb7841615aeaa8e3e3", func := "posthorn/posthornlaw22.SaslTalks", spec := "saslTalks", unfollowed := true, recurses := true, apart := false }
def SaslTalksSaid : Prop := saslTalksRow.holds Try.pinned (OpenSpec.ofChange saslTalksSpec)

/-- ITS FALSE NEIGHBOUR: 'it returns false'. Refute it at one input. -/
def saslTalksWrong : ChangeSpec := { name := "saslTalks", fn := fun _ => fun
  | [d1, d2] => { results := [.lit (.bool false)], args := [d1, d2] }
  | _ => none }
def SaslTalksWrongFalsely : Prop := saslTalksRow.holds Try.pinned (OpenSpec.ofChange saslTalksWrong)

/-- 'posthornlaw22.SaslNil': WHATEVER THE INPUT: true; the input reads as it did. -/
def saslNilSpec : ChangeSpec := { name := "saslNil", fn := fun _ => fun
  | [d] => { results := [.lit (.bool true)], args := [d] }
  | _ => none }
def saslNilRow : OpenClaim := { program := "yticjpjgfccbhlaa", sum := "88bf4a208cb1eac29cf438900845d5e835cb14ff1811effb7841615aeaa8e3e3", func := "posthorn/posthornlaw22.SaslNil", spec := "saslNil", unfollowed := true, recurses := true, apart := false }
def SaslNilSaid : Prop := saslNilRow.holds Try.pinned (OpenSpec.ofChange saslNilSpec)

/-- ITS FALSE NEIGHBOUR: 'it returns false'. Refute it at one input. -/
def saslNilWrong : ChangeSpec := { name := "saslNil", fn := fun _ => fun
  | [d] => { results := [.lit (.bool false)], args := [d] }
  | _ => none }
def SaslNilWrongFalsely : Prop := saslNilRow.holds Try.pinned (OpenSpec.ofChange saslNilWrong)

/-- 'posthornlaw22.SaslBoth': WHATEVER THE INPUT: true; the input reads as it did. -/
def saslBothSpec : ChangeSpec := { name := "saslBoth", fn := fun _ => fun
  | [d1, d2, d3] => { results := [.lit (.bool true)], args := [d1, d2, d3] }
  | _ => none }
def saslBothRow : OpenClaim := { program := "yticjpjgfccbhlaa", sum := "88bf4a208cb1eac29cf438900845d5e835cb14ff1811effb7841615aeaa8e3e3", func := "posthorn/posthornlaw22.SaslBoth", spec := "saslBoth", inPlace := ["internal/bytealg.IndexByteString", "internal/bytealg.IndexString"], unfollowed := true, recurses := true, named := ["internal/bytealg.MaxLen"], apart := false }
def SaslBothSaid : Prop := saslBothRow.holds Try.pinned (OpenSpec.ofChange saslBothSpec)

/-- ITS FALSE NEIGHBOUR: 'it returns false'. Refute it at one input. -/
def saslBothWrong : ChangeSpec := { name := "saslBoth", fn := fun _ => fun
  | [d1, d2, d3] => { results := [.lit (.bool false)], args := [d1, d2, d3] }
  | _ => none }
def SaslBothWrongFalsely : Prop := saslBothRow.holds Try.pinned (OpenSpec.ofChange saslBothWrong)

/- THE SECOND FORM. 'bulk': how many values and letters a reading holds, each counted each time it is reached (what is shared counts as often as it is met; a slice's spare places count too). A statement '..UptoSaid' is the law's where the arguments, and the package variables that the reading takes, are together of bulk at most 1048576: NARROWER than '..Said'. Prove '..Said' where nothing that the law and all that it calls make is longer than what came in: it says more and counts as full. Else prove '..UptoSaid'. A law counts once. -/
mutual
def uptoBulk {H : Type} : DataW H → Nat
  | .lit (.string bytes) => bytes.length + 1
  | .lit _ => 1
  | .nil => 1
  | .ptr d => uptoBulk d + 1
  | .slice elems spare => uptoBulkAll elems + uptoBulkAll spare + 1
  | .agg parts => uptoBulkAll parts + 1
  | .iface _ d => uptoBulk d + 1
  | .map entries => uptoBulkEntries entries + 1
  | .held _ => 1
def uptoBulkAll {H : Type} : List (DataW H) → Nat
  | [] => 0
  | d :: r => uptoBulk d + uptoBulkAll r
def uptoBulkEntries {H : Type} : List (Lit × DataW H) → Nat
  | [] => 0
  | x :: r => uptoBulkEntry x + uptoBulkEntries r
def uptoBulkEntry {H : Type} : Lit × DataW H → Nat
  | (.string bytes, d) => bytes.length + uptoBulk d + 1
  | (_, d) => uptoBulk d + 1
 end
def uptoSmall : (H : Type) → List (DataW H) → Bool := fun _ ds => decide (uptoBulkAll ds ≤ 1048576)
def OpenSpec.upto (s : _root_.Go.ChangeSpec) : _root_.Go.OpenSpec := { _root_.Go.OpenSpec.ofChange s with cond := some uptoSmall }

/-- 'posthornlaw22.SaslNames', WHERE WHAT IT READS IS OF BULK AT MOST 1048576: true; the input reads as it did. -/
def saslNamesUptoRow : OpenClaim := { program := "yticjpjgfccbhlaa", sum := "88bf4a208cb1eac29cf438900845d5e835cb14ff1811effb7841615aeaa8e3e3", func := "posthorn/posthornlaw22.SaslNames", spec := "saslNames", apart := false, narrowed := true }
def SaslNamesUptoSaid : Prop := saslNamesUptoRow.holds Try.pinned (OpenSpec.upto saslNamesSpec)

/-- 'posthornlaw22.SaslTalks', WHERE WHAT IT READS IS OF BULK AT MOST 1048576: true; the input reads as it did. -/
def saslTalksUptoRow : OpenClaim := { program := "yticjpjgfccbhlaa", sum := "88bf4a208cb1eac29cf438900845d5e835cb14ff1811effb7841615aeaa8e3e3", func := "posthorn/posthornlaw22.SaslTalks", spec := "saslTalks", unfollowed := true, recurses := true, apart := false, narrowed := true }
def SaslTalksUptoSaid : Prop := saslTalksUptoRow.holds Try.pinned (OpenSpec.upto saslTalksSpec)

/-- 'posthornlaw22.SaslNil', WHERE WHAT IT READS IS OF BULK AT MOST 1048576: true; the input reads as it did. -/
def saslNilUptoRow : OpenClaim := { program := "yticjpjgfccbhlaa", sum := "88bf4a208cb1eac29cf438900845d5e835cb14ff1811effb7841615aeaa8e3e3", func := "posthorn/posthornlaw22.SaslNil", spec := "saslNil", unfollowed := true, recurses := true, apart := false, narrowed := true }
def SaslNilUptoSaid : Prop := saslNilUptoRow.holds Try.pinned (OpenSpec.upto saslNilSpec)

/-- 'posthornlaw22.SaslBoth', WHERE WHAT IT READS IS OF BULK AT MOST 1048576: true; the input reads as it did. -/
def saslBothUptoRow : OpenClaim := { program := "yticjpjgfccbhlaa", sum := "88bf4a208cb1eac29cf438900845d5e835cb14ff1811effb7841615aeaa8e3e3", func := "posthorn/posthornlaw22.SaslBoth", spec := "saslBoth", inPlace := ["internal/bytealg.IndexByteString", "internal/bytealg.IndexString"], unfollowed := true, recurses := true, named := ["internal/bytealg.MaxLen"], apart := false, narrowed := true }
def SaslBothUptoSaid : Prop := saslBothUptoRow.holds Try.pinned (OpenSpec.upto saslBothSpec)

end Rows
end Go.Proofs.Yticjpjgfccbhlaa
