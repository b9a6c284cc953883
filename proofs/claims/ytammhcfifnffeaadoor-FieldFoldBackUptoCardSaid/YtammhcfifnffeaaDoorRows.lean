/-
  NARROWER THAN 'FOR EVERY INPUT', by the rows' own cells (each row's printed sentence says how): FieldPrints: laid · FieldFolds: laid · FieldParses: laid · FieldBack: laid · FieldAgain: laid · FieldAhead: laid · FieldFoldBack: laid · FieldMost: laid.
  DERIVED. THE GIVEN ROWS OF THIS SEAT. 8 by the template 'for every input the law returns true; each argument reads behind the call as it read before'; 0 by the template 'total and deterministic' (their statements: YtammhcfifnffeaaDoorTotals.lean).
  GIVEN WITH THE SEED: the statements are not yours to turn. If you find one false, say at which input.
  Laid BY PROGRAM, IN A SANDBOX (cutbox-rows.mjs): the forced cells as the released guide's own fill.sh prints them over the translation 9dd49e091c63529a… (all of the seat's roots in one cut). By AI agents, Wed Nov 11 2026. No macro, syntax, notation, axiom, sorry.
-/
import Derived.Test.YtammhcfifnffeaaDoorChecked
import GoSem.PinnedTables
import GoSem.Claim
import GoSem.ClaimJoined
import GoSem.ClaimMapViews
import Derived.JoinedTies
import Derived.KernelRfl
namespace Go.Proofs.YtammhcfifnffeaaDoor
/- THE CELL 'sum', in the pinned program and in every row, IS THE sha256 OF THE DUMP (.gsa) THAT YtammhcfifnffeaaDoorProg.lean LOADS. Nothing in Lean hashes anything: it is a label: what it is worth is what the hold of that sum in a sandbox is worth. -/
noncomputable def Tryd.pinned : Pinned := { name := "ytammhcfifnffeaadoor", sum := "9dd49e091c63529aeca5bab6caae9a8657629d5e57efa822669cbe24beb6f9cb", checked := Tryd.checked }
namespace Rows
def none {H : Type} : Left H := { results := [], args := [] }

/- WHAT THE LISTED PACKAGE-LEVEL VARIABLES READ AS WHEN THE CALL BEGINS. Each datum BY PROGRAM (the guide's laid-datum.mjs) off the statement by which the dump's own 'gosem.cut.vars' lays the variable. In a bare row this is a premise. The card (YtammhcfifnffeaaDoorCards.lean) ties it to the program's text. -/
def laid_unicode_utf8_acceptRanges {H : Type} : DataW H := .agg [.agg [.lit (.int .u8 128), .lit (.int .u8 191)], .agg [.lit (.int .u8 160), .lit (.int .u8 191)], .agg [.lit (.int .u8 128), .lit (.int .u8 159)], .agg [.lit (.int .u8 144), .lit (.int .u8 191)], .agg [.lit (.int .u8 128), .lit (.int .u8 143)], .agg [.lit (.int .u8 0), .lit (.int .u8 0)], .agg [.lit (.int .u8 0), .lit (.int .u8 0)], .agg [.lit (.int .u8 0), .lit (.int .u8 0)], .agg [.lit (.int .u8 0), .lit (.int .u8 0)], .agg [.lit (.int .u8 0), .lit (.int .u8 0)], .agg [.lit (.int .u8 0), .lit (.int .u8 0)], .agg [.lit (.int .u8 0), .lit (.int .u8 0)], .agg [.lit (.int .u8 0), .lit (.int .u8 0)], .agg [.lit (.int .u8 0), .lit (.int .u8 0)], .agg [.lit (.int .u8 0), .lit (.int .u8 0)], .agg [.lit (.int .u8 0), .lit (.int .u8 0)]]
def laid_posthorn_octet_stretches {H : Type} : DataW H := .agg [.agg [.lit (.int .i64 1), .lit (.int .u8 65), .lit (.int .u8 90)], .agg [.lit (.int .i64 1), .lit (.int .u8 97), .lit (.int .u8 122)], .agg [.lit (.int .i64 2), .lit (.int .u8 48), .lit (.int .u8 57)], .agg [.lit (.int .i64 3), .lit (.int .u8 65), .lit (.int .u8 90)], .agg [.lit (.int .i64 3), .lit (.int .u8 97), .lit (.int .u8 122)], .agg [.lit (.int .i64 3), .lit (.int .u8 48), .lit (.int .u8 57)], .agg [.lit (.int .i64 4), .lit (.int .u8 48), .lit (.int .u8 57)], .agg [.lit (.int .i64 4), .lit (.int .u8 65), .lit (.int .u8 70)], .agg [.lit (.int .i64 4), .lit (.int .u8 97), .lit (.int .u8 102)], .agg [.lit (.int .i64 5), .lit (.int .u8 33), .lit (.int .u8 33)], .agg [.lit (.int .i64 5), .lit (.int .u8 35), .lit (.int .u8 39)], .agg [.lit (.int .i64 5), .lit (.int .u8 42), .lit (.int .u8 43)], .agg [.lit (.int .i64 5), .lit (.int .u8 45), .lit (.int .u8 45)], .agg [.lit (.int .i64 5), .lit (.int .u8 47), .lit (.int .u8 47)], .agg [.lit (.int .i64 5), .lit (.int .u8 61), .lit (.int .u8 61)], .agg [.lit (.int .i64 5), .lit (.int .u8 63), .lit (.int .u8 63)], .agg [.lit (.int .i64 5), .lit (.int .u8 94), .lit (.int .u8 96)], .agg [.lit (.int .i64 5), .lit (.int .u8 123), .lit (.int .u8 126)], .agg [.lit (.int .i64 6), .lit (.int .u8 32), .lit (.int .u8 33)], .agg [.lit (.int .i64 6), .lit (.int .u8 35), .lit (.int .u8 91)], .agg [.lit (.int .i64 6), .lit (.int .u8 93), .lit (.int .u8 126)], .agg [.lit (.int .i64 7), .lit (.int .u8 33), .lit (.int .u8 90)], .agg [.lit (.int .i64 7), .lit (.int .u8 94), .lit (.int .u8 126)], .agg [.lit (.int .i64 8), .lit (.int .u8 33), .lit (.int .u8 60)], .agg [.lit (.int .i64 8), .lit (.int .u8 62), .lit (.int .u8 126)], .agg [.lit (.int .i64 9), .lit (.int .u8 33), .lit (.int .u8 42)], .agg [.lit (.int .i64 9), .lit (.int .u8 44), .lit (.int .u8 60)], .agg [.lit (.int .i64 9), .lit (.int .u8 62), .lit (.int .u8 126)], .agg [.lit (.int .i64 10), .lit (.int .u8 45), .lit (.int .u8 45)], .agg [.lit (.int .i64 11), .lit (.int .u8 33), .lit (.int .u8 57)], .agg [.lit (.int .i64 11), .lit (.int .u8 59), .lit (.int .u8 126)], .agg [.lit (.int .i64 12), .lit (.int .u8 9), .lit (.int .u8 9)], .agg [.lit (.int .i64 12), .lit (.int .u8 32), .lit (.int .u8 126)], .agg [.lit (.int .i64 13), .lit (.int .u8 0), .lit (.int .u8 127)], .agg [.lit (.int .i64 14), .lit (.int .u8 128), .lit (.int .u8 255)]]
/-- One of Go's own tables, pinned by name: the form's constant. -/
def laid_unicode_utf8_first : DataW Unit := Go.Pinned.utf8First

/-- 'posthornlaw16.FieldPrints': WHATEVER THE INPUT: true; the input reads as it did. -/
def fieldPrintsSpec : ChangeSpec := { name := "fieldPrints", fn := fun _ => fun
  | [d] => { results := [.lit (.bool true)], args := [d] }
  | _ => none }
def fieldPrintsRow : OpenClaim := { program := "ytammhcfifnffeaadoor", sum := "9dd49e091c63529aeca5bab6caae9a8657629d5e57efa822669cbe24beb6f9cb", func := "posthorn/posthornlaw16.FieldPrints", spec := "fieldPrints", inPlace := ["internal/bytealg.IndexByteString", "internal/bytealg.IndexString"], unfollowed := true, recurses := true, named := ["posthorn/octet.stretches", "internal/bytealg.MaxLen", "unicode/utf8.first", "unicode/utf8.acceptRanges"], apart := false, laid := [("unicode/utf8.acceptRanges", laid_unicode_utf8_acceptRanges), ("posthorn/octet.stretches", laid_posthorn_octet_stretches), ("unicode/utf8.first", laid_unicode_utf8_first)] }
def FieldPrintsSaid : Prop := fieldPrintsRow.holds Tryd.pinned (OpenSpec.ofChange fieldPrintsSpec)

/-- ITS FALSE NEIGHBOUR: 'it returns false'. Refute it at one input. -/
def fieldPrintsWrong : ChangeSpec := { name := "fieldPrints", fn := fun _ => fun
  | [d] => { results := [.lit (.bool false)], args := [d] }
  | _ => none }
def FieldPrintsWrongFalsely : Prop := fieldPrintsRow.holds Tryd.pinned (OpenSpec.ofChange fieldPrintsWrong)

/-- 'posthornlaw16.FieldFolds': WHATEVER THE INPUT: true; the input reads as it did. -/
def fieldFoldsSpec : ChangeSpec := { name := "fieldFolds", fn := fun _ => fun
  | [d1, d2, d3] => { results := [.lit (.bool true)], args := [d1, d2, d3] }
  | _ => none }
def fieldFoldsRow : OpenClaim := { program := "ytammhcfifnffeaadoor", sum := "9dd49e091c63529aeca5bab6caae9a8657629d5e57efa822669cbe24beb6f9cb", func := "posthorn/posthornlaw16.FieldFolds", spec := "fieldFolds", inPlace := ["internal/bytealg.IndexByteString", "internal/bytealg.IndexString"], unfollowed := true, recurses := true, named := ["posthorn/octet.stretches", "unicode/utf8.first", "unicode/utf8.acceptRanges", "internal/bytealg.MaxLen"], apart := false, laid := [("unicode/utf8.acceptRanges", laid_unicode_utf8_acceptRanges), ("posthorn/octet.stretches", laid_posthorn_octet_stretches), ("unicode/utf8.first", laid_unicode_utf8_first)] }
def FieldFoldsSaid : Prop := fieldFoldsRow.holds Tryd.pinned (OpenSpec.ofChange fieldFoldsSpec)

/-- ITS FALSE NEIGHBOUR: 'it returns false'. Refute it at one input. -/
def fieldFoldsWrong : ChangeSpec := { name := "fieldFolds", fn := fun _ => fun
  | [d1, d2, d3] => { results := [.lit (.bool false)], args := [d1, d2, d3] }
  | _ => none }
def FieldFoldsWrongFalsely : Prop := fieldFoldsRow.holds Tryd.pinned (OpenSpec.ofChange fieldFoldsWrong)

/-- 'posthornlaw16.FieldParses': WHATEVER THE INPUT: true; the input reads as it did. -/
def fieldParsesSpec : ChangeSpec := { name := "fieldParses", fn := fun _ => fun
  | [d] => { results := [.lit (.bool true)], args := [d] }
  | _ => none }
def fieldParsesRow : OpenClaim := { program := "ytammhcfifnffeaadoor", sum := "9dd49e091c63529aeca5bab6caae9a8657629d5e57efa822669cbe24beb6f9cb", func := "posthorn/posthornlaw16.FieldParses", spec := "fieldParses", inPlace := ["internal/bytealg.IndexByteString", "internal/bytealg.IndexByte", "internal/bytealg.Index", "internal/bytealg.IndexString"], unfollowed := true, recurses := true, named := ["internal/bytealg.MaxLen", "unicode/utf8.first", "unicode/utf8.acceptRanges", "posthorn/octet.stretches"], apart := false, laid := [("unicode/utf8.acceptRanges", laid_unicode_utf8_acceptRanges), ("posthorn/octet.stretches", laid_posthorn_octet_stretches), ("unicode/utf8.first", laid_unicode_utf8_first)] }
def FieldParsesSaid : Prop := fieldParsesRow.holds Tryd.pinned (OpenSpec.ofChange fieldParsesSpec)

/-- ITS FALSE NEIGHBOUR: 'it returns false'. Refute it at one input. -/
def fieldParsesWrong : ChangeSpec := { name := "fieldParses", fn := fun _ => fun
  | [d] => { results := [.lit (.bool false)], args := [d] }
  | _ => none }
def FieldParsesWrongFalsely : Prop := fieldParsesRow.holds Tryd.pinned (OpenSpec.ofChange fieldParsesWrong)

/-- 'posthornlaw16.FieldBack': WHATEVER THE INPUT: true; the input reads as it did. -/
def fieldBackSpec : ChangeSpec := { name := "fieldBack", fn := fun _ => fun
  | [d1, d2] => { results := [.lit (.bool true)], args := [d1, d2] }
  | _ => none }
def fieldBackRow : OpenClaim := { program := "ytammhcfifnffeaadoor", sum := "9dd49e091c63529aeca5bab6caae9a8657629d5e57efa822669cbe24beb6f9cb", func := "posthorn/posthornlaw16.FieldBack", spec := "fieldBack", inPlace := ["internal/bytealg.IndexByteString", "internal/bytealg.IndexByte", "internal/bytealg.Index", "internal/bytealg.IndexString"], unfollowed := true, recurses := true, named := ["internal/bytealg.MaxLen", "unicode/utf8.first", "unicode/utf8.acceptRanges", "posthorn/octet.stretches"], apart := false, laid := [("unicode/utf8.acceptRanges", laid_unicode_utf8_acceptRanges), ("posthorn/octet.stretches", laid_posthorn_octet_stretches), ("unicode/utf8.first", laid_unicode_utf8_first)] }
def FieldBackSaid : Prop := fieldBackRow.holds Tryd.pinned (OpenSpec.ofChange fieldBackSpec)

/-- ITS FALSE NEIGHBOUR: 'it returns false'. Refute it at one input. -/
def fieldBackWrong : ChangeSpec := { name := "fieldBack", fn := fun _ => fun
  | [d1, d2] => { results := [.lit (.bool false)], args := [d1, d2] }
  | _ => none }
def FieldBackWrongFalsely : Prop := fieldBackRow.holds Tryd.pinned (OpenSpec.ofChange fieldBackWrong)

/-- 'posthornlaw16.FieldAgain': WHATEVER THE INPUT: true; the input reads as it did. -/
def fieldAgainSpec : ChangeSpec := { name := "fieldAgain", fn := fun _ => fun
  | [d] => { results := [.lit (.bool true)], args := [d] }
  | _ => none }
def fieldAgainRow : OpenClaim := { program := "ytammhcfifnffeaadoor", sum := "9dd49e091c63529aeca5bab6caae9a8657629d5e57efa822669cbe24beb6f9cb", func := "posthorn/posthornlaw16.FieldAgain", spec := "fieldAgain", inPlace := ["internal/bytealg.IndexByteString", "internal/bytealg.IndexByte", "internal/bytealg.Index", "internal/bytealg.IndexString"], unfollowed := true, recurses := true, named := ["internal/bytealg.MaxLen", "unicode/utf8.first", "unicode/utf8.acceptRanges", "posthorn/octet.stretches"], apart := false, laid := [("unicode/utf8.acceptRanges", laid_unicode_utf8_acceptRanges), ("posthorn/octet.stretches", laid_posthorn_octet_stretches), ("unicode/utf8.first", laid_unicode_utf8_first)] }
def FieldAgainSaid : Prop := fieldAgainRow.holds Tryd.pinned (OpenSpec.ofChange fieldAgainSpec)

/-- ITS FALSE NEIGHBOUR: 'it returns false'. Refute it at one input. -/
def fieldAgainWrong : ChangeSpec := { name := "fieldAgain", fn := fun _ => fun
  | [d] => { results := [.lit (.bool false)], args := [d] }
  | _ => none }
def FieldAgainWrongFalsely : Prop := fieldAgainRow.holds Tryd.pinned (OpenSpec.ofChange fieldAgainWrong)

/-- 'posthornlaw16.FieldAhead': WHATEVER THE INPUT: true; the input reads as it did. -/
def fieldAheadSpec : ChangeSpec := { name := "fieldAhead", fn := fun _ => fun
  | [d1, d2] => { results := [.lit (.bool true)], args := [d1, d2] }
  | _ => none }
def fieldAheadRow : OpenClaim := { program := "ytammhcfifnffeaadoor", sum := "9dd49e091c63529aeca5bab6caae9a8657629d5e57efa822669cbe24beb6f9cb", func := "posthorn/posthornlaw16.FieldAhead", spec := "fieldAhead", inPlace := ["internal/bytealg.IndexByteString", "internal/bytealg.IndexByte", "internal/bytealg.Index", "internal/bytealg.IndexString"], unfollowed := true, recurses := true, named := ["internal/bytealg.MaxLen", "unicode/utf8.first", "unicode/utf8.acceptRanges", "posthorn/octet.stretches"], apart := false, laid := [("unicode/utf8.acceptRanges", laid_unicode_utf8_acceptRanges), ("posthorn/octet.stretches", laid_posthorn_octet_stretches), ("unicode/utf8.first", laid_unicode_utf8_first)] }
def FieldAheadSaid : Prop := fieldAheadRow.holds Tryd.pinned (OpenSpec.ofChange fieldAheadSpec)

/-- ITS FALSE NEIGHBOUR: 'it returns false'. Refute it at one input. -/
def fieldAheadWrong : ChangeSpec := { name := "fieldAhead", fn := fun _ => fun
  | [d1, d2] => { results := [.lit (.bool false)], args := [d1, d2] }
  | _ => none }
def FieldAheadWrongFalsely : Prop := fieldAheadRow.holds Tryd.pinned (OpenSpec.ofChange fieldAheadWrong)

/-- 'posthornlaw16.FieldFoldBack': WHATEVER THE INPUT: true; the input reads as it did. -/
def fieldFoldBackSpec : ChangeSpec := { name := "fieldFoldBack", fn := fun _ => fun
  | [d1, d2, d3] => { results := [.lit (.bool true)], args := [d1, d2, d3] }
  | _ => none }
def fieldFoldBackRow : OpenClaim := { program := "ytammhcfifnffeaadoor", sum := "9dd49e091c63529aeca5bab6caae9a8657629d5e57efa822669cbe24beb6f9cb", func := "posthorn/posthornlaw16.FieldFoldBack", spec := "fieldFoldBack", inPlace := ["internal/bytealg.IndexByteString", "internal/bytealg.IndexByte", "internal/bytealg.Index", "internal/bytealg.IndexString"], unfollowed := true, recurses := true, named := ["internal/bytealg.MaxLen", "unicode/utf8.first", "unicode/utf8.acceptRanges", "posthorn/octet.stretches"], apart := false, laid := [("unicode/utf8.acceptRanges", laid_unicode_utf8_acceptRanges), ("posthorn/octet.stretches", laid_posthorn_octet_stretches), ("unicode/utf8.first", laid_unicode_utf8_first)] }
def FieldFoldBackSaid : Prop := fieldFoldBackRow.holds Tryd.pinned (OpenSpec.ofChange fieldFoldBackSpec)

/-- ITS FALSE NEIGHBOUR: 'it returns false'. Refute it at one input. -/
def fieldFoldBackWrong : ChangeSpec := { name := "fieldFoldBack", fn := fun _ => fun
  | [d1, d2, d3] => { results := [.lit (.bool false)], args := [d1, d2, d3] }
  | _ => none }
def FieldFoldBackWrongFalsely : Prop := fieldFoldBackRow.holds Tryd.pinned (OpenSpec.ofChange fieldFoldBackWrong)

/-- 'posthornlaw16.FieldMost': WHATEVER THE INPUT: true; the input reads as it did. -/
def fieldMostSpec : ChangeSpec := { name := "fieldMost", fn := fun _ => fun
  | [] => { results := [.lit (.bool true)], args := [] }
  | _ => none }
def fieldMostRow : OpenClaim := { program := "ytammhcfifnffeaadoor", sum := "9dd49e091c63529aeca5bab6caae9a8657629d5e57efa822669cbe24beb6f9cb", func := "posthorn/posthornlaw16.FieldMost", spec := "fieldMost", inPlace := ["internal/bytealg.IndexByteString", "internal/bytealg.IndexByte", "internal/bytealg.Index", "internal/bytealg.IndexString"], unfollowed := true, recurses := true, named := ["internal/bytealg.MaxLen", "unicode/utf8.first", "unicode/utf8.acceptRanges", "posthorn/octet.stretches"], apart := false, laid := [("unicode/utf8.acceptRanges", laid_unicode_utf8_acceptRanges), ("posthorn/octet.stretches", laid_posthorn_octet_stretches), ("unicode/utf8.first", laid_unicode_utf8_first)] }
def FieldMostSaid : Prop := fieldMostRow.holds Tryd.pinned (OpenSpec.ofChange fieldMostSpec)

/-- ITS FALSE NEIGHBOUR: 'it returns false'. Refute it at one input. -/
def fieldMostWrong : ChangeSpec := { name := "fieldMost", fn := fun _ => fun
  | [] => { results := [.lit (.bool false)], args := [] }
  | _ => none }
def FieldMostWrongFalsely : Prop := fieldMostRow.holds Tryd.pinned (OpenSpec.ofChange fieldMostWrong)

/- THE SECOND FORM. 'bulk': how many values and letters a reading holds, each counted each time it is reached (what is shared counts as often as it is met; a slice's spare places count too). A statement '..UptoSaid' is the law's where the arguments, and the package variables that the reading takes, are together of bulk at most 1048576: NARROWER than '..Said'. Prove '..Said' where nothing that the law and all that it calls make is longer than what came in: it says more and counts as full. Else prove '..UptoSaid'. A law counts once. -/
mutual
def uptoBulk {H : Type} : DataW H → Nat
  | .lit (.string bytes) => bytes.length + 1
  | .lit _ => 1
  | .nil => 1
  | .ptr d => uptoBulk d + 1
  | .slice elems spare => uptoBulkAll elems + uptoBulkAll spare + 1
  | .agg parts => uptoBulkAll parts + 1
  | .iface _ d => uptoBulk d + 1
  | .map entries => uptoBulkEntries entries + 1
  | .held _ => 1
def uptoBulkAll {H : Type} : List (DataW H) → Nat
  | [] => 0
  | d :: r => uptoBulk d + uptoBulkAll r
def uptoBulkEntries {H : Type} : List (Lit × DataW H) → Nat
  | [] => 0
  | x :: r => uptoBulkEntry x + uptoBulkEntries r
def uptoBulkEntry {H : Type} : Lit × DataW H → Nat
  | (.string bytes, d) => bytes.length + uptoBulk d + 1
  | (_, d) => uptoBulk d + 1
 end
def uptoSmall : (H : Type) → List (DataW H) → Bool := fun _ ds => decide (uptoBulkAll ds ≤ 1048576)
def OpenSpec.upto (s : _root_.Go.ChangeSpec) : _root_.Go.OpenSpec := { _root_.Go.OpenSpec.ofChange s with cond := some uptoSmall }

/-- 'posthornlaw16.FieldPrints', WHERE WHAT IT READS IS OF BULK AT MOST 1048576: true; the input reads as it did. -/
def fieldPrintsUptoRow : OpenClaim := { program := "ytammhcfifnffeaadoor", sum := "9dd49e091c63529aeca5bab6caae9a8657629d5e57efa822669cbe24beb6f9cb", func := "posthorn/posthornlaw16.FieldPrints", spec := "fieldPrints", inPlace := ["internal/bytealg.IndexByteString", "internal/bytealg.IndexString"], unfollowed := true, recurses := true, named := ["posthorn/octet.stretches", "internal/bytealg.MaxLen", "unicode/utf8.first", "unicode/utf8.acceptRanges"], apart := false, laid := [("unicode/utf8.acceptRanges", laid_unicode_utf8_acceptRanges), ("posthorn/octet.stretches", laid_posthorn_octet_stretches), ("unicode/utf8.first", laid_unicode_utf8_first)], narrowed := true }
def FieldPrintsUptoSaid : Prop := fieldPrintsUptoRow.holds Tryd.pinned (OpenSpec.upto fieldPrintsSpec)

/-- 'posthornlaw16.FieldFolds', WHERE WHAT IT READS IS OF BULK AT MOST 1048576: true; the input reads as it did. -/
def fieldFoldsUptoRow : OpenClaim := { program := "ytammhcfifnffeaadoor", sum := "9dd49e091c63529aeca5bab6caae9a8657629d5e57efa822669cbe24beb6f9cb", func := "posthorn/posthornlaw16.FieldFolds", spec := "fieldFolds", inPlace := ["internal/bytealg.IndexByteString", "internal/bytealg.IndexString"], unfollowed := true, recurses := true, named := ["posthorn/octet.stretches", "unicode/utf8.first", "unicode/utf8.acceptRanges", "internal/bytealg.MaxLen"], apart := false, laid := [("unicode/utf8.acceptRanges", laid_unicode_utf8_acceptRanges), ("posthorn/octet.stretches", laid_posthorn_octet_stretches), ("unicode/utf8.first", laid_unicode_utf8_first)], narrowed := true }
def FieldFoldsUptoSaid : Prop := fieldFoldsUptoRow.holds Tryd.pinned (OpenSpec.upto fieldFoldsSpec)

/-- 'posthornlaw16.FieldParses', WHERE WHAT IT READS IS OF BULK AT MOST 1048576: true; the input reads as it did. -/
def fieldParsesUptoRow : OpenClaim := { program := "ytammhcfifnffeaadoor", sum := "9dd49e091c63529aeca5bab6caae9a8657629d5e57efa822669cbe24beb6f9cb", func := "posthorn/posthornlaw16.FieldParses", spec := "fieldParses", inPlace := ["internal/bytealg.IndexByteString", "internal/bytealg.IndexByte", "internal/bytealg.Index", "internal/bytealg.IndexString"], unfollowed := true, recurses := true, named := ["internal/bytealg.MaxLen", "unicode/utf8.first", "unicode/utf8.acceptRanges", "posthorn/octet.stretches"], apart := false, laid := [("unicode/utf8.acceptRanges", laid_unicode_utf8_acceptRanges), ("posthorn/octet.stretches", laid_posthorn_octet_stretches), ("unicode/utf8.first", laid_unicode_utf8_first)], narrowed := true }
def FieldParsesUptoSaid : Prop := fieldParsesUptoRow.holds Tryd.pinned (OpenSpec.upto fieldParsesSpec)

/-- 'posthornlaw16.FieldBack', WHERE WHAT IT READS IS OF BULK AT MOST 1048576: true; the input reads as it did. -/
def fieldBackUptoRow : OpenClaim := { program := "ytammhcfifnffeaadoor", sum := "9dd49e091c63529aeca5bab6caae9a8657629d5e57efa822669cbe24beb6f9cb", func := "posthorn/posthornlaw16.FieldBack", spec := "fieldBack", inPlace := ["internal/bytealg.IndexByteString", "internal/bytealg.IndexByte", "internal/bytealg.Index", "internal/bytealg.IndexString"], unfollowed := true, recurses := true, named := ["internal/bytealg.MaxLen", "unicode/utf8.first", "unicode/utf8.acceptRanges", "posthorn/octet.stretches"], apart := false, laid := [("unicode/utf8.acceptRanges", laid_unicode_utf8_acceptRanges), ("posthorn/octet.stretches", laid_posthorn_octet_stretches), ("unicode/utf8.first", laid_unicode_utf8_first)], narrowed := true }
def FieldBackUptoSaid : Prop := fieldBackUptoRow.holds Tryd.pinned (OpenSpec.upto fieldBackSpec)

/-- 'posthornlaw16.FieldAgain', WHERE WHAT IT READS IS OF BULK AT MOST 1048576: true; the input reads as it did. -/
def fieldAgainUptoRow : OpenClaim := { program := "ytammhcfifnffeaadoor", sum := "9dd49e091c63529aeca5bab6caae9a8657629d5e57efa822669cbe24beb6f9cb", func := "posthorn/posthornlaw16.FieldAgain", spec := "fieldAgain", inPlace := ["internal/bytealg.IndexByteString", "internal/bytealg.IndexByte", "internal/bytealg.Index", "internal/bytealg.IndexString"], unfollowed := true, recurses := true, named := ["internal/bytealg.MaxLen", "unicode/utf8.first", "unicode/utf8.acceptRanges", "posthorn/octet.stretches"], apart := false, laid := [("unicode/utf8.acceptRanges", laid_unicode_utf8_acceptRanges), ("posthorn/octet.stretches", laid_posthorn_octet_stretches), ("unicode/utf8.first", laid_unicode_utf8_first)], narrowed := true }
def FieldAgainUptoSaid : Prop := fieldAgainUptoRow.holds Tryd.pinned (OpenSpec.upto fieldAgainSpec)

/-- 'posthornlaw16.FieldAhead', WHERE WHAT IT READS IS OF BULK AT MOST 1048576: true; the input reads as it did. -/
def fieldAheadUptoRow : OpenClaim := { program := "ytammhcfifnffeaadoor", sum := "9dd49e091c63529aeca5bab6caae9a8657629d5e57efa822669cbe24beb6f9cb", func := "posthorn/posthornlaw16.FieldAhead", spec := "fieldAhead", inPlace := ["internal/bytealg.IndexByteString", "internal/bytealg.IndexByte", "internal/bytealg.Index", "internal/bytealg.IndexString"], unfollowed := true, recurses := true, named := ["internal/bytealg.MaxLen", "unicode/utf8.first", "unicode/utf8.acceptRanges", "posthorn/octet.stretches"], apart := false, laid := [("unicode/utf8.acceptRanges", laid_unicode_utf8_acceptRanges), ("posthorn/octet.stretches", laid_posthorn_octet_stretches), ("unicode/utf8.first", laid_unicode_utf8_first)], narrowed := true }
def FieldAheadUptoSaid : Prop := fieldAheadUptoRow.holds Tryd.pinned (OpenSpec.upto fieldAheadSpec)

/-- 'posthornlaw16.FieldFoldBack', WHERE WHAT IT READS IS OF BULK AT MOST 1048576: true; the input reads as it did. -/
def fieldFoldBackUptoRow : OpenClaim := { program := "ytammhcfifnffeaadoor", sum := "9dd49e091c63529aeca5bab6caae9a8657629d5e57efa822669cbe24beb6f9cb", func := "posthorn/posthornlaw16.FieldFoldBack", spec := "fieldFoldBack", inPlace := ["internal/bytealg.IndexByteString", "internal/bytealg.IndexByte", "internal/bytealg.Index", "internal/bytealg.IndexString"], unfollowed := true, recurses := true, named := ["internal/bytealg.MaxLen", "unicode/utf8.first", "unicode/utf8.acceptRanges", "posthorn/octet.stretches"], apart := false, laid := [("unicode/utf8.acceptRanges", laid_unicode_utf8_acceptRanges), ("posthorn/octet.stretches", laid_posthorn_octet_stretches), ("unicode/utf8.first", laid_unicode_utf8_first)], narrowed := true }
def FieldFoldBackUptoSaid : Prop := fieldFoldBackUptoRow.holds Tryd.pinned (OpenSpec.upto fieldFoldBackSpec)

/-- 'posthornlaw16.FieldMost', WHERE WHAT IT READS IS OF BULK AT MOST 1048576: true; the input reads as it did. -/
def fieldMostUptoRow : OpenClaim := { program := "ytammhcfifnffeaadoor", sum := "9dd49e091c63529aeca5bab6caae9a8657629d5e57efa822669cbe24beb6f9cb", func := "posthorn/posthornlaw16.FieldMost", spec := "fieldMost", inPlace := ["internal/bytealg.IndexByteString", "internal/bytealg.IndexByte", "internal/bytealg.Index", "internal/bytealg.IndexString"], unfollowed := true, recurses := true, named := ["internal/bytealg.MaxLen", "unicode/utf8.first", "unicode/utf8.acceptRanges", "posthorn/octet.stretches"], apart := false, laid := [("unicode/utf8.acceptRanges", laid_unicode_utf8_acceptRanges), ("posthorn/octet.stretches", laid_posthorn_octet_stretches), ("unicode/utf8.first", laid_unicode_utf8_first)], narrowed := true }
def FieldMostUptoSaid : Prop := fieldMostUptoRow.holds Tryd.pinned (OpenSpec.upto fieldMostSpec)

end Rows
end Go.Proofs.YtammhcfifnffeaaDoor
