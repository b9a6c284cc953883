/-
  DERIVED. GIVEN WITH THE SEED: THE CARDS: each row of YtammhcfifnffeaaDoorRows.lean that lists a variable, with what it lists TIED to the program's text (the seventh form; the later family's looks); each row that meets fmt, with fmt's text TOLD by the authors' own Lean function (tested against real Go, not proved from fmt's source: count such statements apart). THE CARD IS WHAT COUNTS. Prove the row's statement (the work); the ties are given (YtammhcfifnffeaaDoorTie.lean); close each card by the builder's one call (the guide's Derived/Test/ToyasCard.lean, 'card_holds'). Laid BY PROGRAM, IN A SANDBOX (cutbox-door.mjs). By AI agents, Wed Nov 11 2026. No macro, syntax, notation, axiom, sorry.
-/
import Derived.Test.YtammhcfifnffeaaDoorRows
import GoSem.ClaimSeven
namespace Go.Proofs.YtammhcfifnffeaaDoor
namespace Rows

/-- THE TIED CARD OF 'posthornlaw16.FieldPrints'. -/
def fieldPrintsCard : Claim7 := { stood := { row := fieldPrintsRow, standIns := [], harness := (true, "60e71f846c2772b07fac49163f0c258850f10bf4f0bf0e6f9a8a800795d3526f"), looks := false }, kinds := [], alts := [], laidByText := true, laidKinds := [.data, .data, .pinned], laidTests := true, laidLooks := .later }
def FieldPrintsCardSaid : Prop := Claim7.holds Tryd.pinned (.plain (OpenSpec.ofChange fieldPrintsSpec)) fieldPrintsCard

/-- THE TIED CARD OF 'posthornlaw16.FieldFolds'. -/
def fieldFoldsCard : Claim7 := { stood := { row := fieldFoldsRow, standIns := [], harness := (true, "60e71f846c2772b07fac49163f0c258850f10bf4f0bf0e6f9a8a800795d3526f"), looks := false }, kinds := [], alts := [], laidByText := true, laidKinds := [.data, .data, .pinned], laidTests := true, laidLooks := .later }
def FieldFoldsCardSaid : Prop := Claim7.holds Tryd.pinned (.plain (OpenSpec.ofChange fieldFoldsSpec)) fieldFoldsCard

/-- THE TIED CARD OF 'posthornlaw16.FieldParses'. -/
def fieldParsesCard : Claim7 := { stood := { row := fieldParsesRow, standIns := [], harness := (true, "60e71f846c2772b07fac49163f0c258850f10bf4f0bf0e6f9a8a800795d3526f"), looks := false }, kinds := [], alts := [], laidByText := true, laidKinds := [.data, .data, .pinned], laidTests := true, laidLooks := .later }
def FieldParsesCardSaid : Prop := Claim7.holds Tryd.pinned (.plain (OpenSpec.ofChange fieldParsesSpec)) fieldParsesCard

/-- THE TIED CARD OF 'posthornlaw16.FieldBack'. -/
def fieldBackCard : Claim7 := { stood := { row := fieldBackRow, standIns := [], harness := (true, "60e71f846c2772b07fac49163f0c258850f10bf4f0bf0e6f9a8a800795d3526f"), looks := false }, kinds := [], alts := [], laidByText := true, laidKinds := [.data, .data, .pinned], laidTests := true, laidLooks := .later }
def FieldBackCardSaid : Prop := Claim7.holds Tryd.pinned (.plain (OpenSpec.ofChange fieldBackSpec)) fieldBackCard

/-- THE TIED CARD OF 'posthornlaw16.FieldAgain'. -/
def fieldAgainCard : Claim7 := { stood := { row := fieldAgainRow, standIns := [], harness := (true, "60e71f846c2772b07fac49163f0c258850f10bf4f0bf0e6f9a8a800795d3526f"), looks := false }, kinds := [], alts := [], laidByText := true, laidKinds := [.data, .data, .pinned], laidTests := true, laidLooks := .later }
def FieldAgainCardSaid : Prop := Claim7.holds Tryd.pinned (.plain (OpenSpec.ofChange fieldAgainSpec)) fieldAgainCard

/-- THE TIED CARD OF 'posthornlaw16.FieldAhead'. -/
def fieldAheadCard : Claim7 := { stood := { row := fieldAheadRow, standIns := [], harness := (true, "60e71f846c2772b07fac49163f0c258850f10bf4f0bf0e6f9a8a800795d3526f"), looks := false }, kinds := [], alts := [], laidByText := true, laidKinds := [.data, .data, .pinned], laidTests := true, laidLooks := .later }
def FieldAheadCardSaid : Prop := Claim7.holds Tryd.pinned (.plain (OpenSpec.ofChange fieldAheadSpec)) fieldAheadCard

/-- THE TIED CARD OF 'posthornlaw16.FieldFoldBack'. -/
def fieldFoldBackCard : Claim7 := { stood := { row := fieldFoldBackRow, standIns := [], harness := (true, "60e71f846c2772b07fac49163f0c258850f10bf4f0bf0e6f9a8a800795d3526f"), looks := false }, kinds := [], alts := [], laidByText := true, laidKinds := [.data, .data, .pinned], laidTests := true, laidLooks := .later }
def FieldFoldBackCardSaid : Prop := Claim7.holds Tryd.pinned (.plain (OpenSpec.ofChange fieldFoldBackSpec)) fieldFoldBackCard

/-- THE TIED CARD OF 'posthornlaw16.FieldMost'. -/
def fieldMostCard : Claim7 := { stood := { row := fieldMostRow, standIns := [], harness := (true, "60e71f846c2772b07fac49163f0c258850f10bf4f0bf0e6f9a8a800795d3526f"), looks := false }, kinds := [], alts := [], laidByText := true, laidKinds := [.data, .data, .pinned], laidTests := true, laidLooks := .later }
def FieldMostCardSaid : Prop := Claim7.holds Tryd.pinned (.plain (OpenSpec.ofChange fieldMostSpec)) fieldMostCard

/-- THE SECOND FORM's CARD OF 'posthornlaw16.FieldPrints'. -/
def fieldPrintsUptoCard : Claim7 := { stood := { row := fieldPrintsUptoRow, standIns := [], harness := (true, "60e71f846c2772b07fac49163f0c258850f10bf4f0bf0e6f9a8a800795d3526f"), looks := false }, kinds := [], alts := [], laidByText := true, laidKinds := [.data, .data, .pinned], laidTests := true, laidLooks := .later }
def FieldPrintsUptoCardSaid : Prop := Claim7.holds Tryd.pinned (.plain (OpenSpec.upto fieldPrintsSpec)) fieldPrintsUptoCard

/-- THE SECOND FORM's CARD OF 'posthornlaw16.FieldFolds'. -/
def fieldFoldsUptoCard : Claim7 := { stood := { row := fieldFoldsUptoRow, standIns := [], harness := (true, "60e71f846c2772b07fac49163f0c258850f10bf4f0bf0e6f9a8a800795d3526f"), looks := false }, kinds := [], alts := [], laidByText := true, laidKinds := [.data, .data, .pinned], laidTests := true, laidLooks := .later }
def FieldFoldsUptoCardSaid : Prop := Claim7.holds Tryd.pinned (.plain (OpenSpec.upto fieldFoldsSpec)) fieldFoldsUptoCard

/-- THE SECOND FORM's CARD OF 'posthornlaw16.FieldParses'. -/
def fieldParsesUptoCard : Claim7 := { stood := { row := fieldParsesUptoRow, standIns := [], harness := (true, "60e71f846c2772b07fac49163f0c258850f10bf4f0bf0e6f9a8a800795d3526f"), looks := false }, kinds := [], alts := [], laidByText := true, laidKinds := [.data, .data, .pinned], laidTests := true, laidLooks := .later }
def FieldParsesUptoCardSaid : Prop := Claim7.holds Tryd.pinned (.plain (OpenSpec.upto fieldParsesSpec)) fieldParsesUptoCard

/-- THE SECOND FORM's CARD OF 'posthornlaw16.FieldBack'. -/
def fieldBackUptoCard : Claim7 := { stood := { row := fieldBackUptoRow, standIns := [], harness := (true, "60e71f846c2772b07fac49163f0c258850f10bf4f0bf0e6f9a8a800795d3526f"), looks := false }, kinds := [], alts := [], laidByText := true, laidKinds := [.data, .data, .pinned], laidTests := true, laidLooks := .later }
def FieldBackUptoCardSaid : Prop := Claim7.holds Tryd.pinned (.plain (OpenSpec.upto fieldBackSpec)) fieldBackUptoCard

/-- THE SECOND FORM's CARD OF 'posthornlaw16.FieldAgain'. -/
def fieldAgainUptoCard : Claim7 := { stood := { row := fieldAgainUptoRow, standIns := [], harness := (true, "60e71f846c2772b07fac49163f0c258850f10bf4f0bf0e6f9a8a800795d3526f"), looks := false }, kinds := [], alts := [], laidByText := true, laidKinds := [.data, .data, .pinned], laidTests := true, laidLooks := .later }
def FieldAgainUptoCardSaid : Prop := Claim7.holds Tryd.pinned (.plain (OpenSpec.upto fieldAgainSpec)) fieldAgainUptoCard

/-- THE SECOND FORM's CARD OF 'posthornlaw16.FieldAhead'. -/
def fieldAheadUptoCard : Claim7 := { stood := { row := fieldAheadUptoRow, standIns := [], harness := (true, "60e71f846c2772b07fac49163f0c258850f10bf4f0bf0e6f9a8a800795d3526f"), looks := false }, kinds := [], alts := [], laidByText := true, laidKinds := [.data, .data, .pinned], laidTests := true, laidLooks := .later }
def FieldAheadUptoCardSaid : Prop := Claim7.holds Tryd.pinned (.plain (OpenSpec.upto fieldAheadSpec)) fieldAheadUptoCard

/-- THE SECOND FORM's CARD OF 'posthornlaw16.FieldFoldBack'. -/
def fieldFoldBackUptoCard : Claim7 := { stood := { row := fieldFoldBackUptoRow, standIns := [], harness := (true, "60e71f846c2772b07fac49163f0c258850f10bf4f0bf0e6f9a8a800795d3526f"), looks := false }, kinds := [], alts := [], laidByText := true, laidKinds := [.data, .data, .pinned], laidTests := true, laidLooks := .later }
def FieldFoldBackUptoCardSaid : Prop := Claim7.holds Tryd.pinned (.plain (OpenSpec.upto fieldFoldBackSpec)) fieldFoldBackUptoCard

/-- THE SECOND FORM's CARD OF 'posthornlaw16.FieldMost'. -/
def fieldMostUptoCard : Claim7 := { stood := { row := fieldMostUptoRow, standIns := [], harness := (true, "60e71f846c2772b07fac49163f0c258850f10bf4f0bf0e6f9a8a800795d3526f"), looks := false }, kinds := [], alts := [], laidByText := true, laidKinds := [.data, .data, .pinned], laidTests := true, laidLooks := .later }
def FieldMostUptoCardSaid : Prop := Claim7.holds Tryd.pinned (.plain (OpenSpec.upto fieldMostSpec)) fieldMostUptoCard
end Rows
end Go.Proofs.YtammhcfifnffeaaDoor
