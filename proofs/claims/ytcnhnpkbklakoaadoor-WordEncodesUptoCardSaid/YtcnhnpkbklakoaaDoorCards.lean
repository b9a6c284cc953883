/-
  DERIVED. GIVEN WITH THE SEED: THE CARDS: each row of YtcnhnpkbklakoaaDoorRows.lean that lists a variable, with what it lists TIED to the program's text (the seventh form; the later family's looks); each row that meets fmt, with fmt's text TOLD by the authors' own Lean function (tested against real Go, not proved from fmt's source: count such statements apart). THE CARD IS WHAT COUNTS. Prove the row's statement (the work); the ties are given (YtcnhnpkbklakoaaDoorTie.lean); close each card by the builder's one call (the guide's Derived/Test/ToyasCard.lean, 'card_holds'). Laid BY PROGRAM, IN A SANDBOX (cutbox-door.mjs). By AI agents, Wed Nov 11 2026. No macro, syntax, notation, axiom, sorry.
-/
import Derived.Test.YtcnhnpkbklakoaaDoorRows
import GoSem.ClaimSeven
namespace Go.Proofs.YtcnhnpkbklakoaaDoor
namespace Rows

/-- THE TIED CARD OF 'posthornlaw17.WordKnown'. -/
def wordKnownCard : Claim7 := { stood := { row := wordKnownRow, standIns := [], harness := (true, "903a94447a96b9249f9e2503ee979cfa2d847e8014fbf634fdf6f05555ed72d3"), looks := false }, kinds := [], alts := [], laidByText := true, laidKinds := [.data, .data, .pinned], laidTests := true, laidLooks := .later }
def WordKnownCardSaid : Prop := Claim7.holds Tryd.pinned (.plain (OpenSpec.ofChange wordKnownSpec)) wordKnownCard

/-- THE TIED CARD OF 'posthornlaw17.WordEncodes'. -/
def wordEncodesCard : Claim7 := { stood := { row := wordEncodesRow, standIns := [], harness := (true, "903a94447a96b9249f9e2503ee979cfa2d847e8014fbf634fdf6f05555ed72d3"), looks := false }, kinds := [], alts := [], laidByText := true, laidKinds := [.data, .data, .pinned], laidTests := true, laidLooks := .later }
def WordEncodesCardSaid : Prop := Claim7.holds Tryd.pinned (.plain (OpenSpec.ofChange wordEncodesSpec)) wordEncodesCard

/-- THE TIED CARD OF 'posthornlaw17.WordDecodes'. -/
def wordDecodesCard : Claim7 := { stood := { row := wordDecodesRow, standIns := [], harness := (true, "903a94447a96b9249f9e2503ee979cfa2d847e8014fbf634fdf6f05555ed72d3"), looks := false }, kinds := [], alts := [], laidByText := true, laidKinds := [.data, .data, .pinned], laidTests := true, laidLooks := .later }
def WordDecodesCardSaid : Prop := Claim7.holds Tryd.pinned (.plain (OpenSpec.ofChange wordDecodesSpec)) wordDecodesCard

/-- THE TIED CARD OF 'posthornlaw17.WordBack'. -/
def wordBackCard : Claim7 := { stood := { row := wordBackRow, standIns := [], harness := (true, "903a94447a96b9249f9e2503ee979cfa2d847e8014fbf634fdf6f05555ed72d3"), looks := false }, kinds := [], alts := [], laidByText := true, laidKinds := [.data, .data, .pinned], laidTests := true, laidLooks := .later }
def WordBackCardSaid : Prop := Claim7.holds Tryd.pinned (.plain (OpenSpec.ofChange wordBackSpec)) wordBackCard

/-- THE TIED CARD OF 'posthornlaw17.WordPlain'. -/
def wordPlainCard : Claim7 := { stood := { row := wordPlainRow, standIns := [], harness := (true, "903a94447a96b9249f9e2503ee979cfa2d847e8014fbf634fdf6f05555ed72d3"), looks := false }, kinds := [], alts := [], laidByText := true, laidKinds := [.data, .data, .pinned], laidTests := true, laidLooks := .later }
def WordPlainCardSaid : Prop := Claim7.holds Tryd.pinned (.plain (OpenSpec.ofChange wordPlainSpec)) wordPlainCard

/-- THE TIED CARD OF 'posthornlaw17.WordFit'. -/
def wordFitCard : Claim7 := { stood := { row := wordFitRow, standIns := [], harness := (true, "903a94447a96b9249f9e2503ee979cfa2d847e8014fbf634fdf6f05555ed72d3"), looks := false }, kinds := [], alts := [], laidByText := true, laidKinds := [.data, .data, .pinned], laidTests := true, laidLooks := .later }
def WordFitCardSaid : Prop := Claim7.holds Tryd.pinned (.plain (OpenSpec.ofChange wordFitSpec)) wordFitCard

/-- THE TIED CARD OF 'posthornlaw17.WordAmong'. -/
def wordAmongCard : Claim7 := { stood := { row := wordAmongRow, standIns := [], harness := (true, "903a94447a96b9249f9e2503ee979cfa2d847e8014fbf634fdf6f05555ed72d3"), looks := false }, kinds := [], alts := [], laidByText := true, laidKinds := [.data, .data, .pinned], laidTests := true, laidLooks := .later }
def WordAmongCardSaid : Prop := Claim7.holds Tryd.pinned (.plain (OpenSpec.ofChange wordAmongSpec)) wordAmongCard

/-- THE SECOND FORM's CARD OF 'posthornlaw17.WordKnown'. -/
def wordKnownUptoCard : Claim7 := { stood := { row := wordKnownUptoRow, standIns := [], harness := (true, "903a94447a96b9249f9e2503ee979cfa2d847e8014fbf634fdf6f05555ed72d3"), looks := false }, kinds := [], alts := [], laidByText := true, laidKinds := [.data, .data, .pinned], laidTests := true, laidLooks := .later }
def WordKnownUptoCardSaid : Prop := Claim7.holds Tryd.pinned (.plain (OpenSpec.upto wordKnownSpec)) wordKnownUptoCard

/-- THE SECOND FORM's CARD OF 'posthornlaw17.WordEncodes'. -/
def wordEncodesUptoCard : Claim7 := { stood := { row := wordEncodesUptoRow, standIns := [], harness := (true, "903a94447a96b9249f9e2503ee979cfa2d847e8014fbf634fdf6f05555ed72d3"), looks := false }, kinds := [], alts := [], laidByText := true, laidKinds := [.data, .data, .pinned], laidTests := true, laidLooks := .later }
def WordEncodesUptoCardSaid : Prop := Claim7.holds Tryd.pinned (.plain (OpenSpec.upto wordEncodesSpec)) wordEncodesUptoCard

/-- THE SECOND FORM's CARD OF 'posthornlaw17.WordDecodes'. -/
def wordDecodesUptoCard : Claim7 := { stood := { row := wordDecodesUptoRow, standIns := [], harness := (true, "903a94447a96b9249f9e2503ee979cfa2d847e8014fbf634fdf6f05555ed72d3"), looks := false }, kinds := [], alts := [], laidByText := true, laidKinds := [.data, .data, .pinned], laidTests := true, laidLooks := .later }
def WordDecodesUptoCardSaid : Prop := Claim7.holds Tryd.pinned (.plain (OpenSpec.upto wordDecodesSpec)) wordDecodesUptoCard

/-- THE SECOND FORM's CARD OF 'posthornlaw17.WordBack'. -/
def wordBackUptoCard : Claim7 := { stood := { row := wordBackUptoRow, standIns := [], harness := (true, "903a94447a96b9249f9e2503ee979cfa2d847e8014fbf634fdf6f05555ed72d3"), looks := false }, kinds := [], alts := [], laidByText := true, laidKinds := [.data, .data, .pinned], laidTests := true, laidLooks := .later }
def WordBackUptoCardSaid : Prop := Claim7.holds Tryd.pinned (.plain (OpenSpec.upto wordBackSpec)) wordBackUptoCard

/-- THE SECOND FORM's CARD OF 'posthornlaw17.WordPlain'. -/
def wordPlainUptoCard : Claim7 := { stood := { row := wordPlainUptoRow, standIns := [], harness := (true, "903a94447a96b9249f9e2503ee979cfa2d847e8014fbf634fdf6f05555ed72d3"), looks := false }, kinds := [], alts := [], laidByText := true, laidKinds := [.data, .data, .pinned], laidTests := true, laidLooks := .later }
def WordPlainUptoCardSaid : Prop := Claim7.holds Tryd.pinned (.plain (OpenSpec.upto wordPlainSpec)) wordPlainUptoCard

/-- THE SECOND FORM's CARD OF 'posthornlaw17.WordFit'. -/
def wordFitUptoCard : Claim7 := { stood := { row := wordFitUptoRow, standIns := [], harness := (true, "903a94447a96b9249f9e2503ee979cfa2d847e8014fbf634fdf6f05555ed72d3"), looks := false }, kinds := [], alts := [], laidByText := true, laidKinds := [.data, .data, .pinned], laidTests := true, laidLooks := .later }
def WordFitUptoCardSaid : Prop := Claim7.holds Tryd.pinned (.plain (OpenSpec.upto wordFitSpec)) wordFitUptoCard

/-- THE SECOND FORM's CARD OF 'posthornlaw17.WordAmong'. -/
def wordAmongUptoCard : Claim7 := { stood := { row := wordAmongUptoRow, standIns := [], harness := (true, "903a94447a96b9249f9e2503ee979cfa2d847e8014fbf634fdf6f05555ed72d3"), looks := false }, kinds := [], alts := [], laidByText := true, laidKinds := [.data, .data, .pinned], laidTests := true, laidLooks := .later }
def WordAmongUptoCardSaid : Prop := Claim7.holds Tryd.pinned (.plain (OpenSpec.upto wordAmongSpec)) wordAmongUptoCard
end Rows
end Go.Proofs.YtcnhnpkbklakoaaDoor
