/-
  DERIVED. GIVEN WITH THE SEED: THE CARDS: each row of YtkcphlffcpkmdaaDoorRows.lean that lists a variable, with what it lists TIED to the program's text (the seventh form; the later family's looks); each row that meets fmt, with fmt's text TOLD by the authors' own Lean function (tested against real Go, not proved from fmt's source: count such statements apart). THE CARD IS WHAT COUNTS. Prove the row's statement (the work); the ties are given (YtkcphlffcpkmdaaDoorTie.lean); close each card by the builder's one call (the guide's Derived/Test/ToyasCard.lean, 'card_holds'). Laid BY PROGRAM, IN A SANDBOX (cutbox-door.mjs). By AI agents, Wed Nov 11 2026. No macro, syntax, notation, axiom, sorry.
-/
import Derived.Test.YtkcphlffcpkmdaaDoorRows
import GoSem.ClaimSeven
namespace Go.Proofs.YtkcphlffcpkmdaaDoor
namespace Rows

/-- THE TIED CARD OF 'waystonelaw04.SchemaTexts'. -/
def schemaTextsCard : Claim7 := { stood := { row := schemaTextsRow, standIns := [], harness := (true, "7942e82d62b8dbdc407bdec4675f758c01e7cc2d28cec19069c113c1c9de376d"), looks := true }, kinds := [], alts := [], laidByText := true, laidKinds := [.data, .data, .data, .data, .sentinel, .sentinel, .pinned], laidTests := true, laidLooks := .later }
def SchemaTextsCardSaid : Prop := Claim7.holds Tryd.pinned (.plain (OpenSpec.ofChange schemaTextsSpec)) schemaTextsCard

/-- THE TIED CARD OF 'waystonelaw04.SchemaValues'. -/
def schemaValuesCard : Claim7 := { stood := { row := schemaValuesRow, standIns := [], harness := (true, "7942e82d62b8dbdc407bdec4675f758c01e7cc2d28cec19069c113c1c9de376d"), looks := true }, kinds := [], alts := [], laidByText := true, laidKinds := [.data, .data, .data, .data, .sentinel, .sentinel, .pinned], laidTests := true, laidLooks := .later }
def SchemaValuesCardSaid : Prop := Claim7.holds Tryd.pinned (.plain (OpenSpec.ofChange schemaValuesSpec)) schemaValuesCard

/-- THE SECOND FORM's CARD OF 'waystonelaw04.SchemaTexts'. -/
def schemaTextsUptoCard : Claim7 := { stood := { row := schemaTextsUptoRow, standIns := [], harness := (true, "7942e82d62b8dbdc407bdec4675f758c01e7cc2d28cec19069c113c1c9de376d"), looks := true }, kinds := [], alts := [], laidByText := true, laidKinds := [.data, .data, .data, .data, .sentinel, .sentinel, .pinned], laidTests := true, laidLooks := .later }
def SchemaTextsUptoCardSaid : Prop := Claim7.holds Tryd.pinned (.plain (OpenSpec.upto schemaTextsSpec)) schemaTextsUptoCard

/-- THE SECOND FORM's CARD OF 'waystonelaw04.SchemaValues'. -/
def schemaValuesUptoCard : Claim7 := { stood := { row := schemaValuesUptoRow, standIns := [], harness := (true, "7942e82d62b8dbdc407bdec4675f758c01e7cc2d28cec19069c113c1c9de376d"), looks := true }, kinds := [], alts := [], laidByText := true, laidKinds := [.data, .data, .data, .data, .sentinel, .sentinel, .pinned], laidTests := true, laidLooks := .later }
def SchemaValuesUptoCardSaid : Prop := Claim7.holds Tryd.pinned (.plain (OpenSpec.upto schemaValuesSpec)) schemaValuesUptoCard
end Rows
end Go.Proofs.YtkcphlffcpkmdaaDoor
