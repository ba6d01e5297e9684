/-
  DERIVED. GIVEN WITH THE SEED: THE CARDS: each row of YtfojgimficdjhaaGreatDoorRows.lean that lists a variable, with what it lists TIED to the program's text (the seventh form; the later family's looks); each row that meets fmt, with fmt's text TOLD by the authors' own Lean function (tested against real Go, not proved from fmt's source: count such statements apart). THE CARD IS WHAT COUNTS. Prove the row's statement (the work); the ties are given (YtfojgimficdjhaaGreatDoorTie.lean); close each card by the builder's one call (the guide's Derived/Test/ToyasCard.lean, 'card_holds'). Laid BY PROGRAM, IN A SANDBOX (cutbox-door.mjs). By AI agents, Wed Nov 11 2026. No macro, syntax, notation, axiom, sorry.
-/
import Derived.Test.YtfojgimficdjhaaGreatDoorRows
import GoSem.ClaimSeven
namespace Go.Proofs.YtfojgimficdjhaaGreatDoor
namespace Rows

/-- THE TIED CARD OF 'waystonelaw06.ParseReads'. -/
def parseReadsCard : Claim7 := { stood := { row := parseReadsRow, standIns := [], harness := (true, "5f73248795ad57711d433ad3f24f4a02bf2ec3ef4bb2c25acbb2565999908429"), looks := true }, kinds := [], alts := [], laidByText := true, laidKinds := [.data, .data, .data, .data, .sentinel, .sentinel, .pinned], laidTests := true, laidLooks := .later }
def ParseReadsCardSaid : Prop := Claim7.holds Tryz.pinned (.plain (OpenSpec.ofChange parseReadsSpec)) parseReadsCard

/-- THE TIED CARD OF 'waystonelaw06.ParseWrites'. -/
def parseWritesCard : Claim7 := { stood := { row := parseWritesRow, standIns := [], harness := (true, "5f73248795ad57711d433ad3f24f4a02bf2ec3ef4bb2c25acbb2565999908429"), looks := true }, kinds := [], alts := [], laidByText := true, laidKinds := [.data, .data, .data, .data, .sentinel, .sentinel, .pinned], laidTests := true, laidLooks := .later }
def ParseWritesCardSaid : Prop := Claim7.holds Tryz.pinned (.plain (OpenSpec.ofChange parseWritesSpec)) parseWritesCard

/-- THE TIED CARD OF 'waystonelaw05.ConfFull'. -/
def confFullCard : Claim7 := { stood := { row := confFullRow, standIns := [], harness := (true, "5f73248795ad57711d433ad3f24f4a02bf2ec3ef4bb2c25acbb2565999908429"), looks := true }, kinds := [], alts := [], laidByText := true, laidKinds := [.data, .data, .data, .data, .sentinel, .sentinel, .pinned], laidTests := true, laidLooks := .later }
def ConfFullCardSaid : Prop := Claim7.holds Tryz.pinned (.plain (OpenSpec.ofChange confFullSpec)) confFullCard

/-- THE TIED CARD OF 'waystonelaw05.ConfGets'. -/
def confGetsCard : Claim7 := { stood := { row := confGetsRow, standIns := [], harness := (true, "5f73248795ad57711d433ad3f24f4a02bf2ec3ef4bb2c25acbb2565999908429"), looks := true }, kinds := [], alts := [], laidByText := true, laidKinds := [.data, .data, .data, .data, .sentinel, .sentinel, .pinned], laidTests := true, laidLooks := .later }
def ConfGetsCardSaid : Prop := Claim7.holds Tryz.pinned (.plain (OpenSpec.ofChange confGetsSpec)) confGetsCard

/-- THE TIED CARD OF 'waystonelaw05.ConfSets'. -/
def confSetsCard : Claim7 := { stood := { row := confSetsRow, standIns := [], harness := (true, "5f73248795ad57711d433ad3f24f4a02bf2ec3ef4bb2c25acbb2565999908429"), looks := true }, kinds := [], alts := [], laidByText := true, laidKinds := [.data, .data, .data, .data, .sentinel, .sentinel, .pinned], laidTests := true, laidLooks := .later }
def ConfSetsCardSaid : Prop := Claim7.holds Tryz.pinned (.plain (OpenSpec.ofChange confSetsSpec)) confSetsCard

/-- THE SECOND FORM's CARD OF 'waystonelaw06.ParseReads'. -/
def parseReadsUptoCard : Claim7 := { stood := { row := parseReadsUptoRow, standIns := [], harness := (true, "5f73248795ad57711d433ad3f24f4a02bf2ec3ef4bb2c25acbb2565999908429"), looks := true }, kinds := [], alts := [], laidByText := true, laidKinds := [.data, .data, .data, .data, .sentinel, .sentinel, .pinned], laidTests := true, laidLooks := .later }
def ParseReadsUptoCardSaid : Prop := Claim7.holds Tryz.pinned (.plain (OpenSpec.upto parseReadsSpec)) parseReadsUptoCard

/-- THE SECOND FORM's CARD OF 'waystonelaw06.ParseWrites'. -/
def parseWritesUptoCard : Claim7 := { stood := { row := parseWritesUptoRow, standIns := [], harness := (true, "5f73248795ad57711d433ad3f24f4a02bf2ec3ef4bb2c25acbb2565999908429"), looks := true }, kinds := [], alts := [], laidByText := true, laidKinds := [.data, .data, .data, .data, .sentinel, .sentinel, .pinned], laidTests := true, laidLooks := .later }
def ParseWritesUptoCardSaid : Prop := Claim7.holds Tryz.pinned (.plain (OpenSpec.upto parseWritesSpec)) parseWritesUptoCard

/-- THE SECOND FORM's CARD OF 'waystonelaw05.ConfFull'. -/
def confFullUptoCard : Claim7 := { stood := { row := confFullUptoRow, standIns := [], harness := (true, "5f73248795ad57711d433ad3f24f4a02bf2ec3ef4bb2c25acbb2565999908429"), looks := true }, kinds := [], alts := [], laidByText := true, laidKinds := [.data, .data, .data, .data, .sentinel, .sentinel, .pinned], laidTests := true, laidLooks := .later }
def ConfFullUptoCardSaid : Prop := Claim7.holds Tryz.pinned (.plain (OpenSpec.upto confFullSpec)) confFullUptoCard

/-- THE SECOND FORM's CARD OF 'waystonelaw05.ConfGets'. -/
def confGetsUptoCard : Claim7 := { stood := { row := confGetsUptoRow, standIns := [], harness := (true, "5f73248795ad57711d433ad3f24f4a02bf2ec3ef4bb2c25acbb2565999908429"), looks := true }, kinds := [], alts := [], laidByText := true, laidKinds := [.data, .data, .data, .data, .sentinel, .sentinel, .pinned], laidTests := true, laidLooks := .later }
def ConfGetsUptoCardSaid : Prop := Claim7.holds Tryz.pinned (.plain (OpenSpec.upto confGetsSpec)) confGetsUptoCard

/-- THE SECOND FORM's CARD OF 'waystonelaw05.ConfSets'. -/
def confSetsUptoCard : Claim7 := { stood := { row := confSetsUptoRow, standIns := [], harness := (true, "5f73248795ad57711d433ad3f24f4a02bf2ec3ef4bb2c25acbb2565999908429"), looks := true }, kinds := [], alts := [], laidByText := true, laidKinds := [.data, .data, .data, .data, .sentinel, .sentinel, .pinned], laidTests := true, laidLooks := .later }
def ConfSetsUptoCardSaid : Prop := Claim7.holds Tryz.pinned (.plain (OpenSpec.upto confSetsSpec)) confSetsUptoCard
end Rows
end Go.Proofs.YtfojgimficdjhaaGreatDoor
