/-
  DERIVED. GIVEN WITH THE SEED: THE CARDS: each row of YtecfkhgocjbocaaGreatDoorRows.lean that lists a variable, with what it lists TIED to the program's text (the seventh form; the later family's looks); each row that meets fmt, with fmt's text TOLD by the authors' own Lean function (tested against real Go, not proved from fmt's source: count such statements apart). THE CARD IS WHAT COUNTS. Prove the row's statement (the work); the ties are given (YtecfkhgocjbocaaGreatDoorTie.lean); close each card by the builder's one call (the guide's Derived/Test/ToyasCard.lean, 'card_holds'). Laid BY PROGRAM, IN A SANDBOX (cutbox-door.mjs). By AI agents, Wed Nov 11 2026. No macro, syntax, notation, axiom, sorry.
-/
import Derived.Test.YtecfkhgocjbocaaGreatDoorRows
import GoSem.ClaimSeven
namespace Go.Proofs.YtecfkhgocjbocaaGreatDoor
namespace Rows

/-- THE TIED CARD OF 'waystonelaw05.ConfFull'. -/
def confFullCard : Claim7 := { stood := { row := confFullRow, standIns := [], harness := (true, "53566ede6cb2a238a96c108c72c3b0d66b5f30b4a09bf11985e5af6cc3d97bda"), looks := true }, kinds := [], alts := [], laidByText := true, laidKinds := [.data, .data, .data, .data, .sentinel, .sentinel, .pinned], laidTests := true, laidLooks := .later }
def ConfFullCardSaid : Prop := Claim7.holds Tryz.pinned (.plain (OpenSpec.ofChange confFullSpec)) confFullCard

/-- THE TIED CARD OF 'waystonelaw05.ConfGets'. -/
def confGetsCard : Claim7 := { stood := { row := confGetsRow, standIns := [], harness := (true, "53566ede6cb2a238a96c108c72c3b0d66b5f30b4a09bf11985e5af6cc3d97bda"), looks := true }, kinds := [], alts := [], laidByText := true, laidKinds := [.data, .data, .data, .data, .sentinel, .sentinel, .pinned], laidTests := true, laidLooks := .later }
def ConfGetsCardSaid : Prop := Claim7.holds Tryz.pinned (.plain (OpenSpec.ofChange confGetsSpec)) confGetsCard

/-- THE TIED CARD OF 'waystonelaw05.ConfSets'. -/
def confSetsCard : Claim7 := { stood := { row := confSetsRow, standIns := [], harness := (true, "53566ede6cb2a238a96c108c72c3b0d66b5f30b4a09bf11985e5af6cc3d97bda"), looks := true }, kinds := [], alts := [], laidByText := true, laidKinds := [.data, .data, .data, .data, .sentinel, .sentinel, .pinned], laidTests := true, laidLooks := .later }
def ConfSetsCardSaid : Prop := Claim7.holds Tryz.pinned (.plain (OpenSpec.ofChange confSetsSpec)) confSetsCard

/-- THE TIED CARD OF 'waystonelaw05.ConfSteps'. -/
def confStepsCard : Claim7 := { stood := { row := confStepsRow, standIns := [], harness := (true, "53566ede6cb2a238a96c108c72c3b0d66b5f30b4a09bf11985e5af6cc3d97bda"), looks := true }, kinds := [], alts := [], laidByText := true, laidKinds := [.data, .data, .data, .data, .sentinel, .sentinel, .pinned], laidTests := true, laidLooks := .later }
def ConfStepsCardSaid : Prop := Claim7.holds Tryz.pinned (.plain (OpenSpec.ofChange confStepsSpec)) confStepsCard

/-- THE TIED CARD OF 'waystonelaw08.RulesCheck'. -/
def rulesCheckCard : Claim7 := { stood := { row := rulesCheckRow, standIns := [], harness := (true, "53566ede6cb2a238a96c108c72c3b0d66b5f30b4a09bf11985e5af6cc3d97bda"), looks := true }, kinds := [], alts := [], laidByText := true, laidKinds := [.data, .data, .data, .data, .sentinel, .sentinel, .pinned], laidTests := true, laidLooks := .later }
def RulesCheckCardSaid : Prop := Claim7.holds Tryz.pinned (.plain (OpenSpec.ofChange rulesCheckSpec)) rulesCheckCard

/-- THE TIED CARD OF 'waystonelaw08.RulesRaw'. -/
def rulesRawCard : Claim7 := { stood := { row := rulesRawRow, standIns := [], harness := (true, "53566ede6cb2a238a96c108c72c3b0d66b5f30b4a09bf11985e5af6cc3d97bda"), looks := true }, kinds := [], alts := [], laidByText := true, laidKinds := [.data, .data, .data, .data, .sentinel, .sentinel, .pinned], laidTests := true, laidLooks := .later }
def RulesRawCardSaid : Prop := Claim7.holds Tryz.pinned (.plain (OpenSpec.ofChange rulesRawSpec)) rulesRawCard

/-- THE TIED CARD OF 'waystonelaw08.RulesGood'. -/
def rulesGoodCard : Claim7 := { stood := { row := rulesGoodRow, standIns := [], harness := (true, "53566ede6cb2a238a96c108c72c3b0d66b5f30b4a09bf11985e5af6cc3d97bda"), looks := true }, kinds := [], alts := [], laidByText := true, laidKinds := [.data, .data, .data, .data, .sentinel, .sentinel, .pinned], laidTests := true, laidLooks := .later }
def RulesGoodCardSaid : Prop := Claim7.holds Tryz.pinned (.plain (OpenSpec.ofChange rulesGoodSpec)) rulesGoodCard

/-- THE TIED CARD OF 'waystonelaw05.ConfRaw'. -/
def confRawCard : Claim7 := { stood := { row := confRawRow, standIns := [], harness := (true, "53566ede6cb2a238a96c108c72c3b0d66b5f30b4a09bf11985e5af6cc3d97bda"), looks := true }, kinds := [], alts := [], laidByText := true, laidKinds := [.data, .data, .data, .data, .sentinel, .sentinel, .pinned], laidTests := true, laidLooks := .later }
def ConfRawCardSaid : Prop := Claim7.holds Tryz.pinned (.plain (OpenSpec.ofChange confRawSpec)) confRawCard

/-- THE TIED CARD OF 'waystonelaw06.ParseTexts'. -/
def parseTextsCard : Claim7 := { stood := { row := parseTextsRow, standIns := [], harness := (true, "53566ede6cb2a238a96c108c72c3b0d66b5f30b4a09bf11985e5af6cc3d97bda"), looks := true }, kinds := [], alts := [], laidByText := true, laidKinds := [.data, .data, .data, .data, .sentinel, .sentinel, .pinned], laidTests := true, laidLooks := .later }
def ParseTextsCardSaid : Prop := Claim7.holds Tryz.pinned (.plain (OpenSpec.ofChange parseTextsSpec)) parseTextsCard

/-- THE TIED CARD OF 'waystonelaw06.ParseAgain'. -/
def parseAgainCard : Claim7 := { stood := { row := parseAgainRow, standIns := [], harness := (true, "53566ede6cb2a238a96c108c72c3b0d66b5f30b4a09bf11985e5af6cc3d97bda"), looks := true }, kinds := [], alts := [], laidByText := true, laidKinds := [.data, .data, .data, .data, .sentinel, .sentinel, .pinned], laidTests := true, laidLooks := .later }
def ParseAgainCardSaid : Prop := Claim7.holds Tryz.pinned (.plain (OpenSpec.ofChange parseAgainSpec)) parseAgainCard

/-- THE SECOND FORM's CARD OF 'waystonelaw05.ConfFull'. -/
def confFullUptoCard : Claim7 := { stood := { row := confFullUptoRow, standIns := [], harness := (true, "53566ede6cb2a238a96c108c72c3b0d66b5f30b4a09bf11985e5af6cc3d97bda"), looks := true }, kinds := [], alts := [], laidByText := true, laidKinds := [.data, .data, .data, .data, .sentinel, .sentinel, .pinned], laidTests := true, laidLooks := .later }
def ConfFullUptoCardSaid : Prop := Claim7.holds Tryz.pinned (.plain (OpenSpec.upto confFullSpec)) confFullUptoCard

/-- THE SECOND FORM's CARD OF 'waystonelaw05.ConfGets'. -/
def confGetsUptoCard : Claim7 := { stood := { row := confGetsUptoRow, standIns := [], harness := (true, "53566ede6cb2a238a96c108c72c3b0d66b5f30b4a09bf11985e5af6cc3d97bda"), looks := true }, kinds := [], alts := [], laidByText := true, laidKinds := [.data, .data, .data, .data, .sentinel, .sentinel, .pinned], laidTests := true, laidLooks := .later }
def ConfGetsUptoCardSaid : Prop := Claim7.holds Tryz.pinned (.plain (OpenSpec.upto confGetsSpec)) confGetsUptoCard

/-- THE SECOND FORM's CARD OF 'waystonelaw05.ConfSets'. -/
def confSetsUptoCard : Claim7 := { stood := { row := confSetsUptoRow, standIns := [], harness := (true, "53566ede6cb2a238a96c108c72c3b0d66b5f30b4a09bf11985e5af6cc3d97bda"), looks := true }, kinds := [], alts := [], laidByText := true, laidKinds := [.data, .data, .data, .data, .sentinel, .sentinel, .pinned], laidTests := true, laidLooks := .later }
def ConfSetsUptoCardSaid : Prop := Claim7.holds Tryz.pinned (.plain (OpenSpec.upto confSetsSpec)) confSetsUptoCard

/-- THE SECOND FORM's CARD OF 'waystonelaw05.ConfSteps'. -/
def confStepsUptoCard : Claim7 := { stood := { row := confStepsUptoRow, standIns := [], harness := (true, "53566ede6cb2a238a96c108c72c3b0d66b5f30b4a09bf11985e5af6cc3d97bda"), looks := true }, kinds := [], alts := [], laidByText := true, laidKinds := [.data, .data, .data, .data, .sentinel, .sentinel, .pinned], laidTests := true, laidLooks := .later }
def ConfStepsUptoCardSaid : Prop := Claim7.holds Tryz.pinned (.plain (OpenSpec.upto confStepsSpec)) confStepsUptoCard

/-- THE SECOND FORM's CARD OF 'waystonelaw08.RulesCheck'. -/
def rulesCheckUptoCard : Claim7 := { stood := { row := rulesCheckUptoRow, standIns := [], harness := (true, "53566ede6cb2a238a96c108c72c3b0d66b5f30b4a09bf11985e5af6cc3d97bda"), looks := true }, kinds := [], alts := [], laidByText := true, laidKinds := [.data, .data, .data, .data, .sentinel, .sentinel, .pinned], laidTests := true, laidLooks := .later }
def RulesCheckUptoCardSaid : Prop := Claim7.holds Tryz.pinned (.plain (OpenSpec.upto rulesCheckSpec)) rulesCheckUptoCard

/-- THE SECOND FORM's CARD OF 'waystonelaw08.RulesRaw'. -/
def rulesRawUptoCard : Claim7 := { stood := { row := rulesRawUptoRow, standIns := [], harness := (true, "53566ede6cb2a238a96c108c72c3b0d66b5f30b4a09bf11985e5af6cc3d97bda"), looks := true }, kinds := [], alts := [], laidByText := true, laidKinds := [.data, .data, .data, .data, .sentinel, .sentinel, .pinned], laidTests := true, laidLooks := .later }
def RulesRawUptoCardSaid : Prop := Claim7.holds Tryz.pinned (.plain (OpenSpec.upto rulesRawSpec)) rulesRawUptoCard

/-- THE SECOND FORM's CARD OF 'waystonelaw08.RulesGood'. -/
def rulesGoodUptoCard : Claim7 := { stood := { row := rulesGoodUptoRow, standIns := [], harness := (true, "53566ede6cb2a238a96c108c72c3b0d66b5f30b4a09bf11985e5af6cc3d97bda"), looks := true }, kinds := [], alts := [], laidByText := true, laidKinds := [.data, .data, .data, .data, .sentinel, .sentinel, .pinned], laidTests := true, laidLooks := .later }
def RulesGoodUptoCardSaid : Prop := Claim7.holds Tryz.pinned (.plain (OpenSpec.upto rulesGoodSpec)) rulesGoodUptoCard

/-- THE SECOND FORM's CARD OF 'waystonelaw05.ConfRaw'. -/
def confRawUptoCard : Claim7 := { stood := { row := confRawUptoRow, standIns := [], harness := (true, "53566ede6cb2a238a96c108c72c3b0d66b5f30b4a09bf11985e5af6cc3d97bda"), looks := true }, kinds := [], alts := [], laidByText := true, laidKinds := [.data, .data, .data, .data, .sentinel, .sentinel, .pinned], laidTests := true, laidLooks := .later }
def ConfRawUptoCardSaid : Prop := Claim7.holds Tryz.pinned (.plain (OpenSpec.upto confRawSpec)) confRawUptoCard

/-- THE SECOND FORM's CARD OF 'waystonelaw06.ParseTexts'. -/
def parseTextsUptoCard : Claim7 := { stood := { row := parseTextsUptoRow, standIns := [], harness := (true, "53566ede6cb2a238a96c108c72c3b0d66b5f30b4a09bf11985e5af6cc3d97bda"), looks := true }, kinds := [], alts := [], laidByText := true, laidKinds := [.data, .data, .data, .data, .sentinel, .sentinel, .pinned], laidTests := true, laidLooks := .later }
def ParseTextsUptoCardSaid : Prop := Claim7.holds Tryz.pinned (.plain (OpenSpec.upto parseTextsSpec)) parseTextsUptoCard

/-- THE SECOND FORM's CARD OF 'waystonelaw06.ParseAgain'. -/
def parseAgainUptoCard : Claim7 := { stood := { row := parseAgainUptoRow, standIns := [], harness := (true, "53566ede6cb2a238a96c108c72c3b0d66b5f30b4a09bf11985e5af6cc3d97bda"), looks := true }, kinds := [], alts := [], laidByText := true, laidKinds := [.data, .data, .data, .data, .sentinel, .sentinel, .pinned], laidTests := true, laidLooks := .later }
def ParseAgainUptoCardSaid : Prop := Claim7.holds Tryz.pinned (.plain (OpenSpec.upto parseAgainSpec)) parseAgainUptoCard
end Rows
end Go.Proofs.YtecfkhgocjbocaaGreatDoor
