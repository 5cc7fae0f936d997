/-
  DERIVED. GIVEN WITH THE SEED: THE CARDS: each row of YtebeekjcepjcnaaDoorRows.lean that lists a variable, with what it lists TIED to the program's text (the seventh form; the later family's looks); each row that meets fmt, with fmt's text TOLD by the authors' own Lean function (tested against real Go, not proved from fmt's source: count such statements apart). THE CARD IS WHAT COUNTS. Prove the row's statement (the work); the ties are given (YtebeekjcepjcnaaDoorTie.lean); close each card by the builder's one call (the guide's Derived/Test/ToyasCard.lean, 'card_holds'). Laid BY PROGRAM, IN A SANDBOX (cutbox-door.mjs). By AI agents, Wed Nov 11 2026. No macro, syntax, notation, axiom, sorry.
-/
import Derived.Test.YtebeekjcepjcnaaDoorRows
import GoSem.ClaimSeven
namespace Go.Proofs.YtebeekjcepjcnaaDoor
namespace Rows

/-- THE TIED CARD OF 'bafflelaw12.BuildTells'. -/
def buildTellsCard : Claim7 := { stood := { row := buildTellsRow, standIns := [], harness := (true, "dd93f4b7c9a88cb90f552fa58855603d9bfaed904102ad2aa0d3c19c49d1742f"), looks := false }, kinds := [], alts := [], laidByText := true, laidKinds := [.data], laidTests := true, laidLooks := .later }
def BuildTellsCardSaid : Prop := Claim7.holds Tryd.pinned (.plain (OpenSpec.ofChange buildTellsSpec)) buildTellsCard

/-- THE TIED CARD OF 'bafflelaw12.BuildSmall'. -/
def buildSmallCard : Claim7 := { stood := { row := buildSmallRow, standIns := [], harness := (true, "dd93f4b7c9a88cb90f552fa58855603d9bfaed904102ad2aa0d3c19c49d1742f"), looks := false }, kinds := [], alts := [], laidByText := true, laidKinds := [.data], laidTests := true, laidLooks := .later }
def BuildSmallCardSaid : Prop := Claim7.holds Tryd.pinned (.plain (OpenSpec.ofChange buildSmallSpec)) buildSmallCard

/-- THE TIED CARD OF 'bafflelaw11.PktReads'. -/
def pktReadsCard : Claim7 := { stood := { row := pktReadsRow, standIns := [], harness := (true, "dd93f4b7c9a88cb90f552fa58855603d9bfaed904102ad2aa0d3c19c49d1742f"), looks := false }, kinds := [], alts := [], laidByText := true, laidKinds := [.data, .widerDeep], laidTests := true, laidLooks := .later }
def PktReadsCardSaid : Prop := Claim7.holds Tryd.pinned (.plain (OpenSpec.ofChange pktReadsSpec)) pktReadsCard

/-- THE TIED CARD OF 'bafflelaw11.PktNames'. -/
def pktNamesCard : Claim7 := { stood := { row := pktNamesRow, standIns := [], harness := (true, "dd93f4b7c9a88cb90f552fa58855603d9bfaed904102ad2aa0d3c19c49d1742f"), looks := false }, kinds := [], alts := [], laidByText := true, laidKinds := [.data, .widerDeep], laidTests := true, laidLooks := .later }
def PktNamesCardSaid : Prop := Claim7.holds Tryd.pinned (.plain (OpenSpec.ofChange pktNamesSpec)) pktNamesCard

/-- THE TIED CARD OF 'bafflelaw11.PktSmall'. -/
def pktSmallCard : Claim7 := { stood := { row := pktSmallRow, standIns := [], harness := (true, "dd93f4b7c9a88cb90f552fa58855603d9bfaed904102ad2aa0d3c19c49d1742f"), looks := false }, kinds := [], alts := [], laidByText := true, laidKinds := [.data, .widerDeep], laidTests := true, laidLooks := .later }
def PktSmallCardSaid : Prop := Claim7.holds Tryd.pinned (.plain (OpenSpec.ofChange pktSmallSpec)) pktSmallCard

/-- THE TIED CARD OF 'bafflelaw11.PktLook'. -/
def pktLookCard : Claim7 := { stood := { row := pktLookRow, standIns := [], harness := (true, "dd93f4b7c9a88cb90f552fa58855603d9bfaed904102ad2aa0d3c19c49d1742f"), looks := false }, kinds := [], alts := [], laidByText := true, laidKinds := [.data, .widerDeep], laidTests := true, laidLooks := .later }
def PktLookCardSaid : Prop := Claim7.holds Tryd.pinned (.plain (OpenSpec.ofChange pktLookSpec)) pktLookCard

/-- THE TIED CARD OF 'bafflelaw12.BuildAnswers'. -/
def buildAnswersCard : Claim7 := { stood := { row := buildAnswersRow, standIns := [], harness := (true, "dd93f4b7c9a88cb90f552fa58855603d9bfaed904102ad2aa0d3c19c49d1742f"), looks := false }, kinds := [], alts := [], laidByText := true, laidKinds := [.data, .data, .data, .data], laidTests := true, laidLooks := .later }
def BuildAnswersCardSaid : Prop := Claim7.holds Tryd.pinned (.plain (OpenSpec.ofChange buildAnswersSpec)) buildAnswersCard

/-- THE TIED CARD OF 'bafflelaw12.BuildWrong'. -/
def buildWrongCard : Claim7 := { stood := { row := buildWrongRow, standIns := [], harness := (true, "dd93f4b7c9a88cb90f552fa58855603d9bfaed904102ad2aa0d3c19c49d1742f"), looks := false }, kinds := [], alts := [], laidByText := true, laidKinds := [.data, .data, .data, .data], laidTests := true, laidLooks := .later }
def BuildWrongCardSaid : Prop := Claim7.holds Tryd.pinned (.plain (OpenSpec.ofChange buildWrongSpec)) buildWrongCard

/-- THE TIED CARD OF 'bafflelaw11.PktFacts'. -/
def pktFactsCard : Claim7 := { stood := { row := pktFactsRow, standIns := [], harness := (true, "dd93f4b7c9a88cb90f552fa58855603d9bfaed904102ad2aa0d3c19c49d1742f"), looks := false }, kinds := [], alts := [], laidByText := true, laidKinds := [.data, .data, .data, .data, .widerDeep], laidTests := true, laidLooks := .later }
def PktFactsCardSaid : Prop := Claim7.holds Tryd.pinned (.plain (OpenSpec.ofChange pktFactsSpec)) pktFactsCard

/-- THE TIED CARD OF 'bafflelaw11.PktFirst'. -/
def pktFirstCard : Claim7 := { stood := { row := pktFirstRow, standIns := [], harness := (true, "dd93f4b7c9a88cb90f552fa58855603d9bfaed904102ad2aa0d3c19c49d1742f"), looks := false }, kinds := [], alts := [], laidByText := true, laidKinds := [.data, .data, .data, .data, .widerDeep], laidTests := true, laidLooks := .later }
def PktFirstCardSaid : Prop := Claim7.holds Tryd.pinned (.plain (OpenSpec.ofChange pktFirstSpec)) pktFirstCard

/-- THE TIED CARD OF 'bafflelaw11.PktErrors'. -/
def pktErrorsCard : Claim7 := { stood := { row := pktErrorsRow, standIns := [], harness := (true, "dd93f4b7c9a88cb90f552fa58855603d9bfaed904102ad2aa0d3c19c49d1742f"), looks := false }, kinds := [], alts := [], laidByText := true, laidKinds := [.data, .data, .data, .data, .widerDeep], laidTests := true, laidLooks := .later }
def PktErrorsCardSaid : Prop := Claim7.holds Tryd.pinned (.plain (OpenSpec.ofChange pktErrorsSpec)) pktErrorsCard

/-- THE TIED CARD OF 'bafflelaw11.PktTurned'. -/
def pktTurnedCard : Claim7 := { stood := { row := pktTurnedRow, standIns := [], harness := (true, "dd93f4b7c9a88cb90f552fa58855603d9bfaed904102ad2aa0d3c19c49d1742f"), looks := false }, kinds := [], alts := [], laidByText := true, laidKinds := [.data, .data, .data, .data, .widerDeep], laidTests := true, laidLooks := .later }
def PktTurnedCardSaid : Prop := Claim7.holds Tryd.pinned (.plain (OpenSpec.ofChange pktTurnedSpec)) pktTurnedCard

/-- THE TIED CARD OF 'bafflelaw12.BuildAll'. -/
def buildAllCard : Claim7 := { stood := { row := buildAllRow, standIns := [], harness := (true, "dd93f4b7c9a88cb90f552fa58855603d9bfaed904102ad2aa0d3c19c49d1742f"), looks := false }, kinds := [], alts := [], laidByText := true, laidKinds := [.data], laidTests := true, laidLooks := .later }
def BuildAllCardSaid : Prop := Claim7.holds Tryd.pinned (.plain (OpenSpec.ofChange buildAllSpec)) buildAllCard

/-- THE SECOND FORM's CARD OF 'bafflelaw12.BuildTells'. -/
def buildTellsUptoCard : Claim7 := { stood := { row := buildTellsUptoRow, standIns := [], harness := (true, "dd93f4b7c9a88cb90f552fa58855603d9bfaed904102ad2aa0d3c19c49d1742f"), looks := false }, kinds := [], alts := [], laidByText := true, laidKinds := [.data], laidTests := true, laidLooks := .later }
def BuildTellsUptoCardSaid : Prop := Claim7.holds Tryd.pinned (.plain (OpenSpec.upto buildTellsSpec)) buildTellsUptoCard

/-- THE SECOND FORM's CARD OF 'bafflelaw12.BuildSmall'. -/
def buildSmallUptoCard : Claim7 := { stood := { row := buildSmallUptoRow, standIns := [], harness := (true, "dd93f4b7c9a88cb90f552fa58855603d9bfaed904102ad2aa0d3c19c49d1742f"), looks := false }, kinds := [], alts := [], laidByText := true, laidKinds := [.data], laidTests := true, laidLooks := .later }
def BuildSmallUptoCardSaid : Prop := Claim7.holds Tryd.pinned (.plain (OpenSpec.upto buildSmallSpec)) buildSmallUptoCard

/-- THE SECOND FORM's CARD OF 'bafflelaw11.PktReads'. -/
def pktReadsUptoCard : Claim7 := { stood := { row := pktReadsUptoRow, standIns := [], harness := (true, "dd93f4b7c9a88cb90f552fa58855603d9bfaed904102ad2aa0d3c19c49d1742f"), looks := false }, kinds := [], alts := [], laidByText := true, laidKinds := [.data, .widerDeep], laidTests := true, laidLooks := .later }
def PktReadsUptoCardSaid : Prop := Claim7.holds Tryd.pinned (.plain (OpenSpec.upto pktReadsSpec)) pktReadsUptoCard

/-- THE SECOND FORM's CARD OF 'bafflelaw11.PktNames'. -/
def pktNamesUptoCard : Claim7 := { stood := { row := pktNamesUptoRow, standIns := [], harness := (true, "dd93f4b7c9a88cb90f552fa58855603d9bfaed904102ad2aa0d3c19c49d1742f"), looks := false }, kinds := [], alts := [], laidByText := true, laidKinds := [.data, .widerDeep], laidTests := true, laidLooks := .later }
def PktNamesUptoCardSaid : Prop := Claim7.holds Tryd.pinned (.plain (OpenSpec.upto pktNamesSpec)) pktNamesUptoCard

/-- THE SECOND FORM's CARD OF 'bafflelaw11.PktSmall'. -/
def pktSmallUptoCard : Claim7 := { stood := { row := pktSmallUptoRow, standIns := [], harness := (true, "dd93f4b7c9a88cb90f552fa58855603d9bfaed904102ad2aa0d3c19c49d1742f"), looks := false }, kinds := [], alts := [], laidByText := true, laidKinds := [.data, .widerDeep], laidTests := true, laidLooks := .later }
def PktSmallUptoCardSaid : Prop := Claim7.holds Tryd.pinned (.plain (OpenSpec.upto pktSmallSpec)) pktSmallUptoCard

/-- THE SECOND FORM's CARD OF 'bafflelaw11.PktLook'. -/
def pktLookUptoCard : Claim7 := { stood := { row := pktLookUptoRow, standIns := [], harness := (true, "dd93f4b7c9a88cb90f552fa58855603d9bfaed904102ad2aa0d3c19c49d1742f"), looks := false }, kinds := [], alts := [], laidByText := true, laidKinds := [.data, .widerDeep], laidTests := true, laidLooks := .later }
def PktLookUptoCardSaid : Prop := Claim7.holds Tryd.pinned (.plain (OpenSpec.upto pktLookSpec)) pktLookUptoCard

/-- THE SECOND FORM's CARD OF 'bafflelaw12.BuildAnswers'. -/
def buildAnswersUptoCard : Claim7 := { stood := { row := buildAnswersUptoRow, standIns := [], harness := (true, "dd93f4b7c9a88cb90f552fa58855603d9bfaed904102ad2aa0d3c19c49d1742f"), looks := false }, kinds := [], alts := [], laidByText := true, laidKinds := [.data, .data, .data, .data], laidTests := true, laidLooks := .later }
def BuildAnswersUptoCardSaid : Prop := Claim7.holds Tryd.pinned (.plain (OpenSpec.upto buildAnswersSpec)) buildAnswersUptoCard

/-- THE SECOND FORM's CARD OF 'bafflelaw12.BuildWrong'. -/
def buildWrongUptoCard : Claim7 := { stood := { row := buildWrongUptoRow, standIns := [], harness := (true, "dd93f4b7c9a88cb90f552fa58855603d9bfaed904102ad2aa0d3c19c49d1742f"), looks := false }, kinds := [], alts := [], laidByText := true, laidKinds := [.data, .data, .data, .data], laidTests := true, laidLooks := .later }
def BuildWrongUptoCardSaid : Prop := Claim7.holds Tryd.pinned (.plain (OpenSpec.upto buildWrongSpec)) buildWrongUptoCard

/-- THE SECOND FORM's CARD OF 'bafflelaw11.PktFacts'. -/
def pktFactsUptoCard : Claim7 := { stood := { row := pktFactsUptoRow, standIns := [], harness := (true, "dd93f4b7c9a88cb90f552fa58855603d9bfaed904102ad2aa0d3c19c49d1742f"), looks := false }, kinds := [], alts := [], laidByText := true, laidKinds := [.data, .data, .data, .data, .widerDeep], laidTests := true, laidLooks := .later }
def PktFactsUptoCardSaid : Prop := Claim7.holds Tryd.pinned (.plain (OpenSpec.upto pktFactsSpec)) pktFactsUptoCard

/-- THE SECOND FORM's CARD OF 'bafflelaw11.PktFirst'. -/
def pktFirstUptoCard : Claim7 := { stood := { row := pktFirstUptoRow, standIns := [], harness := (true, "dd93f4b7c9a88cb90f552fa58855603d9bfaed904102ad2aa0d3c19c49d1742f"), looks := false }, kinds := [], alts := [], laidByText := true, laidKinds := [.data, .data, .data, .data, .widerDeep], laidTests := true, laidLooks := .later }
def PktFirstUptoCardSaid : Prop := Claim7.holds Tryd.pinned (.plain (OpenSpec.upto pktFirstSpec)) pktFirstUptoCard

/-- THE SECOND FORM's CARD OF 'bafflelaw11.PktErrors'. -/
def pktErrorsUptoCard : Claim7 := { stood := { row := pktErrorsUptoRow, standIns := [], harness := (true, "dd93f4b7c9a88cb90f552fa58855603d9bfaed904102ad2aa0d3c19c49d1742f"), looks := false }, kinds := [], alts := [], laidByText := true, laidKinds := [.data, .data, .data, .data, .widerDeep], laidTests := true, laidLooks := .later }
def PktErrorsUptoCardSaid : Prop := Claim7.holds Tryd.pinned (.plain (OpenSpec.upto pktErrorsSpec)) pktErrorsUptoCard

/-- THE SECOND FORM's CARD OF 'bafflelaw11.PktTurned'. -/
def pktTurnedUptoCard : Claim7 := { stood := { row := pktTurnedUptoRow, standIns := [], harness := (true, "dd93f4b7c9a88cb90f552fa58855603d9bfaed904102ad2aa0d3c19c49d1742f"), looks := false }, kinds := [], alts := [], laidByText := true, laidKinds := [.data, .data, .data, .data, .widerDeep], laidTests := true, laidLooks := .later }
def PktTurnedUptoCardSaid : Prop := Claim7.holds Tryd.pinned (.plain (OpenSpec.upto pktTurnedSpec)) pktTurnedUptoCard

/-- THE SECOND FORM's CARD OF 'bafflelaw12.BuildAll'. -/
def buildAllUptoCard : Claim7 := { stood := { row := buildAllUptoRow, standIns := [], harness := (true, "dd93f4b7c9a88cb90f552fa58855603d9bfaed904102ad2aa0d3c19c49d1742f"), looks := false }, kinds := [], alts := [], laidByText := true, laidKinds := [.data], laidTests := true, laidLooks := .later }
def BuildAllUptoCardSaid : Prop := Claim7.holds Tryd.pinned (.plain (OpenSpec.upto buildAllSpec)) buildAllUptoCard
end Rows
end Go.Proofs.YtebeekjcepjcnaaDoor
