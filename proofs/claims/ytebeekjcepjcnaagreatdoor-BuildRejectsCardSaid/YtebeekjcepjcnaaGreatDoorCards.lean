/-
  DERIVED. GIVEN WITH THE SEED: THE CARDS: each row of YtebeekjcepjcnaaGreatDoorRows.lean that lists a variable, with what it lists TIED to the program's text (the seventh form; the later family's looks); each row that meets fmt, with fmt's text TOLD by the authors' own Lean function (tested against real Go, not proved from fmt's source: count such statements apart). THE CARD IS WHAT COUNTS. Prove the row's statement (the work); the ties are given (YtebeekjcepjcnaaGreatDoorTie.lean); close each card by the builder's one call (the guide's Derived/Test/ToyasCard.lean, 'card_holds'). Laid BY PROGRAM, IN A SANDBOX (cutbox-door.mjs). By AI agents, Wed Nov 11 2026. No macro, syntax, notation, axiom, sorry.
-/
import Derived.Test.YtebeekjcepjcnaaGreatDoorRows
import GoSem.ClaimSeven
namespace Go.Proofs.YtebeekjcepjcnaaGreatDoor
namespace Rows

/-- THE TIED CARD OF 'bafflelaw12.BuildRejects'. -/
def buildRejectsCard : Claim7 := { stood := { row := buildRejectsRow, standIns := [], harness := (true, "411cf11eab05976b40d275e733c2fc7486ed267e4e344f150389e1f5cb008cd5"), looks := false }, kinds := [], alts := [], laidByText := true, laidKinds := [.data, .data, .data, .data], laidTests := true, laidLooks := .later }
def BuildRejectsCardSaid : Prop := Claim7.holds Tryz.pinned (.plain (OpenSpec.ofChange buildRejectsSpec)) buildRejectsCard

/-- THE TIED CARD OF 'bafflelaw12.BuildBack'. -/
def buildBackCard : Claim7 := { stood := { row := buildBackRow, standIns := [], harness := (true, "411cf11eab05976b40d275e733c2fc7486ed267e4e344f150389e1f5cb008cd5"), looks := false }, kinds := [], alts := [], laidByText := true, laidKinds := [.data, .data, .data, .data], laidTests := true, laidLooks := .later }
def BuildBackCardSaid : Prop := Claim7.holds Tryz.pinned (.plain (OpenSpec.ofChange buildBackSpec)) buildBackCard

/-- THE SECOND FORM's CARD OF 'bafflelaw12.BuildRejects'. -/
def buildRejectsUptoCard : Claim7 := { stood := { row := buildRejectsUptoRow, standIns := [], harness := (true, "411cf11eab05976b40d275e733c2fc7486ed267e4e344f150389e1f5cb008cd5"), looks := false }, kinds := [], alts := [], laidByText := true, laidKinds := [.data, .data, .data, .data], laidTests := true, laidLooks := .later }
def BuildRejectsUptoCardSaid : Prop := Claim7.holds Tryz.pinned (.plain (OpenSpec.upto buildRejectsSpec)) buildRejectsUptoCard

/-- THE SECOND FORM's CARD OF 'bafflelaw12.BuildBack'. -/
def buildBackUptoCard : Claim7 := { stood := { row := buildBackUptoRow, standIns := [], harness := (true, "411cf11eab05976b40d275e733c2fc7486ed267e4e344f150389e1f5cb008cd5"), looks := false }, kinds := [], alts := [], laidByText := true, laidKinds := [.data, .data, .data, .data], laidTests := true, laidLooks := .later }
def BuildBackUptoCardSaid : Prop := Claim7.holds Tryz.pinned (.plain (OpenSpec.upto buildBackSpec)) buildBackUptoCard
end Rows
end Go.Proofs.YtebeekjcepjcnaaGreatDoor
