/-
  NARROWER THAN 'FOR EVERY INPUT', by the rows' own cells (each row's printed sentence says how): BuildRejects: laid · BuildBack: laid.
  DERIVED. THE GIVEN ROWS OF THIS SEAT. 2 by the template 'for every input the law returns true; each argument reads behind the call as it read before'; 0 by the template 'total and deterministic' (their statements: YtebeekjcepjcnaaGreatDoorTotals.lean).
  GIVEN WITH THE SEED: the statements are not yours to turn. If you find one false, say at which input.
  Laid BY PROGRAM, IN A SANDBOX (cutbox-rows.mjs): the forced cells as the released guide's own fill.sh prints them over the translation ac945e1b09e82b3f… (all of the seat's roots in one cut). By AI agents, Wed Nov 11 2026. No macro, syntax, notation, axiom, sorry.
-/
import Derived.Test.YtebeekjcepjcnaaGreatDoorChecked
import GoSem.Claim
import GoSem.ClaimJoined
import GoSem.ClaimMapViews
import Derived.JoinedTies
import Derived.KernelRfl
namespace Go.Proofs.YtebeekjcepjcnaaGreatDoor
/- THE CELL 'sum', in the pinned program and in every row, IS THE sha256 OF THE DUMP (.gsa) THAT YtebeekjcepjcnaaGreatDoorProg.lean LOADS. Nothing in Lean hashes anything: it is a label: what it is worth is what the hold of that sum in a sandbox is worth. -/
noncomputable def Tryz.pinned : Pinned := { name := "ytebeekjcepjcnaagreatdoor", sum := "ac945e1b09e82b3f3789f1e3b79115ef6020b7fd2ceb5392b8e7e31b3f81991f", checked := Tryz.checked }
namespace Rows
def none {H : Type} : Left H := { results := [], args := [] }

/- WHAT THE LISTED PACKAGE-LEVEL VARIABLES READ AS WHEN THE CALL BEGINS. Each datum BY PROGRAM (the guide's laid-datum.mjs) off the statement by which the dump's own 'gosem.cut.vars' lays the variable. In a bare row this is a premise. The card (YtebeekjcepjcnaaGreatDoorCards.lean) ties it to the program's text. -/
def laid_baffle_icmp_sorts {H : Type} : DataW H := .agg [.agg [.lit (.int .u8 4), .lit (.int .u8 0), .lit (.int .u8 0)], .agg [.lit (.int .u8 0), .lit (.int .u8 0), .lit (.int .u8 0)], .agg [.lit (.int .u8 0), .lit (.int .u8 0), .lit (.int .u8 0)], .agg [.lit (.int .u8 5), .lit (.int .u8 15), .lit (.int .u8 0)], .agg [.lit (.int .u8 5), .lit (.int .u8 0), .lit (.int .u8 0)], .agg [.lit (.int .u8 5), .lit (.int .u8 3), .lit (.int .u8 0)], .agg [.lit (.int .u8 0), .lit (.int .u8 0), .lit (.int .u8 0)], .agg [.lit (.int .u8 0), .lit (.int .u8 0), .lit (.int .u8 0)], .agg [.lit (.int .u8 3), .lit (.int .u8 0), .lit (.int .u8 0)], .agg [.lit (.int .u8 0), .lit (.int .u8 0), .lit (.int .u8 0)], .agg [.lit (.int .u8 0), .lit (.int .u8 0), .lit (.int .u8 0)], .agg [.lit (.int .u8 5), .lit (.int .u8 1), .lit (.int .u8 0)], .agg [.lit (.int .u8 5), .lit (.int .u8 2), .lit (.int .u8 0)], .agg [.lit (.int .u8 3), .lit (.int .u8 0), .lit (.int .u8 14)], .agg [.lit (.int .u8 4), .lit (.int .u8 0), .lit (.int .u8 0)], .agg [.lit (.int .u8 0), .lit (.int .u8 0), .lit (.int .u8 0)], .agg [.lit (.int .u8 0), .lit (.int .u8 0), .lit (.int .u8 0)], .agg [.lit (.int .u8 3), .lit (.int .u8 0), .lit (.int .u8 18)], .agg [.lit (.int .u8 4), .lit (.int .u8 0), .lit (.int .u8 0)]]
def laid_baffle_bafflelaw10_queries {H : Type} : DataW H := .agg [.lit (.int .u8 8), .lit (.int .u8 13), .lit (.int .u8 17)]
def laid_baffle_bafflelaw10_replies {H : Type} : DataW H := .agg [.lit (.int .u8 0), .lit (.int .u8 14), .lit (.int .u8 18)]
def laid_baffle_bafflelaw10_errs {H : Type} : DataW H := .agg [.agg [.lit (.int .u8 3), .lit (.int .u8 15)], .agg [.lit (.int .u8 4), .lit (.int .u8 0)], .agg [.lit (.int .u8 5), .lit (.int .u8 3)], .agg [.lit (.int .u8 11), .lit (.int .u8 1)], .agg [.lit (.int .u8 12), .lit (.int .u8 2)]]

/-- 'bafflelaw12.BuildRejects': WHATEVER THE INPUT: true; the input reads as it did. -/
def buildRejectsSpec : ChangeSpec := { name := "buildRejects", fn := fun _ => fun
  | [d1, d2, d3] => { results := [.lit (.bool true)], args := [d1, d2, d3] }
  | _ => none }
def buildRejectsRow : OpenClaim := { program := "ytebeekjcepjcnaagreatdoor", sum := "ac945e1b09e82b3f3789f1e3b79115ef6020b7fd2ceb5392b8e7e31b3f81991f", func := "baffle/bafflelaw12.BuildRejects", spec := "buildRejects", unfollowed := true, recurses := true, named := ["baffle/icmp.sorts", "baffle/bafflelaw10.queries", "baffle/bafflelaw10.replies", "baffle/bafflelaw10.errs"], apart := false, laid := [("baffle/icmp.sorts", laid_baffle_icmp_sorts), ("baffle/bafflelaw10.queries", laid_baffle_bafflelaw10_queries), ("baffle/bafflelaw10.replies", laid_baffle_bafflelaw10_replies), ("baffle/bafflelaw10.errs", laid_baffle_bafflelaw10_errs)] }
def BuildRejectsSaid : Prop := buildRejectsRow.holds Tryz.pinned (OpenSpec.ofChange buildRejectsSpec)

/-- ITS FALSE NEIGHBOUR: 'it returns false'. Refute it at one input. -/
def buildRejectsWrong : ChangeSpec := { name := "buildRejects", fn := fun _ => fun
  | [d1, d2, d3] => { results := [.lit (.bool false)], args := [d1, d2, d3] }
  | _ => none }
def BuildRejectsWrongFalsely : Prop := buildRejectsRow.holds Tryz.pinned (OpenSpec.ofChange buildRejectsWrong)

/-- 'bafflelaw12.BuildBack': WHATEVER THE INPUT: true; the input reads as it did. -/
def buildBackSpec : ChangeSpec := { name := "buildBack", fn := fun _ => fun
  | [d1, d2, d3] => { results := [.lit (.bool true)], args := [d1, d2, d3] }
  | _ => none }
def buildBackRow : OpenClaim := { program := "ytebeekjcepjcnaagreatdoor", sum := "ac945e1b09e82b3f3789f1e3b79115ef6020b7fd2ceb5392b8e7e31b3f81991f", func := "baffle/bafflelaw12.BuildBack", spec := "buildBack", unfollowed := true, recurses := true, named := ["baffle/icmp.sorts", "baffle/bafflelaw10.queries", "baffle/bafflelaw10.replies", "baffle/bafflelaw10.errs"], apart := false, laid := [("baffle/icmp.sorts", laid_baffle_icmp_sorts), ("baffle/bafflelaw10.queries", laid_baffle_bafflelaw10_queries), ("baffle/bafflelaw10.replies", laid_baffle_bafflelaw10_replies), ("baffle/bafflelaw10.errs", laid_baffle_bafflelaw10_errs)] }
def BuildBackSaid : Prop := buildBackRow.holds Tryz.pinned (OpenSpec.ofChange buildBackSpec)

/-- ITS FALSE NEIGHBOUR: 'it returns false'. Refute it at one input. -/
def buildBackWrong : ChangeSpec := { name := "buildBack", fn := fun _ => fun
  | [d1, d2, d3] => { results := [.lit (.bool false)], args := [d1, d2, d3] }
  | _ => none }
def BuildBackWrongFalsely : Prop := buildBackRow.holds Tryz.pinned (OpenSpec.ofChange buildBackWrong)

/- THE SECOND FORM. 'bulk': how many values and letters a reading holds, each counted each time it is reached (what is shared counts as often as it is met; a slice's spare places count too). A statement '..UptoSaid' is the law's where the arguments, and the package variables that the reading takes, are together of bulk at most 1048576: NARROWER than '..Said'. Prove '..Said' where nothing that the law and all that it calls make is longer than what came in: it says more and counts as full. Else prove '..UptoSaid'. A law counts once. -/
mutual
def uptoBulk {H : Type} : DataW H → Nat
  | .lit (.string bytes) => bytes.length + 1
  | .lit _ => 1
  | .nil => 1
  | .ptr d => uptoBulk d + 1
  | .slice elems spare => uptoBulkAll elems + uptoBulkAll spare + 1
  | .agg parts => uptoBulkAll parts + 1
  | .iface _ d => uptoBulk d + 1
  | .map entries => uptoBulkEntries entries + 1
  | .held _ => 1
def uptoBulkAll {H : Type} : List (DataW H) → Nat
  | [] => 0
  | d :: r => uptoBulk d + uptoBulkAll r
def uptoBulkEntries {H : Type} : List (Lit × DataW H) → Nat
  | [] => 0
  | x :: r => uptoBulkEntry x + uptoBulkEntries r
def uptoBulkEntry {H : Type} : Lit × DataW H → Nat
  | (.string bytes, d) => bytes.length + uptoBulk d + 1
  | (_, d) => uptoBulk d + 1
 end
def uptoSmall : (H : Type) → List (DataW H) → Bool := fun _ ds => decide (uptoBulkAll ds ≤ 1048576)
def OpenSpec.upto (s : _root_.Go.ChangeSpec) : _root_.Go.OpenSpec := { _root_.Go.OpenSpec.ofChange s with cond := some uptoSmall }

/-- 'bafflelaw12.BuildRejects', WHERE WHAT IT READS IS OF BULK AT MOST 1048576: true; the input reads as it did. -/
def buildRejectsUptoRow : OpenClaim := { program := "ytebeekjcepjcnaagreatdoor", sum := "ac945e1b09e82b3f3789f1e3b79115ef6020b7fd2ceb5392b8e7e31b3f81991f", func := "baffle/bafflelaw12.BuildRejects", spec := "buildRejects", unfollowed := true, recurses := true, named := ["baffle/icmp.sorts", "baffle/bafflelaw10.queries", "baffle/bafflelaw10.replies", "baffle/bafflelaw10.errs"], apart := false, laid := [("baffle/icmp.sorts", laid_baffle_icmp_sorts), ("baffle/bafflelaw10.queries", laid_baffle_bafflelaw10_queries), ("baffle/bafflelaw10.replies", laid_baffle_bafflelaw10_replies), ("baffle/bafflelaw10.errs", laid_baffle_bafflelaw10_errs)], narrowed := true }
def BuildRejectsUptoSaid : Prop := buildRejectsUptoRow.holds Tryz.pinned (OpenSpec.upto buildRejectsSpec)

/-- 'bafflelaw12.BuildBack', WHERE WHAT IT READS IS OF BULK AT MOST 1048576: true; the input reads as it did. -/
def buildBackUptoRow : OpenClaim := { program := "ytebeekjcepjcnaagreatdoor", sum := "ac945e1b09e82b3f3789f1e3b79115ef6020b7fd2ceb5392b8e7e31b3f81991f", func := "baffle/bafflelaw12.BuildBack", spec := "buildBack", unfollowed := true, recurses := true, named := ["baffle/icmp.sorts", "baffle/bafflelaw10.queries", "baffle/bafflelaw10.replies", "baffle/bafflelaw10.errs"], apart := false, laid := [("baffle/icmp.sorts", laid_baffle_icmp_sorts), ("baffle/bafflelaw10.queries", laid_baffle_bafflelaw10_queries), ("baffle/bafflelaw10.replies", laid_baffle_bafflelaw10_replies), ("baffle/bafflelaw10.errs", laid_baffle_bafflelaw10_errs)], narrowed := true }
def BuildBackUptoSaid : Prop := buildBackUptoRow.holds Tryz.pinned (OpenSpec.upto buildBackSpec)

end Rows
end Go.Proofs.YtebeekjcepjcnaaGreatDoor
