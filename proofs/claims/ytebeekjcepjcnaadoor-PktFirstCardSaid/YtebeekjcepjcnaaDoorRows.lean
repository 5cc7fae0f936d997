/-
  NARROWER THAN 'FOR EVERY INPUT', by the rows' own cells (each row's printed sentence says how): BuildTells: laid · BuildSmall: laid · PktReads: laid · PktNames: laid · PktSmall: laid · PktLook: laid · BuildAnswers: laid · BuildWrong: laid · PktFacts: laid · PktFirst: laid · PktErrors: laid · PktTurned: laid · BuildAll: laid.
  DERIVED. THE GIVEN ROWS OF THIS SEAT. 13 by the template 'for every input the law returns true; each argument reads behind the call as it read before'; 0 by the template 'total and deterministic' (their statements: YtebeekjcepjcnaaDoorTotals.lean).
  GIVEN WITH THE SEED: the statements are not yours to turn. If you find one false, say at which input.
  Laid BY PROGRAM, IN A SANDBOX (cutbox-rows.mjs): the forced cells as the released guide's own fill.sh prints them over the translation 4b4a153cf2c93abf… (all of the seat's roots in one cut). By AI agents, Wed Nov 11 2026. No macro, syntax, notation, axiom, sorry.
-/
import Derived.Test.YtebeekjcepjcnaaDoorChecked
import GoSem.Claim
import GoSem.ClaimJoined
import GoSem.ClaimMapViews
import Derived.JoinedTies
import Derived.KernelRfl
namespace Go.Proofs.YtebeekjcepjcnaaDoor
/- THE CELL 'sum', in the pinned program and in every row, IS THE sha256 OF THE DUMP (.gsa) THAT YtebeekjcepjcnaaDoorProg.lean LOADS. Nothing in Lean hashes anything: it is a label: what it is worth is what the hold of that sum in a sandbox is worth. -/
noncomputable def Tryd.pinned : Pinned := { name := "ytebeekjcepjcnaadoor", sum := "4b4a153cf2c93abf828a39e0f691d4b6549283468e37b5c3c378703ecbd01cf3", checked := Tryd.checked }
namespace Rows
def none {H : Type} : Left H := { results := [], args := [] }

/- WHAT THE LISTED PACKAGE-LEVEL VARIABLES READ AS WHEN THE CALL BEGINS. Each datum BY PROGRAM (the guide's laid-datum.mjs) off the statement by which the dump's own 'gosem.cut.vars' lays the variable. In a bare row this is a premise. The card (YtebeekjcepjcnaaDoorCards.lean) ties it to the program's text. -/
def laid_baffle_icmp_sorts {H : Type} : DataW H := .agg [.agg [.lit (.int .u8 4), .lit (.int .u8 0), .lit (.int .u8 0)], .agg [.lit (.int .u8 0), .lit (.int .u8 0), .lit (.int .u8 0)], .agg [.lit (.int .u8 0), .lit (.int .u8 0), .lit (.int .u8 0)], .agg [.lit (.int .u8 5), .lit (.int .u8 15), .lit (.int .u8 0)], .agg [.lit (.int .u8 5), .lit (.int .u8 0), .lit (.int .u8 0)], .agg [.lit (.int .u8 5), .lit (.int .u8 3), .lit (.int .u8 0)], .agg [.lit (.int .u8 0), .lit (.int .u8 0), .lit (.int .u8 0)], .agg [.lit (.int .u8 0), .lit (.int .u8 0), .lit (.int .u8 0)], .agg [.lit (.int .u8 3), .lit (.int .u8 0), .lit (.int .u8 0)], .agg [.lit (.int .u8 0), .lit (.int .u8 0), .lit (.int .u8 0)], .agg [.lit (.int .u8 0), .lit (.int .u8 0), .lit (.int .u8 0)], .agg [.lit (.int .u8 5), .lit (.int .u8 1), .lit (.int .u8 0)], .agg [.lit (.int .u8 5), .lit (.int .u8 2), .lit (.int .u8 0)], .agg [.lit (.int .u8 3), .lit (.int .u8 0), .lit (.int .u8 14)], .agg [.lit (.int .u8 4), .lit (.int .u8 0), .lit (.int .u8 0)], .agg [.lit (.int .u8 0), .lit (.int .u8 0), .lit (.int .u8 0)], .agg [.lit (.int .u8 0), .lit (.int .u8 0), .lit (.int .u8 0)], .agg [.lit (.int .u8 3), .lit (.int .u8 0), .lit (.int .u8 18)], .agg [.lit (.int .u8 4), .lit (.int .u8 0), .lit (.int .u8 0)]]
def laid_baffle_pkt_names {H : Type} : DataW H := .agg [.lit (.string []), .lit (.string [115, 104, 111, 114, 116]), .lit (.string [118, 101, 114, 115, 105, 111, 110]), .lit (.string [104, 101, 97, 100, 101, 114]), .lit (.string [116, 111, 116, 97, 108]), .lit (.string [115, 117, 109]), .lit (.string [114, 101, 115, 101, 114, 118, 101, 100]), .lit (.string [111, 102, 102, 115, 101, 116]), .lit (.string [102, 114, 97, 103, 109, 101, 110, 116]), .lit (.string [111, 112, 116, 105, 111, 110, 115]), .lit (.string [114, 111, 117, 116, 101]), .lit (.string [116, 116, 108]), .lit (.string [97, 100, 100, 114, 101, 115, 115]), .lit (.string [112, 114, 111, 116, 111, 99, 111, 108]), .lit (.string [108, 101, 110, 103, 116, 104]), .lit (.string [102, 108, 97, 103, 115]), .lit (.string [112, 111, 114, 116]), .lit (.string [116, 121, 112, 101]), .lit (.string [113, 117, 111, 116, 101]), .lit (.string [110, 101, 115, 116, 101, 100]), .lit (.string [102, 108, 111, 119]), .lit (.string [114, 101, 108, 97, 116, 101, 100]), .lit (.string [110, 101, 119]), .lit (.string [114, 117, 108, 101]), .lit (.string [110, 111, 114, 117, 108, 101]), .lit (.string [110, 111, 116, 111, 112, 101, 110]), .lit (.string [115, 116, 97, 116, 101]), .lit (.string [115, 111, 117, 114, 99, 101]), .lit (.string [114, 97, 116, 101]), .lit (.string [102, 117, 108, 108]), .lit (.string [110, 111, 110, 101])]
def laid_baffle_bafflelaw10_queries {H : Type} : DataW H := .agg [.lit (.int .u8 8), .lit (.int .u8 13), .lit (.int .u8 17)]
def laid_baffle_bafflelaw10_replies {H : Type} : DataW H := .agg [.lit (.int .u8 0), .lit (.int .u8 14), .lit (.int .u8 18)]
def laid_baffle_bafflelaw10_errs {H : Type} : DataW H := .agg [.agg [.lit (.int .u8 3), .lit (.int .u8 15)], .agg [.lit (.int .u8 4), .lit (.int .u8 0)], .agg [.lit (.int .u8 5), .lit (.int .u8 3)], .agg [.lit (.int .u8 11), .lit (.int .u8 1)], .agg [.lit (.int .u8 12), .lit (.int .u8 2)]]

/-- 'bafflelaw12.BuildTells': WHATEVER THE INPUT: true; the input reads as it did. -/
def buildTellsSpec : ChangeSpec := { name := "buildTells", fn := fun _ => fun
  | [d1, d2, d3] => { results := [.lit (.bool true)], args := [d1, d2, d3] }
  | _ => none }
def buildTellsRow : OpenClaim := { program := "ytebeekjcepjcnaadoor", sum := "4b4a153cf2c93abf828a39e0f691d4b6549283468e37b5c3c378703ecbd01cf3", func := "baffle/bafflelaw12.BuildTells", spec := "buildTells", unfollowed := true, recurses := true, named := ["baffle/icmp.sorts"], apart := false, laid := [("baffle/icmp.sorts", laid_baffle_icmp_sorts)] }
def BuildTellsSaid : Prop := buildTellsRow.holds Tryd.pinned (OpenSpec.ofChange buildTellsSpec)

/-- ITS FALSE NEIGHBOUR: 'it returns false'. Refute it at one input. -/
def buildTellsWrong : ChangeSpec := { name := "buildTells", fn := fun _ => fun
  | [d1, d2, d3] => { results := [.lit (.bool false)], args := [d1, d2, d3] }
  | _ => none }
def BuildTellsWrongFalsely : Prop := buildTellsRow.holds Tryd.pinned (OpenSpec.ofChange buildTellsWrong)

/-- 'bafflelaw12.BuildSmall': WHATEVER THE INPUT: true; the input reads as it did. -/
def buildSmallSpec : ChangeSpec := { name := "buildSmall", fn := fun _ => fun
  | [] => { results := [.lit (.bool true)], args := [] }
  | _ => none }
def buildSmallRow : OpenClaim := { program := "ytebeekjcepjcnaadoor", sum := "4b4a153cf2c93abf828a39e0f691d4b6549283468e37b5c3c378703ecbd01cf3", func := "baffle/bafflelaw12.BuildSmall", spec := "buildSmall", unfollowed := true, recurses := true, named := ["baffle/icmp.sorts"], apart := false, laid := [("baffle/icmp.sorts", laid_baffle_icmp_sorts)] }
def BuildSmallSaid : Prop := buildSmallRow.holds Tryd.pinned (OpenSpec.ofChange buildSmallSpec)

/-- ITS FALSE NEIGHBOUR: 'it returns false'. Refute it at one input. -/
def buildSmallWrong : ChangeSpec := { name := "buildSmall", fn := fun _ => fun
  | [] => { results := [.lit (.bool false)], args := [] }
  | _ => none }
def BuildSmallWrongFalsely : Prop := buildSmallRow.holds Tryd.pinned (OpenSpec.ofChange buildSmallWrong)

/-- 'bafflelaw11.PktReads': WHATEVER THE INPUT: true; the input reads as it did. -/
def pktReadsSpec : ChangeSpec := { name := "pktReads", fn := fun _ => fun
  | [d] => { results := [.lit (.bool true)], args := [d] }
  | _ => none }
def pktReadsRow : OpenClaim := { program := "ytebeekjcepjcnaadoor", sum := "4b4a153cf2c93abf828a39e0f691d4b6549283468e37b5c3c378703ecbd01cf3", func := "baffle/bafflelaw11.PktReads", spec := "pktReads", unfollowed := true, recurses := true, named := ["baffle/icmp.sorts", "baffle/pkt.names"], apart := false, laid := [("baffle/icmp.sorts", laid_baffle_icmp_sorts), ("baffle/pkt.names", laid_baffle_pkt_names)] }
def PktReadsSaid : Prop := pktReadsRow.holds Tryd.pinned (OpenSpec.ofChange pktReadsSpec)

/-- ITS FALSE NEIGHBOUR: 'it returns false'. Refute it at one input. -/
def pktReadsWrong : ChangeSpec := { name := "pktReads", fn := fun _ => fun
  | [d] => { results := [.lit (.bool false)], args := [d] }
  | _ => none }
def PktReadsWrongFalsely : Prop := pktReadsRow.holds Tryd.pinned (OpenSpec.ofChange pktReadsWrong)

/-- 'bafflelaw11.PktNames': WHATEVER THE INPUT: true; the input reads as it did. -/
def pktNamesSpec : ChangeSpec := { name := "pktNames", fn := fun _ => fun
  | [d1, d2] => { results := [.lit (.bool true)], args := [d1, d2] }
  | _ => none }
def pktNamesRow : OpenClaim := { program := "ytebeekjcepjcnaadoor", sum := "4b4a153cf2c93abf828a39e0f691d4b6549283468e37b5c3c378703ecbd01cf3", func := "baffle/bafflelaw11.PktNames", spec := "pktNames", unfollowed := true, recurses := true, named := ["baffle/pkt.names", "baffle/icmp.sorts"], apart := false, laid := [("baffle/icmp.sorts", laid_baffle_icmp_sorts), ("baffle/pkt.names", laid_baffle_pkt_names)] }
def PktNamesSaid : Prop := pktNamesRow.holds Tryd.pinned (OpenSpec.ofChange pktNamesSpec)

/-- ITS FALSE NEIGHBOUR: 'it returns false'. Refute it at one input. -/
def pktNamesWrong : ChangeSpec := { name := "pktNames", fn := fun _ => fun
  | [d1, d2] => { results := [.lit (.bool false)], args := [d1, d2] }
  | _ => none }
def PktNamesWrongFalsely : Prop := pktNamesRow.holds Tryd.pinned (OpenSpec.ofChange pktNamesWrong)

/-- 'bafflelaw11.PktSmall': WHATEVER THE INPUT: true; the input reads as it did. -/
def pktSmallSpec : ChangeSpec := { name := "pktSmall", fn := fun _ => fun
  | [] => { results := [.lit (.bool true)], args := [] }
  | _ => none }
def pktSmallRow : OpenClaim := { program := "ytebeekjcepjcnaadoor", sum := "4b4a153cf2c93abf828a39e0f691d4b6549283468e37b5c3c378703ecbd01cf3", func := "baffle/bafflelaw11.PktSmall", spec := "pktSmall", unfollowed := true, recurses := true, named := ["baffle/icmp.sorts", "baffle/pkt.names"], apart := false, laid := [("baffle/icmp.sorts", laid_baffle_icmp_sorts), ("baffle/pkt.names", laid_baffle_pkt_names)] }
def PktSmallSaid : Prop := pktSmallRow.holds Tryd.pinned (OpenSpec.ofChange pktSmallSpec)

/-- ITS FALSE NEIGHBOUR: 'it returns false'. Refute it at one input. -/
def pktSmallWrong : ChangeSpec := { name := "pktSmall", fn := fun _ => fun
  | [] => { results := [.lit (.bool false)], args := [] }
  | _ => none }
def PktSmallWrongFalsely : Prop := pktSmallRow.holds Tryd.pinned (OpenSpec.ofChange pktSmallWrong)

/-- 'bafflelaw11.PktLook': WHATEVER THE INPUT: true; the input reads as it did. -/
def pktLookSpec : ChangeSpec := { name := "pktLook", fn := fun _ => fun
  | [d1, d2] => { results := [.lit (.bool true)], args := [d1, d2] }
  | _ => none }
def pktLookRow : OpenClaim := { program := "ytebeekjcepjcnaadoor", sum := "4b4a153cf2c93abf828a39e0f691d4b6549283468e37b5c3c378703ecbd01cf3", func := "baffle/bafflelaw11.PktLook", spec := "pktLook", unfollowed := true, recurses := true, named := ["baffle/icmp.sorts", "baffle/pkt.names"], apart := false, laid := [("baffle/icmp.sorts", laid_baffle_icmp_sorts), ("baffle/pkt.names", laid_baffle_pkt_names)] }
def PktLookSaid : Prop := pktLookRow.holds Tryd.pinned (OpenSpec.ofChange pktLookSpec)

/-- ITS FALSE NEIGHBOUR: 'it returns false'. Refute it at one input. -/
def pktLookWrong : ChangeSpec := { name := "pktLook", fn := fun _ => fun
  | [d1, d2] => { results := [.lit (.bool false)], args := [d1, d2] }
  | _ => none }
def PktLookWrongFalsely : Prop := pktLookRow.holds Tryd.pinned (OpenSpec.ofChange pktLookWrong)

/-- 'bafflelaw12.BuildAnswers': WHATEVER THE INPUT: true; the input reads as it did. -/
def buildAnswersSpec : ChangeSpec := { name := "buildAnswers", fn := fun _ => fun
  | [d] => { results := [.lit (.bool true)], args := [d] }
  | _ => none }
def buildAnswersRow : OpenClaim := { program := "ytebeekjcepjcnaadoor", sum := "4b4a153cf2c93abf828a39e0f691d4b6549283468e37b5c3c378703ecbd01cf3", func := "baffle/bafflelaw12.BuildAnswers", spec := "buildAnswers", unfollowed := true, recurses := true, named := ["baffle/icmp.sorts", "baffle/bafflelaw10.queries", "baffle/bafflelaw10.replies", "baffle/bafflelaw10.errs"], apart := false, laid := [("baffle/icmp.sorts", laid_baffle_icmp_sorts), ("baffle/bafflelaw10.queries", laid_baffle_bafflelaw10_queries), ("baffle/bafflelaw10.replies", laid_baffle_bafflelaw10_replies), ("baffle/bafflelaw10.errs", laid_baffle_bafflelaw10_errs)] }
def BuildAnswersSaid : Prop := buildAnswersRow.holds Tryd.pinned (OpenSpec.ofChange buildAnswersSpec)

/-- ITS FALSE NEIGHBOUR: 'it returns false'. Refute it at one input. -/
def buildAnswersWrong : ChangeSpec := { name := "buildAnswers", fn := fun _ => fun
  | [d] => { results := [.lit (.bool false)], args := [d] }
  | _ => none }
def BuildAnswersWrongFalsely : Prop := buildAnswersRow.holds Tryd.pinned (OpenSpec.ofChange buildAnswersWrong)

/-- 'bafflelaw12.BuildWrong': WHATEVER THE INPUT: true; the input reads as it did. -/
def buildWrongSpec : ChangeSpec := { name := "buildWrong", fn := fun _ => fun
  | [d1, d2, d3] => { results := [.lit (.bool true)], args := [d1, d2, d3] }
  | _ => none }
def buildWrongRow : OpenClaim := { program := "ytebeekjcepjcnaadoor", sum := "4b4a153cf2c93abf828a39e0f691d4b6549283468e37b5c3c378703ecbd01cf3", func := "baffle/bafflelaw12.BuildWrong", spec := "buildWrong", unfollowed := true, recurses := true, named := ["baffle/icmp.sorts", "baffle/bafflelaw10.queries", "baffle/bafflelaw10.replies", "baffle/bafflelaw10.errs"], apart := false, laid := [("baffle/icmp.sorts", laid_baffle_icmp_sorts), ("baffle/bafflelaw10.queries", laid_baffle_bafflelaw10_queries), ("baffle/bafflelaw10.replies", laid_baffle_bafflelaw10_replies), ("baffle/bafflelaw10.errs", laid_baffle_bafflelaw10_errs)] }
def BuildWrongSaid : Prop := buildWrongRow.holds Tryd.pinned (OpenSpec.ofChange buildWrongSpec)

/-- ITS FALSE NEIGHBOUR: 'it returns false'. Refute it at one input. -/
def buildWrongWrong : ChangeSpec := { name := "buildWrong", fn := fun _ => fun
  | [d1, d2, d3] => { results := [.lit (.bool false)], args := [d1, d2, d3] }
  | _ => none }
def BuildWrongWrongFalsely : Prop := buildWrongRow.holds Tryd.pinned (OpenSpec.ofChange buildWrongWrong)

/-- 'bafflelaw11.PktFacts': WHATEVER THE INPUT: true; the input reads as it did. -/
def pktFactsSpec : ChangeSpec := { name := "pktFacts", fn := fun _ => fun
  | [d1, d2] => { results := [.lit (.bool true)], args := [d1, d2] }
  | _ => none }
def pktFactsRow : OpenClaim := { program := "ytebeekjcepjcnaadoor", sum := "4b4a153cf2c93abf828a39e0f691d4b6549283468e37b5c3c378703ecbd01cf3", func := "baffle/bafflelaw11.PktFacts", spec := "pktFacts", unfollowed := true, recurses := true, named := ["baffle/icmp.sorts", "baffle/pkt.names", "baffle/bafflelaw10.queries", "baffle/bafflelaw10.replies", "baffle/bafflelaw10.errs"], apart := false, laid := [("baffle/icmp.sorts", laid_baffle_icmp_sorts), ("baffle/bafflelaw10.queries", laid_baffle_bafflelaw10_queries), ("baffle/bafflelaw10.replies", laid_baffle_bafflelaw10_replies), ("baffle/bafflelaw10.errs", laid_baffle_bafflelaw10_errs), ("baffle/pkt.names", laid_baffle_pkt_names)] }
def PktFactsSaid : Prop := pktFactsRow.holds Tryd.pinned (OpenSpec.ofChange pktFactsSpec)

/-- ITS FALSE NEIGHBOUR: 'it returns false'. Refute it at one input. -/
def pktFactsWrong : ChangeSpec := { name := "pktFacts", fn := fun _ => fun
  | [d1, d2] => { results := [.lit (.bool false)], args := [d1, d2] }
  | _ => none }
def PktFactsWrongFalsely : Prop := pktFactsRow.holds Tryd.pinned (OpenSpec.ofChange pktFactsWrong)

/-- 'bafflelaw11.PktFirst': WHATEVER THE INPUT: true; the input reads as it did. -/
def pktFirstSpec : ChangeSpec := { name := "pktFirst", fn := fun _ => fun
  | [d1, d2, d3, d4] => { results := [.lit (.bool true)], args := [d1, d2, d3, d4] }
  | _ => none }
def pktFirstRow : OpenClaim := { program := "ytebeekjcepjcnaadoor", sum := "4b4a153cf2c93abf828a39e0f691d4b6549283468e37b5c3c378703ecbd01cf3", func := "baffle/bafflelaw11.PktFirst", spec := "pktFirst", unfollowed := true, recurses := true, named := ["baffle/icmp.sorts", "baffle/pkt.names", "baffle/bafflelaw10.queries", "baffle/bafflelaw10.replies", "baffle/bafflelaw10.errs"], apart := false, laid := [("baffle/icmp.sorts", laid_baffle_icmp_sorts), ("baffle/bafflelaw10.queries", laid_baffle_bafflelaw10_queries), ("baffle/bafflelaw10.replies", laid_baffle_bafflelaw10_replies), ("baffle/bafflelaw10.errs", laid_baffle_bafflelaw10_errs), ("baffle/pkt.names", laid_baffle_pkt_names)] }
def PktFirstSaid : Prop := pktFirstRow.holds Tryd.pinned (OpenSpec.ofChange pktFirstSpec)

/-- ITS FALSE NEIGHBOUR: 'it returns false'. Refute it at one input. -/
def pktFirstWrong : ChangeSpec := { name := "pktFirst", fn := fun _ => fun
  | [d1, d2, d3, d4] => { results := [.lit (.bool false)], args := [d1, d2, d3, d4] }
  | _ => none }
def PktFirstWrongFalsely : Prop := pktFirstRow.holds Tryd.pinned (OpenSpec.ofChange pktFirstWrong)

/-- 'bafflelaw11.PktErrors': WHATEVER THE INPUT: true; the input reads as it did. -/
def pktErrorsSpec : ChangeSpec := { name := "pktErrors", fn := fun _ => fun
  | [d1, d2, d3] => { results := [.lit (.bool true)], args := [d1, d2, d3] }
  | _ => none }
def pktErrorsRow : OpenClaim := { program := "ytebeekjcepjcnaadoor", sum := "4b4a153cf2c93abf828a39e0f691d4b6549283468e37b5c3c378703ecbd01cf3", func := "baffle/bafflelaw11.PktErrors", spec := "pktErrors", unfollowed := true, recurses := true, named := ["baffle/icmp.sorts", "baffle/pkt.names", "baffle/bafflelaw10.queries", "baffle/bafflelaw10.replies", "baffle/bafflelaw10.errs"], apart := false, laid := [("baffle/icmp.sorts", laid_baffle_icmp_sorts), ("baffle/bafflelaw10.queries", laid_baffle_bafflelaw10_queries), ("baffle/bafflelaw10.replies", laid_baffle_bafflelaw10_replies), ("baffle/bafflelaw10.errs", laid_baffle_bafflelaw10_errs), ("baffle/pkt.names", laid_baffle_pkt_names)] }
def PktErrorsSaid : Prop := pktErrorsRow.holds Tryd.pinned (OpenSpec.ofChange pktErrorsSpec)

/-- ITS FALSE NEIGHBOUR: 'it returns false'. Refute it at one input. -/
def pktErrorsWrong : ChangeSpec := { name := "pktErrors", fn := fun _ => fun
  | [d1, d2, d3] => { results := [.lit (.bool false)], args := [d1, d2, d3] }
  | _ => none }
def PktErrorsWrongFalsely : Prop := pktErrorsRow.holds Tryd.pinned (OpenSpec.ofChange pktErrorsWrong)

/-- 'bafflelaw11.PktTurned': WHATEVER THE INPUT: true; the input reads as it did. -/
def pktTurnedSpec : ChangeSpec := { name := "pktTurned", fn := fun _ => fun
  | [d1, d2] => { results := [.lit (.bool true)], args := [d1, d2] }
  | _ => none }
def pktTurnedRow : OpenClaim := { program := "ytebeekjcepjcnaadoor", sum := "4b4a153cf2c93abf828a39e0f691d4b6549283468e37b5c3c378703ecbd01cf3", func := "baffle/bafflelaw11.PktTurned", spec := "pktTurned", unfollowed := true, recurses := true, named := ["baffle/icmp.sorts", "baffle/pkt.names", "baffle/bafflelaw10.queries", "baffle/bafflelaw10.replies", "baffle/bafflelaw10.errs"], apart := false, laid := [("baffle/icmp.sorts", laid_baffle_icmp_sorts), ("baffle/bafflelaw10.queries", laid_baffle_bafflelaw10_queries), ("baffle/bafflelaw10.replies", laid_baffle_bafflelaw10_replies), ("baffle/bafflelaw10.errs", laid_baffle_bafflelaw10_errs), ("baffle/pkt.names", laid_baffle_pkt_names)] }
def PktTurnedSaid : Prop := pktTurnedRow.holds Tryd.pinned (OpenSpec.ofChange pktTurnedSpec)

/-- ITS FALSE NEIGHBOUR: 'it returns false'. Refute it at one input. -/
def pktTurnedWrong : ChangeSpec := { name := "pktTurned", fn := fun _ => fun
  | [d1, d2] => { results := [.lit (.bool false)], args := [d1, d2] }
  | _ => none }
def PktTurnedWrongFalsely : Prop := pktTurnedRow.holds Tryd.pinned (OpenSpec.ofChange pktTurnedWrong)

/-- 'bafflelaw12.BuildAll': WHATEVER THE INPUT: true; the input reads as it did. -/
def buildAllSpec : ChangeSpec := { name := "buildAll", fn := fun _ => fun
  | [d] => { results := [.lit (.bool true)], args := [d] }
  | _ => none }
def buildAllRow : OpenClaim := { program := "ytebeekjcepjcnaadoor", sum := "4b4a153cf2c93abf828a39e0f691d4b6549283468e37b5c3c378703ecbd01cf3", func := "baffle/bafflelaw12.BuildAll", spec := "buildAll", unfollowed := true, recurses := true, named := ["baffle/icmp.sorts"], apart := false, laid := [("baffle/icmp.sorts", laid_baffle_icmp_sorts)] }
def BuildAllSaid : Prop := buildAllRow.holds Tryd.pinned (OpenSpec.ofChange buildAllSpec)

/-- ITS FALSE NEIGHBOUR: 'it returns false'. Refute it at one input. -/
def buildAllWrong : ChangeSpec := { name := "buildAll", fn := fun _ => fun
  | [d] => { results := [.lit (.bool false)], args := [d] }
  | _ => none }
def BuildAllWrongFalsely : Prop := buildAllRow.holds Tryd.pinned (OpenSpec.ofChange buildAllWrong)

/- THE SECOND FORM. 'bulk': how many values and letters a reading holds, each counted each time it is reached (what is shared counts as often as it is met; a slice's spare places count too). A statement '..UptoSaid' is the law's where the arguments, and the package variables that the reading takes, are together of bulk at most 1048576: NARROWER than '..Said'. Prove '..Said' where nothing that the law and all that it calls make is longer than what came in: it says more and counts as full. Else prove '..UptoSaid'. A law counts once. -/
mutual
def uptoBulk {H : Type} : DataW H → Nat
  | .lit (.string bytes) => bytes.length + 1
  | .lit _ => 1
  | .nil => 1
  | .ptr d => uptoBulk d + 1
  | .slice elems spare => uptoBulkAll elems + uptoBulkAll spare + 1
  | .agg parts => uptoBulkAll parts + 1
  | .iface _ d => uptoBulk d + 1
  | .map entries => uptoBulkEntries entries + 1
  | .held _ => 1
def uptoBulkAll {H : Type} : List (DataW H) → Nat
  | [] => 0
  | d :: r => uptoBulk d + uptoBulkAll r
def uptoBulkEntries {H : Type} : List (Lit × DataW H) → Nat
  | [] => 0
  | x :: r => uptoBulkEntry x + uptoBulkEntries r
def uptoBulkEntry {H : Type} : Lit × DataW H → Nat
  | (.string bytes, d) => bytes.length + uptoBulk d + 1
  | (_, d) => uptoBulk d + 1
 end
def uptoSmall : (H : Type) → List (DataW H) → Bool := fun _ ds => decide (uptoBulkAll ds ≤ 1048576)
def OpenSpec.upto (s : _root_.Go.ChangeSpec) : _root_.Go.OpenSpec := { _root_.Go.OpenSpec.ofChange s with cond := some uptoSmall }

/-- 'bafflelaw12.BuildTells', WHERE WHAT IT READS IS OF BULK AT MOST 1048576: true; the input reads as it did. -/
def buildTellsUptoRow : OpenClaim := { program := "ytebeekjcepjcnaadoor", sum := "4b4a153cf2c93abf828a39e0f691d4b6549283468e37b5c3c378703ecbd01cf3", func := "baffle/bafflelaw12.BuildTells", spec := "buildTells", unfollowed := true, recurses := true, named := ["baffle/icmp.sorts"], apart := false, laid := [("baffle/icmp.sorts", laid_baffle_icmp_sorts)], narrowed := true }
def BuildTellsUptoSaid : Prop := buildTellsUptoRow.holds Tryd.pinned (OpenSpec.upto buildTellsSpec)

/-- 'bafflelaw12.BuildSmall', WHERE WHAT IT READS IS OF BULK AT MOST 1048576: true; the input reads as it did. -/
def buildSmallUptoRow : OpenClaim := { program := "ytebeekjcepjcnaadoor", sum := "4b4a153cf2c93abf828a39e0f691d4b6549283468e37b5c3c378703ecbd01cf3", func := "baffle/bafflelaw12.BuildSmall", spec := "buildSmall", unfollowed := true, recurses := true, named := ["baffle/icmp.sorts"], apart := false, laid := [("baffle/icmp.sorts", laid_baffle_icmp_sorts)], narrowed := true }
def BuildSmallUptoSaid : Prop := buildSmallUptoRow.holds Tryd.pinned (OpenSpec.upto buildSmallSpec)

/-- 'bafflelaw11.PktReads', WHERE WHAT IT READS IS OF BULK AT MOST 1048576: true; the input reads as it did. -/
def pktReadsUptoRow : OpenClaim := { program := "ytebeekjcepjcnaadoor", sum := "4b4a153cf2c93abf828a39e0f691d4b6549283468e37b5c3c378703ecbd01cf3", func := "baffle/bafflelaw11.PktReads", spec := "pktReads", unfollowed := true, recurses := true, named := ["baffle/icmp.sorts", "baffle/pkt.names"], apart := false, laid := [("baffle/icmp.sorts", laid_baffle_icmp_sorts), ("baffle/pkt.names", laid_baffle_pkt_names)], narrowed := true }
def PktReadsUptoSaid : Prop := pktReadsUptoRow.holds Tryd.pinned (OpenSpec.upto pktReadsSpec)

/-- 'bafflelaw11.PktNames', WHERE WHAT IT READS IS OF BULK AT MOST 1048576: true; the input reads as it did. -/
def pktNamesUptoRow : OpenClaim := { program := "ytebeekjcepjcnaadoor", sum := "4b4a153cf2c93abf828a39e0f691d4b6549283468e37b5c3c378703ecbd01cf3", func := "baffle/bafflelaw11.PktNames", spec := "pktNames", unfollowed := true, recurses := true, named := ["baffle/pkt.names", "baffle/icmp.sorts"], apart := false, laid := [("baffle/icmp.sorts", laid_baffle_icmp_sorts), ("baffle/pkt.names", laid_baffle_pkt_names)], narrowed := true }
def PktNamesUptoSaid : Prop := pktNamesUptoRow.holds Tryd.pinned (OpenSpec.upto pktNamesSpec)

/-- 'bafflelaw11.PktSmall', WHERE WHAT IT READS IS OF BULK AT MOST 1048576: true; the input reads as it did. -/
def pktSmallUptoRow : OpenClaim := { program := "ytebeekjcepjcnaadoor", sum := "4b4a153cf2c93abf828a39e0f691d4b6549283468e37b5c3c378703ecbd01cf3", func := "baffle/bafflelaw11.PktSmall", spec := "pktSmall", unfollowed := true, recurses := true, named := ["baffle/icmp.sorts", "baffle/pkt.names"], apart := false, laid := [("baffle/icmp.sorts", laid_baffle_icmp_sorts), ("baffle/pkt.names", laid_baffle_pkt_names)], narrowed := true }
def PktSmallUptoSaid : Prop := pktSmallUptoRow.holds Tryd.pinned (OpenSpec.upto pktSmallSpec)

/-- 'bafflelaw11.PktLook', WHERE WHAT IT READS IS OF BULK AT MOST 1048576: true; the input reads as it did. -/
def pktLookUptoRow : OpenClaim := { program := "ytebeekjcepjcnaadoor", sum := "4b4a153cf2c93abf828a39e0f691d4b6549283468e37b5c3c378703ecbd01cf3", func := "baffle/bafflelaw11.PktLook", spec := "pktLook", unfollowed := true, recurses := true, named := ["baffle/icmp.sorts", "baffle/pkt.names"], apart := false, laid := [("baffle/icmp.sorts", laid_baffle_icmp_sorts), ("baffle/pkt.names", laid_baffle_pkt_names)], narrowed := true }
def PktLookUptoSaid : Prop := pktLookUptoRow.holds Tryd.pinned (OpenSpec.upto pktLookSpec)

/-- 'bafflelaw12.BuildAnswers', WHERE WHAT IT READS IS OF BULK AT MOST 1048576: true; the input reads as it did. -/
def buildAnswersUptoRow : OpenClaim := { program := "ytebeekjcepjcnaadoor", sum := "4b4a153cf2c93abf828a39e0f691d4b6549283468e37b5c3c378703ecbd01cf3", func := "baffle/bafflelaw12.BuildAnswers", spec := "buildAnswers", unfollowed := true, recurses := true, named := ["baffle/icmp.sorts", "baffle/bafflelaw10.queries", "baffle/bafflelaw10.replies", "baffle/bafflelaw10.errs"], apart := false, laid := [("baffle/icmp.sorts", laid_baffle_icmp_sorts), ("baffle/bafflelaw10.queries", laid_baffle_bafflelaw10_queries), ("baffle/bafflelaw10.replies", laid_baffle_bafflelaw10_replies), ("baffle/bafflelaw10.errs", laid_baffle_bafflelaw10_errs)], narrowed := true }
def BuildAnswersUptoSaid : Prop := buildAnswersUptoRow.holds Tryd.pinned (OpenSpec.upto buildAnswersSpec)

/-- 'bafflelaw12.BuildWrong', WHERE WHAT IT READS IS OF BULK AT MOST 1048576: true; the input reads as it did. -/
def buildWrongUptoRow : OpenClaim := { program := "ytebeekjcepjcnaadoor", sum := "4b4a153cf2c93abf828a39e0f691d4b6549283468e37b5c3c378703ecbd01cf3", func := "baffle/bafflelaw12.BuildWrong", spec := "buildWrong", unfollowed := true, recurses := true, named := ["baffle/icmp.sorts", "baffle/bafflelaw10.queries", "baffle/bafflelaw10.replies", "baffle/bafflelaw10.errs"], apart := false, laid := [("baffle/icmp.sorts", laid_baffle_icmp_sorts), ("baffle/bafflelaw10.queries", laid_baffle_bafflelaw10_queries), ("baffle/bafflelaw10.replies", laid_baffle_bafflelaw10_replies), ("baffle/bafflelaw10.errs", laid_baffle_bafflelaw10_errs)], narrowed := true }
def BuildWrongUptoSaid : Prop := buildWrongUptoRow.holds Tryd.pinned (OpenSpec.upto buildWrongSpec)

/-- 'bafflelaw11.PktFacts', WHERE WHAT IT READS IS OF BULK AT MOST 1048576: true; the input reads as it did. -/
def pktFactsUptoRow : OpenClaim := { program := "ytebeekjcepjcnaadoor", sum := "4b4a153cf2c93abf828a39e0f691d4b6549283468e37b5c3c378703ecbd01cf3", func := "baffle/bafflelaw11.PktFacts", spec := "pktFacts", unfollowed := true, recurses := true, named := ["baffle/icmp.sorts", "baffle/pkt.names", "baffle/bafflelaw10.queries", "baffle/bafflelaw10.replies", "baffle/bafflelaw10.errs"], apart := false, laid := [("baffle/icmp.sorts", laid_baffle_icmp_sorts), ("baffle/bafflelaw10.queries", laid_baffle_bafflelaw10_queries), ("baffle/bafflelaw10.replies", laid_baffle_bafflelaw10_replies), ("baffle/bafflelaw10.errs", laid_baffle_bafflelaw10_errs), ("baffle/pkt.names", laid_baffle_pkt_names)], narrowed := true }
def PktFactsUptoSaid : Prop := pktFactsUptoRow.holds Tryd.pinned (OpenSpec.upto pktFactsSpec)

/-- 'bafflelaw11.PktFirst', WHERE WHAT IT READS IS OF BULK AT MOST 1048576: true; the input reads as it did. -/
def pktFirstUptoRow : OpenClaim := { program := "ytebeekjcepjcnaadoor", sum := "4b4a153cf2c93abf828a39e0f691d4b6549283468e37b5c3c378703ecbd01cf3", func := "baffle/bafflelaw11.PktFirst", spec := "pktFirst", unfollowed := true, recurses := true, named := ["baffle/icmp.sorts", "baffle/pkt.names", "baffle/bafflelaw10.queries", "baffle/bafflelaw10.replies", "baffle/bafflelaw10.errs"], apart := false, laid := [("baffle/icmp.sorts", laid_baffle_icmp_sorts), ("baffle/bafflelaw10.queries", laid_baffle_bafflelaw10_queries), ("baffle/bafflelaw10.replies", laid_baffle_bafflelaw10_replies), ("baffle/bafflelaw10.errs", laid_baffle_bafflelaw10_errs), ("baffle/pkt.names", laid_baffle_pkt_names)], narrowed := true }
def PktFirstUptoSaid : Prop := pktFirstUptoRow.holds Tryd.pinned (OpenSpec.upto pktFirstSpec)

/-- 'bafflelaw11.PktErrors', WHERE WHAT IT READS IS OF BULK AT MOST 1048576: true; the input reads as it did. -/
def pktErrorsUptoRow : OpenClaim := { program := "ytebeekjcepjcnaadoor", sum := "4b4a153cf2c93abf828a39e0f691d4b6549283468e37b5c3c378703ecbd01cf3", func := "baffle/bafflelaw11.PktErrors", spec := "pktErrors", unfollowed := true, recurses := true, named := ["baffle/icmp.sorts", "baffle/pkt.names", "baffle/bafflelaw10.queries", "baffle/bafflelaw10.replies", "baffle/bafflelaw10.errs"], apart := false, laid := [("baffle/icmp.sorts", laid_baffle_icmp_sorts), ("baffle/bafflelaw10.queries", laid_baffle_bafflelaw10_queries), ("baffle/bafflelaw10.replies", laid_baffle_bafflelaw10_replies), ("baffle/bafflelaw10.errs", laid_baffle_bafflelaw10_errs), ("baffle/pkt.names", laid_baffle_pkt_names)], narrowed := true }
def PktErrorsUptoSaid : Prop := pktErrorsUptoRow.holds Tryd.pinned (OpenSpec.upto pktErrorsSpec)

/-- 'bafflelaw11.PktTurned', WHERE WHAT IT READS IS OF BULK AT MOST 1048576: true; the input reads as it did. -/
def pktTurnedUptoRow : OpenClaim := { program := "ytebeekjcepjcnaadoor", sum := "4b4a153cf2c93abf828a39e0f691d4b6549283468e37b5c3c378703ecbd01cf3", func := "baffle/bafflelaw11.PktTurned", spec := "pktTurned", unfollowed := true, recurses := true, named := ["baffle/icmp.sorts", "baffle/pkt.names", "baffle/bafflelaw10.queries", "baffle/bafflelaw10.replies", "baffle/bafflelaw10.errs"], apart := false, laid := [("baffle/icmp.sorts", laid_baffle_icmp_sorts), ("baffle/bafflelaw10.queries", laid_baffle_bafflelaw10_queries), ("baffle/bafflelaw10.replies", laid_baffle_bafflelaw10_replies), ("baffle/bafflelaw10.errs", laid_baffle_bafflelaw10_errs), ("baffle/pkt.names", laid_baffle_pkt_names)], narrowed := true }
def PktTurnedUptoSaid : Prop := pktTurnedUptoRow.holds Tryd.pinned (OpenSpec.upto pktTurnedSpec)

/-- 'bafflelaw12.BuildAll', WHERE WHAT IT READS IS OF BULK AT MOST 1048576: true; the input reads as it did. -/
def buildAllUptoRow : OpenClaim := { program := "ytebeekjcepjcnaadoor", sum := "4b4a153cf2c93abf828a39e0f691d4b6549283468e37b5c3c378703ecbd01cf3", func := "baffle/bafflelaw12.BuildAll", spec := "buildAll", unfollowed := true, recurses := true, named := ["baffle/icmp.sorts"], apart := false, laid := [("baffle/icmp.sorts", laid_baffle_icmp_sorts)], narrowed := true }
def BuildAllUptoSaid : Prop := buildAllUptoRow.holds Tryd.pinned (OpenSpec.upto buildAllSpec)

end Rows
end Go.Proofs.YtebeekjcepjcnaaDoor
