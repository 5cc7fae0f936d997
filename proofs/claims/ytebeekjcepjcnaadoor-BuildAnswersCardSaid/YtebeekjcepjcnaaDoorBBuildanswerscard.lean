/-
  bafflelaw12.BuildAnswers returns true for every input and leaves its arguments as they were; the package-level tables icmp.sorts, bafflelaw10.queries, bafflelaw10.replies, bafflelaw10.errs read at the start as the program's text lays them (tied by the card).
-/
import Derived.Lib.MinMax
import Derived.WalkKit
import Derived.WalkSpells
import Derived.WalkLawsBesides
import Derived.WalkSmall
import Derived.Lib.Hide
import Derived.Deep.AppendLies
import Derived.Maps.AppendAt
import Derived.Laws.AppendOwnNone
import Derived.Laws.CopyOwn
import Derived.OneCell
import Derived.Test.YtebeekjcepjcnaaDoorProg
import Derived.Lib.SliceRun
import Derived.RangeFuncNested
import Derived.RangeFuncBound
import Derived.RangeFuncCalls
import Derived.RangeFuncLeaves
import Derived.Shelf.Abstract
import Derived.OwnWalkIn
import Derived.TacticsInMore
import Derived.LoopNIn
import Derived.LoopIn
import Derived.Lib.AppendZeros
import Derived.BigRegion
import Derived.ChangeAlike
import Derived.Deep.RegionLaw
import Derived.Deep.DeepCutAuto
import Derived.Orders
import Derived.RegionTactic
import Derived.Still
import Derived.Deep.MidRow
import Derived.Deep.RegionHeld3
import Derived.MapKept
import Derived.RegionIn
import Derived.Laws.StructEq
import Derived.Laws.BitsAllLaws
import Derived.Deep.CutBlock
import Derived.Test.YtebeekjcepjcnaaDoorRows
import Derived.ProofKit
import Derived.LaidMore
import Derived.OpenShut
import Derived.Lay
import Derived.Deep.Strs
import Derived.Deep.Slices
import Derived.Test.YtebeekjcepjcnaaDoorTie
import Derived.Test.YtebeekjcepjcnaaDoorCards
import Derived.Handy
import Derived.SevenTiedAt
import Derived.Test.YtebeekjcepjcnaaDoorBBase
import Derived.Test.YtebeekjcepjcnaaDoorBBits
import Derived.Test.YtebeekjcepjcnaaDoorBCsum
import Derived.Test.YtebeekjcepjcnaaDoorBSum
import Derived.Test.YtebeekjcepjcnaaDoorBConcat
import Derived.Test.YtebeekjcepjcnaaDoorBFix
import Derived.Test.YtebeekjcepjcnaaDoorBFacts
import Derived.Test.YtebeekjcepjcnaaDoorBIpw
import Derived.Test.YtebeekjcepjcnaaDoorBPkt
import Derived.Test.YtebeekjcepjcnaaDoorBRegion
import Derived.Test.YtebeekjcepjcnaaDoorBWalk
import Derived.Test.YtebeekjcepjcnaaDoorBStep
import Derived.Test.YtebeekjcepjcnaaDoorBTcpw
import Derived.Test.YtebeekjcepjcnaaDoorBUdpw
import Derived.Test.YtebeekjcepjcnaaDoorBData
import Derived.Test.YtebeekjcepjcnaaDoorBMaps
import Derived.Test.YtebeekjcepjcnaaDoorBQuoted
import Derived.Test.YtebeekjcepjcnaaDoorBBuilda
import Derived.Test.YtebeekjcepjcnaaDoorBRerr
import Derived.Test.YtebeekjcepjcnaaDoorBIcmpr
import Derived.Test.YtebeekjcepjcnaaDoorBIprd
import Derived.Test.YtebeekjcepjcnaaDoorBFresh
import Derived.Test.YtebeekjcepjcnaaDoorBIpre
import Derived.Test.YtebeekjcepjcnaaDoorBOptsa
import Derived.Test.YtebeekjcepjcnaaDoorBOptsb
import Derived.Test.YtebeekjcepjcnaaDoorBRight
import Derived.Test.YtebeekjcepjcnaaDoorBAnswer
import Derived.Test.YtebeekjcepjcnaaDoorBMade8
import Derived.Test.YtebeekjcepjcnaaDoorBIpback
import Derived.Test.YtebeekjcepjcnaaDoorBMade6p
import Derived.Test.YtebeekjcepjcnaaDoorBOptw
import Derived.Test.YtebeekjcepjcnaaDoorBMade10
import Derived.Test.YtebeekjcepjcnaaDoorBMade9
import Derived.Test.YtebeekjcepjcnaaDoorBLookp
import Derived.Test.YtebeekjcepjcnaaDoorBFailure
import Derived.Test.YtebeekjcepjcnaaDoorBBuildb
import Derived.Test.YtebeekjcepjcnaaDoorBPright
import Derived.Test.YtebeekjcepjcnaaDoorBBuilt
import Derived.Test.YtebeekjcepjcnaaDoorBContu
import Derived.Test.YtebeekjcepjcnaaDoorBContt
import Derived.Test.YtebeekjcepjcnaaDoorBMade11p
import Derived.Test.YtebeekjcepjcnaaDoorBM11law
import Derived.Test.YtebeekjcepjcnaaDoorBConte
import Derived.Test.YtebeekjcepjcnaaDoorBAnswerb
import Derived.Test.YtebeekjcepjcnaaDoorBAwake
import Derived.Test.YtebeekjcepjcnaaDoorBAnslaw
import Derived.Test.YtebeekjcepjcnaaDoorBMade6
import Derived.Test.YtebeekjcepjcnaaDoorBMade11
import Derived.Test.YtebeekjcepjcnaaDoorBBans
import Derived.Test.YtebeekjcepjcnaaDoorBOpen
import Derived.Test.YtebeekjcepjcnaaDoorBOsmall
import Derived.Test.YtebeekjcepjcnaaDoorBPktn
namespace Go.Proofs.YtebeekjcepjcnaaDoor
open Go.ChangeShapes Go.WideShapes Go.ChangeAt Go.RowKit

theorem buildAnswers_own : ownKnob Tryd.prog.godebug = none := by kernel_rfl

set_option maxRecDepth 100000 in
theorem buildAnswers_lifted (os : Os) (started : os.Started) (H : Type) (enc : TypeId × Value → H) :
    ReturnsInHanded {} Tryd.checked os 9 .any (fun w args => (Rows.buildAnswersSpec.pre enc Tryd.prog Tryd.f9 [] false w args ∧ laidMetH Tryd.prog [("baffle/icmp.sorts", Rows.laid_baffle_icmp_sorts), ("baffle/bafflelaw10.queries", Rows.laid_baffle_bafflelaw10_queries), ("baffle/bafflelaw10.replies", Rows.laid_baffle_bafflelaw10_replies), ("baffle/bafflelaw10.errs", Rows.laid_baffle_bafflelaw10_errs)] w) ∧ sizedMet enc Tryd.prog Tryd.f9 (OpenSpec.ofChange Rows.buildAnswersSpec) false w args)
      (Rows.buildAnswersSpec.post enc Tryd.prog Tryd.f9 false true false false) := by
  refine returnsInHanded_of_change_and (C := Tryd.checked) (X := fun w _ => laidMetH Tryd.prog [("baffle/icmp.sorts", Rows.laid_baffle_icmp_sorts), ("baffle/bafflelaw10.queries", Rows.laid_baffle_bafflelaw10_queries), ("baffle/bafflelaw10.replies", Rows.laid_baffle_bafflelaw10_replies), ("baffle/bafflelaw10.errs", Rows.laid_baffle_bafflelaw10_errs)] w) (fun _ _ _ hh h => h.of_heap hh) buildAnswers_own started (by kernel_rfl) Tryd.func9
    (ChangeSpec.witness_shaped (enc := enc) (C := Tryd.checked) (os := os) (X := fun w _ => laidMetH Tryd.prog [("baffle/icmp.sorts", Rows.laid_baffle_icmp_sorts), ("baffle/bafflelaw10.queries", Rows.laid_baffle_bafflelaw10_queries), ("baffle/bafflelaw10.replies", Rows.laid_baffle_bafflelaw10_replies), ("baffle/bafflelaw10.errs", Rows.laid_baffle_bafflelaw10_errs)] w) false (World.laidAll Tryd.prog os [("baffle/icmp.sorts", Rows.laid_baffle_icmp_sorts), ("baffle/bafflelaw10.queries", Rows.laid_baffle_bafflelaw10_queries), ("baffle/bafflelaw10.replies", Rows.laid_baffle_bafflelaw10_replies), ("baffle/bafflelaw10.errs", Rows.laid_baffle_bafflelaw10_errs)]) #[Sm.zero.val] 8 (World.laidAll_os _ _ _)
      (World.shaped_of_ZipB (by kernel_rfl) (by kernel_rfl)) (by kernel_rfl) (by kernel_rfl) (by kernel_rfl)
      (by rw [MakeChecks.laidMetH_plain _ _ _ (by kernel_rfl)]; exact laidMet_laidAll _ (by kernel_rfl) (by kernel_rfl))) ?_
  intro W base args ds gs before hval0 hW _ _ hL _
  have hval : ∀ (j : Nat) t v, Tryd.f9.params[j]? = some t → args[j]? = some v → Value.okWide Tryd.prog W .any base t v := hval0
  have hW' := hW
  obtain ⟨p, q, hA0, hV, rfl, _, _⟩ := hW
  have hA : DataW.TrodAll enc Tryd.prog W 0 (fun _ => true) true Tryd.f9.params.toList args.toList ds p := hA0
  rw [Tryd.params9] at hA hval
  obtain ⟨v0, d0, rfl, rfl, h0⟩ := trodAll_one hA
  obtain ⟨rfl, rfl⟩ := trodVars_none hV
  have h0k := h0
  obtain ⟨x0, rfl, hx0, hS0⟩ := open_small (hval 0 65 v0 rfl rfl) h0
  simp only [List.append_nil] at hW'
  obtain ⟨hs, hT⟩ := tabs_of_laid hL
  refine (buildAnswers_any x0 hx0 W hS0 hT hs).mono fun e W' ⟨he, hb⟩ => ?_
  subst he
  have hargs0 : DataW.Trod enc Tryd.prog W' 0 (fun b => decide (b < W.heap.size)) true 65 x0.val d0 p :=
    Below.trod laidOut (by kernel_rfl) (of_decide_eq_true (by kernel_rfl)) h0k hb (fun x hx => by simpa using hW'.lt x (by simp [hx]))
  exact ⟨_, rfl, _, _, _, [], _, [], hW', trodAll_mk1 (shut_bool Tryd.underlying4 _), trodAll_mk1 hargs0, rfl, hb.frame _, fun h => by cases h⟩

theorem buildAnswers_said : Rows.BuildAnswersSaid :=
  OpenClaim.holds_of_wide 9 Tryd.f9 rfl rfl rfl rfl rfl rfl rfl ⟨rfl, rfl, rfl, rfl, rfl⟩ rfl rfl rfl rfl rfl (by kernel_rfl) Tryd.func9 (by kernel_rfl)
    (of_decide_eq_true (by kernel_rfl)) (by unfold Func.isWrapper; first | (rw [if_pos (by decide +kernel)]; kernel_rfl) | (rw [if_neg (by decide +kernel)]; exact ⟨rfl, rfl⟩))
    (fun os started H enc _ => buildAnswers_lifted os started H enc)
theorem buildAnswers_holds : Rows.BuildAnswersCardSaid :=
  Claim7.holds_tied_plain_at .later [] [.data, .data, .data, .data] true (true, "dd93f4b7c9a88cb90f552fa58855603d9bfaed904102ad2aa0d3c19c49d1742f") false buildAnswers_said (fun _ h => by cases h) (by kernel_rfl) (fun _ h => by cases h) buildAnswers_row_tie rfl ⟨rfl, rfl⟩ (by kernel_rfl) rfl
    (fun f fn hf hfn => by
      obtain rfl : f = 9 := Option.some.inj ((show Tryd.prog.funcNamed "baffle/bafflelaw12.BuildAnswers" = some 9 by kernel_rfl).symm.trans hf) |>.symm
      obtain rfl : fn = Tryd.f9 := (Option.some.inj (Tryd.func9.symm.trans hfn)).symm
      exact ⟨by kernel_rfl, fun j t ht => by
        rw [Tryd.params9] at ht
        have hm : t ∈ [65] := by simpa using Array.mem_of_getElem? ht
        have hall : ([65].all fun u => !Tryd.prog.wantsStandIn u) = true := by kernel_rfl
        exact (show Tryd.prog.wantsStandIn t = false by simpa using List.all_eq_true.1 hall t hm)⟩)
    (by kernel_rfl)
#print axioms buildAnswers_holds
end Go.Proofs.YtebeekjcepjcnaaDoor
