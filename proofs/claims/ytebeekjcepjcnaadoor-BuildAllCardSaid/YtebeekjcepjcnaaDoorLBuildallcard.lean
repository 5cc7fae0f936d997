/-
  bafflelaw12.BuildAll returns true for every input and leaves its arguments as they were; the package-level table icmp.sorts reads at the start as the program's text lays it (tied by the card).
-/
import Derived.Test.YtebeekjcepjcnaaDoorProg
import Derived.WalkKit
import Derived.WalkSpells
import Derived.WalkLawsBesides
import Derived.WalkSmall
import Derived.Lib.Hide
import Derived.Deep.AppendLies
import Derived.Maps.AppendAt
import Derived.Laws.AppendOwnNone
import Derived.Laws.CopyOwn
import Derived.OneCell
import Derived.Lib.SliceRun
import Derived.RangeFuncNested
import Derived.RangeFuncBound
import Derived.RangeFuncCalls
import Derived.RangeFuncLeaves
import Derived.Shelf.Abstract
import Derived.OwnWalkIn
import Derived.TacticsInMore
import Derived.LoopNIn
import Derived.LoopIn
import Derived.Lib.AppendZeros
import Derived.BigRegion
import Derived.ChangeAlike
import Derived.Deep.RegionLaw
import Derived.Deep.DeepCutAuto
import Derived.Orders
import Derived.RegionTactic
import Derived.Deep.RegionHeld3
import Derived.Still
import Derived.Deep.MidRow
import Derived.MapKept
import Derived.Laws.StructEq
import Derived.RegionIn
import Derived.Test.YtebeekjcepjcnaaDoorRows
import Derived.ProofKit
import Derived.LaidMore
import Derived.OpenShut
import Derived.Lay
import Derived.Deep.Strs
import Derived.Test.YtebeekjcepjcnaaDoorTie
import Derived.Test.YtebeekjcepjcnaaDoorCards
import Derived.Handy
import Derived.SevenTiedAt
import Derived.Test.YtebeekjcepjcnaaDoorLBase
import Derived.Test.YtebeekjcepjcnaaDoorLMem
import Derived.Test.YtebeekjcepjcnaaDoorLCsum
import Derived.Test.YtebeekjcepjcnaaDoorLSum
import Derived.Test.YtebeekjcepjcnaaDoorLFix
import Derived.Test.YtebeekjcepjcnaaDoorLFacts
import Derived.Test.YtebeekjcepjcnaaDoorLPkt
import Derived.Test.YtebeekjcepjcnaaDoorLRegion
import Derived.Test.YtebeekjcepjcnaaDoorLWalk
import Derived.Test.YtebeekjcepjcnaaDoorLStep
import Derived.Test.YtebeekjcepjcnaaDoorLQuoted
import Derived.Test.YtebeekjcepjcnaaDoorLBuilda
import Derived.Test.YtebeekjcepjcnaaDoorLRerr
import Derived.Test.YtebeekjcepjcnaaDoorLStepb
import Derived.Test.YtebeekjcepjcnaaDoorLTcpw
import Derived.Test.YtebeekjcepjcnaaDoorLUdpw
import Derived.Test.YtebeekjcepjcnaaDoorLData
import Derived.Test.YtebeekjcepjcnaaDoorLQdata
import Derived.Test.YtebeekjcepjcnaaDoorLFailure
import Derived.Test.YtebeekjcepjcnaaDoorLEq
import Derived.Test.YtebeekjcepjcnaaDoorLFold
import Derived.Test.YtebeekjcepjcnaaDoorLBuildb
import Derived.Test.YtebeekjcepjcnaaDoorLAnswer
import Derived.Test.YtebeekjcepjcnaaDoorLAnswerb
import Derived.Test.YtebeekjcepjcnaaDoorLAwake
import Derived.Test.YtebeekjcepjcnaaDoorLOpen
import Derived.Test.YtebeekjcepjcnaaDoorLIprd
import Derived.Test.YtebeekjcepjcnaaDoorLIpre
import Derived.Test.YtebeekjcepjcnaaDoorLTcprd
import Derived.Test.YtebeekjcepjcnaaDoorLUdprd
import Derived.Test.YtebeekjcepjcnaaDoorLIcmprd
import Derived.Test.YtebeekjcepjcnaaDoorLPktn
import Derived.Test.YtebeekjcepjcnaaDoorLQuotc
import Derived.Test.YtebeekjcepjcnaaDoorLPkto
import Derived.Test.YtebeekjcepjcnaaDoorLIpread
import Derived.Test.YtebeekjcepjcnaaDoorLOptsa
import Derived.Test.YtebeekjcepjcnaaDoorLOptsb
import Derived.Test.YtebeekjcepjcnaaDoorLOptsc
import Derived.Test.YtebeekjcepjcnaaDoorLOptsd
import Derived.Test.YtebeekjcepjcnaaDoorLPkta
import Derived.Test.YtebeekjcepjcnaaDoorLPktr
import Derived.Test.YtebeekjcepjcnaaDoorLRip5
import Derived.Test.YtebeekjcepjcnaaDoorLPawake
import Derived.Test.YtebeekjcepjcnaaDoorLPcard
import Derived.Test.YtebeekjcepjcnaaDoorLIpback
import Derived.Test.YtebeekjcepjcnaaDoorLPright
import Derived.Test.YtebeekjcepjcnaaDoorLBuilt
import Derived.Test.YtebeekjcepjcnaaDoorLPktlen
namespace Go.Proofs.YtebeekjcepjcnaaDoor
open Go.ChangeShapes Go.WideShapes Go.ChangeAt Go.RowKit

theorem buildAll_own : ownKnob Tryd.prog.godebug = none := by kernel_rfl

set_option maxRecDepth 100000 in
theorem buildAll_lifted (os : Os) (started : os.Started) (H : Type) (enc : TypeId × Value → H) :
    ReturnsInHanded {} Tryd.checked os 15 .any (fun w args => (Rows.buildAllSpec.pre enc Tryd.prog Tryd.f15 [] false w args ∧ laidMetH Tryd.prog [("baffle/icmp.sorts", Rows.laid_baffle_icmp_sorts)] w) ∧ sizedMet enc Tryd.prog Tryd.f15 (OpenSpec.ofChange Rows.buildAllSpec) false w args)
      (Rows.buildAllSpec.post enc Tryd.prog Tryd.f15 false true false false) := by
  refine returnsInHanded_of_change_and (C := Tryd.checked) (X := fun w _ => laidMetH Tryd.prog [("baffle/icmp.sorts", Rows.laid_baffle_icmp_sorts)] w) (fun _ _ _ hh h => h.of_heap hh) buildAll_own started (by kernel_rfl) Tryd.func15
    (ChangeSpec.witness_shaped (enc := enc) (C := Tryd.checked) (os := os) (X := fun w _ => laidMetH Tryd.prog [("baffle/icmp.sorts", Rows.laid_baffle_icmp_sorts)] w) false (World.laidAll Tryd.prog os [("baffle/icmp.sorts", Rows.laid_baffle_icmp_sorts)]) #[.slice none 0 0] 8 (World.laidAll_os _ _ _)
      (World.shaped_of_ZipB (by kernel_rfl) (by kernel_rfl)) (by kernel_rfl) (by kernel_rfl) (by kernel_rfl)
      (by rw [MakeChecks.laidMetH_plain _ _ _ (by kernel_rfl)]; exact laidMet_laidAll _ (by kernel_rfl) (by kernel_rfl))) ?_
  intro W base args ds gs before hval0 hW _ _ hL _
  have hval : ∀ (j : Nat) t v, Tryd.f15.params[j]? = some t → args[j]? = some v → Value.okWide Tryd.prog W .any base t v := hval0
  have hW' := hW
  obtain ⟨p, q, hA0, hV, rfl, _, _⟩ := hW
  have hA : DataW.TrodAll enc Tryd.prog W 0 (fun _ => true) true Tryd.f15.params.toList args.toList ds p := hA0
  rw [Tryd.params15] at hA hval
  obtain ⟨v0, d0, rfl, rfl, h0⟩ := trodAll_one hA
  obtain ⟨rfl, rfl⟩ := trodVars_none hV
  have h0k := h0
  obtain ⟨A0, n0, c0, x0, rfl, hn0, hc0, hB0, hr0⟩ := open_bytes (hval 0 34 v0 rfl rfl) h0
  simp only [List.append_nil] at hW'
  have hs : SortsAt W := sorts_of_laid hL
  refine (buildAll_any A0 c0 n0 x0 W hn0 hc0 hB0 hr0 hs).mono fun e W' ⟨he, hb⟩ => ?_
  subst he
  have hargs0 : DataW.Trod enc Tryd.prog W' 0 (fun b => decide (b < W.heap.size)) true 34 (.slice A0 n0 c0) d0 p :=
    Below.trod laidOut (by kernel_rfl) (of_decide_eq_true (by kernel_rfl)) h0k hb (fun x hx => by simpa using hW'.lt x (by simp [hx]))
  exact ⟨_, rfl, _, _, _, [], _, [], hW', trodAll_mk1 (shut_bool Tryd.underlying4 _), trodAll_mk1 hargs0, rfl, hb.frame _, fun h => by cases h⟩

theorem buildAll_said : Rows.BuildAllSaid :=
  OpenClaim.holds_of_wide 15 Tryd.f15 rfl rfl rfl rfl rfl rfl rfl ⟨rfl, rfl, rfl, rfl, rfl⟩ rfl rfl rfl rfl rfl (by kernel_rfl) Tryd.func15 (by kernel_rfl)
    (of_decide_eq_true (by kernel_rfl)) (by unfold Func.isWrapper; first | (rw [if_pos (by decide +kernel)]; kernel_rfl) | (rw [if_neg (by decide +kernel)]; exact ⟨rfl, rfl⟩))
    (fun os started H enc _ => buildAll_lifted os started H enc)
theorem buildAll_holds : Rows.BuildAllCardSaid :=
  Claim7.holds_tied_plain_at .later [] [.data] true (true, "dd93f4b7c9a88cb90f552fa58855603d9bfaed904102ad2aa0d3c19c49d1742f") false buildAll_said (fun _ h => by cases h) (by kernel_rfl) (fun _ h => by cases h) buildAll_row_tie rfl ⟨rfl, rfl⟩ (by kernel_rfl) rfl
    (fun f fn hf hfn => by
      obtain rfl : f = 15 := Option.some.inj ((show Tryd.prog.funcNamed "baffle/bafflelaw12.BuildAll" = some 15 by kernel_rfl).symm.trans hf) |>.symm
      obtain rfl : fn = Tryd.f15 := (Option.some.inj (Tryd.func15.symm.trans hfn)).symm
      exact ⟨by kernel_rfl, fun j t ht => by
        rw [Tryd.params15] at ht
        have hm : t ∈ [34] := by simpa using Array.mem_of_getElem? ht
        have hall : ([34].all fun u => !Tryd.prog.wantsStandIn u) = true := by kernel_rfl
        exact (show Tryd.prog.wantsStandIn t = false by simpa using List.all_eq_true.1 hall t hm)⟩)
    (by kernel_rfl)
#print axioms buildAll_holds
end Go.Proofs.YtebeekjcepjcnaaDoor
