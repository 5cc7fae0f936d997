/-
  bafflelaw11.PktFacts returns true for every input and leaves its arguments as they were; the package-level tables icmp.sorts, bafflelaw10.queries, bafflelaw10.replies, bafflelaw10.errs, pkt.names read at the start as the program's text lays them (tied by the card).
-/
import Derived.Lib.MinMax
import Derived.WalkKit
import Derived.WalkSpells
import Derived.WalkLawsBesides
import Derived.WalkSmall
import Derived.Lib.Hide
import Derived.Deep.AppendLies
import Derived.Maps.AppendAt
import Derived.Laws.AppendOwnNone
import Derived.Laws.CopyOwn
import Derived.OneCell
import Derived.Test.YtebeekjcepjcnaaDoorProg
import Derived.Lib.SliceRun
import Derived.RangeFuncNested
import Derived.RangeFuncBound
import Derived.RangeFuncCalls
import Derived.RangeFuncLeaves
import Derived.Shelf.Abstract
import Derived.OwnWalkIn
import Derived.TacticsInMore
import Derived.LoopNIn
import Derived.LoopIn
import Derived.Lib.AppendZeros
import Derived.BigRegion
import Derived.ChangeAlike
import Derived.Deep.RegionLaw
import Derived.Deep.DeepCutAuto
import Derived.Orders
import Derived.RegionTactic
import Derived.Still
import Derived.Deep.MidRow
import Derived.Deep.RegionHeld3
import Derived.MapKept
import Derived.RegionIn
import Derived.Laws.StructEq
import Derived.Laws.BitsAllLaws
import Derived.Deep.CutBlock
import Derived.Test.YtebeekjcepjcnaaDoorRows
import Derived.ProofKit
import Derived.LaidMore
import Derived.OpenShut
import Derived.Lay
import Derived.Deep.Strs
import Derived.Deep.Slices
import Derived.Test.YtebeekjcepjcnaaDoorTie
import Derived.Test.YtebeekjcepjcnaaDoorCards
import Derived.Handy
import Derived.SevenTiedAt
import Derived.Test.YtebeekjcepjcnaaDoorFBase
import Derived.Test.YtebeekjcepjcnaaDoorFBits
import Derived.Test.YtebeekjcepjcnaaDoorFCsum
import Derived.Test.YtebeekjcepjcnaaDoorFSum
import Derived.Test.YtebeekjcepjcnaaDoorFConcat
import Derived.Test.YtebeekjcepjcnaaDoorFFix
import Derived.Test.YtebeekjcepjcnaaDoorFFacts
import Derived.Test.YtebeekjcepjcnaaDoorFPkt
import Derived.Test.YtebeekjcepjcnaaDoorFRegion
import Derived.Test.YtebeekjcepjcnaaDoorFWalk
import Derived.Test.YtebeekjcepjcnaaDoorFStep
import Derived.Test.YtebeekjcepjcnaaDoorFTcpw
import Derived.Test.YtebeekjcepjcnaaDoorFUdpw
import Derived.Test.YtebeekjcepjcnaaDoorFData
import Derived.Test.YtebeekjcepjcnaaDoorFIprd
import Derived.Test.YtebeekjcepjcnaaDoorFFold
import Derived.Test.YtebeekjcepjcnaaDoorFIpre
import Derived.Test.YtebeekjcepjcnaaDoorFIpread
import Derived.Test.YtebeekjcepjcnaaDoorFOptsa
import Derived.Test.YtebeekjcepjcnaaDoorFOptsb
import Derived.Test.YtebeekjcepjcnaaDoorFOptsc
import Derived.Test.YtebeekjcepjcnaaDoorFOptsd
import Derived.Test.YtebeekjcepjcnaaDoorFTcprd
import Derived.Test.YtebeekjcepjcnaaDoorFEq
import Derived.Test.YtebeekjcepjcnaaDoorFMade8
import Derived.Test.YtebeekjcepjcnaaDoorFIpback
import Derived.Test.YtebeekjcepjcnaaDoorFMade6p
import Derived.Test.YtebeekjcepjcnaaDoorFOptw
import Derived.Test.YtebeekjcepjcnaaDoorFMade10
import Derived.Test.YtebeekjcepjcnaaDoorFMade9
import Derived.Test.YtebeekjcepjcnaaDoorFPright
import Derived.Test.YtebeekjcepjcnaaDoorFPktlen
import Derived.Test.YtebeekjcepjcnaaDoorFSm
import Derived.Test.YtebeekjcepjcnaaDoorFUdprd
import Derived.Test.YtebeekjcepjcnaaDoorFIcmprd
import Derived.Test.YtebeekjcepjcnaaDoorFContt
import Derived.Test.YtebeekjcepjcnaaDoorFMade11p
import Derived.Test.YtebeekjcepjcnaaDoorFM11law
import Derived.Test.YtebeekjcepjcnaaDoorFConte
import Derived.Test.YtebeekjcepjcnaaDoorFMade6
import Derived.Test.YtebeekjcepjcnaaDoorFMade11
import Derived.Test.YtebeekjcepjcnaaDoorFPktn
import Derived.Test.YtebeekjcepjcnaaDoorFQuotc
import Derived.Test.YtebeekjcepjcnaaDoorFPkto
import Derived.Test.YtebeekjcepjcnaaDoorFPkta
import Derived.Test.YtebeekjcepjcnaaDoorFPktr
import Derived.Test.YtebeekjcepjcnaaDoorFRip5
import Derived.Test.YtebeekjcepjcnaaDoorFPawake
import Derived.Test.YtebeekjcepjcnaaDoorFPktfacts
import Derived.Test.YtebeekjcepjcnaaDoorFOsmall
import Derived.Test.YtebeekjcepjcnaaDoorFPcard
namespace Go.Proofs.YtebeekjcepjcnaaDoor
open Go.ChangeShapes Go.WideShapes Go.ChangeAt Go.RowKit

theorem pktFacts_own : ownKnob Tryd.prog.godebug = none := by kernel_rfl

set_option maxRecDepth 100000 in
theorem pktFacts_lifted (os : Os) (started : os.Started) (H : Type) (enc : TypeId × Value → H) :
    ReturnsInHanded {} Tryd.checked os 11 .any (fun w args => (Rows.pktFactsSpec.pre enc Tryd.prog Tryd.f11 [] false w args ∧ laidMetH Tryd.prog [("baffle/icmp.sorts", Rows.laid_baffle_icmp_sorts), ("baffle/bafflelaw10.queries", Rows.laid_baffle_bafflelaw10_queries), ("baffle/bafflelaw10.replies", Rows.laid_baffle_bafflelaw10_replies), ("baffle/bafflelaw10.errs", Rows.laid_baffle_bafflelaw10_errs), ("baffle/pkt.names", Rows.laid_baffle_pkt_names)] w) ∧ sizedMet enc Tryd.prog Tryd.f11 (OpenSpec.ofChange Rows.pktFactsSpec) false w args)
      (Rows.pktFactsSpec.post enc Tryd.prog Tryd.f11 false true false false) := by
  refine returnsInHanded_of_change_and (C := Tryd.checked) (X := fun w _ => laidMetH Tryd.prog [("baffle/icmp.sorts", Rows.laid_baffle_icmp_sorts), ("baffle/bafflelaw10.queries", Rows.laid_baffle_bafflelaw10_queries), ("baffle/bafflelaw10.replies", Rows.laid_baffle_bafflelaw10_replies), ("baffle/bafflelaw10.errs", Rows.laid_baffle_bafflelaw10_errs), ("baffle/pkt.names", Rows.laid_baffle_pkt_names)] w) (fun _ _ _ hh h => h.of_heap hh) pktFacts_own started (by kernel_rfl) Tryd.func11
    (ChangeSpec.witness_shaped (enc := enc) (C := Tryd.checked) (os := os) (X := fun w _ => laidMetH Tryd.prog [("baffle/icmp.sorts", Rows.laid_baffle_icmp_sorts), ("baffle/bafflelaw10.queries", Rows.laid_baffle_bafflelaw10_queries), ("baffle/bafflelaw10.replies", Rows.laid_baffle_bafflelaw10_replies), ("baffle/bafflelaw10.errs", Rows.laid_baffle_bafflelaw10_errs), ("baffle/pkt.names", Rows.laid_baffle_pkt_names)] w) false (World.laidAll Tryd.prog os [("baffle/icmp.sorts", Rows.laid_baffle_icmp_sorts), ("baffle/bafflelaw10.queries", Rows.laid_baffle_bafflelaw10_queries), ("baffle/bafflelaw10.replies", Rows.laid_baffle_bafflelaw10_replies), ("baffle/bafflelaw10.errs", Rows.laid_baffle_bafflelaw10_errs), ("baffle/pkt.names", Rows.laid_baffle_pkt_names)]) #[Sm.zero.val, .slice none 0 0] 8 (World.laidAll_os _ _ _)
      (World.shaped_of_ZipB (by kernel_rfl) (by kernel_rfl)) (by kernel_rfl) (by kernel_rfl) (by kernel_rfl)
      (by rw [MakeChecks.laidMetH_plain _ _ _ (by kernel_rfl)]; exact laidMet_laidAll _ (by kernel_rfl) (by kernel_rfl))) ?_
  intro W base args ds gs before hval0 hW _ _ hL _
  have hval : ∀ (j : Nat) t v, Tryd.f11.params[j]? = some t → args[j]? = some v → Value.okWide Tryd.prog W .any base t v := hval0
  have hW' := hW
  obtain ⟨p, q, hA0, hV, rfl, _, _⟩ := hW
  have hA : DataW.TrodAll enc Tryd.prog W 0 (fun _ => true) true Tryd.f11.params.toList args.toList ds p := hA0
  rw [Tryd.params11] at hA hval
  obtain ⟨v0, v1, d0, d1, p0, p1, rfl, rfl, rfl, h0, h1⟩ := trodAll_two hA
  obtain ⟨rfl, rfl⟩ := trodVars_none hV
  have h0k := h0
  obtain ⟨x0, rfl, hx0, hS0⟩ := open_small (hval 0 65 v0 rfl rfl) h0
  have h1k := h1
  obtain ⟨A1, n1, c1, x1, rfl, hn1, hc1, hB1, hr1⟩ := open_bytes (hval 1 34 v1 rfl rfl) h1
  simp only [List.append_nil] at hW'
  obtain ⟨hs, hT, hm⟩ := tabs5_of_laid hL
  refine (pktFacts_any x0 hx0 A1 c1 n1 x1 W hS0 hn1 hc1 hB1 hr1 hT hs hm).mono fun e W' ⟨he, hb⟩ => ?_
  subst he
  have hargs0 : DataW.Trod enc Tryd.prog W' 0 (fun b => decide (b < W.heap.size)) true 65 x0.val d0 p0 :=
    Below.trod laidOut (by kernel_rfl) (of_decide_eq_true (by kernel_rfl)) h0k hb (fun x hx => by simpa using hW'.lt x (by simp [hx]))
  have hargs1 : DataW.Trod enc Tryd.prog W' 0 (fun b => decide (b < W.heap.size)) true 34 (.slice A1 n1 c1) d1 p1 :=
    Below.trod laidOut (by kernel_rfl) (of_decide_eq_true (by kernel_rfl)) h1k hb (fun x hx => by simpa using hW'.lt x (by simp [hx]))
  exact ⟨_, rfl, _, _, _, [], _, [], hW', trodAll_mk1 (shut_bool Tryd.underlying4 _), trodAll_mk2 hargs0 hargs1, rfl, hb.frame _, fun h => by cases h⟩

theorem pktFacts_said : Rows.PktFactsSaid :=
  OpenClaim.holds_of_wide 11 Tryd.f11 rfl rfl rfl rfl rfl rfl rfl ⟨rfl, rfl, rfl, rfl, rfl⟩ rfl rfl rfl rfl rfl (by kernel_rfl) Tryd.func11 (by kernel_rfl)
    (of_decide_eq_true (by kernel_rfl)) (by unfold Func.isWrapper; first | (rw [if_pos (by decide +kernel)]; kernel_rfl) | (rw [if_neg (by decide +kernel)]; exact ⟨rfl, rfl⟩))
    (fun os started H enc _ => pktFacts_lifted os started H enc)
theorem pktFacts_holds : Rows.PktFactsCardSaid :=
  Claim7.holds_tied_plain_at .later [] [.data, .data, .data, .data, .widerDeep] true (true, "dd93f4b7c9a88cb90f552fa58855603d9bfaed904102ad2aa0d3c19c49d1742f") false pktFacts_said (fun _ h => by cases h) (by kernel_rfl) (fun _ h => by cases h) pktFacts_row_tie rfl ⟨rfl, rfl⟩ (by kernel_rfl) rfl
    (fun f fn hf hfn => by
      obtain rfl : f = 11 := Option.some.inj ((show Tryd.prog.funcNamed "baffle/bafflelaw11.PktFacts" = some 11 by kernel_rfl).symm.trans hf) |>.symm
      obtain rfl : fn = Tryd.f11 := (Option.some.inj (Tryd.func11.symm.trans hfn)).symm
      exact ⟨by kernel_rfl, fun j t ht => by
        rw [Tryd.params11] at ht
        have hm : t ∈ [65, 34] := by simpa using Array.mem_of_getElem? ht
        have hall : ([65, 34].all fun u => !Tryd.prog.wantsStandIn u) = true := by kernel_rfl
        exact (show Tryd.prog.wantsStandIn t = false by simpa using List.all_eq_true.1 hall t hm)⟩)
    (by kernel_rfl)
#print axioms pktFacts_holds
end Go.Proofs.YtebeekjcepjcnaaDoor
