/-
  bafflelaw11.PktReads returns true for every input and leaves its argument as it was; the package-level tables icmp.sorts and pkt.names read at the start as the program's text lays them (tied by the card).
-/
import Derived.Test.YtebeekjcepjcnaaDoorRows
import Derived.WalkKit
import Derived.WalkSpells
import Derived.WalkLawsBesides
import Derived.WalkSmall
import Derived.Lib.Hide
import Derived.Deep.AppendLies
import Derived.Maps.AppendAt
import Derived.Laws.AppendOwnNone
import Derived.Laws.CopyOwn
import Derived.OneCell
import Derived.Orders
import Derived.RegionTactic
import Derived.Still
import Derived.Test.YtebeekjcepjcnaaDoorProg
import Derived.Deep.MidRow
import Derived.Lib.SliceRun
import Derived.RangeFuncNested
import Derived.RangeFuncBound
import Derived.RangeFuncCalls
import Derived.RangeFuncLeaves
import Derived.Shelf.Abstract
import Derived.OwnWalkIn
import Derived.TacticsInMore
import Derived.LoopNIn
import Derived.LoopIn
import Derived.Lib.AppendZeros
import Derived.MapKept
import Derived.Deep.DeepCutAuto
import Derived.Deep.RegionLaw
import Derived.Deep.RegionHeld3
import Derived.BigRegion
import Derived.ChangeAlike
import Derived.Laws.StructEq
import Derived.ProofKit
import Derived.LaidMore
import Derived.OpenShut
import Derived.Lay
import Derived.Deep.Strs
import Derived.RegionIn
import Derived.Test.YtebeekjcepjcnaaDoorTie
import Derived.Test.YtebeekjcepjcnaaDoorCards
import Derived.Handy
import Derived.SevenTiedAt
import Derived.Test.YtebeekjcepjcnaaDoorKBase
import Derived.Test.YtebeekjcepjcnaaDoorKWalk
import Derived.Test.YtebeekjcepjcnaaDoorKMem
import Derived.Test.YtebeekjcepjcnaaDoorKSum
import Derived.Test.YtebeekjcepjcnaaDoorKMaps
import Derived.Test.YtebeekjcepjcnaaDoorKEq
import Derived.Test.YtebeekjcepjcnaaDoorKRefd
import Derived.Test.YtebeekjcepjcnaaDoorKPkt
import Derived.Test.YtebeekjcepjcnaaDoorKPbits
import Derived.Test.YtebeekjcepjcnaaDoorKIprd
import Derived.Test.YtebeekjcepjcnaaDoorKIpre
import Derived.Test.YtebeekjcepjcnaaDoorKTcprd
import Derived.Test.YtebeekjcepjcnaaDoorKUdprd
import Derived.Test.YtebeekjcepjcnaaDoorKIcmprd
import Derived.Test.YtebeekjcepjcnaaDoorKPktm
import Derived.Test.YtebeekjcepjcnaaDoorKPktn
import Derived.Test.YtebeekjcepjcnaaDoorKQuota
import Derived.Test.YtebeekjcepjcnaaDoorKQuotb
import Derived.Test.YtebeekjcepjcnaaDoorKQuotc
import Derived.Test.YtebeekjcepjcnaaDoorKPkto
import Derived.Test.YtebeekjcepjcnaaDoorKIpread
import Derived.Test.YtebeekjcepjcnaaDoorKOptsa
import Derived.Test.YtebeekjcepjcnaaDoorKOptsb
import Derived.Test.YtebeekjcepjcnaaDoorKRange
import Derived.Test.YtebeekjcepjcnaaDoorKOptsc
import Derived.Test.YtebeekjcepjcnaaDoorKOptsd
import Derived.Test.YtebeekjcepjcnaaDoorKPkta
import Derived.Test.YtebeekjcepjcnaaDoorKPktr
import Derived.Test.YtebeekjcepjcnaaDoorKRopts
import Derived.Test.YtebeekjcepjcnaaDoorKRnum
import Derived.Test.YtebeekjcepjcnaaDoorKRat
import Derived.Test.YtebeekjcepjcnaaDoorKRicm
import Derived.Test.YtebeekjcepjcnaaDoorKRquo
import Derived.Test.YtebeekjcepjcnaaDoorKRip5
import Derived.Test.YtebeekjcepjcnaaDoorKRtcp
import Derived.Test.YtebeekjcepjcnaaDoorKRseg
import Derived.Test.YtebeekjcepjcnaaDoorKRmsg
import Derived.Test.YtebeekjcepjcnaaDoorKRopt6
import Derived.Test.YtebeekjcepjcnaaDoorKRopt7
import Derived.Test.YtebeekjcepjcnaaDoorKRopt8
import Derived.Test.YtebeekjcepjcnaaDoorKRhead
import Derived.Test.YtebeekjcepjcnaaDoorKRread
import Derived.Test.YtebeekjcepjcnaaDoorKLent
import Derived.Test.YtebeekjcepjcnaaDoorKReads
import Derived.Test.YtebeekjcepjcnaaDoorKPname
import Derived.Test.YtebeekjcepjcnaaDoorKPawake
import Derived.Test.YtebeekjcepjcnaaDoorKPcard
namespace Go.Proofs.YtebeekjcepjcnaaDoor
open Go.ChangeShapes Go.WideShapes Go.ChangeAt Go.RowKit

theorem ownP : ownKnob Tryd.prog.godebug = none := by kernel_rfl

set_option maxRecDepth 100000 in
theorem pktReads_lifted (os : Os) (started : os.Started) (H : Type) (enc : TypeId × Value → H) :
    ReturnsInHanded {} Tryd.checked os 5 .any (fun w args => (Rows.pktReadsSpec.pre enc Tryd.prog Tryd.f5 [] false w args ∧ laidMetH Tryd.prog [("baffle/icmp.sorts", Rows.laid_baffle_icmp_sorts), ("baffle/pkt.names", Rows.laid_baffle_pkt_names)] w) ∧ sizedMet enc Tryd.prog Tryd.f5 (OpenSpec.ofChange Rows.pktReadsSpec) false w args)
      (Rows.pktReadsSpec.post enc Tryd.prog Tryd.f5 false true false false) := by
  refine returnsInHanded_of_change_and (C := Tryd.checked) (X := fun w _ => laidMetH Tryd.prog [("baffle/icmp.sorts", Rows.laid_baffle_icmp_sorts), ("baffle/pkt.names", Rows.laid_baffle_pkt_names)] w) (fun _ _ _ hh h => h.of_heap hh) ownP started (by kernel_rfl) Tryd.func5
    (ChangeSpec.witness_shaped (enc := enc) (C := Tryd.checked) (os := os) (X := fun w _ => laidMetH Tryd.prog [("baffle/icmp.sorts", Rows.laid_baffle_icmp_sorts), ("baffle/pkt.names", Rows.laid_baffle_pkt_names)] w) false (World.laidAll Tryd.prog os [("baffle/icmp.sorts", Rows.laid_baffle_icmp_sorts), ("baffle/pkt.names", Rows.laid_baffle_pkt_names)]) #[.slice none 0 0] 8 (World.laidAll_os _ _ _)
      (World.shaped_of_ZipB (by kernel_rfl) (by kernel_rfl)) (by kernel_rfl) (by kernel_rfl) (by kernel_rfl)
      (by rw [MakeChecks.laidMetH_plain _ _ _ (by kernel_rfl)]; exact laidMet_laidAll _ (by kernel_rfl) (by kernel_rfl))) ?_
  intro W base args ds gs before hval0 hW _ _ hL _
  have hval : ∀ (j : Nat) t v, Tryd.f5.params[j]? = some t → args[j]? = some v → Value.okWide Tryd.prog W .any base t v := hval0
  have hW' := hW
  obtain ⟨p, q, hA0, hV, rfl, _, _⟩ := hW
  have hA : DataW.TrodAll enc Tryd.prog W 0 (fun _ => true) true Tryd.f5.params.toList args.toList ds p := hA0
  rw [Tryd.params5] at hA hval
  obtain ⟨v0, d0, rfl, rfl, h0⟩ := trodAll_one hA
  obtain ⟨rfl, rfl⟩ := trodVars_none hV
  have h0k := h0
  obtain ⟨A, n, cap, xs, rfl, hn, hcap, hB, hr⟩ := open_bytes (hval 0 34 v0 rfl rfl) h0
  simp only [List.append_nil] at hW'
  have hlt : ∀ x ∈ p, x.block < W.heap.size := fun x hx => by simpa using hW'.lt x hx
  obtain ⟨hs, hm⟩ := tables_of_laid hL
  refine (pktReads_any A cap n xs W hn hcap hB hr hs hm).mono fun e W' ⟨he, hb⟩ => ?_
  subst he
  have hargs : DataW.Trod enc Tryd.prog W' 0 (fun b => decide (b < W.heap.size)) true 34 (.slice A n cap) d0 p :=
    Below.trod laidOut (by kernel_rfl) (of_decide_eq_true (by kernel_rfl)) h0k hb hlt
  exact ⟨_, rfl, _, _, _, [], _, [], hW', trodAll_mk1 (shut_bool Tryd.underlying4 _), trodAll_mk1 hargs, rfl, hb.frame _, fun h => by cases h⟩

theorem pktReads_said : Rows.PktReadsSaid :=
  OpenClaim.holds_of_wide 5 Tryd.f5 rfl rfl rfl rfl rfl rfl rfl ⟨rfl, rfl, rfl, rfl, rfl⟩ rfl rfl rfl rfl rfl (by kernel_rfl) Tryd.func5 (by kernel_rfl)
    (of_decide_eq_true (by kernel_rfl)) (by unfold Func.isWrapper; first | (rw [if_pos (by decide +kernel)]; kernel_rfl) | (rw [if_neg (by decide +kernel)]; exact ⟨rfl, rfl⟩))
    (fun os started H enc _ => pktReads_lifted os started H enc)
theorem pktReads_holds : Rows.PktReadsCardSaid :=
  Claim7.holds_tied_plain_at .later [] [.data, .widerDeep] true (true, "dd93f4b7c9a88cb90f552fa58855603d9bfaed904102ad2aa0d3c19c49d1742f") false pktReads_said (fun _ h => by cases h) (by kernel_rfl) (fun _ h => by cases h) pktReads_row_tie rfl ⟨rfl, rfl⟩ (by kernel_rfl) rfl
    (fun f fn hf hfn => by
      obtain rfl : f = 5 := Option.some.inj ((show Tryd.prog.funcNamed "baffle/bafflelaw11.PktReads" = some 5 by kernel_rfl).symm.trans hf) |>.symm
      obtain rfl : fn = Tryd.f5 := (Option.some.inj (Tryd.func5.symm.trans hfn)).symm
      exact ⟨by kernel_rfl, fun j t ht => by
        rw [Tryd.params5] at ht
        have hm : t ∈ [34] := by simpa using Array.mem_of_getElem? ht
        have hall : ([34].all fun u => !Tryd.prog.wantsStandIn u) = true := by kernel_rfl
        exact (show Tryd.prog.wantsStandIn t = false by simpa using List.all_eq_true.1 hall t hm)⟩)
    (by kernel_rfl)
#print axioms pktReads_holds
end Go.Proofs.YtebeekjcepjcnaaDoor
