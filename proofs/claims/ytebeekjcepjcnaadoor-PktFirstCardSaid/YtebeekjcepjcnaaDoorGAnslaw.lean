/-
  What build.Answer says of right facts (plain).
  Facts that are not right, and what build says of them (plain).
-/
import Derived.Test.YtebeekjcepjcnaaDoorProg
import Derived.WalkKit
import Derived.WalkSpells
import Derived.WalkLawsBesides
import Derived.WalkSmall
import Derived.Lib.Hide
import Derived.Deep.AppendLies
import Derived.Maps.AppendAt
import Derived.Laws.AppendOwnNone
import Derived.Laws.CopyOwn
import Derived.OneCell
import Derived.Lib.SliceRun
import Derived.RangeFuncNested
import Derived.RangeFuncBound
import Derived.RangeFuncCalls
import Derived.RangeFuncLeaves
import Derived.Shelf.Abstract
import Derived.OwnWalkIn
import Derived.TacticsInMore
import Derived.LoopNIn
import Derived.LoopIn
import Derived.Lib.AppendZeros
import Derived.BigRegion
import Derived.ChangeAlike
import Derived.Deep.RegionLaw
import Derived.Deep.DeepCutAuto
import Derived.Orders
import Derived.RegionTactic
import Derived.Deep.RegionHeld3
import Derived.Still
import Derived.Deep.MidRow
import Derived.MapKept
import Derived.Laws.StructEq
import Derived.Test.YtebeekjcepjcnaaDoorGBase
import Derived.Test.YtebeekjcepjcnaaDoorGBits
import Derived.Test.YtebeekjcepjcnaaDoorGCsum
import Derived.Test.YtebeekjcepjcnaaDoorGSum
import Derived.Test.YtebeekjcepjcnaaDoorGFix
import Derived.Test.YtebeekjcepjcnaaDoorGFacts
import Derived.Test.YtebeekjcepjcnaaDoorGPkt
import Derived.Test.YtebeekjcepjcnaaDoorGWalk
import Derived.Test.YtebeekjcepjcnaaDoorGStep
import Derived.Test.YtebeekjcepjcnaaDoorGTcpw
import Derived.Test.YtebeekjcepjcnaaDoorGUdpw
import Derived.Test.YtebeekjcepjcnaaDoorGData
import Derived.Test.YtebeekjcepjcnaaDoorGFold
import Derived.Test.YtebeekjcepjcnaaDoorGEq
import Derived.Test.YtebeekjcepjcnaaDoorGIpback
import Derived.Test.YtebeekjcepjcnaaDoorGMade9
import Derived.Test.YtebeekjcepjcnaaDoorGPright
import Derived.Test.YtebeekjcepjcnaaDoorGBuilt
namespace Go.Proofs.YtebeekjcepjcnaaDoor
open Go.RowKit
theorem RightOk.tcp {f : Facts} (r : RightOk f) (h : f.kind = 1) : f.key.proto = 6 ∧ f.rightTCP = true ∧ f.tcpPart = f := by
  have h1 := r.proto
  have h2 := r.fr
  have h3 := r.part
  unfold Facts.fRight at h2
  unfold Facts.fPart at h3
  rw [if_pos h] at h2 h3
  rw [h] at h1
  exact ⟨h1, h2, h3⟩
theorem RightOk.udp {f : Facts} (r : RightOk f) (h : f.kind = 2) : f.key.proto = 17 ∧ f.rightUDP = true ∧ f.udpPart = f := by
  have h1 := r.proto
  have h2 := r.fr
  have h3 := r.part
  unfold Facts.fRight at h2
  unfold Facts.fPart at h3
  rw [if_neg (by omega), if_pos h] at h2 h3
  rw [h] at h1
  exact ⟨h1, h2, h3⟩
theorem RightOk.qry {f : Facts} (r : RightOk f) (h : f.kind = 3 ∨ f.kind = 4) : f.key.proto = 1 ∧ f.rightQuery = true ∧ f.queryPart = f := by
  have h1 := r.proto
  have h2 := r.fr
  have h3 := r.part
  unfold Facts.fRight at h2
  unfold Facts.fPart at h3
  rw [if_neg (by omega), if_neg (by omega), if_neg (by omega)] at h2 h3
  unfold protoS at h1
  rw [if_neg (by omega), if_neg (by omega)] at h1
  exact ⟨h1, h2, h3⟩
theorem RightOk.err {f : Facts} (r : RightOk f) (h : f.kind = 5) : f.key.proto = 1 ∧ f.rightError = true ∧ f.errorPart = f := by
  have h1 := r.proto
  have h2 := r.fr
  have h3 := r.part
  unfold Facts.fRight at h2
  unfold Facts.fPart at h3
  rw [if_neg (by omega), if_neg (by omega), if_pos h] at h2 h3
  unfold protoS at h1
  rw [if_neg (by omega), if_neg (by omega)] at h1
  exact ⟨h1, h2, h3⟩
/-- Only a segment has flags. -/
theorem RightOk.flags {f : Facts} (r : RightOk f) (h : f.kind ≠ 1) : f.flags = 0 := by
  have h0 := r.k0
  have h1 := r.k1
  rcases (show f.kind = 2 ∨ (f.kind = 3 ∨ f.kind = 4) ∨ f.kind = 5 by omega) with h | h | h
  · rw [← (r.udp h).2.2]; rfl
  · rw [← (r.qry h).2.2]; rfl
  · rw [← (r.err h).2.2]; rfl
end Go.Proofs.YtebeekjcepjcnaaDoor
namespace Go.Proofs.YtebeekjcepjcnaaDoor
open Go.RowKit
theorem or18 : ∀ n, n < 256 → (18 ||| n) ≠ 6 ∧ (18 ||| n) ≠ 17 ∧ (18 ||| n) ≠ 1 ∧ (18 ||| n) < 256 := by decide +kernel
theorem or18_bits (n : Int) (h0 : 0 ≤ n) (h1 : n < 256) : ∃ p : Int, bits .or .u8 18 n = p ∧ p ≠ 6 ∧ p ≠ 17 ∧ p ≠ 1 ∧ 0 ≤ p ∧ p < 256 := by
  obtain ⟨m, rfl⟩ : ∃ m : Nat, n = m := ⟨n.toNat, by omega⟩
  have := or18 m (by omega)
  exact ⟨((18 ||| m : Nat) : Int), u8_or_nat 18 m (by omega) (by omega), by omega, by omega, by omega, by omega, by omega⟩
end Go.Proofs.YtebeekjcepjcnaaDoor
