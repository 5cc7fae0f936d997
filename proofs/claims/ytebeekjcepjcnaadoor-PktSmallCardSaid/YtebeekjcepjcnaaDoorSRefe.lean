/-
  The references of layers 8 and 9: Sane, Extent, and both Writes. The reference of layer 9: Write. The reference of layer 8: Write, at a header that is right and has no options.
-/
import Derived.Test.YtebeekjcepjcnaaDoorProg
import Derived.WalkKit
import Derived.WalkSpells
import Derived.WalkLawsBesides
import Derived.WalkSmall
import Derived.Lib.Hide
import Derived.Deep.AppendLies
import Derived.Maps.AppendAt
import Derived.Laws.AppendOwnNone
import Derived.Laws.CopyOwn
import Derived.OneCell
import Derived.Lib.SliceRun
import Derived.RangeFuncNested
import Derived.RangeFuncBound
import Derived.RangeFuncCalls
import Derived.RangeFuncLeaves
import Derived.Shelf.Abstract
import Derived.OwnWalkIn
import Derived.TacticsInMore
import Derived.LoopNIn
import Derived.LoopIn
import Derived.Orders
import Derived.RegionTactic
import Derived.Still
import Derived.Deep.MidRow
import Derived.Deep.DeepCutAuto
import Derived.Lib.AppendZeros
import Derived.Deep.RegionLaw
import Derived.Deep.RegionHeld3
import Derived.BigRegion
import Derived.ChangeAlike
import Derived.Test.YtebeekjcepjcnaaDoorSBase
import Derived.Test.YtebeekjcepjcnaaDoorSMem
import Derived.Test.YtebeekjcepjcnaaDoorSCsum
import Derived.Test.YtebeekjcepjcnaaDoorSSum
import Derived.Test.YtebeekjcepjcnaaDoorSRegion
import Derived.Test.YtebeekjcepjcnaaDoorSWalk
import Derived.Test.YtebeekjcepjcnaaDoorSStep
import Derived.Test.YtebeekjcepjcnaaDoorSStepb
import Derived.Test.YtebeekjcepjcnaaDoorSRefa
import Derived.Test.YtebeekjcepjcnaaDoorSConcat
import Derived.Test.YtebeekjcepjcnaaDoorSTcpw
import Derived.Test.YtebeekjcepjcnaaDoorSRefc
namespace Go.Proofs.YtebeekjcepjcnaaDoor
open Go.RowKit Go.Shelf

theorem saneB_bits (f : Nat) (h : f < 256) : saneB f = (if (f / 2 % 2 == 1) && (f / 4 % 2 == 1) || (f / 2 % 2 == 1) && (f % 2 == 1) || (f / 4 % 2 == 1) && (f % 2 == 1) then false else (f / 2 % 2 == 1) || (f / 4 % 2 == 1) || (f / 16 % 2 == 1)) := by
  have : ∀ x : Fin 256, saneB x.val = (if (x.val / 2 % 2 == 1) && (x.val / 4 % 2 == 1) || (x.val / 2 % 2 == 1) && (x.val % 2 == 1) || (x.val / 4 % 2 == 1) && (x.val % 2 == 1) then false else (x.val / 2 % 2 == 1) || (x.val / 4 % 2 == 1) || (x.val / 16 % 2 == 1)) := by decide +kernel
  exact this ⟨f, h⟩
theorem natbit (f k : Nat) : (((f : Int) / (k : Int) % 2) == 1) = (f / k % 2 == 1) := by
  rw [Bool.eq_iff_iff]
  simp only [beq_iff_eq]
  omega
set_option maxHeartbeats 1000000 in
theorem rSane_any (f : Nat) (w : World) (hf : f < 256) : Calls Tryd.prog 78 #[.int .u8 f] w fun e w' => e = .returned (.bool (saneB f)) ∧ w = w' := by
  rw [saneB_bits f hf]
  have h2 : (((f : Int) / 2 % 2) == 1) = (f / 2 % 2 == 1) := natbit f 2
  have h4 : (((f : Int) / 4 % 2) == 1) = (f / 4 % 2 == 1) := natbit f 4
  have h16 : (((f : Int) / 16 % 2) == 1) = (f / 16 % 2 == 1) := natbit f 16
  have h1 : (((f : Int) % 2) == 1) = (f % 2 == 1) := by
    rw [Bool.eq_iff_iff]
    simp only [beq_iff_eq]
    omega
  generalize (f / 2 % 2 == 1) = a2 at *
  generalize (f / 4 % 2 == 1) = a4 at *
  generalize (f / 16 % 2 == 1) = a16 at *
  generalize (f % 2 == 1) = a1 at *
  cases a1 <;> cases a2 <;> cases a4
  all_goals
    simp only [Bool.and_self, Bool.and_false, Bool.and_true, Bool.or_false, Bool.or_true, Bool.or_self, if_true, if_false, Bool.false_eq_true, Bool.true_or, Bool.false_or]
    go_enter Tryd.func78, Tryd.ntmps78
    go_wp2_with fail
    go_ret
    exact ⟨rfl, rfl⟩

end Go.Proofs.YtebeekjcepjcnaaDoor

namespace Go.Proofs.YtebeekjcepjcnaaDoor
open Go.RowKit Go.Shelf

end Go.Proofs.YtebeekjcepjcnaaDoor

namespace Go.Proofs.YtebeekjcepjcnaaDoor
open Go.RowKit Go.Shelf

end Go.Proofs.YtebeekjcepjcnaaDoor
