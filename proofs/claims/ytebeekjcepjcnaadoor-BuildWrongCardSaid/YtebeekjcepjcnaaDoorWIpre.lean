/-
  Package ip, reading: the seven tests of a header.
  ip.Read: the header of a packet, where its data is, and the first error.
-/
import Derived.WalkKit
import Derived.WalkSpells
import Derived.WalkLawsBesides
import Derived.WalkSmall
import Derived.Lib.Hide
import Derived.Deep.AppendLies
import Derived.Maps.AppendAt
import Derived.Laws.AppendOwnNone
import Derived.Laws.CopyOwn
import Derived.OneCell
import Derived.Test.YtebeekjcepjcnaaDoorProg
import Derived.Lib.SliceRun
import Derived.RangeFuncNested
import Derived.RangeFuncBound
import Derived.RangeFuncCalls
import Derived.RangeFuncLeaves
import Derived.Shelf.Abstract
import Derived.OwnWalkIn
import Derived.TacticsInMore
import Derived.LoopNIn
import Derived.LoopIn
import Derived.Lib.AppendZeros
import Derived.BigRegion
import Derived.ChangeAlike
import Derived.Deep.RegionLaw
import Derived.Deep.DeepCutAuto
import Derived.Orders
import Derived.RegionTactic
import Derived.Still
import Derived.Deep.MidRow
import Derived.Deep.RegionHeld3
import Derived.MapKept
import Derived.Test.YtebeekjcepjcnaaDoorWBase
import Derived.Test.YtebeekjcepjcnaaDoorWBits
import Derived.Test.YtebeekjcepjcnaaDoorWCsum
import Derived.Test.YtebeekjcepjcnaaDoorWSum
import Derived.Test.YtebeekjcepjcnaaDoorWConcat
import Derived.Test.YtebeekjcepjcnaaDoorWFix
import Derived.Test.YtebeekjcepjcnaaDoorWFacts
import Derived.Test.YtebeekjcepjcnaaDoorWIpw
import Derived.Test.YtebeekjcepjcnaaDoorWPkt
import Derived.Test.YtebeekjcepjcnaaDoorWRegion
import Derived.Test.YtebeekjcepjcnaaDoorWWalk
import Derived.Test.YtebeekjcepjcnaaDoorWStep
import Derived.Test.YtebeekjcepjcnaaDoorWTcpw
import Derived.Test.YtebeekjcepjcnaaDoorWUdpw
import Derived.Test.YtebeekjcepjcnaaDoorWData
import Derived.Test.YtebeekjcepjcnaaDoorWMaps
import Derived.Test.YtebeekjcepjcnaaDoorWQuoted
import Derived.Test.YtebeekjcepjcnaaDoorWBuilda
import Derived.Test.YtebeekjcepjcnaaDoorWRerr
import Derived.Test.YtebeekjcepjcnaaDoorWIcmpr
import Derived.Test.YtebeekjcepjcnaaDoorWIprd
namespace Go.Proofs.YtebeekjcepjcnaaDoor
open Go.RowKit
section
variable (A : Option Addr) (cap n : Nat) (xs : List Int) (w : World) (gb gs gt gh : Nat)
end
/-- The header that is read, in cells. -/
def ipN10 (xs : List Int) (v : Value) : Array Value := #[.int .u8 (ipHdr xs).tos, .int .u16 (ipHdr xs).id, .bool (ipHdr xs).df, .bool (ipHdr xs).mf, .int .i64 (ipHdr xs).off, .int .u8 (ipHdr xs).ttl, .int .u8 (ipHdr xs).proto, .int .u32 (ipHdr xs).src, .int .u32 (ipHdr xs).dst, v]
end Go.Proofs.YtebeekjcepjcnaaDoor
namespace Go.Proofs.YtebeekjcepjcnaaDoor
open Go.RowKit
/-- ip.Read: its boxes, when the tests before k are done. -/
structure IpSt (w : World) (A : Option Addr) (n cap : Nat) (xs : List Int) (k : Nat) (W : World) : Prop where
  below : Below w.heap.size w W
  size : w.heap.size + 5 ≤ W.heap.size
  b : Blk W w.heap.size 34 #[.slice A n cap]
  r : Blk W (w.heap.size + 1) 67 #[.int .u8 0, .int .u16 0, .bool false, .bool false, .int .i64 0, .int .u8 0, .int .u8 0, .int .u32 0, .int .u32 0, .slice none 0 0]
  h : ∃ H, Blk W (w.heap.size + 2) 67 H ∧ H.size = 10 ∧ (7 ≤ k → ∃ v, H = ipN10 xs v ∧ Own W (w.heap.size + 5) v (ipHdr xs).opts)
  s : ∃ s, Blk W (w.heap.size + 3) 3 #[s] ∧ (3 ≤ k → s = .int .i64 (ipSize xs))
  t : ∃ t, Blk W (w.heap.size + 4) 3 #[t] ∧ (4 ≤ k → t = .int .i64 (ipTotal xs))
section
variable {w W W' : World} {A : Option Addr} {n cap : Nat} {xs : List Int} {k : Nat}
theorem IpSt.grow (h : IpSt w A n cap xs k W) (hb : Below W.heap.size W W') : IpSt w A n cap xs k W' := by
  have hz := h.size
  obtain ⟨H, h1, h2, h3⟩ := h.h
  obtain ⟨s, s1, s2⟩ := h.s
  obtain ⟨t, t1, t2⟩ := h.t
  refine ⟨h.below.trans (hb.mono (by omega)), Nat.le_trans hz hb.size, h.b.below hb h.b.lt, h.r.below hb h.r.lt, ⟨H, h1.below hb h1.lt, h2, fun hk => ?_⟩, ⟨s, s1.below hb s1.lt, s2⟩, ⟨t, t1.below hb t1.lt, t2⟩⟩
  obtain ⟨v, e, ho⟩ := h3 hk
  exact ⟨v, e, ho.below hb (Nat.le_refl _)⟩
theorem IpSt.next (h : IpSt w A n cap xs k W) (hk : k ≠ 2 ∧ k ≠ 3 ∧ k ≠ 6) : IpSt w A n cap xs (k + 1) W :=
  ⟨h.below, h.size, h.b, h.r, by
    obtain ⟨H, h1, h2, h3⟩ := h.h
    exact ⟨H, h1, h2, fun hk2 => h3 (by omega)⟩, by
    obtain ⟨s, s1, s2⟩ := h.s
    exact ⟨s, s1, fun hk2 => s2 (by omega)⟩, by
    obtain ⟨t, t1, t2⟩ := h.t
    exact ⟨t, t1, fun hk2 => t2 (by omega)⟩⟩
end

def ipOut (xs : List Int) (v : Value) : Value := .tuple #[.agg (if ipN xs = 7 then ipN10 xs v else #[.int .u8 0, .int .u16 0, .bool false, .bool false, .int .i64 0, .int .u8 0, .int .u8 0, .int .u32 0, .int .u32 0, .slice none 0 0]), .int .i64 (if ipN xs = 7 then ipSize xs else 0), .int .i64 (if ipN xs = 7 then ipTotal xs else 0), .int .i64 (ipE xs)]
end Go.Proofs.YtebeekjcepjcnaaDoor
