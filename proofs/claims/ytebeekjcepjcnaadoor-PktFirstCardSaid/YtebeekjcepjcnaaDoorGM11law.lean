/-
  What bafflelaw11.Made returns is a packet that is read; an append onto a slice without room.
  ip.Hop and ip.Turn of a packet that ip.Write wrote.
  A packet that is made, with its TTL lower, or turned, is read (plain).
  A packet that is made, with a defect in its data (plain).
-/
import Derived.Lib.MinMax
import Derived.WalkKit
import Derived.WalkSpells
import Derived.WalkLawsBesides
import Derived.WalkSmall
import Derived.Lib.Hide
import Derived.Deep.AppendLies
import Derived.Maps.AppendAt
import Derived.Laws.AppendOwnNone
import Derived.Laws.CopyOwn
import Derived.OneCell
import Derived.Test.YtebeekjcepjcnaaDoorProg
import Derived.Lib.SliceRun
import Derived.RangeFuncNested
import Derived.RangeFuncBound
import Derived.RangeFuncCalls
import Derived.RangeFuncLeaves
import Derived.Shelf.Abstract
import Derived.OwnWalkIn
import Derived.TacticsInMore
import Derived.LoopNIn
import Derived.LoopIn
import Derived.Lib.AppendZeros
import Derived.BigRegion
import Derived.ChangeAlike
import Derived.Deep.RegionLaw
import Derived.Deep.DeepCutAuto
import Derived.Orders
import Derived.RegionTactic
import Derived.Still
import Derived.Deep.MidRow
import Derived.Deep.RegionHeld3
import Derived.MapKept
import Derived.RegionIn
import Derived.Laws.StructEq
import Derived.Laws.BitsAllLaws
import Derived.Deep.CutBlock
import Derived.Test.YtebeekjcepjcnaaDoorGBase
import Derived.Test.YtebeekjcepjcnaaDoorGBits
import Derived.Test.YtebeekjcepjcnaaDoorGCsum
import Derived.Test.YtebeekjcepjcnaaDoorGSum
import Derived.Test.YtebeekjcepjcnaaDoorGFix
import Derived.Test.YtebeekjcepjcnaaDoorGFacts
import Derived.Test.YtebeekjcepjcnaaDoorGPkt
import Derived.Test.YtebeekjcepjcnaaDoorGWalk
import Derived.Test.YtebeekjcepjcnaaDoorGStep
import Derived.Test.YtebeekjcepjcnaaDoorGTcpw
import Derived.Test.YtebeekjcepjcnaaDoorGUdpw
import Derived.Test.YtebeekjcepjcnaaDoorGData
import Derived.Test.YtebeekjcepjcnaaDoorGIprd
import Derived.Test.YtebeekjcepjcnaaDoorGFold
import Derived.Test.YtebeekjcepjcnaaDoorGFresh
import Derived.Test.YtebeekjcepjcnaaDoorGIpre
import Derived.Test.YtebeekjcepjcnaaDoorGIpread
import Derived.Test.YtebeekjcepjcnaaDoorGOptsa
import Derived.Test.YtebeekjcepjcnaaDoorGOptsb
import Derived.Test.YtebeekjcepjcnaaDoorGOptsc
import Derived.Test.YtebeekjcepjcnaaDoorGOptsd
import Derived.Test.YtebeekjcepjcnaaDoorGTcprd
import Derived.Test.YtebeekjcepjcnaaDoorGEq
import Derived.Test.YtebeekjcepjcnaaDoorGMade8
import Derived.Test.YtebeekjcepjcnaaDoorGIpback
import Derived.Test.YtebeekjcepjcnaaDoorGMade6p
import Derived.Test.YtebeekjcepjcnaaDoorGOptw
import Derived.Test.YtebeekjcepjcnaaDoorGMade10
import Derived.Test.YtebeekjcepjcnaaDoorGMade9
import Derived.Test.YtebeekjcepjcnaaDoorGPright
import Derived.Test.YtebeekjcepjcnaaDoorGBuilt
import Derived.Test.YtebeekjcepjcnaaDoorGUdprd
import Derived.Test.YtebeekjcepjcnaaDoorGIcmprd
import Derived.Test.YtebeekjcepjcnaaDoorGContt
import Derived.Test.YtebeekjcepjcnaaDoorGMade11p
namespace Go.Proofs.YtebeekjcepjcnaaDoor
open Go.RowKit
structure M11Law (x : Sm) (os : List OE) (data : List Int) (f : Facts) : Prop where
  ok : (m11H x f.key.proto os).Ok
  right : (m11H x f.key.proto os).Right data.length
  reason : (m11H x f.key.proto os).reason = 0
  optl : (m11H x f.key.proto os).opts.length ≤ 40
  proto : f.key.proto = 6 ∨ f.key.proto = 17 ∨ f.key.proto = 1
  byt : Byt (ipWriteL (m11H x f.key.proto os) data)
  len : (ipWriteL (m11H x f.key.proto os) data).length ≤ 460
  back : ∀ behind, pktR (ipWriteL (m11H x f.key.proto os) data ++ behind) = 0 ∧ pktF (ipWriteL (m11H x f.key.proto os) data ++ behind) = m11F x f
  fok : (m11F x f).Ok
  fright : (m11F x f).right = true
theorem m11_law {x : Sm} (hx : x.Ok) {os : List OE} (hos : OsOk os) {k : Nat} {data : List Int} {f : Facts} (hC : Cont k data f) (hk : k < 4) : M11Law x os data f := by
  have hol := hos.len
  have hob := oeB_byt hos
  have hsb := hostI_bd x.src
  have hdb := dstI_ne x.src x.dst hx.dst.1 hx.dst.2
  have hzl : (List.replicate ((4 - (oeB os).length % 4) % 4) (0 : Int)).length = (4 - (oeB os).length % 4) % 4 := List.length_replicate
  have holl : (m11H x f.key.proto os).opts.length = (oeB os).length + (4 - (oeB os).length % 4) % 4 := by
    show (oeB os ++ List.replicate _ _).length = _
    rw [List.length_append, hzl]
  have hpr : f.key.proto = 6 ∨ f.key.proto = 17 ∨ f.key.proto = 1 := by
    rw [hC.proto]
    rcases (show k = 0 ∨ k = 1 ∨ k = 2 ∨ k = 3 by omega) with rfl | rfl | rfl | rfl <;> simp
  have hlen := hC.len
  have hOk : (m11H x f.key.proto os).Ok := ⟨hx.tos.1, hx.tos.2, hx.id.1, hx.id.2, (by show 0 ≤ max x.ttl 1; omega), (by have := hx.ttl.2; show max x.ttl 1 < 256; omega), (by show 0 ≤ f.key.proto; omega), (by show f.key.proto < 256; omega), (by show 0 ≤ hostI x.src; omega), (by show hostI x.src < _; omega), (by show 0 ≤ dstI x.src x.dst; omega), (by show dstI x.src x.dst < _; omega), hob.append (Byt.zeros _)⟩
  have hR : (m11H x f.key.proto os).Right data.length := ⟨show (0 : Int) ≤ 0 by decide, show (0 : Int) ≤ 65528 by decide, rfl, by rw [holl]; omega, by rw [holl]; omega, by rw [holl]; omega, by show (0 : Int) + data.length ≤ 65515; omega, fun h => by simp [m11H] at h⟩
  have hrs : (m11H x f.key.proto os).reason = 0 := by
    obtain ⟨r1, r2⟩ := optRead_os hos ((4 - (oeB os).length % 4) % 4) (by omega)
    unfold IpH.reason
    have e1 : (m11H x f.key.proto os).opts = oeB os ++ List.replicate ((4 - (oeB os).length % 4) % 4) 0 := rfl
    have s1 : strangeB (hostI x.src) = false := by unfold strangeB; simp; omega
    have s2 : strangeB (dstI x.src x.dst) = false := by unfold strangeB; simp; omega
    have s3 : (hostI x.src == dstI x.src x.dst) = false := by
      have := hdb.1
      simp only [beq_eq_false_iff_ne, ne_eq]
      exact fun h => this h.symm
    rw [if_neg (by simp [m11H]), e1, r1]
    rw [if_neg (by simp), if_neg (by rw [r2]; decide), if_neg (by show ¬ max x.ttl 1 = 0; omega), if_neg]
    show ¬ (strangeB (hostI x.src) || strangeB (dstI x.src x.dst) || hostI x.src == dstI x.src x.dst) = true
    rw [s1, s2, s3]
    decide
  have hby : Byt (ipWriteL (m11H x f.key.proto os) data) := ipWriteL_byt hOk hR.len hC.byt
  have hll : (ipWriteL (m11H x f.key.proto os) data).length ≤ 460 := by rw [ipWriteL_len, holl]; omega
  have hbk : ∀ behind, pktR (ipWriteL (m11H x f.key.proto os) data ++ behind) = 0 ∧ pktF (ipWriteL (m11H x f.key.proto os) data ++ behind) = m11F x f := fun behind => by
    obtain ⟨p1, p2⟩ := pkt_back (m11H x f.key.proto os) data behind hOk hR
    have hp : (m11H x f.key.proto os).proto = f.key.proto := rfl
    rw [hrs, if_neg (by simp), hp, if_neg (by omega), hC.data] at p1
    have h0 : reasonOf 0 = 0 := by decide
    rw [h0] at p1
    refine ⟨p1, (p2 p1).trans ?_⟩
    rw [hp, hC.facts _ hp]
    rfl
  have hb0 := hbk []
  rw [List.append_nil] at hb0
  refine ⟨hOk, hR, hrs, hR.len, hpr, hby, hll, hbk, ?_, ?_⟩
  · rw [← hb0.2]; exact pktF_ok hby (by omega)
  · rw [← hb0.2]; exact pkt_right hby hb0.1
/-- A slice that can be read: an old one, or a row of the call's own. -/
def RdL (B : Nat) (p : Option Addr × Nat) (k : Nat) (xs : List Int) (W : World) : Prop := (Rd W B p.1 .u8 xs ∧ k ≤ p.2) ∨ Own W B (.slice p.1 k p.2) xs
theorem RdL.rd {B k : Nat} {p : Option Addr × Nat} {xs : List Int} {W : World} (h : RdL B p k xs W) (hB : B ≤ W.heap.size) : Rd W W.heap.size p.1 .u8 xs ∧ k ≤ p.2 := by
  rcases h with h | h
  · exact ⟨h.1.more hB, h.2⟩
  · obtain ⟨A, c, e, h1, h2, _⟩ := h.open_
    simp only [Value.slice.injEq] at e
    obtain ⟨e1, e2, e3⟩ := e
    exact ⟨by rw [e1]; exact h1, by rw [e2, e3]; exact h2⟩
theorem Own.late {B b : Nat} {v : Value} {xs : List Int} {z n : Array Value} {W W' : World} (h : Own W b v xs) (hG : Late B 27 z n W W') : Own W' b v xs := by
  refine ⟨h.1, ?_⟩
  rcases h.2 with h2 | ⟨g, cap, cur, e, hb, hg, r⟩
  · exact .inl h2
  · exact .inr ⟨g, cap, cur, e, hb, hG.keep g _ hg (by intro h; injection h with _ h2; exact absurd h2 (by decide)), r⟩
theorem RdL.keep {B k : Nat} {p : Option Addr × Nat} {xs : List Int} {z n : Array Value} {W W' : World} (h : RdL B p k xs W) (hG : Late B 27 z n W W') : RdL B p k xs W' := by
  rcases h with h | h
  · exact .inl ⟨h.1.below hG.below (Nat.le_refl _), h.2⟩
  · exact .inr (h.late hG)
theorem RdL.below {B C k : Nat} {p : Option Addr × Nat} {xs : List Int} {W W' : World} (h : RdL B p k xs W) (hb : Below C W W') (hB : B ≤ C) (hC : W.heap.size ≤ C) : RdL B p k xs W' := by
  rcases h with h | h
  · exact .inl ⟨h.1.below hb hB, h.2⟩
  · exact .inr (h.below hb hC)
section
variable {P : Program} {ops : Array Oper} {Q : Exit → Act → World → Prop} {E : Nat → World → Prop} {S : List Nat} {G : World → World → Prop} {fr : List Nat} {FF : Nat → Value → World → Prop}
end
/-- Two blocks just made, and both stored. -/
theorem two_blocks (w : World) (tH tF : TypeId) (HZ FZ RH RF : Array Value) :
    Blk ((w.alloc (.cells HZ tH)).alloc (.cells FZ tF)) w.heap.size tH HZ ∧ Blk (((w.alloc (.cells HZ tH)).alloc (.cells FZ tF)).setRow w.heap.size RH) (w.heap.size + 1) tF FZ ∧
    ∀ W4, W4 = (((w.alloc (.cells HZ tH)).alloc (.cells FZ tF)).setRow w.heap.size RH).setRow (w.heap.size + 1) RF → Below w.heap.size w W4 ∧ W4.heap.size = w.heap.size + 2 ∧ Blk W4 w.heap.size tH RH ∧ Blk W4 (w.heap.size + 1) tF RF := by
  obtain ⟨h1, h2, h3, h4⟩ := blocks2 (w := w) (A := HZ) (t := tH) (A1 := FZ) (t1 := tF)
  refine ⟨h3, (setRow_other _ _ _ _ (by omega)).trans h4, ?_⟩
  rintro W4 rfl
  refine ⟨below_setRow (below_setRow h1 (Nat.le_refl _) _) (by omega) _, by simp, (setRow_other _ _ _ _ (by omega)).trans (setRow_heap _ _ _ _ _ _ h3), setRow_heap _ _ _ _ _ _ ((setRow_other _ _ _ _ (by omega)).trans h4)⟩
theorem wp_two {P : Program} {c : Code} {Q : Exit → Act → World → Prop} {a : Act} {w : World} {tH tF : TypeId} {HZ FZ RH RF : Array Value}
    (h : ∀ w1, Below w.heap.size w w1 → w1.heap.size = w.heap.size + 2 → Blk w1 w.heap.size tH RH → Blk w1 (w.heap.size + 1) tF RF → c.wp P Q a w1) :
    c.wp P Q a ((((w.alloc (.cells HZ tH)).alloc (.cells FZ tF)).setRow w.heap.size RH).setRow (w.heap.size + 1) RF) := by
  obtain ⟨_, _, h3⟩ := two_blocks w tH tF HZ FZ RH RF
  obtain ⟨a1, a2, a3, a4⟩ := h3 _ rfl
  exact h _ a1 a2 a3 a4
end Go.Proofs.YtebeekjcepjcnaaDoor
namespace Go.Proofs.YtebeekjcepjcnaaDoor
open Go.RowKit
/-- The header with both addresses exchanged. -/
def IpH.turn (h : IpH) : IpH := { h with src := h.dst, dst := h.src }
end Go.Proofs.YtebeekjcepjcnaaDoor
namespace Go.Proofs.YtebeekjcepjcnaaDoor
open Go.RowKit
theorem reason_make {h : IpH} (h1 : h.off = 0) (h2 : h.mf = false) (h3 : (optRead h.opts).2 = 0) (h4 : routedB (optRead h.opts).1 = false) (h5 : h.ttl ≠ 0) (h6 : strangeB h.src = false) (h7 : strangeB h.dst = false) (h8 : (h.src == h.dst) = false) : h.reason = 0 := by
  unfold IpH.reason
  rw [if_neg (by rw [h1, h2]; simp), if_neg (by rw [h3]; simp), if_neg (by rw [h4]; decide), if_neg h5, if_neg (by rw [h6, h7, h8]; decide)]
/-- The header with a TTL that is lower. -/
def IpH.down (h : IpH) (j : Nat) : IpH := { h with ttl := h.ttl - j }
end Go.Proofs.YtebeekjcepjcnaaDoor
namespace Go.Proofs.YtebeekjcepjcnaaDoor
open Go.RowKit
theorem getD_take {l : List Int} {m i : Nat} (h : i < m) : (l.take m).getD i 0 = l.getD i 0 := by
  rw [List.getD_eq_getElem?_getD, List.getD_eq_getElem?_getD, List.getElem?_take, if_pos h]
end Go.Proofs.YtebeekjcepjcnaaDoor
