/-
  A packet with defects: the first decides (plain).
-/
import Derived.Lib.MinMax
import Derived.WalkKit
import Derived.WalkSpells
import Derived.WalkLawsBesides
import Derived.WalkSmall
import Derived.Lib.Hide
import Derived.Deep.AppendLies
import Derived.Maps.AppendAt
import Derived.Laws.AppendOwnNone
import Derived.Laws.CopyOwn
import Derived.OneCell
import Derived.Test.YtebeekjcepjcnaaDoorProg
import Derived.Lib.SliceRun
import Derived.RangeFuncNested
import Derived.RangeFuncBound
import Derived.RangeFuncCalls
import Derived.RangeFuncLeaves
import Derived.Shelf.Abstract
import Derived.OwnWalkIn
import Derived.TacticsInMore
import Derived.LoopNIn
import Derived.LoopIn
import Derived.Lib.AppendZeros
import Derived.BigRegion
import Derived.ChangeAlike
import Derived.Deep.RegionLaw
import Derived.Deep.DeepCutAuto
import Derived.Orders
import Derived.RegionTactic
import Derived.Still
import Derived.Deep.MidRow
import Derived.Deep.RegionHeld3
import Derived.MapKept
import Derived.RegionIn
import Derived.Laws.StructEq
import Derived.Laws.BitsAllLaws
import Derived.Deep.CutBlock
import Derived.Test.YtebeekjcepjcnaaDoorGBase
import Derived.Test.YtebeekjcepjcnaaDoorGBits
import Derived.Test.YtebeekjcepjcnaaDoorGCsum
import Derived.Test.YtebeekjcepjcnaaDoorGSum
import Derived.Test.YtebeekjcepjcnaaDoorGFix
import Derived.Test.YtebeekjcepjcnaaDoorGFacts
import Derived.Test.YtebeekjcepjcnaaDoorGPkt
import Derived.Test.YtebeekjcepjcnaaDoorGWalk
import Derived.Test.YtebeekjcepjcnaaDoorGStep
import Derived.Test.YtebeekjcepjcnaaDoorGTcpw
import Derived.Test.YtebeekjcepjcnaaDoorGUdpw
import Derived.Test.YtebeekjcepjcnaaDoorGData
import Derived.Test.YtebeekjcepjcnaaDoorGIprd
import Derived.Test.YtebeekjcepjcnaaDoorGFold
import Derived.Test.YtebeekjcepjcnaaDoorGFresh
import Derived.Test.YtebeekjcepjcnaaDoorGIpre
import Derived.Test.YtebeekjcepjcnaaDoorGIpread
import Derived.Test.YtebeekjcepjcnaaDoorGOptsa
import Derived.Test.YtebeekjcepjcnaaDoorGOptsb
import Derived.Test.YtebeekjcepjcnaaDoorGOptsc
import Derived.Test.YtebeekjcepjcnaaDoorGOptsd
import Derived.Test.YtebeekjcepjcnaaDoorGTcprd
import Derived.Test.YtebeekjcepjcnaaDoorGEq
import Derived.Test.YtebeekjcepjcnaaDoorGMade8
import Derived.Test.YtebeekjcepjcnaaDoorGIpback
import Derived.Test.YtebeekjcepjcnaaDoorGMade6p
import Derived.Test.YtebeekjcepjcnaaDoorGOptw
import Derived.Test.YtebeekjcepjcnaaDoorGMade10
import Derived.Test.YtebeekjcepjcnaaDoorGMade9
import Derived.Test.YtebeekjcepjcnaaDoorGPright
import Derived.Test.YtebeekjcepjcnaaDoorGBuilt
import Derived.Test.YtebeekjcepjcnaaDoorGUdprd
import Derived.Test.YtebeekjcepjcnaaDoorGIcmprd
import Derived.Test.YtebeekjcepjcnaaDoorGContt
import Derived.Test.YtebeekjcepjcnaaDoorGMade11p
import Derived.Test.YtebeekjcepjcnaaDoorGM11law
namespace Go.Proofs.YtebeekjcepjcnaaDoor
open Go.RowKit
/-- What a written packet is read as. -/
def rAll (h : IpH) (d : List Int) : Int := if h.reason ≠ 0 then h.reason else if h.proto ≠ 6 ∧ h.proto ≠ 17 ∧ h.proto ≠ 1 then 13 else reasonOf (dataE h.proto d)
/-- The defects from i on are met; those below are not. -/
structure FInv (h0 : IpH) (d0 : List Int) (i : Nat) (h : IpH) (d : List Int) (r : Int) : Prop where
  ok : h.Ok
  mf : h.mf = false
  o0 : 0 ≤ h.off ∧ h.off ≤ 2048 ∧ h.off % 8 = 0
  ol : h.opts.length ≤ 40 ∧ h.opts.length % 4 = 0
  byt : Byt d
  dl : d.length = d0.length
  src : h.src = h0.src
  off : 0 < i → h.off = 0
  opts : 2 < i → h.opts = h0.opts
  ttl : 3 < i → h.ttl = h0.ttl
  dst : 4 < i → h.dst = h0.dst
  proto : 5 < i → h.proto = h0.proto
  d12 : 6 < i → d.getD 12 0 = d0.getD 12 0
  d13 : 7 < i → d.getD 13 0 = d0.getD 13 0
  dall : 8 < i → d = d0
  rd : rAll h d = r
  rb : r = 0 ∨ (8 + (i : Int) ≤ r ∧ r ≤ 16)
  zero : r = 0 → h = h0 ∧ d = d0
/-- What is known of the packet as it is made. -/
structure FBase (h0 : IpH) (d0 : List Int) : Prop where
  ok : h0.Ok
  reason : h0.reason = 0
  proto : h0.proto = 6
  tcp : tcpE d0 = 0
theorem FBase.tcp_ {h0 : IpH} {d0 : List Int} (b : FBase h0 d0) : 20 ≤ d0.length ∧ ¬ (tcpSize d0 < 20 ∨ (d0.length : Int) < tcpSize d0) ∧ d0.getD 12 0 % 16 = 0 := by
  have h := b.tcp
  unfold tcpE at h
  split at h; · omega
  rename_i h1
  split at h; · omega
  rename_i h2
  split at h; · omega
  rename_i h3
  exact ⟨by omega, h2, by
    rcases Decidable.em (d0.getD 12 0 % 16 = 0) with e | e
    · exact e
    · exact absurd (.inl e) h3⟩
theorem rAll_six {h : IpH} {d : List Int} (hr : h.reason = 0) (hp : h.proto = 6) : rAll h d = reasonOf (tcpE d) := by
  unfold rAll
  rw [if_neg (by omega), if_neg (by omega), hp]
  rfl
theorem FBase.start {h0 : IpH} {d0 : List Int} (b : FBase h0 d0) (ho : h0.opts.length ≤ 40 ∧ h0.opts.length % 4 = 0) (hd : Byt d0) : FInv h0 d0 9 h0 d0 0 := by
  obtain ⟨r1, r2, _⟩ := reason_open b.reason
  exact ⟨b.ok, r2, by omega, ho, hd, rfl, rfl, fun _ => r1, fun _ => rfl, fun _ => rfl, fun _ => rfl, fun _ => rfl, fun _ => rfl, fun _ => rfl, fun _ => rfl, by rw [rAll_six b.reason b.proto, b.tcp]; decide, .inl rfl, fun _ => ⟨rfl, rfl⟩⟩
section
variable {h0 h : IpH} {d0 d : List Int} {k : Nat} {r : Int}
theorem FInv.skip (f : FInv h0 d0 (k + 1) h d r) : FInv h0 d0 k h d r :=
  { f with off := fun q => f.off (by omega), opts := fun q => f.opts (by omega), ttl := fun q => f.ttl (by omega), dst := fun q => f.dst (by omega), proto := fun q => f.proto (by omega), d12 := fun q => f.d12 (by omega), d13 := fun q => f.d13 (by omega), dall := fun q => f.dall (by omega), rb := by have := f.rb; omega }
theorem FInv.head (b : FBase h0 d0) (f : FInv h0 d0 k h d r) (hk : 4 < k) : h.reason = 0 := by
  obtain ⟨_, _, r3, r4, r5, r6, r7, r8⟩ := reason_open b.reason
  exact reason_make (f.off (by omega)) f.mf (by rw [f.opts (by omega)]; exact r3) (by rw [f.opts (by omega)]; exact r4) (by rw [f.ttl (by omega)]; exact r5) (by rw [f.src]; exact r6) (by rw [f.dst (by omega)]; exact r7) (by rw [f.src, f.dst (by omega)]; exact r8)
/-- Bit 0: a piece of a packet. -/
theorem FInv.at0 (f : FInv h0 d0 1 h d r) {o : Int} (h1 : 0 < o) (h2 : o ≤ 2048) (h8 : o % 8 = 0) : FInv h0 d0 0 { h with off := o } d 8 where
  ok := { f.ok with }
  mf := f.mf
  o0 := ⟨by show 0 ≤ o; omega, h2, h8⟩
  ol := f.ol
  byt := f.byt
  dl := f.dl
  src := f.src
  off := fun q => absurd q (by omega)
  opts := fun q => absurd q (by omega)
  ttl := fun q => absurd q (by omega)
  dst := fun q => absurd q (by omega)
  proto := fun q => absurd q (by omega)
  d12 := fun q => absurd q (by omega)
  d13 := fun q => absurd q (by omega)
  dall := fun q => absurd q (by omega)
  rd := by
    have e : IpH.reason { h with off := o } = 8 := by
      unfold IpH.reason
      rw [if_pos (.inl (show o ≠ 0 by omega))]
    unfold rAll
    rw [e, if_pos (by decide)]
  rb := .inr ⟨by decide, by decide⟩
  zero := fun q => absurd q (by decide)
/-- Bit 1: options that are wrong. -/
theorem FInv.at1 (f : FInv h0 d0 2 h d r) {o : List Int} (hb : Byt o) (hl : o.length ≤ 40 ∧ o.length % 4 = 0) (he : (optRead o).2 ≠ 0) : FInv h0 d0 1 { h with opts := o } d 9 where
  ok := { f.ok with opts := hb }
  mf := f.mf
  o0 := f.o0
  ol := hl
  byt := f.byt
  dl := f.dl
  src := f.src
  off := fun _ => f.off (by omega)
  opts := fun q => absurd q (by omega)
  ttl := fun q => absurd q (by omega)
  dst := fun q => absurd q (by omega)
  proto := fun q => absurd q (by omega)
  d12 := fun q => absurd q (by omega)
  d13 := fun q => absurd q (by omega)
  dall := fun q => absurd q (by omega)
  rd := by
    have e : IpH.reason { h with opts := o } = 9 := by
      unfold IpH.reason
      rw [if_neg (by simp only [f.off (by omega), f.mf]; decide), if_pos he]
    unfold rAll
    rw [e, if_pos (by decide)]
  rb := .inr ⟨by decide, by decide⟩
  zero := fun q => absurd q (by decide)
/-- Bit 2: a route of the source. -/
theorem FInv.at2 (f : FInv h0 d0 3 h d r) {o : List Int} (hb : Byt o) (hl : o.length ≤ 40 ∧ o.length % 4 = 0) (he : (optRead o).2 = 0) (hr : routedB (optRead o).1 = true) : FInv h0 d0 2 { h with opts := o } d 10 where
  ok := { f.ok with opts := hb }
  mf := f.mf
  o0 := f.o0
  ol := hl
  byt := f.byt
  dl := f.dl
  src := f.src
  off := fun _ => f.off (by omega)
  opts := fun q => absurd q (by omega)
  ttl := fun q => absurd q (by omega)
  dst := fun q => absurd q (by omega)
  proto := fun q => absurd q (by omega)
  d12 := fun q => absurd q (by omega)
  d13 := fun q => absurd q (by omega)
  dall := fun q => absurd q (by omega)
  rd := by
    have e : IpH.reason { h with opts := o } = 10 := by
      unfold IpH.reason
      rw [if_neg (by simp only [f.off (by omega), f.mf]; decide), if_neg (by simp only [he]; decide), if_pos hr]
    unfold rAll
    rw [e, if_pos (by decide)]
  rb := .inr ⟨by decide, by decide⟩
  zero := fun q => absurd q (by decide)
/-- Bit 3: no time left. -/
theorem FInv.at3 (b : FBase h0 d0) (f : FInv h0 d0 4 h d r) : FInv h0 d0 3 { h with ttl := 0 } d 11 where
  ok := { f.ok with ttl0 := (show (0 : Int) ≤ 0 by decide), ttl1 := (show (0 : Int) < 256 by decide) }
  mf := f.mf
  o0 := f.o0
  ol := f.ol
  byt := f.byt
  dl := f.dl
  src := f.src
  off := fun _ => f.off (by omega)
  opts := fun _ => f.opts (by omega)
  ttl := fun q => absurd q (by omega)
  dst := fun q => absurd q (by omega)
  proto := fun q => absurd q (by omega)
  d12 := fun q => absurd q (by omega)
  d13 := fun q => absurd q (by omega)
  dall := fun q => absurd q (by omega)
  rd := by
    obtain ⟨_, _, r3, r4, _⟩ := reason_open b.reason
    have e : IpH.reason { h with ttl := 0 } = 11 := by
      unfold IpH.reason
      rw [if_neg (by simp only [f.off (by omega), f.mf]; decide), if_neg (by simp only [f.opts (by omega), r3]; decide), if_neg (by simp only [f.opts (by omega), r4]; decide), if_pos rfl]
    unfold rAll
    rw [e, if_pos (by decide)]
  rb := .inr ⟨by decide, by decide⟩
  zero := fun q => absurd q (by decide)
/-- Bit 4: an address that is strange. -/
theorem FInv.at4 (b : FBase h0 d0) (f : FInv h0 d0 5 h d r) {a : Int} (a0 : 0 ≤ a) (a1 : a < 4294967296) (ha : a = h.src ∨ 3758096384 ≤ a) : FInv h0 d0 4 { h with dst := a } d 12 where
  ok := { f.ok with dst0 := a0, dst1 := a1 }
  mf := f.mf
  o0 := f.o0
  ol := f.ol
  byt := f.byt
  dl := f.dl
  src := f.src
  off := fun _ => f.off (by omega)
  opts := fun _ => f.opts (by omega)
  ttl := fun _ => f.ttl (by omega)
  dst := fun q => absurd q (by omega)
  proto := fun q => absurd q (by omega)
  d12 := fun q => absurd q (by omega)
  d13 := fun q => absurd q (by omega)
  dall := fun q => absurd q (by omega)
  rd := by
    obtain ⟨_, _, r3, r4, r5, _⟩ := reason_open b.reason
    have e : IpH.reason { h with dst := a } = 12 := by
      unfold IpH.reason
      rw [if_neg (by simp only [f.off (by omega), f.mf]; decide), if_neg (by simp only [f.opts (by omega), r3]; decide), if_neg (by simp only [f.opts (by omega), r4]; decide), if_neg (by simp only [f.ttl (by omega)]; exact r5), if_pos]
      rcases ha with rfl | ha
      · simp
      · simp [strangeB, ha]
    unfold rAll
    rw [e, if_pos (by decide)]
  rb := .inr ⟨by decide, by decide⟩
  zero := fun q => absurd q (by decide)
/-- Bit 5: a protocol that there is not. -/
theorem FInv.at5 (b : FBase h0 d0) (f : FInv h0 d0 6 h d r) {p : Int} (p0 : 0 ≤ p) (p1 : p < 256) (h6 : p ≠ 6) (h17 : p ≠ 17) (h1 : p ≠ 1) : FInv h0 d0 5 { h with proto := p } d 13 where
  ok := { f.ok with proto0 := p0, proto1 := p1 }
  mf := f.mf
  o0 := f.o0
  ol := f.ol
  byt := f.byt
  dl := f.dl
  src := f.src
  off := fun _ => f.off (by omega)
  opts := fun _ => f.opts (by omega)
  ttl := fun _ => f.ttl (by omega)
  dst := fun _ => f.dst (by omega)
  proto := fun q => absurd q (by omega)
  d12 := fun q => absurd q (by omega)
  d13 := fun q => absurd q (by omega)
  dall := fun q => absurd q (by omega)
  rd := by
    have e0 : h.reason = 0 := f.head b (by omega)
    have e : IpH.reason { h with proto := p } = 0 := e0
    unfold rAll
    rw [if_neg (by rw [e]; decide), if_pos ⟨h6, h17, h1⟩]
  rb := .inr ⟨by decide, by decide⟩
  zero := fun q => absurd q (by decide)
/-- Bit 6: a size that is too small. -/
theorem FInv.at6 (b : FBase h0 d0) (f : FInv h0 d0 7 h d r) {q : Int} (q0 : 0 ≤ q) (q1 : q < 5) : FInv h0 d0 6 h (d.set 12 (16 * q)) 14 where
  ok := f.ok
  mf := f.mf
  o0 := f.o0
  ol := f.ol
  byt := f.byt.set 12 (x := 16 * q) (by omega) (by omega)
  dl := by rw [List.length_set]; exact f.dl
  src := f.src
  off := fun _ => f.off (by omega)
  opts := fun _ => f.opts (by omega)
  ttl := fun _ => f.ttl (by omega)
  dst := fun _ => f.dst (by omega)
  proto := fun _ => f.proto (by omega)
  d12 := fun q => absurd q (by omega)
  d13 := fun q => absurd q (by omega)
  dall := fun q => absurd q (by omega)
  rd := by
    have hl := f.dl
    obtain ⟨b1, _⟩ := b.tcp_
    have hz : tcpSize (d.set 12 (16 * q)) = 4 * q := by
      unfold tcpSize
      rw [getD_set_eq _ _ _ (by omega)]
      omega
    rw [rAll_six (f.head b (by omega)) (by rw [f.proto (by omega)]; exact b.proto)]
    unfold tcpE
    rw [if_neg (by rw [List.length_set]; omega), if_pos (.inl (by omega))]
    decide
  rb := .inr ⟨by decide, by decide⟩
  zero := fun q => absurd q (by decide)
/-- Bit 7: flags that are not sane. -/
theorem FInv.at7 (b : FBase h0 d0) (f : FInv h0 d0 8 h d r) {q : Int} (q0 : 0 ≤ q) (q1 : q < 256) (hq : saneB q.toNat = false) : FInv h0 d0 7 h (d.set 13 q) 15 where
  ok := f.ok
  mf := f.mf
  o0 := f.o0
  ol := f.ol
  byt := f.byt.set 13 q0 q1
  dl := by rw [List.length_set]; exact f.dl
  src := f.src
  off := fun _ => f.off (by omega)
  opts := fun _ => f.opts (by omega)
  ttl := fun _ => f.ttl (by omega)
  dst := fun _ => f.dst (by omega)
  proto := fun _ => f.proto (by omega)
  d12 := fun _ => by rw [getD_set_ne _ _ _ _ (by omega)]; exact f.d12 (by omega)
  d13 := fun q => absurd q (by omega)
  dall := fun q => absurd q (by omega)
  rd := by
    have hl := f.dl
    obtain ⟨b1, b2, b3⟩ := b.tcp_
    have e12 : (d.set 13 q).getD 12 0 = d0.getD 12 0 := by rw [getD_set_ne _ _ _ _ (by omega)]; exact f.d12 (by omega)
    have hz : tcpSize (d.set 13 q) = tcpSize d0 := by unfold tcpSize; rw [e12]
    rw [rAll_six (f.head b (by omega)) (by rw [f.proto (by omega)]; exact b.proto)]
    unfold tcpE
    rw [if_neg (by rw [List.length_set]; omega), hz, List.length_set, hl, if_neg b2, if_pos (.inr (by rw [getD_set_eq _ _ _ (by omega)]; exact hq))]
    decide
  rb := .inr ⟨by decide, by decide⟩
  zero := fun q => absurd q (by decide)
/-- Bit 8: a port that is 0. -/
theorem FInv.at8 (b : FBase h0 d0) (f : FInv h0 d0 9 h d r) {j : Nat} (hj : j = 0 ∨ j = 2) : FInv h0 d0 8 h ((d.set j 0).set (j + 1) 0) 16 where
  ok := f.ok
  mf := f.mf
  o0 := f.o0
  ol := f.ol
  byt := (f.byt.set j (by omega) (by omega)).set (j + 1) (by omega) (by omega)
  dl := by rw [List.length_set, List.length_set]; exact f.dl
  src := f.src
  off := fun _ => f.off (by omega)
  opts := fun _ => f.opts (by omega)
  ttl := fun _ => f.ttl (by omega)
  dst := fun _ => f.dst (by omega)
  proto := fun _ => f.proto (by omega)
  d12 := fun _ => by rw [getD_set_ne _ _ _ _ (by omega), getD_set_ne _ _ _ _ (by omega)]; exact f.d12 (by omega)
  d13 := fun _ => by rw [getD_set_ne _ _ _ _ (by omega), getD_set_ne _ _ _ _ (by omega)]; exact f.d13 (by omega)
  dall := fun q => absurd q (by omega)
  rd := by
    have hd : d = d0 := f.dall (by omega)
    subst hd
    obtain ⟨b1, b2, b3⟩ := b.tcp_
    have g12 : ((d.set j 0).set (j + 1) 0).getD 12 0 = d.getD 12 0 := by rw [getD_set_ne _ _ _ _ (by omega), getD_set_ne _ _ _ _ (by omega)]
    have g13 : ((d.set j 0).set (j + 1) 0).getD 13 0 = d.getD 13 0 := by rw [getD_set_ne _ _ _ _ (by omega), getD_set_ne _ _ _ _ (by omega)]
    have hz : tcpSize ((d.set j 0).set (j + 1) 0) = tcpSize d := by unfold tcpSize; rw [g12]
    have hl : ((d.set j 0).set (j + 1) 0).length = d.length := by rw [List.length_set, List.length_set]
    have hw : w16At ((d.set j 0).set (j + 1) 0) j = 0 := by
      unfold w16At
      rw [getD_set_ne _ _ _ _ (by omega), getD_set_eq _ _ _ (by omega), getD_set_eq _ _ _ (by rw [List.length_set]; omega)]
      omega
    have ht := b.tcp
    rw [rAll_six (f.head b (by omega)) (by rw [f.proto (by omega)]; exact b.proto)]
    have e : tcpE ((d.set j 0).set (j + 1) 0) = 83 := by
      unfold tcpE at ht ⊢
      rw [hl, hz, g12, g13, if_neg (by omega), if_neg b2]
      split
      · rename_i q
        rw [if_neg (by omega), if_neg b2, if_pos q] at ht
        omega
      · rw [if_pos]
        rcases hj with rfl | rfl
        · exact .inl hw
        · exact .inr hw
    rw [e]
    decide
  rb := .inr ⟨by decide, by decide⟩
  zero := fun q => absurd q (by decide)
end
/-- The packet that is written is read. -/
theorem FInv.read {h0 h : IpH} {d0 d : List Int} {r : Int} (f : FInv h0 d0 0 h d r) (hd : d0.length ≤ 1000) : h.Right d.length ∧ pktR (ipWriteL h d) = r ∧ (r ≠ 0 → pktF (ipWriteL h d) = Facts.zero) := by
  have hl := f.dl
  have ho := f.ol
  have hR : h.Right d.length := ⟨f.o0.1, by have := f.o0.2.1; omega, f.o0.2.2, ho.1, ho.2, by omega, by have := f.o0.2.1; omega, fun q => by rw [f.mf] at q; cases q⟩
  obtain ⟨p1, _⟩ := pkt_back h d [] f.ok hR
  rw [List.append_nil] at p1
  have hr : pktR (ipWriteL h d) = r := p1.trans f.rd
  refine ⟨hR, hr, fun hne => ?_⟩
  unfold pktF
  rw [if_neg (by rw [hr]; exact hne)]
theorem opts9 : (optRead [131, 3, 4, 1, 7, 2, 0, 0]).2 ≠ 0 := by decide
theorem opts10 : ∀ k : Int, k = 131 ∨ k = 137 → (optRead [k, 3, 4, 0]).2 = 0 ∧ routedB (optRead [k, 3, 4, 0]).1 = true := by
  rintro k (rfl | rfl) <;> exact ⟨by decide, by decide⟩
set_option maxRecDepth 100000 in
theorem sane22 : ∀ q : Fin 256, saneB ((q : Nat) &&& (255 ^^^ 22)) = false := by decide +kernel
end Go.Proofs.YtebeekjcepjcnaaDoor
