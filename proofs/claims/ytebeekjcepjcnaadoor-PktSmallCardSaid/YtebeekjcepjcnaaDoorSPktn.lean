/-
  The method udp of pkt's packet.
-/
import Derived.Test.YtebeekjcepjcnaaDoorProg
import Derived.WalkKit
import Derived.WalkSpells
import Derived.WalkLawsBesides
import Derived.WalkSmall
import Derived.Lib.Hide
import Derived.Deep.AppendLies
import Derived.Maps.AppendAt
import Derived.Laws.AppendOwnNone
import Derived.Laws.CopyOwn
import Derived.OneCell
import Derived.Lib.SliceRun
import Derived.RangeFuncNested
import Derived.RangeFuncBound
import Derived.RangeFuncCalls
import Derived.RangeFuncLeaves
import Derived.Shelf.Abstract
import Derived.OwnWalkIn
import Derived.TacticsInMore
import Derived.LoopNIn
import Derived.LoopIn
import Derived.Lib.AppendZeros
import Derived.BigRegion
import Derived.ChangeAlike
import Derived.Deep.RegionLaw
import Derived.Deep.DeepCutAuto
import Derived.Orders
import Derived.RegionTactic
import Derived.Still
import Derived.Deep.MidRow
import Derived.Deep.RegionHeld3
import Derived.MapKept
import Derived.Laws.StructEq
import Derived.Test.YtebeekjcepjcnaaDoorSBase
import Derived.Test.YtebeekjcepjcnaaDoorSMem
import Derived.Test.YtebeekjcepjcnaaDoorSCsum
import Derived.Test.YtebeekjcepjcnaaDoorSSum
import Derived.Test.YtebeekjcepjcnaaDoorSRegion
import Derived.Test.YtebeekjcepjcnaaDoorSWalk
import Derived.Test.YtebeekjcepjcnaaDoorSStep
import Derived.Test.YtebeekjcepjcnaaDoorSStepb
import Derived.Test.YtebeekjcepjcnaaDoorSConcat
import Derived.Test.YtebeekjcepjcnaaDoorSPkt
import Derived.Test.YtebeekjcepjcnaaDoorSTcpw
import Derived.Test.YtebeekjcepjcnaaDoorSIcmpr
import Derived.Test.YtebeekjcepjcnaaDoorSIprd
import Derived.Test.YtebeekjcepjcnaaDoorSIpre
import Derived.Test.YtebeekjcepjcnaaDoorSTcprd
import Derived.Test.YtebeekjcepjcnaaDoorSUdprd
import Derived.Test.YtebeekjcepjcnaaDoorSEq
import Derived.Test.YtebeekjcepjcnaaDoorSPktm
namespace Go.Proofs.YtebeekjcepjcnaaDoor
open Go.RowKit
theorem UdpOut.open_ {w W : World} {d : List Int} {e : Ending} (h : UdpOut w d e W) (hB : Byt d) : ∃ a0 a1 b2 T, e = .returned (.tuple #[.agg #[.int .u16 a0, .int .u16 a1, .bool b2], .int .i64 T, .int .i64 (udpE d)]) ∧ Below w.heap.size w W ∧ (0 ≤ T ∧ T < 65536) ∧ (udpE d = 0 → a0 = w16At d 0 ∧ a1 = w16At d 2 ∧ T = w16At d 4) := by
  obtain ⟨he, hb⟩ := h
  by_cases h0 : udpE d = 0
  · rw [if_pos h0, if_pos h0] at he
    exact ⟨_, _, _, _, he, hb, w16At_bd hB 4, fun _ => ⟨rfl, rfl, rfl⟩⟩
  · rw [if_neg h0, if_neg h0] at he
    exact ⟨_, _, _, _, he, hb, by omega, fun h => absurd h h0⟩
set_option maxRecDepth 100000 in
set_option maxHeartbeats 8000000 in
theorem pktUdp_any (p s d : Int) (A : Option Addr) (cap n : Nat) (xs : List Int) (g : Nat) (w : World) (hn : xs.length = n) (hcap : n ≤ cap) (hl : n ≤ 1000000) (hB : Byt xs) (hr : Rd w g A .u8 xs) (hb : Blk w g 117 (pkC (.slice A n cap) (baseK p s d))) :
    Calls Tryd.prog 58 #[.pointer (some ⟨g, 0, none⟩)] w fun e W' => e = .returned (.int .i64 (udpE2 xs)) ∧ Below g w W' ∧ w.heap.size ≤ W'.heap.size ∧ (udpE2 xs = 0 → Blk W' g 117 (pkC (.slice A n cap) (udpF (baseK p s d) xs))) := by
  have HT := Lib.hid (udpRead_any A cap n xs w hn hcap hl hB (hr.more (Nat.le_of_lt hb.lt)))
  have HO := Lib.hid (fun e W h => UdpOut.open_ (w := w) (W := W) (d := xs) (e := e) h hB)
  have HF := Lib.hid (show udpF (baseK p s d) xs = ⟨⟨p, s, d, w16At xs 0, w16At xs 2⟩, 2, 0, 0, 0, 0, 0, 0, w16At xs 4 - 8, ⟨0, 0, 0, 0, 0⟩, 0⟩ from rfl)
  have HE2 := Lib.hid (show udpE2 xs = if udpE xs ≠ 0 then udpE xs else if w16At xs 0 = 0 then 92 else 0 from rfl)
  have hb0 : w.cell? ⟨g, 0, none⟩ = some (.slice A n cap) := hb.cell 0
  have hgl := hb.lt
  clear hr hB hn
  generalize udpE2 xs = E2 at *
  generalize udpE xs = E at *
  go_enter Tryd.func58, Tryd.ntmps58
  go_wp2_with fail
  refine HT.out.mono ?_
  intro e w1 hto
  obtain ⟨a0, a1, b2, T, rfl, l1, hT, hEq⟩ := HO.out _ _ hto
  have HEq := Lib.hid hEq
  have b1 := hb.below l1 hgl
  have b10 : w1.cell? ⟨g, 0, none⟩ = some (.slice A n cap) := b1.cell 0
  clear hto hEq hb0
  have hz1 := l1.size
  go_upto_region 3 with (first | ((with_reducible refine look_store ?_); refine wpList_store_new rfl _ _ _ rfl _ _ rfl rfl _ _ rfl (by kernel_rfl) (by simp) (by simp [Value.oneCell']) ?_) | fail)
  refine wp_name1 ?_
  intro w2 hb2 hs2 bh
  have b2' := b1.below hb2 (by omega)
  have hk6 : w2.cell? ⟨g, 6, none⟩ = some (.int .u8 0) := b2'.cell 6
  have hf6 := b2'.frozen 6
  have hk13 : w2.cell? ⟨g, 13, none⟩ = some (.int .i64 0) := b2'.cell 13
  have hf13 := b2'.frozen 13
  have hbx2 := (l1.mono (Nat.le_of_lt hgl)).trans (hb2.mono (by omega : g ≤ w1.heap.size))
  go_wp2_with fail
  have hS0 : St w g [(w1.heap.size, 168, #[.int .u16 a0, .int .u16 a1, .bool b2])] w2 := (St.nil hbx2 (by omega)).cons bh
  have hS1 := (hS0.setFar (p := ⟨g, 6, none⟩) (Nat.le_refl _) (by simp; omega) (.int .u8 2)).setFar (p := ⟨g, 13, none⟩) (Nat.le_refl _) (by simp; omega) (.int .i64 (T - 8))
  have hB1 : Blk ((w2.setCell ⟨g, 6, none⟩ (.int .u8 2)).setCell ⟨g, 13, none⟩ (.int .i64 (T - 8))) g 117 (pkC (.slice A n cap) (pkU p s d (T - 8) a0 a1 2)) := (b2'.set 6 _).set 13 _
  have hS : StN w g [(w1.heap.size, 168, #[.int .u16 a0, .int .u16 a1, .bool b2])] g 117 (fun c => pkC (.slice A n cap) (pkU p s d (T - 8) a0 a1 (c + 2))) 0 _ := ⟨hS1, Nat.le_refl _, by simp; omega, hB1⟩
  clear hS0 hS1 hB1 bh b1 b10 hb2 b2' hk6 hf6 hk13 hf13 hbx2
  refine wp_region_walk0 (by kernel_rfl) (StN w g _ g 117 (fun c => pkC (.slice A n cap) (pkU p s d (T - 8) a0 a1 (c + 2)))) [9, 13] GTop [0, 1, 2, 3, 4, 5, 6, 7, 8, 9, 10, 11, 12, 13] (by kernel_rfl) hS.drew ?_
  iterate 9
    apply Walk.one rfl rfl rfl
    case hrun =>
      intro c W hE hF
      have hsl := (hE.2.2.2.cell 0).trans (pkC_0 _ _)
      have hh := hE.1.get 0 rfl
      have hc0 := hh.cell 0
      have hc1 := hh.cell 1
      go_wp2_with fail
      exact TextPost.mk ⟨GTop.mk, hE⟩
    case hv => rfl
  apply Walk.keep 0 rfl rfl rfl rfl
  case hrun =>
    intro W hE hF
    have hcx : W.cell? ⟨g, 4, none⟩ = some (.int .u16 0) := hE.2.2.2.cell 4
    have hfx := hE.2.2.2.frozen 4
    go_wp2_with fail
    exact TextPost.mk ⟨GTop.mk, hE.set 4 _ rfl⟩
  case hv => rfl
  iterate 3
    apply Walk.one rfl rfl rfl
    case hrun =>
      intro c W hE hF
      have hsl := (hE.2.2.2.cell 0).trans (pkC_0 _ _)
      go_wp2_with fail
      exact TextPost.mk ⟨GTop.mk, hE⟩
    case hv => rfl
  apply Walk.keep 1 rfl rfl rfl rfl
  case hrun =>
    intro W hE hF
    have hcx : W.cell? ⟨g, 5, none⟩ = some (.int .u16 0) := hE.2.2.2.cell 5
    have hfx := hE.2.2.2.frozen 5
    go_wp2_with fail
    exact TextPost.mk ⟨GTop.mk, hE.set 5 _ rfl⟩
  case hv => rfl
  refine Walk.done (fun W hE hF => ?_)
  have hbW := hE.1.1
  have hbR := hE.2.2.2
  have hhl := (hE.1.get 0 rfl).lt
  have hc0 := (hE.1.get 0 rfl).cell 0
  clear hE hF hS
  by_cases hE0 : E = 0
  case neg =>
    have e0 : (E == 0) = false := by simpa using hE0
    have HX := Lib.hid (HE2.out.trans (if_pos hE0))
    have HE0 := Lib.hid hE0
    clear hE0
    go_wp2_with fail
    go_ret
    exact ⟨by rw [HX.out]; rfl, hbW, by omega, fun h => absurd (HX.out ▸ h) HE0.out⟩
  subst hE0
  have HX := Lib.hid (HE2.out.trans (if_neg (by simp)))
  obtain ⟨rfl, rfl, rfl⟩ := HEq.out rfl
  by_cases hz : w16At xs 0 = 0
  · have HX2 := Lib.hid (HX.out.trans (if_pos hz))
    rw [hz] at hc0
    clear hz
    go_wp2_with fail
    go_ret
    exact ⟨by rw [HX2.out]; rfl, hbW, by omega, fun h => by rw [HX2.out] at h; cases h⟩
  · have HX2 := Lib.hid (HX.out.trans (if_neg hz))
    have ez : (w16At xs 0 == 0) = false := by simpa using hz
    have HbR := Lib.hid hbR
    clear hz hbR
    go_wp2_with fail
    go_ret
    refine ⟨by rw [HX2.out]; rfl, hbW, by omega, fun h => ?_⟩
    rw [HF.out]
    exact HbR.out
end Go.Proofs.YtebeekjcepjcnaaDoor
