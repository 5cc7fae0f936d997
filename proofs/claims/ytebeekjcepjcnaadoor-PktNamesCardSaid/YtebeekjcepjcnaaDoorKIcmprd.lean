/-
  icmp.Read, whole.
-/
import Derived.Test.YtebeekjcepjcnaaDoorProg
import Derived.WalkKit
import Derived.WalkSpells
import Derived.WalkLawsBesides
import Derived.WalkSmall
import Derived.Lib.Hide
import Derived.Deep.AppendLies
import Derived.Maps.AppendAt
import Derived.Laws.AppendOwnNone
import Derived.Laws.CopyOwn
import Derived.OneCell
import Derived.Lib.SliceRun
import Derived.RangeFuncNested
import Derived.RangeFuncBound
import Derived.RangeFuncCalls
import Derived.RangeFuncLeaves
import Derived.Shelf.Abstract
import Derived.OwnWalkIn
import Derived.TacticsInMore
import Derived.LoopNIn
import Derived.LoopIn
import Derived.Lib.AppendZeros
import Derived.BigRegion
import Derived.ChangeAlike
import Derived.Deep.RegionLaw
import Derived.Deep.DeepCutAuto
import Derived.Orders
import Derived.RegionTactic
import Derived.Still
import Derived.Deep.MidRow
import Derived.Deep.RegionHeld3
import Derived.MapKept
import Derived.Test.YtebeekjcepjcnaaDoorKBase
import Derived.Test.YtebeekjcepjcnaaDoorKWalk
import Derived.Test.YtebeekjcepjcnaaDoorKMem
import Derived.Test.YtebeekjcepjcnaaDoorKSum
import Derived.Test.YtebeekjcepjcnaaDoorKMaps
import Derived.Test.YtebeekjcepjcnaaDoorKRefd
import Derived.Test.YtebeekjcepjcnaaDoorKPkt
import Derived.Test.YtebeekjcepjcnaaDoorKPbits
import Derived.Test.YtebeekjcepjcnaaDoorKIprd
import Derived.Test.YtebeekjcepjcnaaDoorKIpre
import Derived.Test.YtebeekjcepjcnaaDoorKTcprd
namespace Go.Proofs.YtebeekjcepjcnaaDoor
open Go.RowKit
def msgN (d : List Int) : Array Value := #[.int .u8 (d.getD 0 0), .int .u8 (d.getD 1 0), .int .u16 (w16At d 4), .int .u16 (w16At d 6)]
def msgZ : Array Value := #[.int .u8 0, .int .u8 0, .int .u16 0, .int .u16 0]
set_option maxRecDepth 100000 in
set_option maxHeartbeats 2000000 in
theorem icmpReadG_any (A : Option Addr) (cap n : Nat) (xs : List Int) (w : World) (hn : xs.length = n) (hcap : n ≤ cap) (hb : Byt xs) (hr : Rd w w.heap.size A .u8 xs) (hs : SortsAt w) :
    Calls Tryd.prog 65 #[.slice A n cap] w fun e w' => e = .returned (.tuple #[.agg (if icmpE xs = 0 then msgN xs else msgZ), .int .i64 (icmpE xs)]) ∧ Below w.heap.size w w' := by
  by_cases h8 : n < 8
  · have hE : icmpE xs = 100 := by unfold icmpE; rw [if_pos (by omega)]
    rw [hE, if_neg (by decide)]
    have g1 : (n : Int) < 8 := by omega
    clear hE
    unfold msgZ
    go_enter Tryd.func65, Tryd.ntmps65
    go_wp2_with (first | ((with_reducible refine look_store ?_); refine wpList_store_new rfl _ _ _ rfl _ _ rfl rfl _ _ rfl (by kernel_rfl) (by simp) (by simp [Value.oneCell']) ?_) | fail)
    exact bodyPost_ret (results_cell_tmp Tryd.results65 _ _ _ _ _ _ _ rfl (Blk.new _ _ _) Tryd.underlying84 rfl (by kernel_rfl)) rfl ⟨rfl, (Below.refl _ _).alloc (Nat.le_refl _) _⟩
  have hE : icmpE xs = kind2 (xs.getD 0 0).toNat (xs.getD 1 0).toNat := by unfold icmpE; rw [if_neg (by omega)]
  by_cases hk : kind2 (xs.getD 0 0).toNat (xs.getD 1 0).toNat = 0
  · rw [hE, hk, if_pos rfl]
    exact icmpRead_any A cap n xs w hn (by omega) hcap hb hr hs hk
  rw [hE, if_neg hk]
  obtain ⟨b, off, rfl, hbl, hc⟩ := hr.at0 (by omega)
  have c0 := hc 0 (by omega)
  have c1 := hc 1 (by omega)
  rw [Nat.add_zero] at c0
  obtain ⟨x0, x1⟩ := hb.at_ 0
  obtain ⟨y0, y1⟩ := hb.at_ 1
  have HK := Lib.hid (fun (W : World) (h : SortsAt W) => kindI_any (xs.getD 0 0) (xs.getD 1 0) W x0 x1 y0 h)
  have Hs := Lib.hid hs
  clear hr hc hn hb hs hE
  unfold msgZ
  generalize kind1 (xs.getD 0 0).toNat (xs.getD 1 0).toNat = e1 at *
  generalize kind2 (xs.getD 0 0).toNat (xs.getD 1 0).toNat = e2 at *
  generalize xs.getD 0 0 = x at *
  generalize xs.getD 1 0 = y at *
  have hd : decide ((n : Int) < 8) = false := by simp; omega
  have he2 : (e2 == 0) = false := by simpa using hk
  have i0 : (0 : Int) < n := by omega
  have i1 : (1 : Int) < n := by omega
  clear hk
  go_enter Tryd.func65, Tryd.ntmps65
  go_wp2_with (first | ((with_reducible refine look_store ?_); refine wpList_store_new rfl _ _ _ rfl _ _ rfl rfl _ _ rfl (by kernel_rfl) (by simp) (by simp [Value.oneCell']) ?_) | fail)
  refine wp_name1 ?_
  intro w1 hb1 hs1 bR
  have hSt := (St.nil hb1 hb1.size).cons bR
  refine wp_region_walk0 (by kernel_rfl) (fun _ W => St w w.heap.size _ W) [] Grow [0, 1, 2, 3, 4, 5, 6, 7, 8, 9, 10, 11] (by kernel_rfl) hSt.drew ?_
  iterate 12
    apply Walk.one rfl rfl rfl
    case hrun =>
      intro c W hE hF
      have d0 := (hE.1.cell (p := ⟨b, off, none⟩) hbl).trans c0
      have d1 := (hE.1.cell (p := ⟨b, off + 1, none⟩) hbl).trans c1
      have Hs2 := Lib.hid (Hs.out.below hE.1 (Nat.le_refl _))
      go_wp2_with (first | (go_at_call 68; refine (HK.out _ Hs2.out).mono ?_; rintro e wk ⟨rfl, rfl⟩) | fail)
      exact TextPost.mk ⟨Grow.refl _, hE⟩
    case hv => rfl
  refine Walk.done (fun W hE hF => ?_)
  have bR2 := hE.get 0 rfl
  have hbW := hE.1
  clear hE hF hSt bR hb1 hs1
  go_wp2_with (first | ((with_reducible refine look_store ?_); refine wpList_store_row rfl _ _ _ rfl _ _ rfl rfl _ _ bR2 (by kernel_rfl) (by simp) (by simp [Value.oneCell']) ?_) | fail)
  exact bodyPost_ret (results_cell_tmp Tryd.results65 _ _ _ _ _ _ _ rfl (setRow_heap _ _ _ _ _ _ bR2) Tryd.underlying84 rfl (by kernel_rfl)) rfl ⟨rfl, below_setRow hbW (Nat.le_refl _) _⟩
end Go.Proofs.YtebeekjcepjcnaaDoor
