/-
  The reference of pkt: strange, header.
-/
import Derived.Test.YtebeekjcepjcnaaDoorProg
import Derived.WalkKit
import Derived.WalkSpells
import Derived.WalkLawsBesides
import Derived.WalkSmall
import Derived.Lib.Hide
import Derived.Deep.AppendLies
import Derived.Maps.AppendAt
import Derived.Laws.AppendOwnNone
import Derived.Laws.CopyOwn
import Derived.OneCell
import Derived.Lib.SliceRun
import Derived.RangeFuncNested
import Derived.RangeFuncBound
import Derived.RangeFuncCalls
import Derived.RangeFuncLeaves
import Derived.Shelf.Abstract
import Derived.OwnWalkIn
import Derived.TacticsInMore
import Derived.LoopNIn
import Derived.LoopIn
import Derived.Orders
import Derived.RegionTactic
import Derived.Still
import Derived.Deep.MidRow
import Derived.Deep.DeepCutAuto
import Derived.Lib.AppendZeros
import Derived.BigRegion
import Derived.ChangeAlike
import Derived.Deep.RegionLaw
import Derived.Deep.RegionHeld3
import Derived.MapKept
import Derived.RegionIn
import Derived.Test.YtebeekjcepjcnaaDoorSBase
import Derived.Test.YtebeekjcepjcnaaDoorSMem
import Derived.Test.YtebeekjcepjcnaaDoorSCsum
import Derived.Test.YtebeekjcepjcnaaDoorSSum
import Derived.Test.YtebeekjcepjcnaaDoorSRegion
import Derived.Test.YtebeekjcepjcnaaDoorSWalk
import Derived.Test.YtebeekjcepjcnaaDoorSStep
import Derived.Test.YtebeekjcepjcnaaDoorSStepb
import Derived.Test.YtebeekjcepjcnaaDoorSRefa
import Derived.Test.YtebeekjcepjcnaaDoorSConcat
import Derived.Test.YtebeekjcepjcnaaDoorSPkt
import Derived.Test.YtebeekjcepjcnaaDoorSRopts
import Derived.Test.YtebeekjcepjcnaaDoorSRnum
import Derived.Test.YtebeekjcepjcnaaDoorSTcpw
import Derived.Test.YtebeekjcepjcnaaDoorSIcmpr
import Derived.Test.YtebeekjcepjcnaaDoorSIprd
import Derived.Test.YtebeekjcepjcnaaDoorSIpre
import Derived.Test.YtebeekjcepjcnaaDoorSIpread
import Derived.Test.YtebeekjcepjcnaaDoorSOptsa
import Derived.Test.YtebeekjcepjcnaaDoorSOptsb
import Derived.Test.YtebeekjcepjcnaaDoorSRange
import Derived.Test.YtebeekjcepjcnaaDoorSOptsc
import Derived.Test.YtebeekjcepjcnaaDoorSOptsd
import Derived.Test.YtebeekjcepjcnaaDoorSPkta
import Derived.Test.YtebeekjcepjcnaaDoorSRopt6
import Derived.Test.YtebeekjcepjcnaaDoorSRopt7
import Derived.Test.YtebeekjcepjcnaaDoorSRopt8
namespace Go.Proofs.YtebeekjcepjcnaaDoor
open Go.RowKit
set_option maxHeartbeats 400000 in
theorem rStrange_any (a : Int) (w : World) : Calls Tryd.prog 138 #[.int .u32 a] w fun e w' => e = .returned (.bool (strangeB a)) ∧ w = w' := by
  unfold strangeB
  cases h0 : a == 0 <;> cases h1 : decide (3758096384 ≤ a)
  all_goals
    go_enter Tryd.func138, Tryd.ntmps138
    go_wp2
    go_ret
    exact ⟨rfl, rfl⟩
def IpH.reasonP (h : IpH) : Int := if h.reason ≠ 0 then h.reason else if h.proto ≠ 1 ∧ h.proto ≠ 6 ∧ h.proto ≠ 17 then 13 else 0
set_option maxRecDepth 100000 in
set_option maxHeartbeats 4000000 in
theorem rHeader_any (h : IpH) (A : Option Addr) (cap n : Nat) (w : World) (hn : h.opts.length = n) (hl : n ≤ 40) (hB : Byt h.opts) (hoff : 0 ≤ h.off) (hr : Rd w w.heap.size A .u8 h.opts) :
    Calls Tryd.prog 92 #[.agg (h.cells (.slice A n cap))] w fun e w' => e = .returned (.int .u8 h.reasonP) ∧ Below w.heap.size w w' := by
  have HO := Lib.hid (fun (W : World) (hb : Below w.heap.size w W) => rOptsRead_any A cap n h.opts W hn hl hB (hr.belows hb (Nat.le_refl _)))
  have HRt := Lib.hid (fun (W : World) A' c' (ho : OptsAt W W.heap.size A' (optRead h.opts).1) => rRouted_any A' c' (optRead h.opts).1.length (optRead h.opts).1 W rfl (by have := optRead_len h.opts; omega) ho)
  have HR := Lib.hid (show h.reasonP = if h.off ≠ 0 ∨ h.mf = true then 8 else if (optRead h.opts).2 ≠ 0 then 9 else if routedB (optRead h.opts).1 then 10 else if h.ttl = 0 then 11 else if strangeB h.src || strangeB h.dst || h.src == h.dst then 12 else if h.proto ≠ 1 ∧ h.proto ≠ 6 ∧ h.proto ≠ 17 then 13 else 0 by
    unfold IpH.reasonP IpH.reason
    split
    · rename_i q
      repeat' split at q
      all_goals first | rfl | exact absurd rfl q | skip
      all_goals (repeat' split) <;> first | rfl | contradiction | omega
    · rename_i q
      repeat' split at q
      all_goals first | exact absurd (by decide) q | skip
      all_goals (repeat' split) <;> first | rfl | contradiction | omega)
  have HS := Lib.hid (fun a W => rStrange_any a W)
  have HOut := Lib.hid (fun xs (w W : World) e (h : RoOut w xs e W) => h)
  obtain ⟨tos, id, df, mf, off, ttl, proto, src, dst, os⟩ := h
  simp only [IpH.cells] at *
  clear hr hB hn
  generalize IpH.reasonP _ = R at *
  unfold RoOut at HO
  generalize (optRead os).2 = E at *
  generalize hks : (optRead os).1 = ks at *
  have HL := Lib.hid (show ks.length ≤ 40 by rw [← hks]; exact optRead_len os)
  clear hks HOut
  by_cases q0 : off = 0
  case neg =>
    have b0 : decide (0 < off) = true := by simp; omega
    have HX := Lib.hid (HR.out.trans (if_pos (.inl q0)))
    clear q0
    go_enter Tryd.func92, Tryd.ntmps92
    go_wp2_with fail
    go_ret
    exact ⟨by rw [HX.out]; rfl, (Below.refl _ _).alloc (Nat.le_refl _) _⟩
  have b0 : decide (0 < off) = false := by simp; omega
  cases mf
  case true =>
    have HX := Lib.hid (HR.out.trans (if_pos (.inr rfl)))
    clear q0
    go_enter Tryd.func92, Tryd.ntmps92
    go_wp2_with fail
    go_ret
    exact ⟨by rw [HX.out]; rfl, (Below.refl _ _).alloc (Nat.le_refl _) _⟩
  have HX := Lib.hid (HR.out.trans (if_neg (by simpa using q0)))
  clear q0
  go_enter Tryd.func92, Tryd.ntmps92
  go_wp2_with fail
  have hA := (Below.refl w.heap.size w).alloc (Nat.le_refl _) (.cells #[.int .u8 tos, .int .u16 id, .bool df, .bool false, .int .i64 off, .int .u8 ttl, .int .u8 proto, .int .u32 src, .int .u32 dst, .slice A n cap] 143)
  have bA := Blk.new w 143 #[.int .u8 tos, .int .u16 id, .bool df, .bool false, .int .i64 off, .int .u8 ttl, .int .u8 proto, .int .u32 src, .int .u32 dst, .slice A n cap]
  refine (HO.out _ hA).mono ?_
  rintro e w2 ⟨A', c', rfl, ho, l2⟩
  have Hb3 := Lib.hid (hA.trans (l2.mono (by simp)))
  have b3 := bA.below l2 bA.lt
  have HRo := Lib.hid (HRt.out w2 A' c' ho)
  clear hA bA ho l2
  by_cases hE : E = 0
  case neg =>
    have he : (E != 0) = true := by simpa using hE
    have HY := Lib.hid (HX.out.trans (if_pos hE))
    clear hE b3
    go_wp2_with fail
    go_ret
    exact ⟨by rw [HY.out]; rfl, Hb3.out⟩
  subst hE
  have HX2 := Lib.hid (HX.out.trans (if_neg (by simp)))
  clear HX
  go_wp2_with fail
  refine HRo.out.mono ?_
  rintro e w3 ⟨rfl, rfl⟩
  rcases hrt : routedB ks with _ | _
  case true =>
    have HY := Lib.hid (HX2.out.trans (if_pos hrt))
    clear b3
    go_wp2_with fail
    go_ret
    exact ⟨by rw [HY.out]; rfl, Hb3.out⟩
  have HX3 := Lib.hid (HX2.out.trans (if_neg (by rw [hrt]; decide)))
  have c5 := b3.cell 5
  have c6 := b3.cell 6
  have c7 := b3.cell 7
  have c8 := b3.cell 8
  clear HX2 b3
  by_cases ht : ttl = 0
  · subst ht
    have HY := Lib.hid (HX3.out.trans (if_pos rfl))
    go_wp2_with fail
    go_ret
    exact ⟨by rw [HY.out]; rfl, Hb3.out⟩
  have ht0 : (ttl == 0) = false := by simpa using ht
  have HX4 := Lib.hid (HX3.out.trans (if_neg ht))
  have S1 := Lib.hid (fun W => HS.out src W)
  have S2 := Lib.hid (fun W => HS.out dst W)
  clear HX3 ht HS
  cases h1 : strangeB src
  case true =>
    have HY := Lib.hid (HX4.out.trans (by rw [h1]))
    rw [h1] at S1
    go_wp2_with fail
    refine (S1.out _).mono ?_
    rintro e w4 ⟨rfl, rfl⟩
    go_wp2_with fail
    go_ret
    exact ⟨by rw [HY.out]; rfl, Hb3.out⟩
  rw [h1] at S1
  cases h2 : strangeB dst
  case true =>
    have HY := Lib.hid (HX4.out.trans (by rw [h1, h2]))
    rw [h2] at S2
    go_wp2_with fail
    refine (S1.out _).mono ?_
    rintro e w4 ⟨rfl, rfl⟩
    go_wp2_with fail
    refine (S2.out _).mono ?_
    rintro e w4 ⟨rfl, rfl⟩
    go_wp2_with fail
    go_ret
    exact ⟨by rw [HY.out]; rfl, Hb3.out⟩
  rw [h2] at S2
  have HY := Lib.hid (HX4.out.trans (by rw [h1, h2, Bool.false_or, Bool.false_or]))
  cases h3 : src == dst
  case true =>
    rw [h3] at HY
    go_wp2_with fail
    refine (S1.out _).mono ?_
    rintro e w4 ⟨rfl, rfl⟩
    go_wp2_with fail
    refine (S2.out _).mono ?_
    rintro e w4 ⟨rfl, rfl⟩
    go_wp2_with fail
    go_ret
    exact ⟨by rw [HY.out]; rfl, Hb3.out⟩
  rw [h3] at HY
  have HZ := Lib.hid (HY.out.trans (if_neg (by decide)))
  have t1 : (proto != 1) = !(proto == 1) := rfl
  have t6 : (proto != 6) = !(proto == 6) := rfl
  have t17 : (proto != 17) = !(proto == 17) := rfl
  by_cases p1 : proto = 1
  · subst p1
    go_wp2_with fail
    refine (S1.out _).mono ?_
    rintro e w4 ⟨rfl, rfl⟩
    go_wp2_with fail
    refine (S2.out _).mono ?_
    rintro e w4 ⟨rfl, rfl⟩
    go_wp2_with fail
    go_ret
    exact ⟨by rw [HZ.out]; rfl, Hb3.out⟩
  by_cases p6 : proto = 6
  · subst p6
    go_wp2_with fail
    refine (S1.out _).mono ?_
    rintro e w4 ⟨rfl, rfl⟩
    go_wp2_with fail
    refine (S2.out _).mono ?_
    rintro e w4 ⟨rfl, rfl⟩
    go_wp2_with fail
    go_ret
    exact ⟨by rw [HZ.out]; rfl, Hb3.out⟩
  by_cases p17 : proto = 17
  · subst p17
    go_wp2_with fail
    refine (S1.out _).mono ?_
    rintro e w4 ⟨rfl, rfl⟩
    go_wp2_with fail
    refine (S2.out _).mono ?_
    rintro e w4 ⟨rfl, rfl⟩
    go_wp2_with fail
    go_ret
    exact ⟨by rw [HZ.out]; rfl, Hb3.out⟩
  have HW := Lib.hid (HZ.out.trans (if_pos ⟨p1, p6, p17⟩))
  have n1 : (proto != 1) = true := by simpa using p1
  have n6 : (proto != 6) = true := by simpa using p6
  have n17 : (proto != 17) = true := by simpa using p17
  clear p1 p6 p17 t1 t6 t17
  go_wp2_with fail
  refine (S1.out _).mono ?_
  rintro e w4 ⟨rfl, rfl⟩
  go_wp2_with fail
  refine (S2.out _).mono ?_
  rintro e w4 ⟨rfl, rfl⟩
  go_wp2_with fail
  go_ret
  exact ⟨by rw [HW.out]; rfl, Hb3.out⟩
end Go.Proofs.YtebeekjcepjcnaaDoor
