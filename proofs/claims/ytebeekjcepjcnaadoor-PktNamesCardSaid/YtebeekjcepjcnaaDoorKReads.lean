/-
  The law of pkt: reads.
-/
import Derived.Test.YtebeekjcepjcnaaDoorProg
import Derived.WalkKit
import Derived.WalkSpells
import Derived.WalkLawsBesides
import Derived.WalkSmall
import Derived.Lib.Hide
import Derived.Deep.AppendLies
import Derived.Maps.AppendAt
import Derived.Laws.AppendOwnNone
import Derived.Laws.CopyOwn
import Derived.OneCell
import Derived.Lib.SliceRun
import Derived.RangeFuncNested
import Derived.RangeFuncBound
import Derived.RangeFuncCalls
import Derived.RangeFuncLeaves
import Derived.Shelf.Abstract
import Derived.OwnWalkIn
import Derived.TacticsInMore
import Derived.LoopNIn
import Derived.LoopIn
import Derived.Lib.AppendZeros
import Derived.BigRegion
import Derived.ChangeAlike
import Derived.Deep.RegionLaw
import Derived.Deep.DeepCutAuto
import Derived.Orders
import Derived.RegionTactic
import Derived.Still
import Derived.Deep.MidRow
import Derived.Deep.RegionHeld3
import Derived.MapKept
import Derived.Laws.StructEq
import Derived.RegionIn
import Derived.Test.YtebeekjcepjcnaaDoorKBase
import Derived.Test.YtebeekjcepjcnaaDoorKWalk
import Derived.Test.YtebeekjcepjcnaaDoorKMem
import Derived.Test.YtebeekjcepjcnaaDoorKSum
import Derived.Test.YtebeekjcepjcnaaDoorKMaps
import Derived.Test.YtebeekjcepjcnaaDoorKEq
import Derived.Test.YtebeekjcepjcnaaDoorKRefd
import Derived.Test.YtebeekjcepjcnaaDoorKPkt
import Derived.Test.YtebeekjcepjcnaaDoorKPbits
import Derived.Test.YtebeekjcepjcnaaDoorKIprd
import Derived.Test.YtebeekjcepjcnaaDoorKIpre
import Derived.Test.YtebeekjcepjcnaaDoorKTcprd
import Derived.Test.YtebeekjcepjcnaaDoorKUdprd
import Derived.Test.YtebeekjcepjcnaaDoorKIcmprd
import Derived.Test.YtebeekjcepjcnaaDoorKPktm
import Derived.Test.YtebeekjcepjcnaaDoorKPktn
import Derived.Test.YtebeekjcepjcnaaDoorKQuota
import Derived.Test.YtebeekjcepjcnaaDoorKQuotb
import Derived.Test.YtebeekjcepjcnaaDoorKQuotc
import Derived.Test.YtebeekjcepjcnaaDoorKPkto
import Derived.Test.YtebeekjcepjcnaaDoorKIpread
import Derived.Test.YtebeekjcepjcnaaDoorKOptsa
import Derived.Test.YtebeekjcepjcnaaDoorKOptsb
import Derived.Test.YtebeekjcepjcnaaDoorKRange
import Derived.Test.YtebeekjcepjcnaaDoorKOptsc
import Derived.Test.YtebeekjcepjcnaaDoorKOptsd
import Derived.Test.YtebeekjcepjcnaaDoorKPkta
import Derived.Test.YtebeekjcepjcnaaDoorKPktr
import Derived.Test.YtebeekjcepjcnaaDoorKRopts
import Derived.Test.YtebeekjcepjcnaaDoorKRnum
import Derived.Test.YtebeekjcepjcnaaDoorKRat
import Derived.Test.YtebeekjcepjcnaaDoorKRicm
import Derived.Test.YtebeekjcepjcnaaDoorKRquo
import Derived.Test.YtebeekjcepjcnaaDoorKRip5
import Derived.Test.YtebeekjcepjcnaaDoorKRtcp
import Derived.Test.YtebeekjcepjcnaaDoorKRseg
import Derived.Test.YtebeekjcepjcnaaDoorKRmsg
import Derived.Test.YtebeekjcepjcnaaDoorKRopt6
import Derived.Test.YtebeekjcepjcnaaDoorKRopt7
import Derived.Test.YtebeekjcepjcnaaDoorKRopt8
import Derived.Test.YtebeekjcepjcnaaDoorKRhead
import Derived.Test.YtebeekjcepjcnaaDoorKRread
import Derived.Test.YtebeekjcepjcnaaDoorKLent
namespace Go.Proofs.YtebeekjcepjcnaaDoor
open Go.RowKit
set_option maxRecDepth 100000 in
set_option maxHeartbeats 8000000 in
theorem reads_any (A : Option Addr) (cap n : Nat) (xs : List Int) (w : World) (hn : xs.length = n) (hcap : n ≤ cap) (hB : Byt xs) (hr : Rd w w.heap.size A .u8 xs) (hs : SortsAt w) :
    Calls Tryd.prog 23 #[.slice A n cap] w fun e W => e = .returned (.bool true) ∧ Below w.heap.size w W := by
  by_cases h4 : 400 < n
  · have g4 : decide (400 < (n : Int)) = true := by simp; omega
    go_enter Tryd.func23, Tryd.ntmps23
    go_wp2_with fail
    go_ret
    exact ⟨rfl, Below.refl _ _⟩
  have g4 : decide (400 < (n : Int)) = false := by simp; omega
  have hl : n ≤ 1000000 := by omega
  have H1 := Lib.hid (lentBytes_any A cap n xs w hn hl hr)
  have H2 := Lib.hid (fun (W : World) A' c' (hc : n ≤ c') (h : Rd W W.heap.size A' .u8 xs) (hs : SortsAt W) => pktRead_any A' c' n xs W hn hl hc hB h hs)
  have H3 := Lib.hid (fun (W : World) (h : Below w.heap.size w W) => r11Read_any A cap n xs W hn hl hcap hB (hr.belows h (Nat.le_refl _)))
  have H4 := Lib.hid (fun (W : World) (g c : Nat) (h : Below w.heap.size w W) (hc : n + 12 ≤ c) (ho : ∀ j, j < n + 12 → W.cell? ⟨g, j, none⟩ = some (.int .u8 ((xs ++ marksL).getD j 0))) (hg : g < W.heap.size) => keptBytes_any g c A cap n xs W hn hl hc (hr.belows h (Nat.le_refl _)) ho hg)
  have Hs := Lib.hid (fun (W : World) (h : Below w.heap.size w W) => hs.below h (Nat.le_refl _))
  have HL : Hid ((xs ++ marksL).length = n + 12) := Lib.hid (by rw [List.length_append, hn]; rfl)
  have HTk : Hid ((xs ++ marksL).take n = xs) := Lib.hid (by rw [← hn]; exact List.take_left)
  unfold ReadPost at H3
  clear hr hs hB hn
  generalize pktR xs = RR at *
  generalize pktF xs = FF at *
  have HEq := Lib.hid (fun (W : World) => run_eq_facts FF FF W)
  rw [facts_eqB_refl] at HEq
  obtain ⟨⟨k0, k1, k2, k3, k4⟩, f1, f2, f3, f4, f5, f6, f7, f8, ⟨q0, q1, q2, q3, q4⟩, f9⟩ := FF
  rw [show Facts.val ⟨⟨k0, k1, k2, k3, k4⟩, f1, f2, f3, f4, f5, f6, f7, f8, ⟨q0, q1, q2, q3, q4⟩, f9⟩ = .agg #[.int .u8 k0, .int .u32 k1, .int .u32 k2, .int .u16 k3, .int .u16 k4, .int .u8 f1, .int .u8 f2, .int .u8 f3, .int .u8 f4, .int .u32 f5, .int .u32 f6, .int .i64 f7, .int .i64 f8, .int .u8 q0, .int .u32 q1, .int .u32 q2, .int .u16 q3, .int .u16 q4, .int .u8 f9] from rfl] at H2 H3 HEq
  go_enter Tryd.func23, Tryd.ntmps23
  go_wp2_with fail
  refine H1.out.mono ?_
  rintro e w1 ⟨g, c, rfl, hc, _, ho, l1⟩
  have hglt := (ho.lt rfl).2
  have HO := Lib.hid ho
  have HR1 := Lib.hid (H2.out w1 (some ⟨g, 0, none⟩) c (by omega) (by have h := ho.rd.take n; rwa [HTk.out] at h) (Hs.out w1 l1))
  have L1 := Lib.hid l1
  clear ho l1
  go_wp2_with fail
  refine HR1.out.mono ?_
  rintro e w2 ⟨rfl, l2⟩
  have L2 := Lib.hid l2
  have LL2 := Lib.hid (L1.out.trans (l2.mono L1.out.size))
  clear l2
  go_upto_region 5 with (first | ((with_reducible refine look_store ?_); refine wpList_store_new rfl _ _ _ rfl _ _ rfl rfl _ _ rfl (by kernel_rfl) (by simp) (by simp [Value.oneCell']) ?_) | fail)
  refine wp_name1 ?_
  intro w3 hb3 hs3 bf
  have L3 := Lib.hid hb3
  have LL3 := Lib.hid (LL2.out.trans (hb3.mono LL2.out.size))
  have HR2 := Lib.hid (H3.out w3 LL3.out)
  clear hb3 hs3
  go_wp2_with fail
  refine HR2.out.mono ?_
  rintro e w4 ⟨rfl, l4⟩
  have L4 := Lib.hid l4
  have LL4 := Lib.hid (LL3.out.trans (l4.mono LL3.out.size))
  have bf4 := bf.below l4 bf.lt
  clear l4 bf
  go_upto_region 6 with (first | ((with_reducible refine look_store ?_); refine wpList_store_new rfl _ _ _ rfl _ _ rfl rfl _ _ rfl (by kernel_rfl) (by simp) (by simp [Value.oneCell']) ?_) | fail)
  refine wp_name1 ?_
  intro w5 hb5 hs5 bg
  have bf5 := bf4.below hb5 bf4.lt
  have LL5 := Lib.hid (LL4.out.trans (hb5.mono LL4.out.size))
  have HO5 := Lib.hid ((((HO.out.below L2.out (Nat.le_refl _)).below L3.out (Nat.le_refl _)).below L4.out (Nat.le_refl _)).below hb5 (Nat.le_refl _))
  have heq := HEq.out w5
  have hg5 := (HO5.out.lt rfl).2
  have HK := Lib.hid (H4.out w5 g c LL5.out hc (fun j hj => HO5.out.cell j (by rw [HL.out]; exact hj)) hg5)
  clear hb5 hs5 bf4
  go_wp2_with (first | ((with_reducible refine look_load ?_); refine wpList_load_row rfl _ _ rfl _ rfl _ _ _ _ bf5 Tryd.underlying27 rfl (by kernel_rfl) ?_) | ((with_reducible refine look_load ?_); refine wpList_load_row rfl _ _ rfl _ rfl _ _ _ _ bg Tryd.underlying27 rfl (by kernel_rfl) ?_) | fail)
  refine HK.out.mono ?_
  rintro e w6 ⟨rfl, l6⟩
  go_wp2_with fail
  go_ret
  exact ⟨rfl, LL5.out.trans (l6.mono LL5.out.size)⟩
end Go.Proofs.YtebeekjcepjcnaaDoor
