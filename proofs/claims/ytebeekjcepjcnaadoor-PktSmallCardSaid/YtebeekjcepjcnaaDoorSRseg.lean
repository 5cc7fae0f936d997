/-
  The reference of pkt: segment, datagram.
-/
import Derived.Test.YtebeekjcepjcnaaDoorProg
import Derived.WalkKit
import Derived.WalkSpells
import Derived.WalkLawsBesides
import Derived.WalkSmall
import Derived.Lib.Hide
import Derived.Deep.AppendLies
import Derived.Maps.AppendAt
import Derived.Laws.AppendOwnNone
import Derived.Laws.CopyOwn
import Derived.OneCell
import Derived.Lib.SliceRun
import Derived.RangeFuncNested
import Derived.RangeFuncBound
import Derived.RangeFuncCalls
import Derived.RangeFuncLeaves
import Derived.Shelf.Abstract
import Derived.OwnWalkIn
import Derived.TacticsInMore
import Derived.LoopNIn
import Derived.LoopIn
import Derived.Orders
import Derived.RegionTactic
import Derived.Still
import Derived.Deep.MidRow
import Derived.Deep.DeepCutAuto
import Derived.Lib.AppendZeros
import Derived.BigRegion
import Derived.ChangeAlike
import Derived.Deep.RegionLaw
import Derived.Deep.RegionHeld3
import Derived.MapKept
import Derived.Laws.StructEq
import Derived.Test.YtebeekjcepjcnaaDoorSBase
import Derived.Test.YtebeekjcepjcnaaDoorSMem
import Derived.Test.YtebeekjcepjcnaaDoorSCsum
import Derived.Test.YtebeekjcepjcnaaDoorSSum
import Derived.Test.YtebeekjcepjcnaaDoorSRegion
import Derived.Test.YtebeekjcepjcnaaDoorSWalk
import Derived.Test.YtebeekjcepjcnaaDoorSStep
import Derived.Test.YtebeekjcepjcnaaDoorSStepb
import Derived.Test.YtebeekjcepjcnaaDoorSRefa
import Derived.Test.YtebeekjcepjcnaaDoorSConcat
import Derived.Test.YtebeekjcepjcnaaDoorSPkt
import Derived.Test.YtebeekjcepjcnaaDoorSRopts
import Derived.Test.YtebeekjcepjcnaaDoorSRnum
import Derived.Test.YtebeekjcepjcnaaDoorSTcpw
import Derived.Test.YtebeekjcepjcnaaDoorSIcmpr
import Derived.Test.YtebeekjcepjcnaaDoorSIprd
import Derived.Test.YtebeekjcepjcnaaDoorSIpre
import Derived.Test.YtebeekjcepjcnaaDoorSTcprd
import Derived.Test.YtebeekjcepjcnaaDoorSUdprd
import Derived.Test.YtebeekjcepjcnaaDoorSEq
import Derived.Test.YtebeekjcepjcnaaDoorSPktm
import Derived.Test.YtebeekjcepjcnaaDoorSPktn
import Derived.Test.YtebeekjcepjcnaaDoorSRat
import Derived.Test.YtebeekjcepjcnaaDoorSRefc
import Derived.Test.YtebeekjcepjcnaaDoorSRefe
import Derived.Test.YtebeekjcepjcnaaDoorSRtcp
namespace Go.Proofs.YtebeekjcepjcnaaDoor
open Go.RowKit
def fcC (f : Facts) : Array Value := #[.int .u8 f.key.proto, .int .u32 f.key.src, .int .u32 f.key.dst, .int .u16 f.key.sp, .int .u16 f.key.dp, .int .u8 f.kind, .int .u8 f.flags, .int .u8 f.type, .int .u8 f.code, .int .u32 f.seqn, .int .u32 f.ackn, .int .i64 f.window, .int .i64 f.length,
  .int .u8 f.quoted.proto, .int .u32 f.quoted.src, .int .u32 f.quoted.dst, .int .u16 f.quoted.sp, .int .u16 f.quoted.dp, .int .u8 f.qkind]
/-- What segment, datagram and message return: facts and a reason. -/
def SegOut (w : World) (E : Int) (F : Facts) (e : Ending) (W : World) : Prop := ∃ G : Facts, e = .returned (.tuple #[.agg (fcC G), .int .u8 (reasonOf E)]) ∧ (E = 0 → G = F) ∧ Below w.heap.size w W
theorem tcpE_val (d : List Int) : tcpE d = 80 ∨ tcpE d = 81 ∨ tcpE d = 82 ∨ tcpE d = 83 ∨ tcpE d = 0 := by
  unfold tcpE
  repeat' split
  all_goals simp
theorem udpE_val (d : List Int) : udpE d = 90 ∨ udpE d = 91 ∨ udpE d = 92 ∨ udpE d = 0 := by
  unfold udpE
  repeat' split
  all_goals simp
set_option maxRecDepth 100000 in
set_option maxHeartbeats 8000000 in
theorem rSegment_any (p s d : Int) (A : Option Addr) (cap n : Nat) (xs : List Int) (w : World) (hn : xs.length = n) (hcap : n ≤ cap) (hl : n ≤ 1000000) (hB : Byt xs) (hr : Rd w w.heap.size A .u8 xs) :
    Calls Tryd.prog 93 #[(baseK p s d).val, .slice A n cap] w (SegOut w (tcpE xs) (tcpF (baseK p s d) xs)) := by
  have HT := Lib.hid (fun (W : World) (h : Below w.heap.size w W) => r08Read_any A cap n xs W hn hcap hl hB (hr.belows h (Nat.le_refl _)))
  have HO := Lib.hid (fun e w W h => TcpOut.open_ (w := w) (W := W) (d := xs) (e := e) h hB)
  have HF := Lib.hid (show tcpF (baseK p s d) xs = ⟨⟨p, s, d, w16At xs 0, w16At xs 2⟩, 1, xs.getD 13 0 % 64, 0, 0, l32At xs 4, l32At xs 8, w16At xs 14, xs.length - tcpSize xs, ⟨0, 0, 0, 0, 0⟩, 0⟩ from rfl)
  have HN := Lib.hid hn
  have HEv := tcpE_val xs
  have HS := Lib.hid (fun E F e W => (Iff.rfl : SegOut w E F e W ↔ SegOut w E F e W))
  rw [show (baseK p s d).val = .agg #[.int .u8 p, .int .u32 s, .int .u32 d, .int .u16 0, .int .u16 0, .int .u8 0, .int .u8 0, .int .u8 0, .int .u8 0, .int .u32 0, .int .u32 0, .int .i64 0, .int .i64 0, .int .u8 0, .int .u32 0, .int .u32 0, .int .u16 0, .int .u16 0, .int .u8 0] from rfl]
  clear hr hB hn HS
  generalize tcpE xs = E at *
  go_enter Tryd.func93, Tryd.ntmps93
  go_upto_region 1 with (first | ((with_reducible refine look_store ?_); refine wpList_store_new rfl _ _ _ rfl _ _ rfl rfl _ _ rfl (by kernel_rfl) (by simp) (by simp [Value.oneCell']) ?_) | fail)
  refine wp_name2 ?_
  intro w1 hb1 hs1 bf br
  have HT1 := Lib.hid (HT.out w1 hb1)
  clear HT
  go_wp2_with fail
  refine HT1.out.mono ?_
  intro e w2 hto
  obtain ⟨a0, a1, a2, a3, a4, a5, a6, v, T, rfl, l1, h4, h5, hT, hv, hEq⟩ := HO.out _ _ _ hto
  have HEq := Lib.hid hEq
  have bf2 := bf.below l1 bf.lt
  have br2 := br.below l1 br.lt
  have hb2 := hb1.trans (l1.mono hb1.size)
  clear hto hEq bf br hb1 hs1 l1
  go_upto_region 2 with (first | ((with_reducible refine look_store ?_); refine wpList_store_new rfl _ _ _ rfl _ _ rfl rfl _ _ rfl (by kernel_rfl) (by simp) (by simp [oneC_int, hv]) ?_) | fail)
  refine wp_name1 ?_
  intro w3 hb3 hs3 bh
  have bf := bf2.below hb3 bf2.lt
  have br := br2.below hb3 br2.lt
  have hbW := hb2.trans (hb3.mono hb2.size)
  have hz2 : w.heap.size + 1 < w2.heap.size := br2.lt
  have hz3 := hb3.size
  clear bf2 br2 hb2 hb3
  rcases HEv with rfl | rfl | rfl | rfl | rfl
  · go_wp2_with (first | ((with_reducible refine look_load ?_); refine wpList_load_row rfl _ _ rfl _ rfl _ _ _ _ bf Tryd.underlying27 rfl (by kernel_rfl) ?_) | ((with_reducible refine look_store ?_); refine wpList_store_row rfl _ _ _ rfl _ _ rfl rfl _ _ br (by kernel_rfl) (by simp) (by simp [Value.oneCell']) ?_) | fail)
    exact bodyPost_ret (results_cell_tmp Tryd.results93 _ _ _ _ _ _ _ rfl (setRow_heap _ _ _ _ _ _ br) Tryd.underlying27 rfl (by kernel_rfl)) rfl ⟨baseK p s d, rfl, fun h => absurd h (by decide), below_setRow hbW (by omega) _⟩
  · go_wp2_with (first | ((with_reducible refine look_load ?_); refine wpList_load_row rfl _ _ rfl _ rfl _ _ _ _ bf Tryd.underlying27 rfl (by kernel_rfl) ?_) | ((with_reducible refine look_store ?_); refine wpList_store_row rfl _ _ _ rfl _ _ rfl rfl _ _ br (by kernel_rfl) (by simp) (by simp [Value.oneCell']) ?_) | fail)
    exact bodyPost_ret (results_cell_tmp Tryd.results93 _ _ _ _ _ _ _ rfl (setRow_heap _ _ _ _ _ _ br) Tryd.underlying27 rfl (by kernel_rfl)) rfl ⟨baseK p s d, rfl, fun h => absurd h (by decide), below_setRow hbW (by omega) _⟩
  · go_wp2_with (first | ((with_reducible refine look_load ?_); refine wpList_load_row rfl _ _ rfl _ rfl _ _ _ _ bf Tryd.underlying27 rfl (by kernel_rfl) ?_) | ((with_reducible refine look_store ?_); refine wpList_store_row rfl _ _ _ rfl _ _ rfl rfl _ _ br (by kernel_rfl) (by simp) (by simp [Value.oneCell']) ?_) | fail)
    exact bodyPost_ret (results_cell_tmp Tryd.results93 _ _ _ _ _ _ _ rfl (setRow_heap _ _ _ _ _ _ br) Tryd.underlying27 rfl (by kernel_rfl)) rfl ⟨baseK p s d, rfl, fun h => absurd h (by decide), below_setRow hbW (by omega) _⟩
  · go_wp2_with (first | ((with_reducible refine look_load ?_); refine wpList_load_row rfl _ _ rfl _ rfl _ _ _ _ bf Tryd.underlying27 rfl (by kernel_rfl) ?_) | ((with_reducible refine look_store ?_); refine wpList_store_row rfl _ _ _ rfl _ _ rfl rfl _ _ br (by kernel_rfl) (by simp) (by simp [Value.oneCell']) ?_) | fail)
    exact bodyPost_ret (results_cell_tmp Tryd.results93 _ _ _ _ _ _ _ rfl (setRow_heap _ _ _ _ _ _ br) Tryd.underlying27 rfl (by kernel_rfl)) rfl ⟨baseK p s d, rfl, fun h => absurd h (by decide), below_setRow hbW (by omega) _⟩
  obtain ⟨rfl, rfl, rfl, rfl, rfl, rfl, rfl⟩ := HEq.out rfl
  go_wp2_with fail
  generalize w16At xs 0 = a0 at *
  generalize w16At xs 2 = a1 at *
  generalize l32At xs 4 = a2 at *
  generalize l32At xs 8 = a3 at *
  generalize xs.getD 13 0 = a4 at *
  generalize w16At xs 14 = a5 at *
  generalize tcpSize xs = T at *
  have hS0 : St w w.heap.size [(w2.heap.size, 146, #[.int .u16 a0, .int .u16 a1, .int .u32 a2, .int .u32 a3, .int .u8 a4, .int .u16 a5, .int .u16 a6, v]), (w.heap.size + 1, 27, #[.int .u8 0, .int .u32 0, .int .u32 0, .int .u16 0, .int .u16 0, .int .u8 0, .int .u8 0, .int .u8 0, .int .u8 0, .int .u32 0, .int .u32 0, .int .i64 0, .int .i64 0, .int .u8 0, .int .u32 0, .int .u32 0, .int .u16 0, .int .u16 0, .int .u8 0])] w3 := ((St.nil hbW hbW.size).cons br).cons bh
  have hS : StN w w.heap.size _ w.heap.size 27 (fun c => fcC (pkT p s d (a4 % 64) a2 a3 a5 (n - T) a0 a1 c)) 0 w3 := ⟨hS0, Nat.le_refl _, by simp; omega, bf⟩
  clear hS0 bh bf br hbW
  refine wp_region_walk0 (by kernel_rfl) (StN w w.heap.size _ w.heap.size 27 (fun c => fcC (pkT p s d (a4 % 64) a2 a3 a5 (n - T) a0 a1 c))) [15, 17, 19, 21, 23, 25] GTop [0, 1, 2, 3, 4, 5, 6, 7, 8, 9, 10, 11, 12, 13, 14, 15, 16, 17, 18, 19, 20, 21, 22, 23, 24, 25] (by kernel_rfl) hS.drew ?_
  iterate 15
    apply Walk.one rfl rfl rfl
    case hrun =>
      intro c W hE hF
      have hh := hE.1.get 0 rfl
      have hc4 := hh.cell 4
      have hc2 := hh.cell 2
      have hc3 := hh.cell 3
      have hc5 := hh.cell 5
      go_wp2_with fail
      exact TextPost.mk ⟨GTop.mk, hE⟩
    case hv => rfl
  apply Walk.keep 0 rfl rfl rfl rfl
  case hrun =>
    intro W hE hF
    have hcx : W.cell? ⟨w.heap.size, 5, none⟩ = some (.int .u8 0) := hE.2.2.2.cell 5
    have hfx := hE.2.2.2.frozen 5
    go_wp2_with fail
    exact TextPost.mk ⟨GTop.mk, hE.set 5 _ rfl⟩
  case hv => rfl
  apply Walk.one rfl rfl rfl
  case hrun =>
    intro c W hE hF
    go_wp2_with fail
    exact TextPost.mk ⟨GTop.mk, hE⟩
  case hv => rfl
  apply Walk.keep 1 rfl rfl rfl rfl
  case hrun =>
    intro W hE hF
    have hcx : W.cell? ⟨w.heap.size, 6, none⟩ = some (.int .u8 0) := hE.2.2.2.cell 6
    have hfx := hE.2.2.2.frozen 6
    go_wp2_with fail
    exact TextPost.mk ⟨GTop.mk, hE.set 6 _ rfl⟩
  case hv => rfl
  apply Walk.one rfl rfl rfl
  case hrun =>
    intro c W hE hF
    go_wp2_with fail
    exact TextPost.mk ⟨GTop.mk, hE⟩
  case hv => rfl
  apply Walk.keep 2 rfl rfl rfl rfl
  case hrun =>
    intro W hE hF
    have hcx : W.cell? ⟨w.heap.size, 9, none⟩ = some (.int .u32 0) := hE.2.2.2.cell 9
    have hfx := hE.2.2.2.frozen 9
    go_wp2_with fail
    exact TextPost.mk ⟨GTop.mk, hE.set 9 _ rfl⟩
  case hv => rfl
  apply Walk.one rfl rfl rfl
  case hrun =>
    intro c W hE hF
    go_wp2_with fail
    exact TextPost.mk ⟨GTop.mk, hE⟩
  case hv => rfl
  apply Walk.keep 3 rfl rfl rfl rfl
  case hrun =>
    intro W hE hF
    have hcx : W.cell? ⟨w.heap.size, 10, none⟩ = some (.int .u32 0) := hE.2.2.2.cell 10
    have hfx := hE.2.2.2.frozen 10
    go_wp2_with fail
    exact TextPost.mk ⟨GTop.mk, hE.set 10 _ rfl⟩
  case hv => rfl
  apply Walk.one rfl rfl rfl
  case hrun =>
    intro c W hE hF
    go_wp2_with fail
    exact TextPost.mk ⟨GTop.mk, hE⟩
  case hv => rfl
  apply Walk.keep 4 rfl rfl rfl rfl
  case hrun =>
    intro W hE hF
    have hcx : W.cell? ⟨w.heap.size, 11, none⟩ = some (.int .i64 0) := hE.2.2.2.cell 11
    have hfx := hE.2.2.2.frozen 11
    go_wp2_with fail
    exact TextPost.mk ⟨GTop.mk, hE.set 11 _ rfl⟩
  case hv => rfl
  apply Walk.one rfl rfl rfl
  case hrun =>
    intro c W hE hF
    go_wp2_with fail
    exact TextPost.mk ⟨GTop.mk, hE⟩
  case hv => rfl
  apply Walk.keep 5 rfl rfl rfl rfl
  case hrun =>
    intro W hE hF
    have hcx : W.cell? ⟨w.heap.size, 12, none⟩ = some (.int .i64 0) := hE.2.2.2.cell 12
    have hfx := hE.2.2.2.frozen 12
    go_wp2_with fail
    exact TextPost.mk ⟨GTop.mk, hE.set 12 _ rfl⟩
  case hv => rfl
  refine Walk.done (fun W hE hF => ?_)
  have hS4 : StN w w.heap.size [(w2.heap.size, 146, #[.int .u16 a0, .int .u16 a1, .int .u32 a2, .int .u32 a3, .int .u8 a4, .int .u16 a5, .int .u16 a6, v]), (w.heap.size + 1, 27, #[.int .u8 0, .int .u32 0, .int .u32 0, .int .u16 0, .int .u16 0, .int .u8 0, .int .u8 0, .int .u8 0, .int .u8 0, .int .u32 0, .int .u32 0, .int .i64 0, .int .i64 0, .int .u8 0, .int .u32 0, .int .u32 0, .int .u16 0, .int .u16 0, .int .u8 0])] w.heap.size 27 (fun c => fcC (pkT p s d (a4 % 64) a2 a3 a5 (n - T) a0 a1 (c + 6))) 0 W := hE
  clear hE hF hS
  go_wp2_with fail
  refine wp_region_walk0 (by kernel_rfl) (StN w w.heap.size _ w.heap.size 27 (fun c => fcC (pkT p s d (a4 % 64) a2 a3 a5 (n - T) a0 a1 (c + 6)))) [6, 9] GTop [0, 1, 2, 3, 4, 5, 6, 7, 8, 9] (by kernel_rfl) hS4.drew ?_
  iterate 6
    apply Walk.one rfl rfl rfl
    case hrun =>
      intro c W hE hF
      have hh := hE.1.get 0 rfl
      have hc0 := hh.cell 0
      have hc1 := hh.cell 1
      go_wp2_with fail
      exact TextPost.mk ⟨GTop.mk, hE⟩
    case hv => rfl
  apply Walk.keep 0 rfl rfl rfl rfl
  case hrun =>
    intro W hE hF
    have hcx : W.cell? ⟨w.heap.size, 3, none⟩ = some (.int .u16 0) := hE.2.2.2.cell 3
    have hfx := hE.2.2.2.frozen 3
    go_wp2_with fail
    exact TextPost.mk ⟨GTop.mk, hE.set 3 _ rfl⟩
  case hv => rfl
  iterate 2
    apply Walk.one rfl rfl rfl
    case hrun =>
      intro c W hE hF
      go_wp2_with fail
      exact TextPost.mk ⟨GTop.mk, hE⟩
    case hv => rfl
  apply Walk.keep 1 rfl rfl rfl rfl
  case hrun =>
    intro W hE hF
    have hcx : W.cell? ⟨w.heap.size, 4, none⟩ = some (.int .u16 0) := hE.2.2.2.cell 4
    have hfx := hE.2.2.2.frozen 4
    go_wp2_with fail
    exact TextPost.mk ⟨GTop.mk, hE.set 4 _ rfl⟩
  case hv => rfl
  refine Walk.done (fun W hE hF => ?_)
  have hbW := hE.1.1
  have bf : Blk W w.heap.size 27 #[.int .u8 p, .int .u32 s, .int .u32 d, .int .u16 a0, .int .u16 a1, .int .u8 1, .int .u8 (a4 % 64), .int .u8 0, .int .u8 0, .int .u32 a2, .int .u32 a3, .int .i64 a5, .int .i64 (n - T), .int .u8 0, .int .u32 0, .int .u32 0, .int .u16 0, .int .u16 0, .int .u8 0] := hE.2.2.2
  have br := hE.1.get 1 rfl
  clear hE hF hS4
  go_wp2_with (first | ((with_reducible refine look_load ?_); refine wpList_load_row rfl _ _ rfl _ rfl _ _ _ _ bf Tryd.underlying27 rfl (by kernel_rfl) ?_) | ((with_reducible refine look_store ?_); refine wpList_store_row rfl _ _ _ rfl _ _ rfl rfl _ _ br (by kernel_rfl) (by simp) (by simp [Value.oneCell']) ?_) | fail)
  exact bodyPost_ret (results_cell_tmp Tryd.results93 _ _ _ _ _ _ _ rfl (setRow_heap _ _ _ _ _ _ br) Tryd.underlying27 rfl (by kernel_rfl)) rfl ⟨_, rfl, fun _ => by rw [HF.out, HN.out], below_setRow hbW (by omega) _⟩

set_option maxRecDepth 100000 in
set_option maxHeartbeats 8000000 in
theorem rDatagram_any (p s d : Int) (A : Option Addr) (cap n : Nat) (xs : List Int) (w : World) (hn : xs.length = n) (hl : n ≤ 1000000) (hB : Byt xs) (hr : Rd w w.heap.size A .u8 xs) :
    Calls Tryd.prog 94 #[(baseK p s d).val, .slice A n cap] w (SegOut w (udpE2 xs) (udpF (baseK p s d) xs)) := by
  have HT := Lib.hid (fun (W : World) (h : Below w.heap.size w W) => r09Read_any A cap n xs W hn hl hB (hr.belows h (Nat.le_refl _)))
  have HO := Lib.hid (fun e w W h => UdpOut.open_ (w := w) (W := W) (d := xs) (e := e) h hB)
  have HF := Lib.hid (show udpF (baseK p s d) xs = ⟨⟨p, s, d, w16At xs 0, w16At xs 2⟩, 2, 0, 0, 0, 0, 0, 0, w16At xs 4 - 8, ⟨0, 0, 0, 0, 0⟩, 0⟩ from rfl)
  have HEv := udpE_val xs
  have HE2 := Lib.hid (show udpE2 xs = if udpE xs ≠ 0 then udpE xs else if w16At xs 0 = 0 then 92 else 0 from rfl)
  rw [show (baseK p s d).val = .agg #[.int .u8 p, .int .u32 s, .int .u32 d, .int .u16 0, .int .u16 0, .int .u8 0, .int .u8 0, .int .u8 0, .int .u8 0, .int .u32 0, .int .u32 0, .int .i64 0, .int .i64 0, .int .u8 0, .int .u32 0, .int .u32 0, .int .u16 0, .int .u16 0, .int .u8 0] from rfl]
  clear hr hB hn
  generalize udpE2 xs = E2 at *
  generalize udpE xs = E at *
  go_enter Tryd.func94, Tryd.ntmps94
  go_upto_region 1 with (first | ((with_reducible refine look_store ?_); refine wpList_store_new rfl _ _ _ rfl _ _ rfl rfl _ _ rfl (by kernel_rfl) (by simp) (by simp [Value.oneCell']) ?_) | fail)
  refine wp_name2 ?_
  intro w1 hb1 hs1 bf br
  have HT1 := Lib.hid (HT.out w1 hb1)
  clear HT
  go_wp2_with fail
  refine HT1.out.mono ?_
  intro e w2 hto
  obtain ⟨a0, a1, b2, T, rfl, l1, hT, hEq⟩ := HO.out _ _ _ hto
  have HEq := Lib.hid hEq
  have bf2 := bf.below l1 bf.lt
  have br2 := br.below l1 br.lt
  have hb2 := hb1.trans (l1.mono hb1.size)
  clear hto hEq bf br hb1 hs1 l1
  go_upto_region 2 with (first | ((with_reducible refine look_store ?_); refine wpList_store_new rfl _ _ _ rfl _ _ rfl rfl _ _ rfl (by kernel_rfl) (by simp) (by simp [Value.oneCell']) ?_) | fail)
  refine wp_name1 ?_
  intro w3 hb3 hs3 bh
  have bf := bf2.below hb3 bf2.lt
  have br := br2.below hb3 br2.lt
  have hbW := hb2.trans (hb3.mono hb2.size)
  have hz2 : w.heap.size + 1 < w2.heap.size := br2.lt
  have hz3 := hb3.size
  clear bf2 br2 hb2 hb3
  have hc0 := bh.cell 0
  rcases HEv with rfl | rfl | rfl | rfl
  · have HX := Lib.hid (HE2.out.trans (if_pos (by decide)))
    clear hc0
    go_wp2_with (first | ((with_reducible refine look_load ?_); refine wpList_load_row rfl _ _ rfl _ rfl _ _ _ _ bf Tryd.underlying27 rfl (by kernel_rfl) ?_) | ((with_reducible refine look_store ?_); refine wpList_store_row rfl _ _ _ rfl _ _ rfl rfl _ _ br (by kernel_rfl) (by simp) (by simp [Value.oneCell']) ?_) | fail)
    exact bodyPost_ret (results_cell_tmp Tryd.results94 _ _ _ _ _ _ _ rfl (setRow_heap _ _ _ _ _ _ br) Tryd.underlying27 rfl (by kernel_rfl)) rfl ⟨baseK p s d, by rw [HX.out]; rfl, fun h => absurd (HX.out ▸ h) (by decide), below_setRow hbW (by omega) _⟩
  · have HX := Lib.hid (HE2.out.trans (if_pos (by decide)))
    clear hc0
    go_wp2_with (first | ((with_reducible refine look_load ?_); refine wpList_load_row rfl _ _ rfl _ rfl _ _ _ _ bf Tryd.underlying27 rfl (by kernel_rfl) ?_) | ((with_reducible refine look_store ?_); refine wpList_store_row rfl _ _ _ rfl _ _ rfl rfl _ _ br (by kernel_rfl) (by simp) (by simp [Value.oneCell']) ?_) | fail)
    exact bodyPost_ret (results_cell_tmp Tryd.results94 _ _ _ _ _ _ _ rfl (setRow_heap _ _ _ _ _ _ br) Tryd.underlying27 rfl (by kernel_rfl)) rfl ⟨baseK p s d, by rw [HX.out]; rfl, fun h => absurd (HX.out ▸ h) (by decide), below_setRow hbW (by omega) _⟩
  · have HX := Lib.hid (HE2.out.trans (if_pos (by decide)))
    clear hc0
    go_wp2_with (first | ((with_reducible refine look_load ?_); refine wpList_load_row rfl _ _ rfl _ rfl _ _ _ _ bf Tryd.underlying27 rfl (by kernel_rfl) ?_) | ((with_reducible refine look_store ?_); refine wpList_store_row rfl _ _ _ rfl _ _ rfl rfl _ _ br (by kernel_rfl) (by simp) (by simp [Value.oneCell']) ?_) | fail)
    exact bodyPost_ret (results_cell_tmp Tryd.results94 _ _ _ _ _ _ _ rfl (setRow_heap _ _ _ _ _ _ br) Tryd.underlying27 rfl (by kernel_rfl)) rfl ⟨baseK p s d, by rw [HX.out]; rfl, fun h => absurd (HX.out ▸ h) (by decide), below_setRow hbW (by omega) _⟩
  have HX0 := Lib.hid (HE2.out.trans (if_neg (by simp)))
  obtain ⟨rfl, rfl, rfl⟩ := HEq.out rfl
  by_cases hz : w16At xs 0 = 0
  · have HX := Lib.hid (HX0.out.trans (if_pos hz))
    rw [hz] at hc0
    go_wp2_with (first | ((with_reducible refine look_load ?_); refine wpList_load_row rfl _ _ rfl _ rfl _ _ _ _ bf Tryd.underlying27 rfl (by kernel_rfl) ?_) | ((with_reducible refine look_store ?_); refine wpList_store_row rfl _ _ _ rfl _ _ rfl rfl _ _ br (by kernel_rfl) (by simp) (by simp [Value.oneCell']) ?_) | fail)
    exact bodyPost_ret (results_cell_tmp Tryd.results94 _ _ _ _ _ _ _ rfl (setRow_heap _ _ _ _ _ _ br) Tryd.underlying27 rfl (by kernel_rfl)) rfl ⟨baseK p s d, by rw [HX.out]; rfl, fun h => absurd (HX.out ▸ h) (by decide), below_setRow hbW (by omega) _⟩
  have HX := Lib.hid (HX0.out.trans (if_neg hz))
  have ez : (w16At xs 0 == 0) = false := by simpa using hz
  generalize w16At xs 0 = a0 at *
  generalize w16At xs 2 = a1 at *
  generalize w16At xs 4 = T at *
  have hk5 : w3.cell? ⟨w.heap.size, 5, none⟩ = some (.int .u8 0) := bf.cell 5
  have hf5 := bf.frozen 5
  have hk12 : w3.cell? ⟨w.heap.size, 12, none⟩ = some (.int .i64 0) := bf.cell 12
  have hf12 := bf.frozen 12
  go_wp2_with fail
  have hS0 : St w w.heap.size [(w2.heap.size, 149, #[.int .u16 a0, .int .u16 a1, .bool b2]), (w.heap.size + 1, 27, #[.int .u8 0, .int .u32 0, .int .u32 0, .int .u16 0, .int .u16 0, .int .u8 0, .int .u8 0, .int .u8 0, .int .u8 0, .int .u32 0, .int .u32 0, .int .i64 0, .int .i64 0, .int .u8 0, .int .u32 0, .int .u32 0, .int .u16 0, .int .u16 0, .int .u8 0])] w3 := ((St.nil hbW hbW.size).cons br).cons bh
  have hS1 := (hS0.setFar (p := ⟨w.heap.size, 5, none⟩) (Nat.le_refl _) (by simp; omega) (.int .u8 2)).setFar (p := ⟨w.heap.size, 12, none⟩) (Nat.le_refl _) (by simp; omega) (.int .i64 (T - 8))
  have hB1 : Blk ((w3.setCell ⟨w.heap.size, 5, none⟩ (.int .u8 2)).setCell ⟨w.heap.size, 12, none⟩ (.int .i64 (T - 8))) w.heap.size 27 (fcC (pkU p s d (T - 8) a0 a1 2)) := (bf.set 5 _).set 12 _
  have hS : StN w w.heap.size _ w.heap.size 27 (fun c => fcC (pkU p s d (T - 8) a0 a1 (c + 2))) 0 _ := ⟨hS1, Nat.le_refl _, by simp; omega, hB1⟩
  clear hS0 hS1 hB1 bh bf br hbW hk5 hf5 hk12 hf12 hc0
  refine wp_region_walk0 (by kernel_rfl) (StN w w.heap.size _ w.heap.size 27 (fun c => fcC (pkU p s d (T - 8) a0 a1 (c + 2)))) [6, 9] GTop [0, 1, 2, 3, 4, 5, 6, 7, 8, 9] (by kernel_rfl) hS.drew ?_
  iterate 6
    apply Walk.one rfl rfl rfl
    case hrun =>
      intro c W hE hF
      have hh := hE.1.get 0 rfl
      have hc0 := hh.cell 0
      have hc1 := hh.cell 1
      go_wp2_with fail
      exact TextPost.mk ⟨GTop.mk, hE⟩
    case hv => rfl
  apply Walk.keep 0 rfl rfl rfl rfl
  case hrun =>
    intro W hE hF
    have hcx : W.cell? ⟨w.heap.size, 3, none⟩ = some (.int .u16 0) := hE.2.2.2.cell 3
    have hfx := hE.2.2.2.frozen 3
    go_wp2_with fail
    exact TextPost.mk ⟨GTop.mk, hE.set 3 _ rfl⟩
  case hv => rfl
  iterate 2
    apply Walk.one rfl rfl rfl
    case hrun =>
      intro c W hE hF
      go_wp2_with fail
      exact TextPost.mk ⟨GTop.mk, hE⟩
    case hv => rfl
  apply Walk.keep 1 rfl rfl rfl rfl
  case hrun =>
    intro W hE hF
    have hcx : W.cell? ⟨w.heap.size, 4, none⟩ = some (.int .u16 0) := hE.2.2.2.cell 4
    have hfx := hE.2.2.2.frozen 4
    go_wp2_with fail
    exact TextPost.mk ⟨GTop.mk, hE.set 4 _ rfl⟩
  case hv => rfl
  refine Walk.done (fun W hE hF => ?_)
  have hbW := hE.1.1
  have bf : Blk W w.heap.size 27 #[.int .u8 p, .int .u32 s, .int .u32 d, .int .u16 a0, .int .u16 a1, .int .u8 2, .int .u8 0, .int .u8 0, .int .u8 0, .int .u32 0, .int .u32 0, .int .i64 0, .int .i64 (T - 8), .int .u8 0, .int .u32 0, .int .u32 0, .int .u16 0, .int .u16 0, .int .u8 0] := hE.2.2.2
  have br := hE.1.get 1 rfl
  clear hE hF hS
  go_wp2_with (first | ((with_reducible refine look_load ?_); refine wpList_load_row rfl _ _ rfl _ rfl _ _ _ _ bf Tryd.underlying27 rfl (by kernel_rfl) ?_) | ((with_reducible refine look_store ?_); refine wpList_store_row rfl _ _ _ rfl _ _ rfl rfl _ _ br (by kernel_rfl) (by simp) (by simp [Value.oneCell']) ?_) | fail)
  exact bodyPost_ret (results_cell_tmp Tryd.results94 _ _ _ _ _ _ _ rfl (setRow_heap _ _ _ _ _ _ br) Tryd.underlying27 rfl (by kernel_rfl)) rfl ⟨⟨⟨p, s, d, a0, a1⟩, 2, 0, 0, 0, 0, 0, 0, T - 8, ⟨0, 0, 0, 0, 0⟩, 0⟩, by rw [HX.out]; rfl, fun _ => HF.out.symm, below_setRow hbW (by omega) _⟩
end Go.Proofs.YtebeekjcepjcnaaDoor
