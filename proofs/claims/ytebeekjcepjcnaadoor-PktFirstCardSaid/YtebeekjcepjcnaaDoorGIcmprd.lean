/-
  icmp.Read, whole.
  The methods tcp and udp of pkt's packet.
-/
import Derived.Test.YtebeekjcepjcnaaDoorProg
import Derived.WalkKit
import Derived.WalkSpells
import Derived.WalkLawsBesides
import Derived.WalkSmall
import Derived.Lib.Hide
import Derived.Deep.AppendLies
import Derived.Maps.AppendAt
import Derived.Laws.AppendOwnNone
import Derived.Laws.CopyOwn
import Derived.OneCell
import Derived.Lib.SliceRun
import Derived.RangeFuncNested
import Derived.RangeFuncBound
import Derived.RangeFuncCalls
import Derived.RangeFuncLeaves
import Derived.Shelf.Abstract
import Derived.OwnWalkIn
import Derived.TacticsInMore
import Derived.LoopNIn
import Derived.LoopIn
import Derived.Lib.AppendZeros
import Derived.BigRegion
import Derived.ChangeAlike
import Derived.Deep.RegionLaw
import Derived.Deep.DeepCutAuto
import Derived.Orders
import Derived.RegionTactic
import Derived.Still
import Derived.Deep.MidRow
import Derived.Deep.RegionHeld3
import Derived.MapKept
import Derived.Laws.StructEq
import Derived.Test.YtebeekjcepjcnaaDoorGBase
import Derived.Test.YtebeekjcepjcnaaDoorGBits
import Derived.Test.YtebeekjcepjcnaaDoorGCsum
import Derived.Test.YtebeekjcepjcnaaDoorGSum
import Derived.Test.YtebeekjcepjcnaaDoorGFix
import Derived.Test.YtebeekjcepjcnaaDoorGFacts
import Derived.Test.YtebeekjcepjcnaaDoorGPkt
import Derived.Test.YtebeekjcepjcnaaDoorGWalk
import Derived.Test.YtebeekjcepjcnaaDoorGStep
import Derived.Test.YtebeekjcepjcnaaDoorGTcpw
import Derived.Test.YtebeekjcepjcnaaDoorGUdpw
import Derived.Test.YtebeekjcepjcnaaDoorGData
import Derived.Test.YtebeekjcepjcnaaDoorGIprd
import Derived.Test.YtebeekjcepjcnaaDoorGIpre
import Derived.Test.YtebeekjcepjcnaaDoorGTcprd
import Derived.Test.YtebeekjcepjcnaaDoorGEq
import Derived.Test.YtebeekjcepjcnaaDoorGUdprd
namespace Go.Proofs.YtebeekjcepjcnaaDoor
open Go.RowKit
def msgN (d : List Int) : Array Value := #[.int .u8 (d.getD 0 0), .int .u8 (d.getD 1 0), .int .u16 (w16At d 4), .int .u16 (w16At d 6)]
def msgZ : Array Value := #[.int .u8 0, .int .u8 0, .int .u16 0, .int .u16 0]
set_option maxRecDepth 100000 in
set_option maxHeartbeats 2000000 in
theorem icmpReadG_any (A : Option Addr) (cap n : Nat) (xs : List Int) (w : World) (hn : xs.length = n) (hcap : n ≤ cap) (hb : Byt xs) (hr : Rd w w.heap.size A .u8 xs) (hs : SortsAt w) :
    Calls Tryd.prog 65 #[.slice A n cap] w fun e w' => e = .returned (.tuple #[.agg (if icmpE xs = 0 then msgN xs else msgZ), .int .i64 (icmpE xs)]) ∧ Below w.heap.size w w' := by
  by_cases h8 : n < 8
  · have hE : icmpE xs = 100 := by unfold icmpE; rw [if_pos (by omega)]
    rw [hE, if_neg (by decide)]
    have g1 : (n : Int) < 8 := by omega
    clear hE
    unfold msgZ
    go_enter Tryd.func65, Tryd.ntmps65
    go_wp2_with (first | ((with_reducible refine look_store ?_); refine wpList_store_new rfl _ _ _ rfl _ _ rfl rfl _ _ rfl (by kernel_rfl) (by simp) (by simp [Value.oneCell']) ?_) | fail)
    exact bodyPost_ret (results_cell_tmp Tryd.results65 _ _ _ _ _ _ _ rfl (Blk.new _ _ _) Tryd.underlying84 rfl (by kernel_rfl)) rfl ⟨rfl, (Below.refl _ _).alloc (Nat.le_refl _) _⟩
  have hE : icmpE xs = kind2 (xs.getD 0 0).toNat (xs.getD 1 0).toNat := by unfold icmpE; rw [if_neg (by omega)]
  by_cases hk : kind2 (xs.getD 0 0).toNat (xs.getD 1 0).toNat = 0
  · rw [hE, hk, if_pos rfl]
    exact icmpRead_any A cap n xs w hn (by omega) hcap hb hr hs hk
  rw [hE, if_neg hk]
  obtain ⟨b, off, rfl, hbl, hc⟩ := hr.at0 (by omega)
  have c0 := hc 0 (by omega)
  have c1 := hc 1 (by omega)
  rw [Nat.add_zero] at c0
  obtain ⟨x0, x1⟩ := hb.at_ 0
  obtain ⟨y0, y1⟩ := hb.at_ 1
  have HK := Lib.hid (fun (W : World) (h : SortsAt W) => kindI_any (xs.getD 0 0) (xs.getD 1 0) W x0 x1 y0 h)
  have Hs := Lib.hid hs
  clear hr hc hn hb hs hE
  unfold msgZ
  generalize kind1 (xs.getD 0 0).toNat (xs.getD 1 0).toNat = e1 at *
  generalize kind2 (xs.getD 0 0).toNat (xs.getD 1 0).toNat = e2 at *
  generalize xs.getD 0 0 = x at *
  generalize xs.getD 1 0 = y at *
  have hd : decide ((n : Int) < 8) = false := by simp; omega
  have he2 : (e2 == 0) = false := by simpa using hk
  have i0 : (0 : Int) < n := by omega
  have i1 : (1 : Int) < n := by omega
  clear hk
  go_enter Tryd.func65, Tryd.ntmps65
  go_wp2_with (first | ((with_reducible refine look_store ?_); refine wpList_store_new rfl _ _ _ rfl _ _ rfl rfl _ _ rfl (by kernel_rfl) (by simp) (by simp [Value.oneCell']) ?_) | fail)
  refine wp_name1 ?_
  intro w1 hb1 hs1 bR
  have hSt := (St.nil hb1 hb1.size).cons bR
  refine wp_region_walk0 (by kernel_rfl) (fun _ W => St w w.heap.size _ W) [] Grow [0, 1, 2, 3, 4, 5, 6, 7, 8, 9, 10, 11] (by kernel_rfl) hSt.drew ?_
  iterate 12
    apply Walk.one rfl rfl rfl
    case hrun =>
      intro c W hE hF
      have d0 := (hE.1.cell (p := ⟨b, off, none⟩) hbl).trans c0
      have d1 := (hE.1.cell (p := ⟨b, off + 1, none⟩) hbl).trans c1
      have Hs2 := Lib.hid (Hs.out.below hE.1 (Nat.le_refl _))
      go_wp2_with (first | (go_at_call 68; refine (HK.out _ Hs2.out).mono ?_; rintro e wk ⟨rfl, rfl⟩) | fail)
      exact TextPost.mk ⟨Grow.refl _, hE⟩
    case hv => rfl
  refine Walk.done (fun W hE hF => ?_)
  have bR2 := hE.get 0 rfl
  have hbW := hE.1
  clear hE hF hSt bR hb1 hs1
  go_wp2_with (first | ((with_reducible refine look_store ?_); refine wpList_store_row rfl _ _ _ rfl _ _ rfl rfl _ _ bR2 (by kernel_rfl) (by simp) (by simp [Value.oneCell']) ?_) | fail)
  exact bodyPost_ret (results_cell_tmp Tryd.results65 _ _ _ _ _ _ _ rfl (setRow_heap _ _ _ _ _ _ bR2) Tryd.underlying84 rfl (by kernel_rfl)) rfl ⟨rfl, below_setRow hbW (Nat.le_refl _) _⟩
end Go.Proofs.YtebeekjcepjcnaaDoor
namespace Go.Proofs.YtebeekjcepjcnaaDoor
open Go.RowKit
def pkC (sl : Value) (f : Facts) : Array Value := #[sl, .int .u8 f.key.proto, .int .u32 f.key.src, .int .u32 f.key.dst, .int .u16 f.key.sp, .int .u16 f.key.dp, .int .u8 f.kind, .int .u8 f.flags, .int .u8 f.type, .int .u8 f.code, .int .u32 f.seqn, .int .u32 f.ackn, .int .i64 f.window, .int .i64 f.length,
  .int .u8 f.quoted.proto, .int .u32 f.quoted.src, .int .u32 f.quoted.dst, .int .u16 f.quoted.sp, .int .u16 f.quoted.dp, .int .u8 f.qkind]
theorem pkC_0 (sl : Value) (f : Facts) : (pkC sl f)[0]? = some sl := rfl
def baseK (p s d : Int) : Facts := { Facts.zero with key := ⟨p, s, d, 0, 0⟩ }
def pkT (p s d fl sq ak wi le a b : Int) : Nat → Facts
  | 0 => ⟨⟨p, s, d, 0, 0⟩, 0, 0, 0, 0, 0, 0, 0, 0, ⟨0, 0, 0, 0, 0⟩, 0⟩
  | 1 => ⟨⟨p, s, d, 0, 0⟩, 1, 0, 0, 0, 0, 0, 0, 0, ⟨0, 0, 0, 0, 0⟩, 0⟩
  | 2 => ⟨⟨p, s, d, 0, 0⟩, 1, fl, 0, 0, 0, 0, 0, 0, ⟨0, 0, 0, 0, 0⟩, 0⟩
  | 3 => ⟨⟨p, s, d, 0, 0⟩, 1, fl, 0, 0, sq, 0, 0, 0, ⟨0, 0, 0, 0, 0⟩, 0⟩
  | 4 => ⟨⟨p, s, d, 0, 0⟩, 1, fl, 0, 0, sq, ak, 0, 0, ⟨0, 0, 0, 0, 0⟩, 0⟩
  | 5 => ⟨⟨p, s, d, 0, 0⟩, 1, fl, 0, 0, sq, ak, wi, 0, ⟨0, 0, 0, 0, 0⟩, 0⟩
  | 6 => ⟨⟨p, s, d, 0, 0⟩, 1, fl, 0, 0, sq, ak, wi, le, ⟨0, 0, 0, 0, 0⟩, 0⟩
  | 7 => ⟨⟨p, s, d, a, 0⟩, 1, fl, 0, 0, sq, ak, wi, le, ⟨0, 0, 0, 0, 0⟩, 0⟩
  | _ => ⟨⟨p, s, d, a, b⟩, 1, fl, 0, 0, sq, ak, wi, le, ⟨0, 0, 0, 0, 0⟩, 0⟩
def pkU (p s d le a b : Int) : Nat → Facts
  | 0 => ⟨⟨p, s, d, 0, 0⟩, 0, 0, 0, 0, 0, 0, 0, 0, ⟨0, 0, 0, 0, 0⟩, 0⟩
  | 1 => ⟨⟨p, s, d, 0, 0⟩, 2, 0, 0, 0, 0, 0, 0, 0, ⟨0, 0, 0, 0, 0⟩, 0⟩
  | 2 => ⟨⟨p, s, d, 0, 0⟩, 2, 0, 0, 0, 0, 0, 0, le, ⟨0, 0, 0, 0, 0⟩, 0⟩
  | 3 => ⟨⟨p, s, d, a, 0⟩, 2, 0, 0, 0, 0, 0, 0, le, ⟨0, 0, 0, 0, 0⟩, 0⟩
  | _ => ⟨⟨p, s, d, a, b⟩, 2, 0, 0, 0, 0, 0, 0, le, ⟨0, 0, 0, 0, 0⟩, 0⟩
theorem tcpE_cases (d : List Int) (h : tcpE d = 0) : 20 ≤ tcpSize d ∧ tcpSize d ≤ d.length := by
  unfold tcpE at h
  split at h
  · omega
  split at h
  · omega
  omega
theorem TcpOut.open_ {w W : World} {d : List Int} {e : Ending} (h : TcpOut w d e W) (hB : Byt d) : ∃ a0 a1 a2 a3 a4 a5 a6 v T, e = .returned (.tuple #[.agg #[.int .u16 a0, .int .u16 a1, .int .u32 a2, .int .u32 a3, .int .u8 a4, .int .u16 a5, .int .u16 a6, v], .int .i64 T, .int .i64 (tcpE d)]) ∧ Below w.heap.size w W ∧ (0 ≤ a4 ∧ a4 < 256) ∧ (0 ≤ a5 ∧ a5 < 65536) ∧ (0 ≤ T ∧ T ≤ 60) ∧ v.oneCell' = true ∧
    (tcpE d = 0 → a0 = w16At d 0 ∧ a1 = w16At d 2 ∧ a2 = l32At d 4 ∧ a3 = l32At d 8 ∧ a4 = d.getD 13 0 ∧ a5 = w16At d 14 ∧ T = tcpSize d) := by
  obtain ⟨v, hv, he, hb⟩ := h
  by_cases h0 : tcpE d = 0
  · rw [if_pos h0, if_pos h0] at he
    have h1 := hB.at_ 13
    have h2 := w16At_bd hB 14
    have h3 := tcpE_cases d h0
    have h4 := hB.at_ 12
    exact ⟨_, _, _, _, _, _, _, v, _, he, hb, h1, h2, ⟨by omega, by unfold tcpSize; omega⟩, hv, fun _ => ⟨rfl, rfl, rfl, rfl, rfl, rfl, rfl⟩⟩
  · rw [if_neg h0, if_neg h0] at he
    exact ⟨_, _, _, _, _, _, _, _, _, he, hb, by omega, by omega, by omega, rfl, fun h => absurd h h0⟩
set_option maxRecDepth 100000 in
set_option maxHeartbeats 8000000 in
theorem pktTcp_any (p s d : Int) (A : Option Addr) (cap n : Nat) (xs : List Int) (g : Nat) (w : World) (hn : xs.length = n) (hcap : n ≤ cap) (hl : n ≤ 1000000) (hB : Byt xs) (hr : Rd w g A .u8 xs) (hb : Blk w g 117 (pkC (.slice A n cap) (baseK p s d))) :
    Calls Tryd.prog 57 #[.pointer (some ⟨g, 0, none⟩)] w fun e W' => e = .returned (.int .i64 (tcpE xs)) ∧ Below g w W' ∧ w.heap.size ≤ W'.heap.size ∧ (tcpE xs = 0 → Blk W' g 117 (pkC (.slice A n cap) (tcpF (baseK p s d) xs))) := by
  have HT := Lib.hid (tcpRead_any A cap n xs w hn hcap hl hB (hr.more (Nat.le_of_lt hb.lt)))
  have HO := Lib.hid (fun e W h => TcpOut.open_ (w := w) (W := W) (d := xs) (e := e) h hB)
  have HF := Lib.hid (show tcpF (baseK p s d) xs = ⟨⟨p, s, d, w16At xs 0, w16At xs 2⟩, 1, xs.getD 13 0 % 64, 0, 0, l32At xs 4, l32At xs 8, w16At xs 14, xs.length - tcpSize xs, ⟨0, 0, 0, 0, 0⟩, 0⟩ from rfl)
  have HN := Lib.hid hn
  have hb0 : w.cell? ⟨g, 0, none⟩ = some (.slice A n cap) := hb.cell 0
  have hgl := hb.lt
  clear hr hB hn
  generalize tcpE xs = E at *
  go_enter Tryd.func57, Tryd.ntmps57
  go_wp2_with fail
  refine HT.out.mono ?_
  intro e w1 hto
  obtain ⟨a0, a1, a2, a3, a4, a5, a6, v, T, rfl, l1, h4, h5, hT, hv, hEq⟩ := HO.out _ _ hto
  have HEq := Lib.hid hEq
  have b1 := hb.below l1 hgl
  have b10 : w1.cell? ⟨g, 0, none⟩ = some (.slice A n cap) := b1.cell 0
  have h63 := and_u8_63 a4 h4.1 h4.2
  clear hto hEq hb0
  have hz1 := l1.size
  go_upto_region 3 with (first | ((with_reducible refine look_store ?_); refine wpList_store_new rfl _ _ _ rfl _ _ rfl rfl _ _ rfl (by kernel_rfl) (by simp) (by simp [oneC_int, hv]) ?_) | fail)
  refine wp_name1 ?_
  intro w2 hb2 hs2 bh
  have hS0 : St w g [(w1.heap.size, 164, #[.int .u16 a0, .int .u16 a1, .int .u32 a2, .int .u32 a3, .int .u8 a4, .int .u16 a5, .int .u16 a6, v])] w2 := (St.nil ((l1.mono (Nat.le_of_lt hgl)).trans (hb2.mono (by omega))) (by omega)).cons bh
  have hS : StN w g [(w1.heap.size, 164, #[.int .u16 a0, .int .u16 a1, .int .u32 a2, .int .u32 a3, .int .u8 a4, .int .u16 a5, .int .u16 a6, v])] g 117 (fun c => pkC (.slice A n cap) (pkT p s d (a4 % 64) a2 a3 a5 (n - T) a0 a1 c)) 0 w2 := ⟨hS0, Nat.le_refl _, by simp; omega, b1.below hb2 (by omega)⟩
  clear hS0 bh b1 b10 hb2
  refine wp_region_walk0 (by kernel_rfl) (StN w g _ g 117 (fun c => pkC (.slice A n cap) (pkT p s d (a4 % 64) a2 a3 a5 (n - T) a0 a1 c))) [25, 28, 31, 34, 37, 40] GTop [0, 1, 2, 3, 4, 5, 6, 7, 8, 9, 10, 11, 12, 13, 14, 15, 16, 17, 18, 19, 20, 21, 22, 23, 24, 25, 26, 27, 28, 29, 30, 31, 32, 33, 34, 35, 36, 37, 38, 39, 40] (by kernel_rfl) hS.drew ?_
  iterate 25
    apply Walk.one rfl rfl rfl
    case hrun =>
      intro c W hE hF
      have hsl := (hE.2.2.2.cell 0).trans (pkC_0 _ _)
      have hh := hE.1.get 0 rfl
      have hc4 := hh.cell 4
      have hc2 := hh.cell 2
      have hc3 := hh.cell 3
      have hc5 := hh.cell 5
      go_wp2_with fail
      exact TextPost.mk ⟨GTop.mk, hE⟩
    case hv => rfl
  apply Walk.keep 0 rfl rfl rfl rfl
  case hrun =>
    intro W hE hF
    have hcx : W.cell? ⟨g, 6, none⟩ = some (.int .u8 0) := hE.2.2.2.cell 6
    have hfx := hE.2.2.2.frozen 6
    go_wp2_with fail
    exact TextPost.mk ⟨GTop.mk, hE.set 6 _ rfl⟩
  case hv => rfl
  iterate 2
    apply Walk.one rfl rfl rfl
    case hrun =>
      intro c W hE hF
      have hsl := (hE.2.2.2.cell 0).trans (pkC_0 _ _)
      go_wp2_with fail
      exact TextPost.mk ⟨GTop.mk, hE⟩
    case hv => rfl
  apply Walk.keep 1 rfl rfl rfl rfl
  case hrun =>
    intro W hE hF
    have hcx : W.cell? ⟨g, 7, none⟩ = some (.int .u8 0) := hE.2.2.2.cell 7
    have hfx := hE.2.2.2.frozen 7
    go_wp2_with fail
    exact TextPost.mk ⟨GTop.mk, hE.set 7 _ rfl⟩
  case hv => rfl
  iterate 2
    apply Walk.one rfl rfl rfl
    case hrun =>
      intro c W hE hF
      have hsl := (hE.2.2.2.cell 0).trans (pkC_0 _ _)
      go_wp2_with fail
      exact TextPost.mk ⟨GTop.mk, hE⟩
    case hv => rfl
  apply Walk.keep 2 rfl rfl rfl rfl
  case hrun =>
    intro W hE hF
    have hcx : W.cell? ⟨g, 10, none⟩ = some (.int .u32 0) := hE.2.2.2.cell 10
    have hfx := hE.2.2.2.frozen 10
    go_wp2_with fail
    exact TextPost.mk ⟨GTop.mk, hE.set 10 _ rfl⟩
  case hv => rfl
  iterate 2
    apply Walk.one rfl rfl rfl
    case hrun =>
      intro c W hE hF
      have hsl := (hE.2.2.2.cell 0).trans (pkC_0 _ _)
      go_wp2_with fail
      exact TextPost.mk ⟨GTop.mk, hE⟩
    case hv => rfl
  apply Walk.keep 3 rfl rfl rfl rfl
  case hrun =>
    intro W hE hF
    have hcx : W.cell? ⟨g, 11, none⟩ = some (.int .u32 0) := hE.2.2.2.cell 11
    have hfx := hE.2.2.2.frozen 11
    go_wp2_with fail
    exact TextPost.mk ⟨GTop.mk, hE.set 11 _ rfl⟩
  case hv => rfl
  iterate 2
    apply Walk.one rfl rfl rfl
    case hrun =>
      intro c W hE hF
      have hsl := (hE.2.2.2.cell 0).trans (pkC_0 _ _)
      go_wp2_with fail
      exact TextPost.mk ⟨GTop.mk, hE⟩
    case hv => rfl
  apply Walk.keep 4 rfl rfl rfl rfl
  case hrun =>
    intro W hE hF
    have hcx : W.cell? ⟨g, 12, none⟩ = some (.int .i64 0) := hE.2.2.2.cell 12
    have hfx := hE.2.2.2.frozen 12
    go_wp2_with fail
    exact TextPost.mk ⟨GTop.mk, hE.set 12 _ rfl⟩
  case hv => rfl
  iterate 2
    apply Walk.one rfl rfl rfl
    case hrun =>
      intro c W hE hF
      have hsl := (hE.2.2.2.cell 0).trans (pkC_0 _ _)
      go_wp2_with fail
      exact TextPost.mk ⟨GTop.mk, hE⟩
    case hv => rfl
  apply Walk.keep 5 rfl rfl rfl rfl
  case hrun =>
    intro W hE hF
    have hcx : W.cell? ⟨g, 13, none⟩ = some (.int .i64 0) := hE.2.2.2.cell 13
    have hfx := hE.2.2.2.frozen 13
    go_wp2_with fail
    exact TextPost.mk ⟨GTop.mk, hE.set 13 _ rfl⟩
  case hv => rfl
  refine Walk.done (fun W hE hF => ?_)
  have hS4 : StN w g [(w1.heap.size, 164, #[.int .u16 a0, .int .u16 a1, .int .u32 a2, .int .u32 a3, .int .u8 a4, .int .u16 a5, .int .u16 a6, v])] g 117 (fun c => pkC (.slice A n cap) (pkT p s d (a4 % 64) a2 a3 a5 (n - T) a0 a1 (c + 6))) 0 W := hE
  clear hE hF hS
  go_wp2_with fail
  refine wp_region_walk0 (by kernel_rfl) (StN w g _ g 117 (fun c => pkC (.slice A n cap) (pkT p s d (a4 % 64) a2 a3 a5 (n - T) a0 a1 (c + 6)))) [9, 13] GTop [0, 1, 2, 3, 4, 5, 6, 7, 8, 9, 10, 11, 12, 13] (by kernel_rfl) hS4.drew ?_
  iterate 9
    apply Walk.one rfl rfl rfl
    case hrun =>
      intro c W hE hF
      have hsl := (hE.2.2.2.cell 0).trans (pkC_0 _ _)
      have hh := hE.1.get 0 rfl
      have hc0 := hh.cell 0
      have hc1 := hh.cell 1
      go_wp2_with fail
      exact TextPost.mk ⟨GTop.mk, hE⟩
    case hv => rfl
  apply Walk.keep 0 rfl rfl rfl rfl
  case hrun =>
    intro W hE hF
    have hcx : W.cell? ⟨g, 4, none⟩ = some (.int .u16 0) := hE.2.2.2.cell 4
    have hfx := hE.2.2.2.frozen 4
    go_wp2_with fail
    exact TextPost.mk ⟨GTop.mk, hE.set 4 _ rfl⟩
  case hv => rfl
  iterate 3
    apply Walk.one rfl rfl rfl
    case hrun =>
      intro c W hE hF
      have hsl := (hE.2.2.2.cell 0).trans (pkC_0 _ _)
      go_wp2_with fail
      exact TextPost.mk ⟨GTop.mk, hE⟩
    case hv => rfl
  apply Walk.keep 1 rfl rfl rfl rfl
  case hrun =>
    intro W hE hF
    have hcx : W.cell? ⟨g, 5, none⟩ = some (.int .u16 0) := hE.2.2.2.cell 5
    have hfx := hE.2.2.2.frozen 5
    go_wp2_with fail
    exact TextPost.mk ⟨GTop.mk, hE.set 5 _ rfl⟩
  case hv => rfl
  refine Walk.done (fun W hE hF => ?_)
  have hbW := hE.1.1
  have hzW := hE.1.2.1
  have hbR := hE.2.2.2
  have hhl := (hE.1.get 0 rfl).lt
  clear hE hF hS4
  go_wp2_with fail
  go_ret
  refine ⟨rfl, hbW, by omega, fun h0 => ?_⟩
  obtain ⟨rfl, rfl, rfl, rfl, rfl, rfl, rfl⟩ := HEq.out h0
  rw [HF.out, HN.out]
  exact hbR
end Go.Proofs.YtebeekjcepjcnaaDoor
