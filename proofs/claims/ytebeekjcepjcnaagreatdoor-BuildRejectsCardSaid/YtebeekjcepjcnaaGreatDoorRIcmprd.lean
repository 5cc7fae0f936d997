/-
  icmp.Read, whole.
  The methods tcp and udp of pkt's packet.
  bafflelaw11.content, a segment.
  bafflelaw11.content, a query or a reply.
-/
import Derived.Test.YtebeekjcepjcnaaGreatDoorRMade9
import Derived.Test.YtebeekjcepjcnaaGreatDoorRUdprd
namespace Go.Proofs.YtebeekjcepjcnaaGreatDoor
open Go.RowKit
def msgN (d : List Int) : Array Value := #[.int .u8 (d.getD 0 0), .int .u8 (d.getD 1 0), .int .u16 (w16At d 4), .int .u16 (w16At d 6)]
def msgZ : Array Value := #[.int .u8 0, .int .u8 0, .int .u16 0, .int .u16 0]
set_option maxRecDepth 100000 in
set_option maxHeartbeats 2000000 in
theorem icmpReadG_any (A : Option Addr) (cap n : Nat) (xs : List Int) (w : World) (hn : xs.length = n) (hcap : n ≤ cap) (hb : Byt xs) (hr : Rd w w.heap.size A .u8 xs) (hs : SortsAt w) :
    Calls Tryz.prog 33 #[.slice A n cap] w fun e w' => e = .returned (.tuple #[.agg (if icmpE xs = 0 then msgN xs else msgZ), .int .i64 (icmpE xs)]) ∧ Below w.heap.size w w' := by
  by_cases h8 : n < 8
  · have hE : icmpE xs = 100 := by unfold icmpE; rw [if_pos (by omega)]
    rw [hE, if_neg (by decide)]
    have g1 : (n : Int) < 8 := by omega
    clear hE
    unfold msgZ
    go_enter Tryz.func33, Tryz.ntmps33
    go_wp2_with (first | ((with_reducible refine look_store ?_); refine wpList_store_new rfl _ _ _ rfl _ _ rfl rfl _ _ rfl (by kernel_rfl) (by simp) (by simp [Value.oneCell']) ?_) | fail)
    exact bodyPost_ret (results_cell_tmp Tryz.results33 _ _ _ _ _ _ _ rfl (Blk.new _ _ _) Tryz.underlying98 rfl (by kernel_rfl)) rfl ⟨rfl, (Below.refl _ _).alloc (Nat.le_refl _) _⟩
  have hE : icmpE xs = kind2 (xs.getD 0 0).toNat (xs.getD 1 0).toNat := by unfold icmpE; rw [if_neg (by omega)]
  by_cases hk : kind2 (xs.getD 0 0).toNat (xs.getD 1 0).toNat = 0
  · rw [hE, hk, if_pos rfl]
    exact icmpRead_any A cap n xs w hn (by omega) hcap hb hr hs hk
  rw [hE, if_neg hk]
  obtain ⟨b, off, rfl, hbl, hc⟩ := hr.at0 (by omega)
  have c0 := hc 0 (by omega)
  have c1 := hc 1 (by omega)
  rw [Nat.add_zero] at c0
  obtain ⟨x0, x1⟩ := hb.at_ 0
  obtain ⟨y0, y1⟩ := hb.at_ 1
  have HK := Lib.hid (fun (W : World) (h : SortsAt W) => kindI_any (xs.getD 0 0) (xs.getD 1 0) W x0 x1 y0 h)
  have Hs := Lib.hid hs
  clear hr hc hn hb hs hE
  unfold msgZ
  generalize kind1 (xs.getD 0 0).toNat (xs.getD 1 0).toNat = e1 at *
  generalize kind2 (xs.getD 0 0).toNat (xs.getD 1 0).toNat = e2 at *
  generalize xs.getD 0 0 = x at *
  generalize xs.getD 1 0 = y at *
  have hd : decide ((n : Int) < 8) = false := by simp; omega
  have he2 : (e2 == 0) = false := by simpa using hk
  have i0 : (0 : Int) < n := by omega
  have i1 : (1 : Int) < n := by omega
  clear hk
  go_enter Tryz.func33, Tryz.ntmps33
  go_wp2_with (first | ((with_reducible refine look_store ?_); refine wpList_store_new rfl _ _ _ rfl _ _ rfl rfl _ _ rfl (by kernel_rfl) (by simp) (by simp [Value.oneCell']) ?_) | fail)
  refine wp_name1 ?_
  intro w1 hb1 hs1 bR
  have hSt := (St.nil hb1 hb1.size).cons bR
  refine wp_region_walk0 (by kernel_rfl) (fun _ W => St w w.heap.size _ W) [] Grow [0, 1, 2, 3, 4, 5, 6, 7, 8, 9, 10, 11] (by kernel_rfl) hSt.drew ?_
  iterate 12
    apply Walk.one rfl rfl rfl
    case hrun =>
      intro c W hE hF
      have d0 := (hE.1.cell (p := ⟨b, off, none⟩) hbl).trans c0
      have d1 := (hE.1.cell (p := ⟨b, off + 1, none⟩) hbl).trans c1
      have Hs2 := Lib.hid (Hs.out.below hE.1 (Nat.le_refl _))
      go_wp2_with (first | (go_at_call 20; refine (HK.out _ Hs2.out).mono ?_; rintro e wk ⟨rfl, rfl⟩) | fail)
      exact TextPost.mk ⟨Grow.refl _, hE⟩
    case hv => rfl
  refine Walk.done (fun W hE hF => ?_)
  have bR2 := hE.get 0 rfl
  have hbW := hE.1
  clear hE hF hSt bR hb1 hs1
  go_wp2_with (first | ((with_reducible refine look_store ?_); refine wpList_store_row rfl _ _ _ rfl _ _ rfl rfl _ _ bR2 (by kernel_rfl) (by simp) (by simp [Value.oneCell']) ?_) | fail)
  exact bodyPost_ret (results_cell_tmp Tryz.results33 _ _ _ _ _ _ _ rfl (setRow_heap _ _ _ _ _ _ bR2) Tryz.underlying98 rfl (by kernel_rfl)) rfl ⟨rfl, below_setRow hbW (Nat.le_refl _) _⟩
end Go.Proofs.YtebeekjcepjcnaaGreatDoor
namespace Go.Proofs.YtebeekjcepjcnaaGreatDoor
open Go.RowKit
def pkC (sl : Value) (f : Facts) : Array Value := #[sl, .int .u8 f.key.proto, .int .u32 f.key.src, .int .u32 f.key.dst, .int .u16 f.key.sp, .int .u16 f.key.dp, .int .u8 f.kind, .int .u8 f.flags, .int .u8 f.type, .int .u8 f.code, .int .u32 f.seqn, .int .u32 f.ackn, .int .i64 f.window, .int .i64 f.length,
  .int .u8 f.quoted.proto, .int .u32 f.quoted.src, .int .u32 f.quoted.dst, .int .u16 f.quoted.sp, .int .u16 f.quoted.dp, .int .u8 f.qkind]
theorem pkC_0 (sl : Value) (f : Facts) : (pkC sl f)[0]? = some sl := rfl
def baseK (p s d : Int) : Facts := { Facts.zero with key := ⟨p, s, d, 0, 0⟩ }
def pkT (p s d fl sq ak wi le a b : Int) : Nat → Facts
  | 0 => ⟨⟨p, s, d, 0, 0⟩, 0, 0, 0, 0, 0, 0, 0, 0, ⟨0, 0, 0, 0, 0⟩, 0⟩
  | 1 => ⟨⟨p, s, d, 0, 0⟩, 1, 0, 0, 0, 0, 0, 0, 0, ⟨0, 0, 0, 0, 0⟩, 0⟩
  | 2 => ⟨⟨p, s, d, 0, 0⟩, 1, fl, 0, 0, 0, 0, 0, 0, ⟨0, 0, 0, 0, 0⟩, 0⟩
  | 3 => ⟨⟨p, s, d, 0, 0⟩, 1, fl, 0, 0, sq, 0, 0, 0, ⟨0, 0, 0, 0, 0⟩, 0⟩
  | 4 => ⟨⟨p, s, d, 0, 0⟩, 1, fl, 0, 0, sq, ak, 0, 0, ⟨0, 0, 0, 0, 0⟩, 0⟩
  | 5 => ⟨⟨p, s, d, 0, 0⟩, 1, fl, 0, 0, sq, ak, wi, 0, ⟨0, 0, 0, 0, 0⟩, 0⟩
  | 6 => ⟨⟨p, s, d, 0, 0⟩, 1, fl, 0, 0, sq, ak, wi, le, ⟨0, 0, 0, 0, 0⟩, 0⟩
  | 7 => ⟨⟨p, s, d, a, 0⟩, 1, fl, 0, 0, sq, ak, wi, le, ⟨0, 0, 0, 0, 0⟩, 0⟩
  | _ => ⟨⟨p, s, d, a, b⟩, 1, fl, 0, 0, sq, ak, wi, le, ⟨0, 0, 0, 0, 0⟩, 0⟩
def pkU (p s d le a b : Int) : Nat → Facts
  | 0 => ⟨⟨p, s, d, 0, 0⟩, 0, 0, 0, 0, 0, 0, 0, 0, ⟨0, 0, 0, 0, 0⟩, 0⟩
  | 1 => ⟨⟨p, s, d, 0, 0⟩, 2, 0, 0, 0, 0, 0, 0, 0, ⟨0, 0, 0, 0, 0⟩, 0⟩
  | 2 => ⟨⟨p, s, d, 0, 0⟩, 2, 0, 0, 0, 0, 0, 0, le, ⟨0, 0, 0, 0, 0⟩, 0⟩
  | 3 => ⟨⟨p, s, d, a, 0⟩, 2, 0, 0, 0, 0, 0, 0, le, ⟨0, 0, 0, 0, 0⟩, 0⟩
  | _ => ⟨⟨p, s, d, a, b⟩, 2, 0, 0, 0, 0, 0, 0, le, ⟨0, 0, 0, 0, 0⟩, 0⟩
theorem tcpE_cases (d : List Int) (h : tcpE d = 0) : 20 ≤ tcpSize d ∧ tcpSize d ≤ d.length := by
  unfold tcpE at h
  split at h
  · omega
  split at h
  · omega
  omega
theorem TcpOut.open_ {w W : World} {d : List Int} {e : Ending} (h : TcpOut w d e W) (hB : Byt d) : ∃ a0 a1 a2 a3 a4 a5 a6 v T, e = .returned (.tuple #[.agg #[.int .u16 a0, .int .u16 a1, .int .u32 a2, .int .u32 a3, .int .u8 a4, .int .u16 a5, .int .u16 a6, v], .int .i64 T, .int .i64 (tcpE d)]) ∧ Below w.heap.size w W ∧ (0 ≤ a4 ∧ a4 < 256) ∧ (0 ≤ a5 ∧ a5 < 65536) ∧ (0 ≤ T ∧ T ≤ 60) ∧ v.oneCell' = true ∧
    (tcpE d = 0 → a0 = w16At d 0 ∧ a1 = w16At d 2 ∧ a2 = l32At d 4 ∧ a3 = l32At d 8 ∧ a4 = d.getD 13 0 ∧ a5 = w16At d 14 ∧ T = tcpSize d) := by
  obtain ⟨v, hv, he, hb⟩ := h
  by_cases h0 : tcpE d = 0
  · rw [if_pos h0, if_pos h0] at he
    have h1 := hB.at_ 13
    have h2 := w16At_bd hB 14
    have h3 := tcpE_cases d h0
    have h4 := hB.at_ 12
    exact ⟨_, _, _, _, _, _, _, v, _, he, hb, h1, h2, ⟨by omega, by unfold tcpSize; omega⟩, hv, fun _ => ⟨rfl, rfl, rfl, rfl, rfl, rfl, rfl⟩⟩
  · rw [if_neg h0, if_neg h0] at he
    exact ⟨_, _, _, _, _, _, _, _, _, he, hb, by omega, by omega, by omega, rfl, fun h => absurd h h0⟩
set_option maxRecDepth 100000 in
set_option maxHeartbeats 8000000 in
theorem pktTcp_any (p s d : Int) (A : Option Addr) (cap n : Nat) (xs : List Int) (g : Nat) (w : World) (hn : xs.length = n) (hcap : n ≤ cap) (hl : n ≤ 1000000) (hB : Byt xs) (hr : Rd w g A .u8 xs) (hb : Blk w g 91 (pkC (.slice A n cap) (baseK p s d))) :
    Calls Tryz.prog 26 #[.pointer (some ⟨g, 0, none⟩)] w fun e W' => e = .returned (.int .i64 (tcpE xs)) ∧ Below g w W' ∧ w.heap.size ≤ W'.heap.size ∧ (tcpE xs = 0 → Blk W' g 91 (pkC (.slice A n cap) (tcpF (baseK p s d) xs))) := by
  have HT := Lib.hid (tcpRead_any A cap n xs w hn hcap hl hB (hr.more (Nat.le_of_lt hb.lt)))
  have HO := Lib.hid (fun e W h => TcpOut.open_ (w := w) (W := W) (d := xs) (e := e) h hB)
  have HF := Lib.hid (show tcpF (baseK p s d) xs = ⟨⟨p, s, d, w16At xs 0, w16At xs 2⟩, 1, xs.getD 13 0 % 64, 0, 0, l32At xs 4, l32At xs 8, w16At xs 14, xs.length - tcpSize xs, ⟨0, 0, 0, 0, 0⟩, 0⟩ from rfl)
  have HN := Lib.hid hn
  have hb0 : w.cell? ⟨g, 0, none⟩ = some (.slice A n cap) := hb.cell 0
  have hgl := hb.lt
  clear hr hB hn
  generalize tcpE xs = E at *
  go_enter Tryz.func26, Tryz.ntmps26
  go_wp2_with fail
  refine HT.out.mono ?_
  intro e w1 hto
  obtain ⟨a0, a1, a2, a3, a4, a5, a6, v, T, rfl, l1, h4, h5, hT, hv, hEq⟩ := HO.out _ _ hto
  have HEq := Lib.hid hEq
  have b1 := hb.below l1 hgl
  have b10 : w1.cell? ⟨g, 0, none⟩ = some (.slice A n cap) := b1.cell 0
  have h63 := and_u8_63 a4 h4.1 h4.2
  clear hto hEq hb0
  have hz1 := l1.size
  go_upto_region 3 with (first | ((with_reducible refine look_store ?_); refine wpList_store_new rfl _ _ _ rfl _ _ rfl rfl _ _ rfl (by kernel_rfl) (by simp) (by simp [oneC_int, hv]) ?_) | fail)
  refine wp_name1 ?_
  intro w2 hb2 hs2 bh
  have hS0 : St w g [(w1.heap.size, 110, #[.int .u16 a0, .int .u16 a1, .int .u32 a2, .int .u32 a3, .int .u8 a4, .int .u16 a5, .int .u16 a6, v])] w2 := (St.nil ((l1.mono (Nat.le_of_lt hgl)).trans (hb2.mono (by omega))) (by omega)).cons bh
  have hS : StN w g [(w1.heap.size, 110, #[.int .u16 a0, .int .u16 a1, .int .u32 a2, .int .u32 a3, .int .u8 a4, .int .u16 a5, .int .u16 a6, v])] g 91 (fun c => pkC (.slice A n cap) (pkT p s d (a4 % 64) a2 a3 a5 (n - T) a0 a1 c)) 0 w2 := ⟨hS0, Nat.le_refl _, by simp; omega, b1.below hb2 (by omega)⟩
  clear hS0 bh b1 b10 hb2
  refine wp_region_walk0 (by kernel_rfl) (StN w g _ g 91 (fun c => pkC (.slice A n cap) (pkT p s d (a4 % 64) a2 a3 a5 (n - T) a0 a1 c))) [25, 28, 31, 34, 37, 40] GTop [0, 1, 2, 3, 4, 5, 6, 7, 8, 9, 10, 11, 12, 13, 14, 15, 16, 17, 18, 19, 20, 21, 22, 23, 24, 25, 26, 27, 28, 29, 30, 31, 32, 33, 34, 35, 36, 37, 38, 39, 40] (by kernel_rfl) hS.drew ?_
  iterate 25
    apply Walk.one rfl rfl rfl
    case hrun =>
      intro c W hE hF
      have hsl := (hE.2.2.2.cell 0).trans (pkC_0 _ _)
      have hh := hE.1.get 0 rfl
      have hc4 := hh.cell 4
      have hc2 := hh.cell 2
      have hc3 := hh.cell 3
      have hc5 := hh.cell 5
      go_wp2_with fail
      exact TextPost.mk ⟨GTop.mk, hE⟩
    case hv => rfl
  apply Walk.keep 0 rfl rfl rfl rfl
  case hrun =>
    intro W hE hF
    have hcx : W.cell? ⟨g, 6, none⟩ = some (.int .u8 0) := hE.2.2.2.cell 6
    have hfx := hE.2.2.2.frozen 6
    go_wp2_with fail
    exact TextPost.mk ⟨GTop.mk, hE.set 6 _ rfl⟩
  case hv => rfl
  iterate 2
    apply Walk.one rfl rfl rfl
    case hrun =>
      intro c W hE hF
      have hsl := (hE.2.2.2.cell 0).trans (pkC_0 _ _)
      go_wp2_with fail
      exact TextPost.mk ⟨GTop.mk, hE⟩
    case hv => rfl
  apply Walk.keep 1 rfl rfl rfl rfl
  case hrun =>
    intro W hE hF
    have hcx : W.cell? ⟨g, 7, none⟩ = some (.int .u8 0) := hE.2.2.2.cell 7
    have hfx := hE.2.2.2.frozen 7
    go_wp2_with fail
    exact TextPost.mk ⟨GTop.mk, hE.set 7 _ rfl⟩
  case hv => rfl
  iterate 2
    apply Walk.one rfl rfl rfl
    case hrun =>
      intro c W hE hF
      have hsl := (hE.2.2.2.cell 0).trans (pkC_0 _ _)
      go_wp2_with fail
      exact TextPost.mk ⟨GTop.mk, hE⟩
    case hv => rfl
  apply Walk.keep 2 rfl rfl rfl rfl
  case hrun =>
    intro W hE hF
    have hcx : W.cell? ⟨g, 10, none⟩ = some (.int .u32 0) := hE.2.2.2.cell 10
    have hfx := hE.2.2.2.frozen 10
    go_wp2_with fail
    exact TextPost.mk ⟨GTop.mk, hE.set 10 _ rfl⟩
  case hv => rfl
  iterate 2
    apply Walk.one rfl rfl rfl
    case hrun =>
      intro c W hE hF
      have hsl := (hE.2.2.2.cell 0).trans (pkC_0 _ _)
      go_wp2_with fail
      exact TextPost.mk ⟨GTop.mk, hE⟩
    case hv => rfl
  apply Walk.keep 3 rfl rfl rfl rfl
  case hrun =>
    intro W hE hF
    have hcx : W.cell? ⟨g, 11, none⟩ = some (.int .u32 0) := hE.2.2.2.cell 11
    have hfx := hE.2.2.2.frozen 11
    go_wp2_with fail
    exact TextPost.mk ⟨GTop.mk, hE.set 11 _ rfl⟩
  case hv => rfl
  iterate 2
    apply Walk.one rfl rfl rfl
    case hrun =>
      intro c W hE hF
      have hsl := (hE.2.2.2.cell 0).trans (pkC_0 _ _)
      go_wp2_with fail
      exact TextPost.mk ⟨GTop.mk, hE⟩
    case hv => rfl
  apply Walk.keep 4 rfl rfl rfl rfl
  case hrun =>
    intro W hE hF
    have hcx : W.cell? ⟨g, 12, none⟩ = some (.int .i64 0) := hE.2.2.2.cell 12
    have hfx := hE.2.2.2.frozen 12
    go_wp2_with fail
    exact TextPost.mk ⟨GTop.mk, hE.set 12 _ rfl⟩
  case hv => rfl
  iterate 2
    apply Walk.one rfl rfl rfl
    case hrun =>
      intro c W hE hF
      have hsl := (hE.2.2.2.cell 0).trans (pkC_0 _ _)
      go_wp2_with fail
      exact TextPost.mk ⟨GTop.mk, hE⟩
    case hv => rfl
  apply Walk.keep 5 rfl rfl rfl rfl
  case hrun =>
    intro W hE hF
    have hcx : W.cell? ⟨g, 13, none⟩ = some (.int .i64 0) := hE.2.2.2.cell 13
    have hfx := hE.2.2.2.frozen 13
    go_wp2_with fail
    exact TextPost.mk ⟨GTop.mk, hE.set 13 _ rfl⟩
  case hv => rfl
  refine Walk.done (fun W hE hF => ?_)
  have hS4 : StN w g [(w1.heap.size, 110, #[.int .u16 a0, .int .u16 a1, .int .u32 a2, .int .u32 a3, .int .u8 a4, .int .u16 a5, .int .u16 a6, v])] g 91 (fun c => pkC (.slice A n cap) (pkT p s d (a4 % 64) a2 a3 a5 (n - T) a0 a1 (c + 6))) 0 W := hE
  clear hE hF hS
  go_wp2_with fail
  refine wp_region_walk0 (by kernel_rfl) (StN w g _ g 91 (fun c => pkC (.slice A n cap) (pkT p s d (a4 % 64) a2 a3 a5 (n - T) a0 a1 (c + 6)))) [9, 13] GTop [0, 1, 2, 3, 4, 5, 6, 7, 8, 9, 10, 11, 12, 13] (by kernel_rfl) hS4.drew ?_
  iterate 9
    apply Walk.one rfl rfl rfl
    case hrun =>
      intro c W hE hF
      have hsl := (hE.2.2.2.cell 0).trans (pkC_0 _ _)
      have hh := hE.1.get 0 rfl
      have hc0 := hh.cell 0
      have hc1 := hh.cell 1
      go_wp2_with fail
      exact TextPost.mk ⟨GTop.mk, hE⟩
    case hv => rfl
  apply Walk.keep 0 rfl rfl rfl rfl
  case hrun =>
    intro W hE hF
    have hcx : W.cell? ⟨g, 4, none⟩ = some (.int .u16 0) := hE.2.2.2.cell 4
    have hfx := hE.2.2.2.frozen 4
    go_wp2_with fail
    exact TextPost.mk ⟨GTop.mk, hE.set 4 _ rfl⟩
  case hv => rfl
  iterate 3
    apply Walk.one rfl rfl rfl
    case hrun =>
      intro c W hE hF
      have hsl := (hE.2.2.2.cell 0).trans (pkC_0 _ _)
      go_wp2_with fail
      exact TextPost.mk ⟨GTop.mk, hE⟩
    case hv => rfl
  apply Walk.keep 1 rfl rfl rfl rfl
  case hrun =>
    intro W hE hF
    have hcx : W.cell? ⟨g, 5, none⟩ = some (.int .u16 0) := hE.2.2.2.cell 5
    have hfx := hE.2.2.2.frozen 5
    go_wp2_with fail
    exact TextPost.mk ⟨GTop.mk, hE.set 5 _ rfl⟩
  case hv => rfl
  refine Walk.done (fun W hE hF => ?_)
  have hbW := hE.1.1
  have hzW := hE.1.2.1
  have hbR := hE.2.2.2
  have hhl := (hE.1.get 0 rfl).lt
  clear hE hF hS4
  go_wp2_with fail
  go_ret
  refine ⟨rfl, hbW, by omega, fun h0 => ?_⟩
  obtain ⟨rfl, rfl, rfl, rfl, rfl, rfl, rfl⟩ := HEq.out h0
  rw [HF.out, HN.out]
  exact hbR
end Go.Proofs.YtebeekjcepjcnaaGreatDoor
namespace Go.Proofs.YtebeekjcepjcnaaGreatDoor
open Go.RowKit
set_option maxRecDepth 100000 in
set_option maxHeartbeats 8000000 in
theorem content_tcp (x : Sm) (hx : x.Ok) (src dst : Int) (w : World) (x0 : 0 ≤ src) (x1 : src < 4294967296) (y0 : 0 ≤ dst) (y1 : dst < 4294967296) (hA : SmAt w w.heap.size x) :
    Calls Tryz.prog 19 #[x.val, .int .u8 0, .int .u32 src, .int .u32 dst] w (ContPost 0 w) := by
  obtain ⟨g0, g1⟩ := hx.tf
  obtain ⟨m0, m1⟩ := hx.tm
  obtain ⟨o0, o1⟩ := hx.tw
  obtain ⟨ul, uc, ub⟩ := hx.tl
  have hU := hA.tb
  have hH := hx.hd
  have hml : (x.tb.take 100).length = min x.tn 100 := by rw [List.length_take]; omega
  have hmb : Byt (x.tb.take 100) := ub.take 100
  have hm1 : min x.tn 100 ≤ 100 := by omega
  obtain ⟨a0, a1⟩ := w16At_bd hH 0
  obtain ⟨b0, b1⟩ := w16At_bd hH 2
  obtain ⟨c0, c1⟩ := l32At_bd hH 4
  obtain ⟨d0, d1⟩ := l32At_bd hH 8
  obtain ⟨e0, e1⟩ := w16At_bd hH 12
  obtain ⟨f0, f1⟩ := w16At_bd hH 14
  have hol : (m8O x.hd (4 * (x.tw.toNat % 11))).length = 4 * (x.tw.toNat % 11) := m8O_len _ _
  have hob : Byt (m8O x.hd (4 * (x.tw.toNat % 11))) := m8O_byt _ hH _ (by omega)
  have hjj : 4 * (x.tw.toNat % 11) ≤ 40 := by omega
  have hj4 : 4 * (x.tw.toNat % 11) % 4 = 0 := by omega
  have HM := Lib.hid (fun w' (hb : Below w.heap.size w w') => made8_any x.hd x.tf x.tm x.tw x.ts x.td x.tA x.tc x.tn (min x.tn 100) x.tb w' hH g0 m0 m1 o0 o1 ul uc rfl (hU.belows hb (Nat.le_refl _)))
  unfold Made8Post at HM
  dsimp only [Sm.hd, List.getD_cons_zero, List.getD_cons_succ] at HM
  clear hA hx hU hH ul uc ub
  dsimp only [Sm.val, Sm.cells]
  rw [show [x.h0, x.h1, x.h2, x.h3, x.h4, x.h5, x.h6, x.h7, x.h8, x.h9, x.h10, x.h11, x.h12, x.h13, x.h14, x.h15] = x.hd from rfl] at HM
  generalize w16At x.hd 0 = vsp at *
  generalize w16At x.hd 2 = vdp at *
  generalize l32At x.hd 4 = sq at *
  generalize l32At x.hd 8 = ak at *
  generalize w16At x.hd 12 = win at *
  generalize w16At x.hd 14 = urg at *
  generalize m8O x.hd (4 * (x.tw.toNat % 11)) = opts at *
  generalize 4 * (x.tw.toNat % 11) = ol at *
  generalize x.tb.take 100 = data at *
  generalize min x.tn 100 = m at *
  go_enter Tryz.func19, Tryz.ntmps19
  go_upto_region 1 with fail
  refine wp_name2 ?_
  intro w1 hb1 hs1 bx bf
  have hru := bx.range 8 (l := [.int .u8 x.h0, .int .u8 x.h1, .int .u8 x.h2, .int .u8 x.h3, .int .u8 x.h4, .int .u8 x.h5, .int .u8 x.h6, .int .u8 x.h7, .int .u8 x.h8, .int .u8 x.h9, .int .u8 x.h10, .int .u8 x.h11, .int .u8 x.h12, .int .u8 x.h13, .int .u8 x.h14, .int .u8 x.h15, .int .u8 x.tf, .int .u8 x.tm, .int .u8 x.tw, .int .u32 x.ts, .int .u32 x.td, .slice x.tA x.tn x.tc]) (by simp)
  go_upto_region 4 with (first | ((with_reducible refine look_load ?_); refine wpList_load_mid rfl _ _ rfl _ _ rfl _ _ hru Tryz.underlying28 rfl (by kernel_rfl) ?_) | (go_at_call 37; refine (HM.out _ hb1).mono ?_; rintro e w2 ⟨F, o, p, hF, hsane, rfl, hp2, ho2, hl2⟩) | ((with_reducible refine look_store ?_); refine wpList_store_new rfl _ _ _ rfl _ _ rfl rfl _ _ rfl (by kernel_rfl) (by simp) (by simp [Value.oneCell']) ?_) | fail)
  try dsimp only [Act.put]
  refine wp_name1 ?_
  intro w4 hb4 hs4 bh4
  clear hru bx HM
  have bf4 := (bf.below hl2 bf.lt).below hb4 (bf.below hl2 bf.lt).lt
  have ho4 := ho2.below hb4 (Nat.le_refl _)
  have hp4 := hp2.below hb4 (Nat.le_refl _)
  have hbw := (hb1.trans (hl2.mono hb1.size)).trans (hb4.mono (Nat.le_trans hb1.size hl2.size))
  have hg4 : w.heap.size + 1 < w4.heap.size := bf4.lt
  have hne : w2.heap.size ≠ w.heap.size + 1 := by have := bf.lt; have := hl2.size; omega
  have HW := Lib.hid (tcpWrite_any (max vsp 1) (max vdp 1) sq ak win urg F o.1 o.2 ol opts src dst p.1 p.2 m data w4 (by omega) (by omega) (by omega) (by omega) c0 c1 d0 d1 hF hsane e0 e1 f0 f1 hol hjj hj4 hml (by omega) x0 x1 y0 y1 hob hmb hp4.rd ho4.rd)
  have HC := Lib.hid (cont_tcp (src := src) (dst := dst) (data := data) (opts := opts) (sp := max vsp 1) (dp := max vdp 1) (seqn := sq) (ackn := ak) (win := win) (urg := urg) (fl := F) (by omega) (by omega) (by omega) (by omega) c0 c1 d0 d1 hF hsane e0 e1 f0 f1 (by omega) (by omega) (by omega) x0 x1 y0 y1 hob hmb)
  have hbl : w.heap.size ≤ w4.heap.size := hbw.size
  have h63 := and_u8_63 (F : Int) (by omega) (by omega)
  clear hl2 hb4 bf ho2 hp2 hb1 ho4 hp4
  go_upto_region 5 with (first | ((with_reducible refine look_load ?_); refine wpList_load_row rfl _ _ rfl _ rfl _ _ _ _ bh4 Tryz.underlying110 rfl (by kernel_rfl) ?_) | (go_at_call 38; refine HW.out.mono ?_; rintro e w5 ⟨v, rfl, ho5, hl5⟩) | fail)
  try dsimp only [Act.put]
  obtain ⟨q, rfl⟩ := ho5.shape rfl
  have bh5 := bh4.below hl5 bh4.lt
  have bf5 := bf4.below hl5 bf4.lt
  have hbw5 := hbw.trans (hl5.mono hbl)
  clear HW hl5 bh4 bf4 hbw
  generalize max vsp 1 = sp at *
  generalize max vdp 1 = dp at *
  have hSt : St1 w w.heap.size [(w2.heap.size, _, _)] (w.heap.size + 1) 41 _ #[.int .u8 6, .int .u32 0, .int .u32 0, .int .u16 sp, .int .u16 dp, .int .u8 1, .int .u8 ((F : Int) % 64), .int .u8 0, .int .u8 0, .int .u32 sq, .int .u32 ak, .int .i64 win, .int .i64 m, .int .u8 0, .int .u32 0, .int .u32 0, .int .u16 0, .int .u16 0, .int .u8 0] 0 w5 := ⟨(St.nil hbw5 hbw5.size).cons bh5, by omega, by simp; omega, bf5⟩
  clear hbw5 bh5 bf5
  have hO := ho5.base_le (show w.heap.size + 1 + 1 ≤ w4.heap.size by omega)
  have hml' := Lib.hid (show (m : Int) = data.length by omega)
  have HC' := Lib.hid HC.out
  clear ho5 HC
  generalize tcpL sp dp sq ak F win urg opts src dst data = ys at *
  generalize hyl : ys.length = k at *
  refine wp_region_walk0 (by kernel_rfl) (fun c W => St1 w w.heap.size _ (w.heap.size + 1) 41 _ #[.int .u8 6, .int .u32 0, .int .u32 0, .int .u16 sp, .int .u16 dp, .int .u8 1, .int .u8 ((F : Int) % 64), .int .u8 0, .int .u8 0, .int .u32 sq, .int .u32 ak, .int .i64 win, .int .i64 m, .int .u8 0, .int .u32 0, .int .u32 0, .int .u16 0, .int .u16 0, .int .u8 0] c W ∧ Own W (w.heap.size + 1 + 1) (.slice q.1 k q.2) ys) [20] (GrowR (w.heap.size + 1)) [0, 1, 2, 3, 4, 5, 6, 7, 8, 9, 10, 11, 12, 13, 14, 15, 16, 17, 18, 19, 20] (by kernel_rfl) ⟨hSt.drew, hO.drew⟩ ?_
  iterate 20
    apply Walk.one rfl rfl rfl
    case hrun =>
      intro c W hE hF
      have hc := (hE.1.1.get 0 rfl).cell
      go_wp2_with fail
      exact TextPost.mk ⟨GrowR.refl _ _, hE⟩
    case hv => rfl
  apply Walk.keep 0 rfl rfl rfl rfl
  case hrun =>
    intro W2 hE hF
    have hbR := hE.1.2.2.2
    rw [if_pos rfl] at hbR
    go_wp2_with (first | ((with_reducible refine look_store ?_); refine wpList_store_row rfl _ _ _ rfl _ _ rfl rfl _ _ hbR (by kernel_rfl) (by simp) (by simp [Value.oneCell']) ?_) | fail)
    exact TextPost.mk ⟨grown_setRow _ _ _, hE.1.put, hE.2.growR (grown_setRow _ _ _)⟩
  case hv => rfl
  refine Walk.done (fun W hE hF => ?_)
  have hbR := hE.1.2.2.2
  have hbW := hE.1.1.1
  have ho := hE.2
  clear hE hF hSt hO
  go_wp2_with fail
  refine bodyPost_ret (results_tmp_cell Tryz.results19 _ _ _ _ _ _ _ rfl hbR Tryz.underlying41 rfl (by kernel_rfl)) rfl ⟨ys, q, _, ?_, ?_, HC'.out, hbW⟩
  · rw [← hml'.out, hyl]
    rfl
  · rw [hyl]; exact ho.base_le (by omega)
end Go.Proofs.YtebeekjcepjcnaaGreatDoor
namespace Go.Proofs.YtebeekjcepjcnaaGreatDoor
open Go.RowKit
theorem m10_tab : ∀ r, r < 11 → kindN (typL.getD r 0).toNat = kinL.getD r 0 ∧ codesN (typL.getD r 0).toNat = limL.getD r 0 ∧ kinL.getD r 0 ≠ 0 ∧ 0 ≤ typL.getD r 0 ∧ typL.getD r 0 < 256 ∧ 0 ≤ limL.getD r 0 ∧ limL.getD r 0 < 16 ∧ (r < 6 → kinL.getD r 0 = 3 ∨ kinL.getD r 0 = 4) ∧ (6 ≤ r → kinL.getD r 0 = 5) := by decide
theorem m10_good (t c : Int) (_t0 : 0 ≤ t) : ∃ T C : Nat, m10T t = T ∧ m10C t c = C ∧ T < 256 ∧ C < 256 ∧ kind2 T C = 0 ∧ kind1 T C = m10K t ∧ (t % 11 < 6 → m10K t = 3 ∨ m10K t = 4) ∧ (6 ≤ t % 11 → m10K t = 5) := by
  obtain ⟨h1, h2, h3, h4, h5, h6, h7, h8, h9⟩ := m10_tab (t % 11).toNat (by omega)
  have hc0 : 0 ≤ c % (limL.getD (t % 11).toNat 0 + 1) := Int.emod_nonneg _ (by omega)
  have hc1 : c % (limL.getD (t % 11).toNat 0 + 1) < limL.getD (t % 11).toNat 0 + 1 := Int.emod_lt_of_pos _ (by omega)
  refine ⟨(m10T t).toNat, (m10C t c).toNat, ?_, ?_, ?_, ?_, ?_, ?_, fun h => h8 (by omega), fun h => h9 (by omega)⟩
  · unfold m10T; omega
  · unfold m10C; omega
  · unfold m10T; omega
  · unfold m10C; omega
  · unfold kind2 m10T m10C
    rw [h1, h2, if_neg h3, if_neg (by omega)]
  · unfold kind1 m10T m10C m10K
    rw [h1, h2, if_neg h3, if_neg (by omega)]
set_option maxRecDepth 100000 in
set_option maxHeartbeats 8000000 in
theorem content_icmp (x : Sm) (hx : x.Ok) (src dst : Int) (w : World) (hA : SmAt w w.heap.size x) (hT : Tabs w) (hs : SortsAt w) :
    Calls Tryz.prog 19 #[x.val, .int .u8 2, .int .u32 src, .int .u32 dst] w (ContPost 2 w) := by
  obtain ⟨g0, g1⟩ := hx.ity
  obtain ⟨m0, m1⟩ := hx.ico
  obtain ⟨i0, i1⟩ := hx.iid
  obtain ⟨s0, s1⟩ := hx.isq
  obtain ⟨ul, uc, ub⟩ := hx.il
  have hU := hA.ib
  have hml : (x.ib.take 80).length = min x.inn 80 := by rw [List.length_take]; omega
  have hmb : Byt (x.ib.take 80) := ub.take 80
  have hm1 : min x.inn 80 ≤ 80 := by omega
  have ht2 : x.ity.tmod 6 = x.ity % 6 := Int.tmod_eq_emod_of_nonneg g0
  have HM := Lib.hid (fun w' (hb : Below w.heap.size w w') => made10_any (x.ity % 6) x.ico x.iid x.isq x.iA x.ic x.inn (min x.inn 80) x.ib w' (by omega) m0 m1 ul uc rfl (hU.belows hb (Nat.le_refl _)) (hT.below hb (Nat.le_refl _)))
  unfold Made10Post at HM
  obtain ⟨T, C, hT1, hC1, hT2, hC2, hk2, hk1, hk6, _⟩ := m10_good (x.ity % 6) x.ico (by omega)
  rw [hT1, hC1, ← hk1] at HM
  have h34 : kind1 T C = 3 ∨ kind1 T C = 4 := by rw [hk1]; exact hk6 (by omega)
  clear hA hx hU ul uc ub hT hT1 hC1 hk1 hk6
  have ht0 : 0 ≤ x.ity % 6 := by omega
  have ht6 : x.ity % 6 < 6 := by omega
  dsimp only [Sm.val, Sm.cells]
  generalize x.ity % 6 = tt at *
  generalize x.ib.take 80 = data at *
  generalize min x.inn 80 = m at *
  go_enter Tryz.func19, Tryz.ntmps19
  go_upto_region 1 with fail
  refine wp_name2 ?_
  intro w1 hb1 hs1 bx bf
  have hcx := bx.cell
  have hfx := bx.frozen
  go_upto_region 13 with fail
  try dsimp only [Act.put]
  have bx2 := bx.set 36 (.int .u8 tt)
  have hbx := hb1.setCell (p := ⟨w.heap.size, 36, none⟩) (Nat.le_refl _) (.int .u8 tt)
  have bf2 := bf.far (p := ⟨w.heap.size, 36, none⟩) (by show w.heap.size + 1 ≠ w.heap.size; omega) (.int .u8 tt)
  have hs2 : (w1.setCell ⟨w.heap.size, 36, none⟩ (.int .u8 tt)).heap.size = w.heap.size + 2 := by simp [hs1]
  clear hcx hfx bx bf hb1 hs1
  revert bx2 hbx bf2 hs2
  generalize w1.setCell ⟨w.heap.size, 36, none⟩ (.int .u8 tt) = w2
  intro bx2 hbx bf2 hs2
  have hru := bx2.range 36 (l := [.int .u8 tt, .int .u8 x.ico, .int .u16 x.iid, .int .u16 x.isq, .slice x.iA x.inn x.ic]) (by simp)
  go_upto_region 14 with (first | ((with_reducible refine look_load ?_); refine wpList_load_mid rfl _ _ rfl _ _ rfl _ _ hru Tryz.underlying32 rfl (by kernel_rfl) ?_) | (go_at_call 41; refine (HM.out _ hbx).mono ?_; rintro e w3 ⟨p, rfl, ho3, hl3⟩) | ((with_reducible refine look_store ?_); refine wpList_store_new rfl _ _ _ rfl _ _ rfl rfl _ _ rfl (by kernel_rfl) (by simp) (by simp [Value.oneCell']) ?_) | fail)
  try dsimp only [Act.put]
  refine wp_name1 ?_
  intro w4 hb4 hs4 bh4
  clear hru bx2 HM
  have bf4 := (bf2.below hl3 bf2.lt).below hb4 (bf2.below hl3 bf2.lt).lt
  have ho4 := ho3.below hb4 (Nat.le_refl _)
  have hbw := (hbx.trans (hl3.mono hbx.size)).trans (hb4.mono (Nat.le_trans hbx.size hl3.size))
  have hg4 : w.heap.size + 1 < w4.heap.size := bf4.lt
  have hne : w3.heap.size ≠ w.heap.size + 1 := by have := bf2.lt; have := hl3.size; omega
  have hs4' := hs.below hbw (Nat.le_refl _)
  subst hml
  have HW := Lib.hid (icmpWrite_any T C x.iid x.isq p.1 p.2 data w4 hT2 hC2 i0 i1 s0 s1 hs4' hk2 (by omega) hmb ho4.rd)
  have HC := Lib.hid (cont_icmp (data := data) (t := T) (c := C) (i := x.iid) (s := x.isq) hT2 hC2 i0 i1 s0 s1 hk2 h34 (by omega) hmb)
  have hbl : w.heap.size ≤ w4.heap.size := hbw.size
  clear hl3 hb4 bf2 ho3 hbx ho4 hs4' hs hk2 h34
  generalize kind1 T C = K at *
  go_upto_region 15 with (first | ((with_reducible refine look_load ?_); refine wpList_load_row rfl _ _ rfl _ rfl _ _ _ _ bh4 Tryz.underlying98 rfl (by kernel_rfl) ?_) | (go_at_call 31; refine HW.out.mono ?_; rintro e w5 ⟨v, rfl, ho5, hl5⟩) | fail)
  try dsimp only [Act.put]
  obtain ⟨q, rfl⟩ := ho5.shape rfl
  have bh5 := bh4.below hl5 bh4.lt
  have bf5 := bf4.below hl5 bf4.lt
  have hbw5 := hbw.trans (hl5.mono hbl)
  clear HW hl5 bh4 bf4 hbw
  have hSt : St1 w w.heap.size [(w3.heap.size, _, _)] (w.heap.size + 1) 41 _ #[.int .u8 1, .int .u32 0, .int .u32 0, .int .u16 x.iid, .int .u16 x.iid, .int .u8 K, .int .u8 0, .int .u8 (T : Int), .int .u8 (C : Int), .int .u32 0, .int .u32 0, .int .i64 0, .int .i64 data.length, .int .u8 0, .int .u32 0, .int .u32 0, .int .u16 0, .int .u16 0, .int .u8 0] 0 w5 := ⟨(St.nil hbw5 hbw5.size).cons bh5, by omega, by simp; omega, bf5⟩
  clear hbw5 bh5 bf5
  have hO := ho5.base_le (show w.heap.size + 1 + 1 ≤ w4.heap.size by omega)
  have HC' := Lib.hid HC.out
  clear ho5 HC
  generalize icmpL T C x.iid x.isq data = ys at *
  generalize hyl : ys.length = k at *
  refine wp_region_walk0 (by kernel_rfl) (fun c W => St1 w w.heap.size _ (w.heap.size + 1) 41 _ #[.int .u8 1, .int .u32 0, .int .u32 0, .int .u16 x.iid, .int .u16 x.iid, .int .u8 K, .int .u8 0, .int .u8 (T : Int), .int .u8 (C : Int), .int .u32 0, .int .u32 0, .int .i64 0, .int .i64 data.length, .int .u8 0, .int .u32 0, .int .u32 0, .int .u16 0, .int .u16 0, .int .u8 0] c W ∧ Own W (w.heap.size + 1 + 1) (.slice q.1 k q.2) ys) [15] (GrowR (w.heap.size + 1)) [0, 1, 2, 3, 4, 5, 6, 7, 8, 9, 10, 11, 12, 13, 14, 15] (by kernel_rfl) ⟨hSt.drew, hO.drew⟩ ?_
  iterate 15
    apply Walk.one rfl rfl rfl
    case hrun =>
      intro c W hE hF
      have hc := (hE.1.1.get 0 rfl).cell
      go_wp2_with fail
      exact TextPost.mk ⟨GrowR.refl _ _, hE⟩
    case hv => rfl
  apply Walk.keep 0 rfl rfl rfl rfl
  case hrun =>
    intro W2 hE hF
    have hbR := hE.1.2.2.2
    rw [if_pos rfl] at hbR
    go_wp2_with (first | ((with_reducible refine look_store ?_); refine wpList_store_row rfl _ _ _ rfl _ _ rfl rfl _ _ hbR (by kernel_rfl) (by simp) (by simp [Value.oneCell']) ?_) | fail)
    exact TextPost.mk ⟨grown_setRow _ _ _, hE.1.put, hE.2.growR (grown_setRow _ _ _)⟩
  case hv => rfl
  refine Walk.done (fun W hE hF => ?_)
  have hbR := hE.1.2.2.2
  have hbW := hE.1.1.1
  have ho := hE.2
  clear hE hF hSt hO
  go_wp2_with fail
  refine bodyPost_ret (results_tmp_cell Tryz.results19 _ _ _ _ _ _ _ rfl hbR Tryz.underlying41 rfl (by kernel_rfl)) rfl ⟨ys, q, _, ?_, ?_, HC'.out, hbW⟩
  · rw [hyl]
    rfl
  · rw [hyl]; exact ho.base_le (by omega)
theorem content_low (k : Int) (x : Sm) (hx : x.Ok) (src dst : Int) (w : World) (hk : k = 0 ∨ k = 1 ∨ k = 2) (x0 : 0 ≤ src) (x1 : src < 4294967296) (y0 : 0 ≤ dst) (y1 : dst < 4294967296) (hA : SmAt w w.heap.size x) (hT : Tabs w) (hs : SortsAt w) :
    Calls Tryz.prog 19 #[x.val, .int .u8 k, .int .u32 src, .int .u32 dst] w (ContPost k.toNat w) := by
  rcases hk with rfl | rfl | rfl
  · exact content_tcp x hx src dst w x0 x1 y0 y1 hA
  · exact content_udp x hx src dst w x0 x1 y0 y1 hA
  · exact content_icmp x hx src dst w hA hT hs
end Go.Proofs.YtebeekjcepjcnaaGreatDoor
