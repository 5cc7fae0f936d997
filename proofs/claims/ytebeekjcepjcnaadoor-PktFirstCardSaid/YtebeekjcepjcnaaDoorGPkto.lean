/-
  The method icmp of pkt's packet.
-/
import Derived.Test.YtebeekjcepjcnaaDoorProg
import Derived.WalkKit
import Derived.WalkSpells
import Derived.WalkLawsBesides
import Derived.WalkSmall
import Derived.Lib.Hide
import Derived.Deep.AppendLies
import Derived.Maps.AppendAt
import Derived.Laws.AppendOwnNone
import Derived.Laws.CopyOwn
import Derived.OneCell
import Derived.Lib.SliceRun
import Derived.RangeFuncNested
import Derived.RangeFuncBound
import Derived.RangeFuncCalls
import Derived.RangeFuncLeaves
import Derived.Shelf.Abstract
import Derived.OwnWalkIn
import Derived.TacticsInMore
import Derived.LoopNIn
import Derived.LoopIn
import Derived.Lib.AppendZeros
import Derived.BigRegion
import Derived.ChangeAlike
import Derived.Deep.RegionLaw
import Derived.Deep.DeepCutAuto
import Derived.Orders
import Derived.RegionTactic
import Derived.Still
import Derived.Deep.MidRow
import Derived.Deep.RegionHeld3
import Derived.MapKept
import Derived.Laws.StructEq
import Derived.Test.YtebeekjcepjcnaaDoorGBase
import Derived.Test.YtebeekjcepjcnaaDoorGBits
import Derived.Test.YtebeekjcepjcnaaDoorGCsum
import Derived.Test.YtebeekjcepjcnaaDoorGSum
import Derived.Test.YtebeekjcepjcnaaDoorGFix
import Derived.Test.YtebeekjcepjcnaaDoorGFacts
import Derived.Test.YtebeekjcepjcnaaDoorGPkt
import Derived.Test.YtebeekjcepjcnaaDoorGWalk
import Derived.Test.YtebeekjcepjcnaaDoorGStep
import Derived.Test.YtebeekjcepjcnaaDoorGTcpw
import Derived.Test.YtebeekjcepjcnaaDoorGUdpw
import Derived.Test.YtebeekjcepjcnaaDoorGData
import Derived.Test.YtebeekjcepjcnaaDoorGIprd
import Derived.Test.YtebeekjcepjcnaaDoorGIpre
import Derived.Test.YtebeekjcepjcnaaDoorGTcprd
import Derived.Test.YtebeekjcepjcnaaDoorGEq
import Derived.Test.YtebeekjcepjcnaaDoorGUdprd
import Derived.Test.YtebeekjcepjcnaaDoorGIcmprd
import Derived.Test.YtebeekjcepjcnaaDoorGPktn
import Derived.Test.YtebeekjcepjcnaaDoorGQuotc
namespace Go.Proofs.YtebeekjcepjcnaaDoor
open Go.RowKit
def pkI (p s d ki ty co le a b : Int) : Nat → Facts
  | 0 => ⟨⟨p, s, d, 0, 0⟩, 0, 0, 0, 0, 0, 0, 0, 0, ⟨0, 0, 0, 0, 0⟩, 0⟩
  | 1 => ⟨⟨p, s, d, 0, 0⟩, ki, 0, 0, 0, 0, 0, 0, 0, ⟨0, 0, 0, 0, 0⟩, 0⟩
  | 2 => ⟨⟨p, s, d, 0, 0⟩, ki, 0, ty, 0, 0, 0, 0, 0, ⟨0, 0, 0, 0, 0⟩, 0⟩
  | 3 => ⟨⟨p, s, d, 0, 0⟩, ki, 0, ty, co, 0, 0, 0, 0, ⟨0, 0, 0, 0, 0⟩, 0⟩
  | 4 => ⟨⟨p, s, d, 0, 0⟩, ki, 0, ty, co, 0, 0, 0, le, ⟨0, 0, 0, 0, 0⟩, 0⟩
  | 5 => ⟨⟨p, s, d, a, 0⟩, ki, 0, ty, co, 0, 0, 0, le, ⟨0, 0, 0, 0, 0⟩, 0⟩
  | _ => ⟨⟨p, s, d, a, b⟩, ki, 0, ty, co, 0, 0, 0, le, ⟨0, 0, 0, 0, 0⟩, 0⟩
def quoQ (xs : List Int) : Key := if quoE xs = 0 then quoKey xs else ⟨0, 0, 0, 0, 0⟩
theorem quoOut_lit (xs : List Int) : quoOut xs = .tuple #[.agg #[.int .u8 (quoQ xs).proto, .int .u32 (quoQ xs).src, .int .u32 (quoQ xs).dst, .int .u16 (quoQ xs).sp, .int .u16 (quoQ xs).dp], .int .u8 (if quoE xs = 0 then quoKind xs else 0), .int .i64 (quoE xs)] := by
  unfold quoOut quoQ
  split <;> rfl
theorem Blk.there {W : World} {g : Nat} {t : TypeId} {cs : Array Value} (h : Blk W g t cs) (o n : Nat) (hn : o + n ≤ cs.size) : W.there g o n := fun j hj =>
  ⟨by rw [h.cell, Array.getElem?_eq_getElem (by omega)]; rfl, h.frozen _⟩
theorem SortsAt.under {w W : World} (h : SortsAt w) {C : Nat} (hb : Below C w W) (hg : 1 < C) : SortsAt W := fun k hk =>
  ⟨(hb.cell (by exact hg)).trans (h k hk).1, (hb.cell (by exact hg)).trans (h k hk).2.1, (hb.cell (by exact hg)).trans (h k hk).2.2⟩
set_option maxRecDepth 100000 in
set_option maxHeartbeats 8000000 in
theorem pktIcmp_any (p s d : Int) (A : Option Addr) (cap n : Nat) (xs : List Int) (g : Nat) (w : World) (hn : xs.length = n) (hcap : n ≤ cap) (hl : n ≤ 1000000) (hB : Byt xs) (hr : Rd w g A .u8 xs) (hb : Blk w g 117 (pkC (.slice A n cap) (baseK p s d))) (hs : SortsAt w) (hsg : 1 < g) :
    Calls Tryd.prog 59 #[.pointer (some ⟨g, 0, none⟩)] w fun e W' => e = .returned (.int .i64 (icmpE2 xs)) ∧ Below g w W' ∧ w.heap.size ≤ W'.heap.size ∧ (icmpE2 xs = 0 → Blk W' g 117 (pkC (.slice A n cap) (icmpF (baseK p s d) xs))) := by
  have HT := Lib.hid (icmpReadG_any A cap n xs w hn hcap hB (hr.more (Nat.le_of_lt hb.lt)) hs)
  have hb0 : w.cell? ⟨g, 0, none⟩ = some (.slice A n cap) := hb.cell 0
  have hgl := hb.lt
  by_cases hE : icmpE xs = 0
  case neg =>
    have HX : icmpE2 xs = icmpE xs := by unfold icmpE2; rw [if_pos hE]
    rw [if_neg hE] at HT
    rw [HX]
    have HE := Lib.hid hE
    clear HX hr hB hn hs
    generalize icmpE xs = E at *
    have he : (E != 0) = true := by simpa using hE
    unfold msgZ at HT
    clear hE
    go_enter Tryd.func59, Tryd.ntmps59
    go_wp2_with fail
    refine HT.out.mono ?_
    rintro e w1 ⟨rfl, l1⟩
    have hz1 := l1.size
    have hB1 := (l1.mono (Nat.le_of_lt hgl)).alloc (by omega) (.cells #[.int .u8 0, .int .u8 0, .int .u16 0, .int .u16 0] 84)
    go_wp2_with (first | ((with_reducible refine look_store ?_); refine wpList_store_new rfl _ _ _ rfl _ _ rfl rfl _ _ rfl (by kernel_rfl) (by simp) (by simp [Value.oneCell']) ?_) | fail)
    go_ret
    exact ⟨rfl, hB1, by simp; omega, fun h => absurd h HE.out⟩
  have h8 : 8 ≤ n := by
    rcases Nat.lt_or_ge n 8 with h | h
    · unfold icmpE at hE; rw [if_pos (by omega)] at hE; cases hE
    · exact h
  have hk2 : kind2 (xs.getD 0 0).toNat (xs.getD 1 0).toNat = 0 := by unfold icmpE at hE; rw [if_neg (by omega)] at hE; exact hE
  rw [if_pos hE, hE] at HT
  obtain ⟨b, off, rfl, hbl, hc⟩ := hr.at0 (by omega)
  obtain ⟨x0, x1⟩ := hB.at_ 0
  obtain ⟨y0, y1⟩ := hB.at_ 1
  have HK := Lib.hid (fun (W : World) (h : SortsAt W) => kindI_any (xs.getD 0 0) (xs.getD 1 0) W x0 x1 y0 h)
  rw [hk2] at HK
  have Hs := Lib.hid (fun (W : World) (h : Below g w W) => hs.under h hsg)
  have HQ := Lib.hid (fun (W : World) A' (h : Rd W W.heap.size A' .u8 (xs.drop 8)) (hs : SortsAt W) => icmpQuote_any A' (cap - 8) (n - 8) (xs.drop 8) W (by simp [hn]) (by omega) (by omega) (hB.drop 8) h hs)
  have HRd := Lib.hid (fun (W : World) (h : Below g w W) (hz : w.heap.size ≤ W.heap.size) => (((hr.drop 8 (A' := some ⟨b, off + 8, none⟩) fun _ b2 o2 h => by
    simp only [Option.some.injEq, Addr.mk.injEq] at h
    obtain ⟨rfl, rfl, _⟩ := h
    rfl).below h (Nat.le_refl _)).more (by omega) : Rd W W.heap.size (some ⟨b, off + 8, none⟩) .u8 (xs.drop 8)))
  have HRe : Hid (cap = 8 → ∀ W A', Rd W W.heap.size A' .u8 (xs.drop 8)) := Lib.hid fun hc W A' => by
    rw [List.drop_eq_nil_of_le (by omega)]; exact Rd.nil
  have HM := Lib.hid (show msgN xs = #[.int .u8 (xs.getD 0 0), .int .u8 (xs.getD 1 0), .int .u16 (w16At xs 4), .int .u16 (w16At xs 6)] from rfl)
  rw [HM.out] at HT
  have HF := Lib.hid (show icmpF (baseK p s d) xs = if icmpK xs ≠ 5 then ⟨⟨p, s, d, w16At xs 4, w16At xs 4⟩, icmpK xs, 0, xs.getD 0 0, xs.getD 1 0, 0, 0, 0, xs.length - 8, ⟨0, 0, 0, 0, 0⟩, 0⟩ else ⟨⟨p, s, d, 0, 0⟩, icmpK xs, 0, xs.getD 0 0, xs.getD 1 0, 0, 0, 0, xs.length - 8, quoKey (xs.drop 8), quoKind (xs.drop 8)⟩ from rfl)
  have HE2 := Lib.hid (show icmpE2 xs = if icmpK xs ≠ 5 then 0 else quoE (xs.drop 8) by unfold icmpE2; rw [if_neg (by simpa using hE)])
  have HKI := Lib.hid (show icmpK xs = kind1 (xs.getD 0 0).toNat (xs.getD 1 0).toNat from rfl)
  rw [← HKI.out] at HK
  have HN := Lib.hid hn
  have HQl := Lib.hid (quoOut_lit (xs.drop 8))
  have HQq := Lib.hid (show quoE (xs.drop 8) = 0 → quoQ (xs.drop 8) = quoKey (xs.drop 8) from fun h => if_pos h)
  rw [HQl.out] at HQ
  have HQk := Lib.hid (show quoE (xs.drop 8) = 0 → (if quoE (xs.drop 8) = 0 then quoKind (xs.drop 8) else 0) = quoKind (xs.drop 8) from fun h => if_pos h)
  clear hr hB hn hs hc hE hk2 HM HQl HKI
  generalize icmpE2 xs = E2 at *
  generalize icmpK xs = KK at *
  generalize (if quoE (xs.drop 8) = 0 then quoKind (xs.drop 8) else 0) = QK at *
  generalize quoE (xs.drop 8) = QE at *
  generalize quoQ (xs.drop 8) = QQ at *
  generalize w16At xs 4 = a4 at *
  generalize w16At xs 6 = a6 at *
  generalize xs.getD 0 0 = x at *
  generalize xs.getD 1 0 = y at *
  go_enter Tryd.func59, Tryd.ntmps59
  go_wp2_with fail
  refine HT.out.mono ?_
  rintro e w1 ⟨rfl, l1⟩
  have b1 := hb.below l1 hgl
  have hz1 := l1.size
  clear hb0
  go_upto_region 2 with (first | ((with_reducible refine look_store ?_); refine wpList_store_new rfl _ _ _ rfl _ _ rfl rfl _ _ rfl (by kernel_rfl) (by simp) (by simp [Value.oneCell']) ?_) | fail)
  refine wp_name1 ?_
  intro w2 hb2 hs2 bh
  have b2' := b1.below hb2 (by omega)
  have hk6 : w2.cell? ⟨g, 6, none⟩ = some (.int .u8 0) := b2'.cell 6
  have hf6 := b2'.frozen 6
  have hh0 := bh.cell 0
  have hh1 := bh.cell 1
  have hbx2 := (l1.mono (Nat.le_of_lt hgl)).trans (hb2.mono (by omega : g ≤ w1.heap.size))
  have HS2 := Lib.hid (Hs.out _ hbx2)
  go_wp2_with fail
  refine (HK.out _ HS2.out).mono ?_
  rintro e w3 ⟨rfl, rfl⟩
  go_wp2_with fail
  have hS0 : St w g [(w1.heap.size, 84, #[.int .u8 x, .int .u8 y, .int .u16 a4, .int .u16 a6])] w2 := (St.nil hbx2 (by omega)).cons bh
  have hS1 := hS0.setFar (p := ⟨g, 6, none⟩) (Nat.le_refl _) (by simp; omega) (.int .u8 KK)
  have hB1 : Blk (w2.setCell ⟨g, 6, none⟩ (.int .u8 KK)) g 117 (pkC (.slice (some ⟨b, off, none⟩) n cap) (pkI p s d KK x y (n - 8) a4 a4 1)) := b2'.set 6 _
  have hS : StN w g [(w1.heap.size, 84, #[.int .u8 x, .int .u8 y, .int .u16 a4, .int .u16 a6])] g 117 (fun c => pkC (.slice (some ⟨b, off, none⟩) n cap) (pkI p s d KK x y (n - 8) a4 a4 (c + 1))) 0 _ := ⟨hS1, Nat.le_refl _, by simp; omega, hB1⟩
  clear hS0 hS1 hB1 bh b1 hb2 b2' hk6 hf6 hbx2 hh0 hh1
  refine wp_region_walk0 (by kernel_rfl) (StN w g _ g 117 (fun c => pkC (.slice (some ⟨b, off, none⟩) n cap) (pkI p s d KK x y (n - 8) a4 a4 (c + 1)))) [15, 18, 21] GTop [0, 1, 2, 3, 4, 5, 6, 7, 8, 9, 10, 11, 12, 13, 14, 15, 16, 17, 18, 19, 20, 21] (by kernel_rfl) hS.drew ?_
  iterate 15
    apply Walk.one rfl rfl rfl
    case hrun =>
      intro c W hE hF
      have hsl := (hE.2.2.2.cell 0).trans (pkC_0 _ _)
      have hh := hE.1.get 0 rfl
      have hc0 := hh.cell 0
      have hc1 := hh.cell 1
      go_wp2_with fail
      exact TextPost.mk ⟨GTop.mk, hE⟩
    case hv => rfl
  apply Walk.keep 0 rfl rfl rfl rfl
  case hrun =>
    intro W hE hF
    have hcx : W.cell? ⟨g, 8, none⟩ = some (.int .u8 0) := hE.2.2.2.cell 8
    have hfx := hE.2.2.2.frozen 8
    go_wp2_with fail
    exact TextPost.mk ⟨GTop.mk, hE.set 8 _ rfl⟩
  case hv => rfl
  iterate 2
    apply Walk.one rfl rfl rfl
    case hrun =>
      intro c W hE hF
      have hsl := (hE.2.2.2.cell 0).trans (pkC_0 _ _)
      go_wp2_with fail
      exact TextPost.mk ⟨GTop.mk, hE⟩
    case hv => rfl
  apply Walk.keep 1 rfl rfl rfl rfl
  case hrun =>
    intro W hE hF
    have hcx : W.cell? ⟨g, 9, none⟩ = some (.int .u8 0) := hE.2.2.2.cell 9
    have hfx := hE.2.2.2.frozen 9
    go_wp2_with fail
    exact TextPost.mk ⟨GTop.mk, hE.set 9 _ rfl⟩
  case hv => rfl
  iterate 2
    apply Walk.one rfl rfl rfl
    case hrun =>
      intro c W hE hF
      have hsl := (hE.2.2.2.cell 0).trans (pkC_0 _ _)
      go_wp2_with fail
      exact TextPost.mk ⟨GTop.mk, hE⟩
    case hv => rfl
  apply Walk.keep 2 rfl rfl rfl rfl
  case hrun =>
    intro W hE hF
    have hcx : W.cell? ⟨g, 13, none⟩ = some (.int .i64 0) := hE.2.2.2.cell 13
    have hfx := hE.2.2.2.frozen 13
    go_wp2_with fail
    exact TextPost.mk ⟨GTop.mk, hE.set 13 _ rfl⟩
  case hv => rfl
  refine Walk.done (fun W hE hF => ?_)
  have hS4 : StN w g [(w1.heap.size, 84, #[.int .u8 x, .int .u8 y, .int .u16 a4, .int .u16 a6])] g 117 (fun c => pkC (.slice (some ⟨b, off, none⟩) n cap) (pkI p s d KK x y (n - 8) a4 a4 (c + 4))) 0 W := hE
  have hk6 : W.cell? ⟨g, 6, none⟩ = some (.int .u8 KK) := hS4.2.2.2.cell 6
  have hhl := (hS4.1.get 0 rfl).lt
  clear hE hF hS
  by_cases h5 : KK = 5
  case neg =>
    have e5 : (KK != 5) = true := by simpa using h5
    have HX := Lib.hid (HE2.out.trans (if_pos h5))
    have HX2 := Lib.hid (HF.out.trans (if_pos h5))
    clear h5
    go_wp2_with fail
    clear hk6
    refine wp_region_walk0 (by kernel_rfl) (StN w g _ g 117 (fun c => pkC (.slice (some ⟨b, off, none⟩) n cap) (pkI p s d KK x y (n - 8) a4 a4 (c + 4)))) [9, 13] GTop [0, 1, 2, 3, 4, 5, 6, 7, 8, 9, 10, 11, 12, 13] (by kernel_rfl) hS4.drew ?_
    iterate 9
      apply Walk.one rfl rfl rfl
      case hrun =>
        intro c W hE hF
        have hsl := (hE.2.2.2.cell 0).trans (pkC_0 _ _)
        have hh := hE.1.get 0 rfl
        have hc2 := hh.cell 2
        go_wp2_with fail
        exact TextPost.mk ⟨GTop.mk, hE⟩
      case hv => rfl
    apply Walk.keep 0 rfl rfl rfl rfl
    case hrun =>
      intro W hE hF
      have hcx : W.cell? ⟨g, 4, none⟩ = some (.int .u16 0) := hE.2.2.2.cell 4
      have hfx := hE.2.2.2.frozen 4
      go_wp2_with fail
      exact TextPost.mk ⟨GTop.mk, hE.set 4 _ rfl⟩
    case hv => rfl
    iterate 3
      apply Walk.one rfl rfl rfl
      case hrun =>
        intro c W hE hF
        have hsl := (hE.2.2.2.cell 0).trans (pkC_0 _ _)
        go_wp2_with fail
        exact TextPost.mk ⟨GTop.mk, hE⟩
      case hv => rfl
    apply Walk.keep 1 rfl rfl rfl rfl
    case hrun =>
      intro W hE hF
      have hcx : W.cell? ⟨g, 5, none⟩ = some (.int .u16 0) := hE.2.2.2.cell 5
      have hfx := hE.2.2.2.frozen 5
      go_wp2_with fail
      exact TextPost.mk ⟨GTop.mk, hE.set 5 _ rfl⟩
    case hv => rfl
    refine Walk.done (fun W hE hF => ?_)
    have hbW := hE.1.1
    have hbR := hE.2.2.2
    have hhl := (hE.1.get 0 rfl).lt
    clear hE hF hS4
    go_wp2_with fail
    go_ret
    refine ⟨by rw [HX.out]; rfl, hbW, by omega, fun h => ?_⟩
    rw [HX2.out, HN.out]
    exact hbR
  subst h5
  have HX := Lib.hid (HE2.out.trans (if_neg (by simp)))
  have HX2 := Lib.hid (HF.out.trans (if_neg (by simp)))
  have hB4 := hS4.2.2.2
  have hbW := hS4.1.1
  have hd0 : W.cell? ⟨g, 0, none⟩ = some (.slice (some ⟨b, off, none⟩) n cap) := hB4.cell 0
  have HS4 := Lib.hid (Hs.out _ hbW)
  have i8 : (8 : Int) ≤ n := by omega
  have icap : (n : Int) ≤ cap := by omega
  have HRd4 := Lib.hid (HRd.out W hbW (by omega))
  have hzW : w.heap.size ≤ W.heap.size := by omega
  have HB4 := Lib.hid hB4
  have HbW := Lib.hid hbW
  clear hS4 hB4 hbW
  by_cases hc8 : cap = 8
  · obtain rfl : n = 8 := by omega
    subst hc8
    rw [show 8 - 8 = 0 from rfl] at HQ
    go_wp2_with fail
    refine (HQ.out _ _ (HRe.out (by simp) _ _) HS4.out).mono ?_
    rintro e w5 ⟨rfl, l5⟩
    have hB5 := HB4.out.below l5 HB4.out.lt
    have hb5 := Lib.hid (HbW.out.trans (l5.mono (by omega)))
    have hz5 := l5.size
    have hth := hB5.there 14 5 (by show 14 + 5 ≤ 20; decide)
    go_wp2_with (first | ((with_reducible refine look_store ?_); refine Hid.out ?_) | fail)
    refine Lib.hid ?_
    refine wpList_store_mid rfl _ _ _ rfl g 14 #[.int .u8 QQ.proto, .int .u32 QQ.src, .int .u32 QQ.dst, .int .u16 QQ.sp, .int .u16 QQ.dp] rfl rfl hth (by kernel_rfl) (by simp [Value.oneCell']) ?_
    have hB6 : Blk (w5.setCells g 14 #[.int .u8 QQ.proto, .int .u32 QQ.src, .int .u32 QQ.dst, .int .u16 QQ.sp, .int .u16 QQ.dp].toList) g 117 (pkC (.slice (some ⟨b, off, none⟩) 8 8) ⟨⟨p, s, d, 0, 0⟩, 5, 0, x, y, 0, 0, 0, (8 : Nat) - 8, QQ, 0⟩) := ((((hB5.set 14 _).set 15 _).set 16 _).set 17 _).set 18 _
    have hb6 : Below g w (w5.setCells g 14 #[.int .u8 QQ.proto, .int .u32 QQ.src, .int .u32 QQ.dst, .int .u16 QQ.sp, .int .u16 QQ.dp].toList) := ((((hb5.out.setCell (p := ⟨g, 14, none⟩) (Nat.le_refl _) _).setCell (p := ⟨g, 15, none⟩) (Nat.le_refl _) _).setCell (p := ⟨g, 16, none⟩) (Nat.le_refl _) _).setCell (p := ⟨g, 17, none⟩) (Nat.le_refl _) _).setCell (p := ⟨g, 18, none⟩) (Nat.le_refl _) _
    have hz6 : (w5.setCells g 14 #[.int .u8 QQ.proto, .int .u32 QQ.src, .int .u32 QQ.dst, .int .u16 QQ.sp, .int .u16 QQ.dp].toList).heap.size = w5.heap.size := by simp [World.setCells]
    generalize w5.setCells g 14 _ = w6 at *
    have hc19 : w6.cell? ⟨g, 19, none⟩ = some (.int .u8 0) := hB6.cell 19
    have hf19 := hB6.frozen 19
    have HB6 := Lib.hid hB6
    have Hz6 := Lib.hid hz6
    clear hB6 hz6 hth hB5
    go_wp2_with fail
    go_ret
    refine ⟨by rw [HX.out]; rfl, hb6.setCell (p := ⟨g, 19, none⟩) (Nat.le_refl _) _, by have := Hz6.out; simp; omega, fun h => ?_⟩
    rw [HX.out] at h
    rw [HX2.out, HN.out, ← HQq.out h, ← HQk.out h]
    exact HB6.out.set 19 _
  · go_wp2_with fail
    refine (HQ.out _ _ HRd4.out HS4.out).mono ?_
    rintro e w5 ⟨rfl, l5⟩
    have hB5 := HB4.out.below l5 HB4.out.lt
    have hb5 := Lib.hid (HbW.out.trans (l5.mono (by omega)))
    have hz5 := l5.size
    have hth := hB5.there 14 5 (by show 14 + 5 ≤ 20; decide)
    go_wp2_with (first | ((with_reducible refine look_store ?_); refine Hid.out ?_) | fail)
    refine Lib.hid ?_
    refine wpList_store_mid rfl _ _ _ rfl g 14 #[.int .u8 QQ.proto, .int .u32 QQ.src, .int .u32 QQ.dst, .int .u16 QQ.sp, .int .u16 QQ.dp] rfl rfl hth (by kernel_rfl) (by simp [Value.oneCell']) ?_
    have hB6 : Blk (w5.setCells g 14 #[.int .u8 QQ.proto, .int .u32 QQ.src, .int .u32 QQ.dst, .int .u16 QQ.sp, .int .u16 QQ.dp].toList) g 117 (pkC (.slice (some ⟨b, off, none⟩) n cap) ⟨⟨p, s, d, 0, 0⟩, 5, 0, x, y, 0, 0, 0, (n : Nat) - 8, QQ, 0⟩) := ((((hB5.set 14 _).set 15 _).set 16 _).set 17 _).set 18 _
    have hb6 : Below g w (w5.setCells g 14 #[.int .u8 QQ.proto, .int .u32 QQ.src, .int .u32 QQ.dst, .int .u16 QQ.sp, .int .u16 QQ.dp].toList) := ((((hb5.out.setCell (p := ⟨g, 14, none⟩) (Nat.le_refl _) _).setCell (p := ⟨g, 15, none⟩) (Nat.le_refl _) _).setCell (p := ⟨g, 16, none⟩) (Nat.le_refl _) _).setCell (p := ⟨g, 17, none⟩) (Nat.le_refl _) _).setCell (p := ⟨g, 18, none⟩) (Nat.le_refl _) _
    have hz6 : (w5.setCells g 14 #[.int .u8 QQ.proto, .int .u32 QQ.src, .int .u32 QQ.dst, .int .u16 QQ.sp, .int .u16 QQ.dp].toList).heap.size = w5.heap.size := by simp [World.setCells]
    generalize w5.setCells g 14 _ = w6 at *
    have hc19 : w6.cell? ⟨g, 19, none⟩ = some (.int .u8 0) := hB6.cell 19
    have hf19 := hB6.frozen 19
    have HB6 := Lib.hid hB6
    have Hz6 := Lib.hid hz6
    clear hB6 hz6 hth hB5
    go_wp2_with fail
    go_ret
    refine ⟨by rw [HX.out]; rfl, hb6.setCell (p := ⟨g, 19, none⟩) (Nat.le_refl _) _, by have := Hz6.out; simp; omega, fun h => ?_⟩
    rw [HX.out] at h
    rw [HX2.out, HN.out, ← HQq.out h, ← HQk.out h]
    exact HB6.out.set 19 _
end Go.Proofs.YtebeekjcepjcnaaDoor
