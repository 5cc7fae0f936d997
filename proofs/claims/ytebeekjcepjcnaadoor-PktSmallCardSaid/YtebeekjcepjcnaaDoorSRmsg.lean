/-
  The reference of pkt: message.
-/
import Derived.Test.YtebeekjcepjcnaaDoorProg
import Derived.WalkKit
import Derived.WalkSpells
import Derived.WalkLawsBesides
import Derived.WalkSmall
import Derived.Lib.Hide
import Derived.Deep.AppendLies
import Derived.Maps.AppendAt
import Derived.Laws.AppendOwnNone
import Derived.Laws.CopyOwn
import Derived.OneCell
import Derived.Lib.SliceRun
import Derived.RangeFuncNested
import Derived.RangeFuncBound
import Derived.RangeFuncCalls
import Derived.RangeFuncLeaves
import Derived.Shelf.Abstract
import Derived.OwnWalkIn
import Derived.TacticsInMore
import Derived.LoopNIn
import Derived.LoopIn
import Derived.Orders
import Derived.RegionTactic
import Derived.Still
import Derived.Deep.MidRow
import Derived.Deep.DeepCutAuto
import Derived.Lib.AppendZeros
import Derived.BigRegion
import Derived.ChangeAlike
import Derived.Deep.RegionLaw
import Derived.Deep.RegionHeld3
import Derived.MapKept
import Derived.Laws.StructEq
import Derived.Test.YtebeekjcepjcnaaDoorSBase
import Derived.Test.YtebeekjcepjcnaaDoorSMem
import Derived.Test.YtebeekjcepjcnaaDoorSCsum
import Derived.Test.YtebeekjcepjcnaaDoorSSum
import Derived.Test.YtebeekjcepjcnaaDoorSRegion
import Derived.Test.YtebeekjcepjcnaaDoorSWalk
import Derived.Test.YtebeekjcepjcnaaDoorSStep
import Derived.Test.YtebeekjcepjcnaaDoorSStepb
import Derived.Test.YtebeekjcepjcnaaDoorSRefa
import Derived.Test.YtebeekjcepjcnaaDoorSConcat
import Derived.Test.YtebeekjcepjcnaaDoorSPkt
import Derived.Test.YtebeekjcepjcnaaDoorSRopts
import Derived.Test.YtebeekjcepjcnaaDoorSRnum
import Derived.Test.YtebeekjcepjcnaaDoorSTcpw
import Derived.Test.YtebeekjcepjcnaaDoorSIcmpr
import Derived.Test.YtebeekjcepjcnaaDoorSIprd
import Derived.Test.YtebeekjcepjcnaaDoorSIpre
import Derived.Test.YtebeekjcepjcnaaDoorSTcprd
import Derived.Test.YtebeekjcepjcnaaDoorSUdprd
import Derived.Test.YtebeekjcepjcnaaDoorSEq
import Derived.Test.YtebeekjcepjcnaaDoorSPktm
import Derived.Test.YtebeekjcepjcnaaDoorSPktn
import Derived.Test.YtebeekjcepjcnaaDoorSQuota
import Derived.Test.YtebeekjcepjcnaaDoorSQuotc
import Derived.Test.YtebeekjcepjcnaaDoorSPkto
import Derived.Test.YtebeekjcepjcnaaDoorSRat
import Derived.Test.YtebeekjcepjcnaaDoorSRefc
import Derived.Test.YtebeekjcepjcnaaDoorSRquo
import Derived.Test.YtebeekjcepjcnaaDoorSRefe
import Derived.Test.YtebeekjcepjcnaaDoorSRtcp
import Derived.Test.YtebeekjcepjcnaaDoorSRseg
namespace Go.Proofs.YtebeekjcepjcnaaDoor
open Go.RowKit
theorem icmpE_val (d : List Int) : icmpE d = 100 ∨ icmpE d = 101 ∨ icmpE d = 102 ∨ icmpE d = 0 := by
  unfold icmpE kind2
  repeat' split
  all_goals simp
theorem quoE_val (d : List Int) : quoE d = 103 ∨ quoE d = 104 ∨ quoE d = 0 := by
  unfold quoE
  repeat' split
  all_goals simp
set_option maxRecDepth 100000 in
set_option maxHeartbeats 8000000 in
theorem rMessage_any (p s d : Int) (A : Option Addr) (cap n : Nat) (xs : List Int) (w : World) (hn : xs.length = n) (hcap : n ≤ cap) (hl : n ≤ 1000000) (hB : Byt xs) (hr : Rd w w.heap.size A .u8 xs) :
    Calls Tryd.prog 95 #[(baseK p s d).val, .slice A n cap] w (SegOut w (icmpE2 xs) (icmpF (baseK p s d) xs)) := by
  have HT := Lib.hid (fun (W : World) (h : Below w.heap.size w W) => r10Read_any A cap n xs W hn hl hB (hr.belows h (Nat.le_refl _)))
  have HEv := icmpE_val xs
  rw [show (baseK p s d).val = .agg #[.int .u8 p, .int .u32 s, .int .u32 d, .int .u16 0, .int .u16 0, .int .u8 0, .int .u8 0, .int .u8 0, .int .u8 0, .int .u32 0, .int .u32 0, .int .i64 0, .int .i64 0, .int .u8 0, .int .u32 0, .int .u32 0, .int .u16 0, .int .u16 0, .int .u8 0] from rfl]
  by_cases hE : icmpE xs = 0
  case neg =>
    rw [if_neg hE] at HT
    have HX := Lib.hid (show icmpE2 xs = icmpE xs from if_pos hE)
    unfold msgZ at HT
    clear hr hB hn
    generalize icmpE2 xs = E2 at *
    generalize icmpE xs = E at *
    go_enter Tryd.func95, Tryd.ntmps95
    go_upto_region 1 with (first | ((with_reducible refine look_store ?_); refine wpList_store_new rfl _ _ _ rfl _ _ rfl rfl _ _ rfl (by kernel_rfl) (by simp) (by simp [Value.oneCell']) ?_) | fail)
    refine wp_name2 ?_
    intro w1 hb1 hs1 bf br
    have HT1 := Lib.hid (HT.out w1 hb1)
    clear HT
    go_wp2_with fail
    refine HT1.out.mono ?_
    rintro e w2 ⟨rfl, l1⟩
    have bf2 := bf.below l1 bf.lt
    have br2 := br.below l1 br.lt
    have hb2 := hb1.trans (l1.mono hb1.size)
    clear bf br hb1 hs1 l1
    go_upto_region 2 with (first | ((with_reducible refine look_store ?_); refine wpList_store_new rfl _ _ _ rfl _ _ rfl rfl _ _ rfl (by kernel_rfl) (by simp) (by simp [Value.oneCell']) ?_) | fail)
    refine wp_name1 ?_
    intro w3 hb3 hs3 bh
    have bf := bf2.below hb3 bf2.lt
    have br := br2.below hb3 br2.lt
    have hbW := hb2.trans (hb3.mono hb2.size)
    clear bf2 br2 hb2 hb3
    rcases HEv with rfl | rfl | rfl | rfl
    case inr.inr.inr => exact absurd rfl hE
    · go_wp2_with (first | ((with_reducible refine look_load ?_); refine wpList_load_row rfl _ _ rfl _ rfl _ _ _ _ bf Tryd.underlying27 rfl (by kernel_rfl) ?_) | ((with_reducible refine look_store ?_); refine wpList_store_row rfl _ _ _ rfl _ _ rfl rfl _ _ br (by kernel_rfl) (by simp) (by simp [Value.oneCell']) ?_) | fail)
      exact bodyPost_ret (results_cell_tmp Tryd.results95 _ _ _ _ _ _ _ rfl (setRow_heap _ _ _ _ _ _ br) Tryd.underlying27 rfl (by kernel_rfl)) rfl ⟨baseK p s d, by rw [HX.out]; rfl, fun h => absurd (HX.out ▸ h) (by decide), below_setRow hbW (by omega) _⟩
    · go_wp2_with (first | ((with_reducible refine look_load ?_); refine wpList_load_row rfl _ _ rfl _ rfl _ _ _ _ bf Tryd.underlying27 rfl (by kernel_rfl) ?_) | ((with_reducible refine look_store ?_); refine wpList_store_row rfl _ _ _ rfl _ _ rfl rfl _ _ br (by kernel_rfl) (by simp) (by simp [Value.oneCell']) ?_) | fail)
      exact bodyPost_ret (results_cell_tmp Tryd.results95 _ _ _ _ _ _ _ rfl (setRow_heap _ _ _ _ _ _ br) Tryd.underlying27 rfl (by kernel_rfl)) rfl ⟨baseK p s d, by rw [HX.out]; rfl, fun h => absurd (HX.out ▸ h) (by decide), below_setRow hbW (by omega) _⟩
    · go_wp2_with (first | ((with_reducible refine look_load ?_); refine wpList_load_row rfl _ _ rfl _ rfl _ _ _ _ bf Tryd.underlying27 rfl (by kernel_rfl) ?_) | ((with_reducible refine look_store ?_); refine wpList_store_row rfl _ _ _ rfl _ _ rfl rfl _ _ br (by kernel_rfl) (by simp) (by simp [Value.oneCell']) ?_) | fail)
      exact bodyPost_ret (results_cell_tmp Tryd.results95 _ _ _ _ _ _ _ rfl (setRow_heap _ _ _ _ _ _ br) Tryd.underlying27 rfl (by kernel_rfl)) rfl ⟨baseK p s d, by rw [HX.out]; rfl, fun h => absurd (HX.out ▸ h) (by decide), below_setRow hbW (by omega) _⟩
  have h8 : 8 ≤ n := by
    rcases Nat.lt_or_ge n 8 with h | h
    · unfold icmpE at hE; rw [if_pos (by omega)] at hE; cases hE
    · exact h
  have hk2 : kind2 (xs.getD 0 0).toNat (xs.getD 1 0).toNat = 0 := by unfold icmpE at hE; rw [if_neg (by omega)] at hE; exact hE
  rw [if_pos hE, hE] at HT
  obtain ⟨b, off, rfl, hbl, hc⟩ := hr.at0 (by omega)
  have HK := Lib.hid (fun (W : World) => rKindI_any (xs.getD 0 0) (xs.getD 1 0) W (hB.at_ 0).1 (hB.at_ 1).1)
  rw [hk2] at HK
  have HQ := Lib.hid (fun (W : World) A' (h : Rd W W.heap.size A' .u8 (xs.drop 8)) => r10Quote_any A' (cap - 8) (n - 8) (xs.drop 8) W (by simp [hn]) (by omega) (by omega) (hB.drop 8) h)
  have HRd := Lib.hid (fun (W : World) (h : Below w.heap.size w W) => (((hr.drop 8 (A' := some ⟨b, off + 8, none⟩) fun _ b2 o2 h => by
    simp only [Option.some.injEq, Addr.mk.injEq] at h
    obtain ⟨rfl, rfl, _⟩ := h
    rfl).belows h (Nat.le_refl _)) : Rd W W.heap.size (some ⟨b, off + 8, none⟩) .u8 (xs.drop 8)))
  have HRe : Hid (cap = 8 → ∀ W A', Rd W W.heap.size A' .u8 (xs.drop 8)) := Lib.hid fun hc W A' => by
    rw [List.drop_eq_nil_of_le (by omega)]; exact Rd.nil
  have HM := Lib.hid (show msgN xs = #[.int .u8 (xs.getD 0 0), .int .u8 (xs.getD 1 0), .int .u16 (w16At xs 4), .int .u16 (w16At xs 6)] from rfl)
  rw [HM.out] at HT
  have HF := Lib.hid (show icmpF (baseK p s d) xs = if icmpK xs ≠ 5 then ⟨⟨p, s, d, w16At xs 4, w16At xs 4⟩, icmpK xs, 0, xs.getD 0 0, xs.getD 1 0, 0, 0, 0, xs.length - 8, ⟨0, 0, 0, 0, 0⟩, 0⟩ else ⟨⟨p, s, d, 0, 0⟩, icmpK xs, 0, xs.getD 0 0, xs.getD 1 0, 0, 0, 0, xs.length - 8, quoKey (xs.drop 8), quoKind (xs.drop 8)⟩ from rfl)
  have HE2 := Lib.hid (show icmpE2 xs = if icmpK xs ≠ 5 then 0 else quoE (xs.drop 8) by unfold icmpE2; rw [if_neg (by simpa using hE)])
  have HKI := Lib.hid (show icmpK xs = kind1 (xs.getD 0 0).toNat (xs.getD 1 0).toNat from rfl)
  rw [← HKI.out] at HK
  have HN := Lib.hid hn
  have HQl := Lib.hid (quoOut_lit (xs.drop 8))
  have HQv := Lib.hid (quoE_val (xs.drop 8))
  have HQq := Lib.hid (show quoE (xs.drop 8) = 0 → quoQ (xs.drop 8) = quoKey (xs.drop 8) from fun h => if_pos h)
  have HQk := Lib.hid (show quoE (xs.drop 8) = 0 → (if quoE (xs.drop 8) = 0 then quoKind (xs.drop 8) else 0) = quoKind (xs.drop 8) from fun h => if_pos h)
  unfold QuoPost at HQ
  rw [HQl.out] at HQ
  clear hr hB hn hc hE hk2 HM HQl HKI HEv
  generalize icmpE2 xs = E2 at *
  generalize icmpK xs = KK at *
  generalize (if quoE (xs.drop 8) = 0 then quoKind (xs.drop 8) else 0) = QK at *
  generalize quoE (xs.drop 8) = QE at *
  generalize quoQ (xs.drop 8) = QQ at *
  generalize w16At xs 4 = a4 at *
  generalize w16At xs 6 = a6 at *
  generalize xs.getD 0 0 = x at *
  generalize xs.getD 1 0 = y at *
  go_enter Tryd.func95, Tryd.ntmps95
  go_upto_region 1 with (first | ((with_reducible refine look_store ?_); refine wpList_store_new rfl _ _ _ rfl _ _ rfl rfl _ _ rfl (by kernel_rfl) (by simp) (by simp [Value.oneCell']) ?_) | fail)
  refine wp_name2 ?_
  intro w1 hb1 hs1 bf br
  have HT1 := Lib.hid (HT.out w1 hb1)
  clear HT
  go_wp2_with fail
  refine HT1.out.mono ?_
  rintro e w2 ⟨rfl, l1⟩
  have bf2 := bf.below l1 bf.lt
  have br2 := br.below l1 br.lt
  have hb2 := hb1.trans (l1.mono hb1.size)
  clear bf br hb1 hs1 l1
  go_upto_region 2 with (first | ((with_reducible refine look_store ?_); refine wpList_store_new rfl _ _ _ rfl _ _ rfl rfl _ _ rfl (by kernel_rfl) (by simp) (by simp [Value.oneCell']) ?_) | fail)
  refine wp_name1 ?_
  intro w3 hb3 hs3 bh
  have bf := bf2.below hb3 bf2.lt
  have br := br2.below hb3 br2.lt
  have hbW := hb2.trans (hb3.mono hb2.size)
  have hz2 : w.heap.size + 1 < w2.heap.size := br2.lt
  have hz3 := hb3.size
  clear bf2 br2 hb2 hb3
  have hc0 := bh.cell 0
  have hc1 := bh.cell 1
  have hk5 : w3.cell? ⟨w.heap.size, 5, none⟩ = some (.int .u8 0) := bf.cell 5
  have hf5 := bf.frozen 5
  go_wp2_with fail
  refine (HK.out _).mono ?_
  rintro e wk ⟨rfl, rfl⟩
  go_wp2_with fail
  have hS0 : St w w.heap.size [(w2.heap.size, 101, #[.int .u8 x, .int .u8 y, .int .u16 a4, .int .u16 a6]), (w.heap.size + 1, 27, #[.int .u8 0, .int .u32 0, .int .u32 0, .int .u16 0, .int .u16 0, .int .u8 0, .int .u8 0, .int .u8 0, .int .u8 0, .int .u32 0, .int .u32 0, .int .i64 0, .int .i64 0, .int .u8 0, .int .u32 0, .int .u32 0, .int .u16 0, .int .u16 0, .int .u8 0])] w3 := ((St.nil hbW hbW.size).cons br).cons bh
  have hS1 := hS0.setFar (p := ⟨w.heap.size, 5, none⟩) (Nat.le_refl _) (by simp; omega) (.int .u8 KK)
  have hB1 : Blk (w3.setCell ⟨w.heap.size, 5, none⟩ (.int .u8 KK)) w.heap.size 27 (fcC (pkI p s d KK x y (n - 8) a4 a4 1)) := bf.set 5 _
  have hS : StN w w.heap.size _ w.heap.size 27 (fun c => fcC (pkI p s d KK x y (n - 8) a4 a4 (c + 1))) 0 _ := ⟨hS1, Nat.le_refl _, by simp; omega, hB1⟩
  clear hS0 hS1 hB1 bh bf br hbW hk5 hf5 hc0 hc1
  refine wp_region_walk0 (by kernel_rfl) (StN w w.heap.size _ w.heap.size 27 (fun c => fcC (pkI p s d KK x y (n - 8) a4 a4 (c + 1)))) [8, 10, 12] GTop [0, 1, 2, 3, 4, 5, 6, 7, 8, 9, 10, 11, 12] (by kernel_rfl) hS.drew ?_
  iterate 8
    apply Walk.one rfl rfl rfl
    case hrun =>
      intro c W hE hF
      have hh := hE.1.get 0 rfl
      have hc0 := hh.cell 0
      have hc1 := hh.cell 1
      go_wp2_with fail
      exact TextPost.mk ⟨GTop.mk, hE⟩
    case hv => rfl
  apply Walk.keep 0 rfl rfl rfl rfl
  case hrun =>
    intro W hE hF
    have hcx : W.cell? ⟨w.heap.size, 7, none⟩ = some (.int .u8 0) := hE.2.2.2.cell 7
    have hfx := hE.2.2.2.frozen 7
    go_wp2_with fail
    exact TextPost.mk ⟨GTop.mk, hE.set 7 _ rfl⟩
  case hv => rfl
  apply Walk.one rfl rfl rfl
  case hrun =>
    intro c W hE hF
    go_wp2_with fail
    exact TextPost.mk ⟨GTop.mk, hE⟩
  case hv => rfl
  apply Walk.keep 1 rfl rfl rfl rfl
  case hrun =>
    intro W hE hF
    have hcx : W.cell? ⟨w.heap.size, 8, none⟩ = some (.int .u8 0) := hE.2.2.2.cell 8
    have hfx := hE.2.2.2.frozen 8
    go_wp2_with fail
    exact TextPost.mk ⟨GTop.mk, hE.set 8 _ rfl⟩
  case hv => rfl
  apply Walk.one rfl rfl rfl
  case hrun =>
    intro c W hE hF
    go_wp2_with fail
    exact TextPost.mk ⟨GTop.mk, hE⟩
  case hv => rfl
  apply Walk.keep 2 rfl rfl rfl rfl
  case hrun =>
    intro W hE hF
    have hcx : W.cell? ⟨w.heap.size, 12, none⟩ = some (.int .i64 0) := hE.2.2.2.cell 12
    have hfx := hE.2.2.2.frozen 12
    go_wp2_with fail
    exact TextPost.mk ⟨GTop.mk, hE.set 12 _ rfl⟩
  case hv => rfl
  refine Walk.done (fun W hE hF => ?_)
  have hS4 : StN w w.heap.size [(w2.heap.size, 101, #[.int .u8 x, .int .u8 y, .int .u16 a4, .int .u16 a6]), (w.heap.size + 1, 27, #[.int .u8 0, .int .u32 0, .int .u32 0, .int .u16 0, .int .u16 0, .int .u8 0, .int .u8 0, .int .u8 0, .int .u8 0, .int .u32 0, .int .u32 0, .int .i64 0, .int .i64 0, .int .u8 0, .int .u32 0, .int .u32 0, .int .u16 0, .int .u16 0, .int .u8 0])] w.heap.size 27 (fun c => fcC (pkI p s d KK x y (n - 8) a4 a4 (c + 4))) 0 W := hE
  have hk5 : W.cell? ⟨w.heap.size, 5, none⟩ = some (.int .u8 KK) := hS4.2.2.2.cell 5
  clear hE hF hS
  by_cases h5 : KK = 5
  case neg =>
    have e5 : (KK != 5) = true := by simpa using h5
    have HX := Lib.hid (HE2.out.trans (if_pos h5))
    have HX2 := Lib.hid (HF.out.trans (if_pos h5))
    clear h5
    go_wp2_with fail
    clear hk5
    refine wp_region_walk0 (by kernel_rfl) (StN w w.heap.size _ w.heap.size 27 (fun c => fcC (pkI p s d KK x y (n - 8) a4 a4 (c + 4)))) [6, 9] GTop [0, 1, 2, 3, 4, 5, 6, 7, 8, 9] (by kernel_rfl) hS4.drew ?_
    iterate 6
      apply Walk.one rfl rfl rfl
      case hrun =>
        intro c W hE hF
        have hh := hE.1.get 0 rfl
        have hc2 := hh.cell 2
        go_wp2_with fail
        exact TextPost.mk ⟨GTop.mk, hE⟩
      case hv => rfl
    apply Walk.keep 0 rfl rfl rfl rfl
    case hrun =>
      intro W hE hF
      have hcx : W.cell? ⟨w.heap.size, 3, none⟩ = some (.int .u16 0) := hE.2.2.2.cell 3
      have hfx := hE.2.2.2.frozen 3
      go_wp2_with fail
      exact TextPost.mk ⟨GTop.mk, hE.set 3 _ rfl⟩
    case hv => rfl
    iterate 2
      apply Walk.one rfl rfl rfl
      case hrun =>
        intro c W hE hF
        go_wp2_with fail
        exact TextPost.mk ⟨GTop.mk, hE⟩
      case hv => rfl
    apply Walk.keep 1 rfl rfl rfl rfl
    case hrun =>
      intro W hE hF
      have hcx : W.cell? ⟨w.heap.size, 4, none⟩ = some (.int .u16 0) := hE.2.2.2.cell 4
      have hfx := hE.2.2.2.frozen 4
      go_wp2_with fail
      exact TextPost.mk ⟨GTop.mk, hE.set 4 _ rfl⟩
    case hv => rfl
    refine Walk.done (fun W hE hF => ?_)
    have hbW := hE.1.1
    have bf : Blk W w.heap.size 27 #[.int .u8 p, .int .u32 s, .int .u32 d, .int .u16 a4, .int .u16 a4, .int .u8 KK, .int .u8 0, .int .u8 x, .int .u8 y, .int .u32 0, .int .u32 0, .int .i64 0, .int .i64 (n - 8), .int .u8 0, .int .u32 0, .int .u32 0, .int .u16 0, .int .u16 0, .int .u8 0] := hE.2.2.2
    have br := hE.1.get 1 rfl
    clear hE hF hS4
    go_wp2_with (first | ((with_reducible refine look_load ?_); refine wpList_load_row rfl _ _ rfl _ rfl _ _ _ _ bf Tryd.underlying27 rfl (by kernel_rfl) ?_) | ((with_reducible refine look_store ?_); refine wpList_store_row rfl _ _ _ rfl _ _ rfl rfl _ _ br (by kernel_rfl) (by simp) (by simp [Value.oneCell']) ?_) | fail)
    exact bodyPost_ret (results_cell_tmp Tryd.results95 _ _ _ _ _ _ _ rfl (setRow_heap _ _ _ _ _ _ br) Tryd.underlying27 rfl (by kernel_rfl)) rfl ⟨⟨⟨p, s, d, a4, a4⟩, KK, 0, x, y, 0, 0, 0, n - 8, ⟨0, 0, 0, 0, 0⟩, 0⟩, by rw [HX.out]; rfl, fun _ => by rw [HX2.out, HN.out], below_setRow hbW (by omega) _⟩
  subst h5
  have HX := Lib.hid (HE2.out.trans (if_neg (by simp)))
  have HX2 := Lib.hid (HF.out.trans (if_neg (by simp)))
  have hbW := hS4.1.1
  have bf : Blk W w.heap.size 27 #[.int .u8 p, .int .u32 s, .int .u32 d, .int .u16 0, .int .u16 0, .int .u8 5, .int .u8 0, .int .u8 x, .int .u8 y, .int .u32 0, .int .u32 0, .int .i64 0, .int .i64 (n - 8), .int .u8 0, .int .u32 0, .int .u32 0, .int .u16 0, .int .u16 0, .int .u8 0] := hS4.2.2.2
  have br := hS4.1.get 1 rfl
  have i8 : (8 : Int) ≤ n := by omega
  have icap : (n : Int) ≤ cap := by omega
  have HRd4 := Lib.hid (HRd.out W hbW)
  clear hS4
  by_cases hc8 : cap = 8
  · obtain rfl : n = 8 := by omega
    subst hc8
    rw [show 8 - 8 = 0 from rfl] at HQ
    go_wp2_with fail
    refine (HQ.out _ _ (HRe.out (by simp) _ _)).mono ?_
    rintro e w5 ⟨rfl, l5⟩
    have bf5 := bf.below l5 bf.lt
    have br5 := br.below l5 br.lt
    have hb5 := hbW.trans (l5.mono hbW.size)
    have hz5 := l5.size
    have hzW := bf.lt
    clear bf br hbW hk5
    go_upto_region 12 with (first | ((with_reducible refine look_store ?_); refine wpList_store_new rfl _ _ _ rfl _ _ rfl rfl _ _ rfl (by kernel_rfl) (by simp) (by simp [Value.oneCell']) ?_) | fail)
    refine wp_name1 ?_
    intro w6 hb6 hs6 bq
    have bf := bf5.below hb6 bf5.lt
    have br := br5.below hb6 br5.lt
    have hbW := hb5.trans (hb6.mono hb5.size)
    clear bf5 br5 hb5 hb6
    rcases HQv.out with hq | hq | hq
    · subst hq
      go_wp2_with (first | ((with_reducible refine look_load ?_); refine wpList_load_row rfl _ _ rfl _ rfl _ _ _ _ bf Tryd.underlying27 rfl (by kernel_rfl) ?_) | ((with_reducible refine look_store ?_); refine wpList_store_row rfl _ _ _ rfl _ _ rfl rfl _ _ br (by kernel_rfl) (by simp) (by simp [Value.oneCell']) ?_) | fail)
      exact bodyPost_ret (results_cell_tmp Tryd.results95 _ _ _ _ _ _ _ rfl (setRow_heap _ _ _ _ _ _ br) Tryd.underlying27 rfl (by kernel_rfl)) rfl ⟨⟨⟨p, s, d, 0, 0⟩, 5, 0, x, y, 0, 0, 0, (8 : Nat) - 8, ⟨0, 0, 0, 0, 0⟩, 0⟩, by rw [HX.out]; rfl, fun h => absurd (HX.out ▸ h) (by decide), below_setRow hbW (by omega) _⟩
    · subst hq
      go_wp2_with (first | ((with_reducible refine look_load ?_); refine wpList_load_row rfl _ _ rfl _ rfl _ _ _ _ bf Tryd.underlying27 rfl (by kernel_rfl) ?_) | ((with_reducible refine look_store ?_); refine wpList_store_row rfl _ _ _ rfl _ _ rfl rfl _ _ br (by kernel_rfl) (by simp) (by simp [Value.oneCell']) ?_) | fail)
      exact bodyPost_ret (results_cell_tmp Tryd.results95 _ _ _ _ _ _ _ rfl (setRow_heap _ _ _ _ _ _ br) Tryd.underlying27 rfl (by kernel_rfl)) rfl ⟨⟨⟨p, s, d, 0, 0⟩, 5, 0, x, y, 0, 0, 0, (8 : Nat) - 8, ⟨0, 0, 0, 0, 0⟩, 0⟩, by rw [HX.out]; rfl, fun h => absurd (HX.out ▸ h) (by decide), below_setRow hbW (by omega) _⟩
    subst hq
    have hth := bf.there 13 5 (by show 13 + 5 ≤ 19; decide)
    go_wp2_with (first | ((with_reducible refine look_load ?_); refine wpList_load_row rfl _ _ rfl _ rfl _ _ _ _ bq Tryd.underlying25 rfl (by kernel_rfl) ?_) | ((with_reducible refine look_store ?_); refine Hid.out ?_) | fail)
    refine Lib.hid ?_
    refine wpList_store_mid rfl _ _ _ rfl w.heap.size 13 #[.int .u8 QQ.proto, .int .u32 QQ.src, .int .u32 QQ.dst, .int .u16 QQ.sp, .int .u16 QQ.dp] rfl rfl hth (by kernel_rfl) (by simp [Value.oneCell']) ?_
    have bf6 : Blk (w6.setCells w.heap.size 13 #[.int .u8 QQ.proto, .int .u32 QQ.src, .int .u32 QQ.dst, .int .u16 QQ.sp, .int .u16 QQ.dp].toList) w.heap.size 27 #[.int .u8 p, .int .u32 s, .int .u32 d, .int .u16 0, .int .u16 0, .int .u8 5, .int .u8 0, .int .u8 x, .int .u8 y, .int .u32 0, .int .u32 0, .int .i64 0, .int .i64 ((8 : Nat) - 8), .int .u8 QQ.proto, .int .u32 QQ.src, .int .u32 QQ.dst, .int .u16 QQ.sp, .int .u16 QQ.dp, .int .u8 0] := ((((bf.set 13 _).set 14 _).set 15 _).set 16 _).set 17 _
    have br6 : Blk (w6.setCells w.heap.size 13 #[.int .u8 QQ.proto, .int .u32 QQ.src, .int .u32 QQ.dst, .int .u16 QQ.sp, .int .u16 QQ.dp].toList) (w.heap.size + 1) 27 #[.int .u8 0, .int .u32 0, .int .u32 0, .int .u16 0, .int .u16 0, .int .u8 0, .int .u8 0, .int .u8 0, .int .u8 0, .int .u32 0, .int .u32 0, .int .i64 0, .int .i64 0, .int .u8 0, .int .u32 0, .int .u32 0, .int .u16 0, .int .u16 0, .int .u8 0] := ((((br.far (p := ⟨w.heap.size, 13, none⟩) (by simp) _).far (p := ⟨w.heap.size, 14, none⟩) (by simp) _).far (p := ⟨w.heap.size, 15, none⟩) (by simp) _).far (p := ⟨w.heap.size, 16, none⟩) (by simp) _).far (p := ⟨w.heap.size, 17, none⟩) (by simp) _
    have hb6 : Below w.heap.size w (w6.setCells w.heap.size 13 #[.int .u8 QQ.proto, .int .u32 QQ.src, .int .u32 QQ.dst, .int .u16 QQ.sp, .int .u16 QQ.dp].toList) := ((((hbW.setCell (p := ⟨w.heap.size, 13, none⟩) (Nat.le_refl _) _).setCell (p := ⟨w.heap.size, 14, none⟩) (Nat.le_refl _) _).setCell (p := ⟨w.heap.size, 15, none⟩) (Nat.le_refl _) _).setCell (p := ⟨w.heap.size, 16, none⟩) (Nat.le_refl _) _).setCell (p := ⟨w.heap.size, 17, none⟩) (Nat.le_refl _) _
    generalize w6.setCells w.heap.size 13 _ = w7 at *
    have hc18 : w7.cell? ⟨w.heap.size, 18, none⟩ = some (.int .u8 0) := bf6.cell 18
    have hf18 := bf6.frozen 18
    have bf7 : Blk (w7.setCell ⟨w.heap.size, 18, none⟩ (.int .u8 QK)) w.heap.size 27 #[.int .u8 p, .int .u32 s, .int .u32 d, .int .u16 0, .int .u16 0, .int .u8 5, .int .u8 0, .int .u8 x, .int .u8 y, .int .u32 0, .int .u32 0, .int .i64 0, .int .i64 ((8 : Nat) - 8), .int .u8 QQ.proto, .int .u32 QQ.src, .int .u32 QQ.dst, .int .u16 QQ.sp, .int .u16 QQ.dp, .int .u8 QK] := bf6.set 18 _
    have br7 := br6.far (p := ⟨w.heap.size, 18, none⟩) (by simp) (.int .u8 QK)
    have hb7 := hb6.setCell (p := ⟨w.heap.size, 18, none⟩) (Nat.le_refl _) (.int .u8 QK)
    clear bf6 br6 hb6 hth bf br hbW bq
    go_wp2_with (first | ((with_reducible refine look_load ?_); refine wpList_load_row rfl _ _ rfl _ rfl _ _ _ _ bf7 Tryd.underlying27 rfl (by kernel_rfl) ?_) | ((with_reducible refine look_store ?_); refine wpList_store_row rfl _ _ _ rfl _ _ rfl rfl _ _ br7 (by kernel_rfl) (by simp) (by simp [Value.oneCell']) ?_) | fail)
    exact bodyPost_ret (results_cell_tmp Tryd.results95 _ _ _ _ _ _ _ rfl (setRow_heap _ _ _ _ _ _ br7) Tryd.underlying27 rfl (by kernel_rfl)) rfl ⟨⟨⟨p, s, d, 0, 0⟩, 5, 0, x, y, 0, 0, 0, (8 : Nat) - 8, QQ, QK⟩, by rw [HX.out]; rfl, fun _ => by rw [HX2.out, HN.out, HQq.out (by simp), HQk.out (by simp)], below_setRow hb7 (by omega) _⟩
  · go_wp2_with fail
    refine (HQ.out _ _ HRd4.out).mono ?_
    rintro e w5 ⟨rfl, l5⟩
    have bf5 := bf.below l5 bf.lt
    have br5 := br.below l5 br.lt
    have hb5 := hbW.trans (l5.mono hbW.size)
    have hz5 := l5.size
    have hzW := bf.lt
    clear bf br hbW hk5
    go_upto_region 12 with (first | ((with_reducible refine look_store ?_); refine wpList_store_new rfl _ _ _ rfl _ _ rfl rfl _ _ rfl (by kernel_rfl) (by simp) (by simp [Value.oneCell']) ?_) | fail)
    refine wp_name1 ?_
    intro w6 hb6 hs6 bq
    have bf := bf5.below hb6 bf5.lt
    have br := br5.below hb6 br5.lt
    have hbW := hb5.trans (hb6.mono hb5.size)
    clear bf5 br5 hb5 hb6
    rcases HQv.out with hq | hq | hq
    · subst hq
      go_wp2_with (first | ((with_reducible refine look_load ?_); refine wpList_load_row rfl _ _ rfl _ rfl _ _ _ _ bf Tryd.underlying27 rfl (by kernel_rfl) ?_) | ((with_reducible refine look_store ?_); refine wpList_store_row rfl _ _ _ rfl _ _ rfl rfl _ _ br (by kernel_rfl) (by simp) (by simp [Value.oneCell']) ?_) | fail)
      exact bodyPost_ret (results_cell_tmp Tryd.results95 _ _ _ _ _ _ _ rfl (setRow_heap _ _ _ _ _ _ br) Tryd.underlying27 rfl (by kernel_rfl)) rfl ⟨⟨⟨p, s, d, 0, 0⟩, 5, 0, x, y, 0, 0, 0, (n : Nat) - 8, ⟨0, 0, 0, 0, 0⟩, 0⟩, by rw [HX.out]; rfl, fun h => absurd (HX.out ▸ h) (by decide), below_setRow hbW (by omega) _⟩
    · subst hq
      go_wp2_with (first | ((with_reducible refine look_load ?_); refine wpList_load_row rfl _ _ rfl _ rfl _ _ _ _ bf Tryd.underlying27 rfl (by kernel_rfl) ?_) | ((with_reducible refine look_store ?_); refine wpList_store_row rfl _ _ _ rfl _ _ rfl rfl _ _ br (by kernel_rfl) (by simp) (by simp [Value.oneCell']) ?_) | fail)
      exact bodyPost_ret (results_cell_tmp Tryd.results95 _ _ _ _ _ _ _ rfl (setRow_heap _ _ _ _ _ _ br) Tryd.underlying27 rfl (by kernel_rfl)) rfl ⟨⟨⟨p, s, d, 0, 0⟩, 5, 0, x, y, 0, 0, 0, (n : Nat) - 8, ⟨0, 0, 0, 0, 0⟩, 0⟩, by rw [HX.out]; rfl, fun h => absurd (HX.out ▸ h) (by decide), below_setRow hbW (by omega) _⟩
    subst hq
    have hth := bf.there 13 5 (by show 13 + 5 ≤ 19; decide)
    go_wp2_with (first | ((with_reducible refine look_load ?_); refine wpList_load_row rfl _ _ rfl _ rfl _ _ _ _ bq Tryd.underlying25 rfl (by kernel_rfl) ?_) | ((with_reducible refine look_store ?_); refine Hid.out ?_) | fail)
    refine Lib.hid ?_
    refine wpList_store_mid rfl _ _ _ rfl w.heap.size 13 #[.int .u8 QQ.proto, .int .u32 QQ.src, .int .u32 QQ.dst, .int .u16 QQ.sp, .int .u16 QQ.dp] rfl rfl hth (by kernel_rfl) (by simp [Value.oneCell']) ?_
    have bf6 : Blk (w6.setCells w.heap.size 13 #[.int .u8 QQ.proto, .int .u32 QQ.src, .int .u32 QQ.dst, .int .u16 QQ.sp, .int .u16 QQ.dp].toList) w.heap.size 27 #[.int .u8 p, .int .u32 s, .int .u32 d, .int .u16 0, .int .u16 0, .int .u8 5, .int .u8 0, .int .u8 x, .int .u8 y, .int .u32 0, .int .u32 0, .int .i64 0, .int .i64 ((n : Nat) - 8), .int .u8 QQ.proto, .int .u32 QQ.src, .int .u32 QQ.dst, .int .u16 QQ.sp, .int .u16 QQ.dp, .int .u8 0] := ((((bf.set 13 _).set 14 _).set 15 _).set 16 _).set 17 _
    have br6 : Blk (w6.setCells w.heap.size 13 #[.int .u8 QQ.proto, .int .u32 QQ.src, .int .u32 QQ.dst, .int .u16 QQ.sp, .int .u16 QQ.dp].toList) (w.heap.size + 1) 27 #[.int .u8 0, .int .u32 0, .int .u32 0, .int .u16 0, .int .u16 0, .int .u8 0, .int .u8 0, .int .u8 0, .int .u8 0, .int .u32 0, .int .u32 0, .int .i64 0, .int .i64 0, .int .u8 0, .int .u32 0, .int .u32 0, .int .u16 0, .int .u16 0, .int .u8 0] := ((((br.far (p := ⟨w.heap.size, 13, none⟩) (by simp) _).far (p := ⟨w.heap.size, 14, none⟩) (by simp) _).far (p := ⟨w.heap.size, 15, none⟩) (by simp) _).far (p := ⟨w.heap.size, 16, none⟩) (by simp) _).far (p := ⟨w.heap.size, 17, none⟩) (by simp) _
    have hb6 : Below w.heap.size w (w6.setCells w.heap.size 13 #[.int .u8 QQ.proto, .int .u32 QQ.src, .int .u32 QQ.dst, .int .u16 QQ.sp, .int .u16 QQ.dp].toList) := ((((hbW.setCell (p := ⟨w.heap.size, 13, none⟩) (Nat.le_refl _) _).setCell (p := ⟨w.heap.size, 14, none⟩) (Nat.le_refl _) _).setCell (p := ⟨w.heap.size, 15, none⟩) (Nat.le_refl _) _).setCell (p := ⟨w.heap.size, 16, none⟩) (Nat.le_refl _) _).setCell (p := ⟨w.heap.size, 17, none⟩) (Nat.le_refl _) _
    generalize w6.setCells w.heap.size 13 _ = w7 at *
    have hc18 : w7.cell? ⟨w.heap.size, 18, none⟩ = some (.int .u8 0) := bf6.cell 18
    have hf18 := bf6.frozen 18
    have bf7 : Blk (w7.setCell ⟨w.heap.size, 18, none⟩ (.int .u8 QK)) w.heap.size 27 #[.int .u8 p, .int .u32 s, .int .u32 d, .int .u16 0, .int .u16 0, .int .u8 5, .int .u8 0, .int .u8 x, .int .u8 y, .int .u32 0, .int .u32 0, .int .i64 0, .int .i64 ((n : Nat) - 8), .int .u8 QQ.proto, .int .u32 QQ.src, .int .u32 QQ.dst, .int .u16 QQ.sp, .int .u16 QQ.dp, .int .u8 QK] := bf6.set 18 _
    have br7 := br6.far (p := ⟨w.heap.size, 18, none⟩) (by simp) (.int .u8 QK)
    have hb7 := hb6.setCell (p := ⟨w.heap.size, 18, none⟩) (Nat.le_refl _) (.int .u8 QK)
    clear bf6 br6 hb6 hth bf br hbW bq
    go_wp2_with (first | ((with_reducible refine look_load ?_); refine wpList_load_row rfl _ _ rfl _ rfl _ _ _ _ bf7 Tryd.underlying27 rfl (by kernel_rfl) ?_) | ((with_reducible refine look_store ?_); refine wpList_store_row rfl _ _ _ rfl _ _ rfl rfl _ _ br7 (by kernel_rfl) (by simp) (by simp [Value.oneCell']) ?_) | fail)
    exact bodyPost_ret (results_cell_tmp Tryd.results95 _ _ _ _ _ _ _ rfl (setRow_heap _ _ _ _ _ _ br7) Tryd.underlying27 rfl (by kernel_rfl)) rfl ⟨⟨⟨p, s, d, 0, 0⟩, 5, 0, x, y, 0, 0, 0, (n : Nat) - 8, QQ, QK⟩, by rw [HX.out]; rfl, fun _ => by rw [HX2.out, HN.out, HQq.out (by simp), HQk.out (by simp)], below_setRow hb7 (by omega) _⟩
end Go.Proofs.YtebeekjcepjcnaaDoor
