/-
  The reference of pkt: Read.
-/
import Derived.Test.YtebeekjcepjcnaaDoorProg
import Derived.WalkKit
import Derived.WalkSpells
import Derived.WalkLawsBesides
import Derived.WalkSmall
import Derived.Lib.Hide
import Derived.Deep.AppendLies
import Derived.Maps.AppendAt
import Derived.Laws.AppendOwnNone
import Derived.Laws.CopyOwn
import Derived.OneCell
import Derived.Lib.SliceRun
import Derived.RangeFuncNested
import Derived.RangeFuncBound
import Derived.RangeFuncCalls
import Derived.RangeFuncLeaves
import Derived.Shelf.Abstract
import Derived.OwnWalkIn
import Derived.TacticsInMore
import Derived.LoopNIn
import Derived.LoopIn
import Derived.Lib.AppendZeros
import Derived.BigRegion
import Derived.ChangeAlike
import Derived.Deep.RegionLaw
import Derived.Deep.DeepCutAuto
import Derived.Orders
import Derived.RegionTactic
import Derived.Still
import Derived.Deep.MidRow
import Derived.Deep.RegionHeld3
import Derived.MapKept
import Derived.Laws.StructEq
import Derived.RegionIn
import Derived.Test.YtebeekjcepjcnaaDoorSBase
import Derived.Test.YtebeekjcepjcnaaDoorSMem
import Derived.Test.YtebeekjcepjcnaaDoorSCsum
import Derived.Test.YtebeekjcepjcnaaDoorSSum
import Derived.Test.YtebeekjcepjcnaaDoorSRegion
import Derived.Test.YtebeekjcepjcnaaDoorSWalk
import Derived.Test.YtebeekjcepjcnaaDoorSStep
import Derived.Test.YtebeekjcepjcnaaDoorSStepb
import Derived.Test.YtebeekjcepjcnaaDoorSRefa
import Derived.Test.YtebeekjcepjcnaaDoorSConcat
import Derived.Test.YtebeekjcepjcnaaDoorSPkt
import Derived.Test.YtebeekjcepjcnaaDoorSRopts
import Derived.Test.YtebeekjcepjcnaaDoorSRnum
import Derived.Test.YtebeekjcepjcnaaDoorSTcpw
import Derived.Test.YtebeekjcepjcnaaDoorSIcmpr
import Derived.Test.YtebeekjcepjcnaaDoorSIprd
import Derived.Test.YtebeekjcepjcnaaDoorSIpre
import Derived.Test.YtebeekjcepjcnaaDoorSTcprd
import Derived.Test.YtebeekjcepjcnaaDoorSUdprd
import Derived.Test.YtebeekjcepjcnaaDoorSEq
import Derived.Test.YtebeekjcepjcnaaDoorSPktm
import Derived.Test.YtebeekjcepjcnaaDoorSPktn
import Derived.Test.YtebeekjcepjcnaaDoorSQuota
import Derived.Test.YtebeekjcepjcnaaDoorSQuotc
import Derived.Test.YtebeekjcepjcnaaDoorSPkto
import Derived.Test.YtebeekjcepjcnaaDoorSIpread
import Derived.Test.YtebeekjcepjcnaaDoorSOptsa
import Derived.Test.YtebeekjcepjcnaaDoorSOptsb
import Derived.Test.YtebeekjcepjcnaaDoorSRange
import Derived.Test.YtebeekjcepjcnaaDoorSOptsc
import Derived.Test.YtebeekjcepjcnaaDoorSOptsd
import Derived.Test.YtebeekjcepjcnaaDoorSPkta
import Derived.Test.YtebeekjcepjcnaaDoorSPktr
import Derived.Test.YtebeekjcepjcnaaDoorSRat
import Derived.Test.YtebeekjcepjcnaaDoorSRefc
import Derived.Test.YtebeekjcepjcnaaDoorSRquo
import Derived.Test.YtebeekjcepjcnaaDoorSRip5
import Derived.Test.YtebeekjcepjcnaaDoorSRefe
import Derived.Test.YtebeekjcepjcnaaDoorSRtcp
import Derived.Test.YtebeekjcepjcnaaDoorSRseg
import Derived.Test.YtebeekjcepjcnaaDoorSRmsg
import Derived.Test.YtebeekjcepjcnaaDoorSRopt6
import Derived.Test.YtebeekjcepjcnaaDoorSRopt7
import Derived.Test.YtebeekjcepjcnaaDoorSRopt8
import Derived.Test.YtebeekjcepjcnaaDoorSRhead
namespace Go.Proofs.YtebeekjcepjcnaaDoor
open Go.RowKit
theorem fcC_inj {x y : Facts} (h : fcC x = fcC y) : x = y := by
  obtain ⟨⟨x0, x1, x2, x3, x4⟩, x5, x6, x7, x8, x9, xa, xb, xc, ⟨xd, xe, xf, xg, xh⟩, xi⟩ := x
  obtain ⟨⟨y0, y1, y2, y3, y4⟩, y5, y6, y7, y8, y9, ya, yb, yc, ⟨yd, ye, yf, yg, yh⟩, yi⟩ := y
  simp only [fcC, Array.mk.injEq, List.cons.injEq, Value.int.injEq, true_and, and_true] at h
  obtain ⟨rfl, rfl, rfl, rfl, rfl, rfl, rfl, rfl, rfl, rfl, rfl, rfl, rfl, rfl, rfl, rfl, rfl, rfl, rfl⟩ := h
  rfl
def RdE (w : World) (L : List (Nat × TypeId × Array Value)) (rk : Nat) (base FD : Facts) (EE : Int) (c : Nat) (W : World) : Prop :=
  St w w.heap.size L W ∧ w.heap.size ≤ rk ∧ (∀ x ∈ L, x.1 ≠ rk) ∧ ∃ G, Blk W rk 27 (fcC G) ∧ (c < 2 → G = base) ∧ (EE = 0 → c = 2 → G = FD)
theorem RdE.below {w W W' : World} {L : List (Nat × TypeId × Array Value)} {rk : Nat} {base FD : Facts} {EE : Int} {c : Nat} (h : RdE w L rk base FD EE c W) (hb : Below W.heap.size W W') : RdE w L rk base FD EE c W' := by
  obtain ⟨h1, h2, h3, G, h4, h5, h6⟩ := h
  exact ⟨h1.below hb, h2, h3, G, h4.below hb h4.lt, h5, h6⟩
theorem RdE.next {w W : World} {L : List (Nat × TypeId × Array Value)} {rk : Nat} {base FD : Facts} {EE : Int} (h : RdE w L rk base FD EE 0 W) : RdE w L rk base FD EE 1 W := by
  obtain ⟨h1, h2, h3, G, h4, h5, h6⟩ := h
  exact ⟨h1, h2, h3, G, h4, fun _ => h5 (by omega), fun _ h => by omega⟩
theorem RdE.put {w W : World} {L : List (Nat × TypeId × Array Value)} {rk : Nat} {base FD : Facts} {EE : Int} {c : Nat} (h : RdE w L rk base FD EE c W) (G : Facts) (hG : EE = 0 → G = FD) : RdE w L rk base FD EE 2 (W.setRow rk (fcC G)) := by
  obtain ⟨h1, h2, h3, G', h4, h5, h6⟩ := h
  exact ⟨h1.rowFar h2 h3 _, h2, h3, G, setRow_heap _ _ _ _ _ _ h4, fun h => by omega, fun h _ => hG h⟩
theorem fcC_one (G : Facts) : (fcC G).all (·.oneCell') = true := by simp [fcC, Value.oneCell']
def ReadPost (w : World) (xs : List Int) (e : Ending) (W : World) : Prop := e = .returned (.tuple #[(pktF xs).val, .int .u8 (pktR xs)]) ∧ Below w.heap.size w W
set_option maxRecDepth 100000 in
set_option maxHeartbeats 8000000 in
theorem r11Read_bad (A : Option Addr) (cap n : Nat) (xs : List Int) (w : World) (hn : xs.length = n) (hl : n ≤ 1000000) (hcap : n ≤ cap) (hB : Byt xs) (hr : Rd w w.heap.size A .u8 xs) (hN : ipN xs < 7) :
    Calls Tryd.prog 51 #[.slice A n cap] w (ReadPost w xs) := by
  have hE : ipE xs = 50 + ipN xs := if_pos hN
  have hR : pktR xs = reasonOf (50 + ipN xs) := by unfold pktR; rw [if_pos (by omega), hE]
  have hR2 : reasonOf (50 + ipN xs) = 50 + (ipN xs : Int) - 49 := by unfold reasonOf; rw [if_pos (by omega)]
  have HR := Lib.hid (hR.trans hR2)
  have HF := Lib.hid (show (pktF xs).val = .agg facZ by unfold pktF; rw [if_neg (by rw [HR.out]; omega)]; rfl)
  have HI := Lib.hid (fun (W : World) (h : Below w.heap.size w W) => r05Read_any A cap n xs W hn hl hcap hB (hr.belows h (Nat.le_refl _)))
  have HO := Lib.hid (show ∀ v, ipOut xs v = .tuple #[.agg #[.int .u8 0, .int .u16 0, .bool false, .bool false, .int .i64 0, .int .u8 0, .int .u8 0, .int .u32 0, .int .u32 0, .slice none 0 0], .int .i64 0, .int .i64 0, .int .i64 (50 + ipN xs)] from fun v => by unfold ipOut; rw [if_neg (by omega), if_neg (by omega), if_neg (by omega), hE])
  have HP := Lib.hid (show ∀ e W, ReadPost w xs e W ↔ (e = .returned (.tuple #[(pktF xs).val, .int .u8 (pktR xs)]) ∧ Below w.heap.size w W) from fun _ _ => Iff.rfl)
  rw [HR.out, HF.out] at HP
  have en : ((50 : Int) + ipN xs != 0) = true := by simp; omega
  have mn : ((50 : Int) + ipN xs - 49) % 256 = ipN xs + 1 := by omega
  clear hr hB hn hE hR hR2 HR HF
  generalize hNN : (ipN xs : Int) = NN at *
  have n0 : 0 ≤ NN := by omega
  have n7 : NN < 7 := by omega
  clear hNN hN
  go_enter Tryd.func51, Tryd.ntmps51
  go_upto_region 1 with (first | ((with_reducible refine look_store ?_); refine wpList_store_new rfl _ _ _ rfl _ _ rfl rfl _ _ rfl (by kernel_rfl) (by simp) (by simp [Value.oneCell']) ?_) | fail)
  refine wp_name1 ?_
  intro w1 hb1 hs1 br
  go_wp2_with fail
  refine (HI.out _ hb1).mono ?_
  rintro e w2 ⟨v, rfl, ho, l2⟩
  rw [HO.out]
  have br2 := br.below l2 br.lt
  have hb2 := hb1.trans (l2.mono hb1.size)
  clear ho br hb1 hs1
  go_upto_region 2 with (first | ((with_reducible refine look_store ?_); refine wpList_store_new rfl _ _ _ rfl _ _ rfl rfl _ _ rfl (by kernel_rfl) (by simp) (by simp [Value.oneCell']) ?_) | fail)
  refine wp_name1 ?_
  intro w3 hb3 hs3 bh
  have br := br2.below hb3 br2.lt
  have hbW := hb2.trans (hb3.mono hb2.size)
  clear br2 hb2 hb3 l2 bh hs3
  go_wp2_with (first | ((with_reducible refine look_store ?_); refine wpList_store_row rfl _ _ _ rfl _ _ rfl rfl _ _ br (by kernel_rfl) (by simp) (by simp [Value.oneCell']) ?_) | fail)
  refine bodyPost_ret (results_cell_tmp Tryd.results51 _ _ _ _ _ _ _ rfl (setRow_heap _ _ _ _ _ _ br) Tryd.underlying27 rfl (by kernel_rfl)) rfl ?_
  exact (HP.out _ _).2 ⟨rfl, below_setRow hbW (Nat.le_refl _) _⟩
def rdS (P src dst : Int) : Nat → Array Value
  | 0 => #[.int .u8 0, .int .u32 0, .int .u32 0, .int .u16 0, .int .u16 0, .int .u8 0, .int .u8 0, .int .u8 0, .int .u8 0, .int .u32 0, .int .u32 0, .int .i64 0, .int .i64 0, .int .u8 0, .int .u32 0, .int .u32 0, .int .u16 0, .int .u16 0, .int .u8 0]
  | 1 => #[.int .u8 P, .int .u32 0, .int .u32 0, .int .u16 0, .int .u16 0, .int .u8 0, .int .u8 0, .int .u8 0, .int .u8 0, .int .u32 0, .int .u32 0, .int .i64 0, .int .i64 0, .int .u8 0, .int .u32 0, .int .u32 0, .int .u16 0, .int .u16 0, .int .u8 0]
  | 2 => #[.int .u8 P, .int .u32 src, .int .u32 0, .int .u16 0, .int .u16 0, .int .u8 0, .int .u8 0, .int .u8 0, .int .u8 0, .int .u32 0, .int .u32 0, .int .i64 0, .int .i64 0, .int .u8 0, .int .u32 0, .int .u32 0, .int .u16 0, .int .u16 0, .int .u8 0]
  | _ => #[.int .u8 P, .int .u32 src, .int .u32 dst, .int .u16 0, .int .u16 0, .int .u8 0, .int .u8 0, .int .u8 0, .int .u8 0, .int .u32 0, .int .u32 0, .int .i64 0, .int .i64 0, .int .u8 0, .int .u32 0, .int .u32 0, .int .u16 0, .int .u16 0, .int .u8 0]
set_option maxRecDepth 100000 in
set_option maxHeartbeats 16000000 in
theorem r11Read_good (A : Option Addr) (cap n : Nat) (xs : List Int) (w : World) (hn : xs.length = n) (hl : n ≤ 1000000) (hcap : n ≤ cap) (hB : Byt xs) (hr : Rd w w.heap.size A .u8 xs) (hN : ipN xs = 7) :
    Calls Tryd.prog 51 #[.slice A n cap] w (ReadPost w xs) := by
  obtain ⟨z1, z2, z3⟩ := ip_sizes hN
  rw [hn] at z3
  have z4 := ipSize_bd xs
  have hE : ipE xs = 0 := by unfold ipE; rw [if_neg (by omega)]
  have HI := Lib.hid (fun (W : World) (h : Below w.heap.size w W) => r05Read_any A cap n xs W hn hl hcap hB (hr.belows h (Nat.le_refl _)))
  have HO := Lib.hid (show ∀ v, ipOut xs v = .tuple #[.agg ((ipHdr xs).cells v), .int .i64 (ipSize xs), .int .i64 (ipTotal xs), .int .i64 0] from fun v => by unfold ipOut; rw [if_pos hN, if_pos hN, if_pos hN, hE]; rfl)
  have HR := Lib.hid (show pktR xs = if (ipHdr xs).reasonP ≠ 0 then (ipHdr xs).reasonP else reasonOf (dataE (ipHdr xs).proto (ipData xs)) by
    unfold pktR IpH.reasonP
    rw [if_neg (by omega)]
    repeat' split
    all_goals first | rfl | omega | contradiction | simp_all)
  have HF := Lib.hid (show pktF xs = if pktR xs = 0 then dataF (ipHdr xs).proto (baseK (ipHdr xs).proto (ipHdr xs).src (ipHdr xs).dst) (ipData xs) else Facts.zero from rfl)
  have HPr := Lib.hid (show (ipHdr xs).reasonP = 0 → (ipHdr xs).proto = 6 ∨ (ipHdr xs).proto = 17 ∨ (ipHdr xs).proto = 1 from fun h => by
    unfold IpH.reasonP at h
    split at h
    · contradiction
    · split at h
      · cases h
      · omega)
  have HPn := Lib.hid (show 0 ≤ (ipHdr xs).reasonP ∧ (ipHdr xs).reasonP < 256 from by
    have h1 := (ipHdr xs).reason_bd
    unfold IpH.reasonP
    repeat' split
    all_goals omega)
  have hol : (ipHdr xs).opts.length = ipSize xs - 20 := by show ((xs.take (ipSize xs)).drop 20).length = _; rw [List.length_drop, List.length_take]; omega
  have hob : Byt (ipHdr xs).opts := (hB.take _).drop _
  have hof : 0 ≤ (ipHdr xs).off := by show 0 ≤ 8 * (w16At xs 6 % 8192); omega
  have HH := Lib.hid (fun (W : World) A' c' (h : Rd W W.heap.size A' .u8 (ipHdr xs).opts) => rHeader_any (ipHdr xs) A' c' (ipSize xs - 20) W hol (by omega) hob hof h)
  have Hol := Lib.hid hol
  obtain ⟨b, off, rfl, hbl, hc⟩ := hr.at0 (by omega)
  have HD := Lib.hid (show (ipData xs).length = ipTotal xs - ipSize xs by unfold ipData; rw [List.length_drop, List.length_take]; omega)
  have HDb := Lib.hid (show Byt (ipData xs) from (hB.take _).drop _)
  have HDr := Lib.hid (show Rd w w.heap.size (some ⟨b, off + ipSize xs, none⟩) .u8 (ipData xs) from (hr.take (ipTotal xs)).drop (ipSize xs) fun _ b2 o2 h => by
    simp only [Option.some.injEq, Addr.mk.injEq] at h
    obtain ⟨rfl, rfl, _⟩ := h
    rfl)
  have HDe := Lib.hid (show ipSize xs = ipTotal xs → ipData xs = [] from fun h => List.eq_nil_of_length_eq_zero (by have := HD.out; omega))
  have HN7 := Lib.hid (show ∀ (P : Prop), (ipN xs = 7 → P) → P from fun P h => h hN)
  have HP := Lib.hid (show ∀ e W, ReadPost w xs e W ↔ (e = .returned (.tuple #[(pktF xs).val, .int .u8 (pktR xs)]) ∧ Below w.heap.size w W) from fun _ _ => Iff.rfl)
  clear hr hB hn hc hE hol hob hof
  unfold IpPost at HI
  generalize pktR xs = RR at *
  generalize pktF xs = FF at *
  generalize ipData xs = D at *
  generalize ipSize xs = SZ at *
  generalize ipTotal xs = TOT at *
  generalize ipHdr xs = hd at *
  go_enter Tryd.func51, Tryd.ntmps51
  go_upto_region 1 with (first | ((with_reducible refine look_store ?_); refine wpList_store_new rfl _ _ _ rfl _ _ rfl rfl _ _ rfl (by kernel_rfl) (by simp) (by simp [Value.oneCell']) ?_) | fail)
  refine wp_name1 ?_
  intro w1 hb1 hs1 br
  go_wp2_with fail
  refine (HI.out _ hb1).mono ?_
  rintro e w2 ⟨v, rfl, ho, l2⟩
  rw [HO.out]
  have ho2 := HN7.out _ ho
  obtain ⟨OA, oc, rfl, hro, hoc, _⟩ := ho2.open_
  have br2 := br.below l2 br.lt
  have hb2 := hb1.trans (l2.mono hb1.size)
  have HH2 := Lib.hid (fun (W : World) (h : Below w2.heap.size w2 W) => HH.out W OA oc (hro.belows h (Nat.le_refl _)))
  rw [Hol.out]
  clear ho ho2 br hb1 hs1 hro hoc HO
  obtain ⟨tos, id, df, mf, off0, ttl, P, src, dst, os⟩ := hd
  simp only [IpH.cells] at *
  generalize IpH.reasonP _ = RS at *
  generalize hon : SZ - 20 = on at *
  clear hon
  go_upto_region 2 with (first | ((with_reducible refine look_store ?_); refine wpList_store_new rfl _ _ _ rfl _ _ rfl rfl _ _ rfl (by kernel_rfl) (by simp) (by simp [Value.oneCell']) ?_) | fail)
  refine wp_name1 ?_
  intro w3 hb3 hs3 bh
  have br := br2.below hb3 br2.lt
  have hbW := hb2.trans (hb3.mono hb2.size)
  have H5 := Lib.hid (HH2.out w3 hb3)
  have hlt2 : w.heap.size < w2.heap.size := br2.lt
  clear br2 hb2 hb3 l2
  go_wp2_with (first | ((with_reducible refine look_load ?_); refine wpList_load_row rfl _ _ rfl _ rfl _ _ _ _ bh Tryd.underlying143 rfl (by kernel_rfl) ?_) | fail)
  refine H5.out.mono ?_
  rintro e w4 ⟨rfl, l4⟩
  have bh4 := bh.below l4 bh.lt
  have br4 := br.below l4 br.lt
  have hbW4 := hbW.trans (l4.mono hbW.size)
  clear bh br hbW l4
  by_cases hrs : RS = 0
  case neg =>
    have er : (RS != 0) = true := by simpa using hrs
    have HX := Lib.hid (HR.out.trans (if_pos hrs))
    have HX2 := Lib.hid (HF.out.trans (if_neg (by rw [HX.out]; exact hrs)))
    go_wp2_with (first | ((with_reducible refine look_store ?_); refine wpList_store_row rfl _ _ _ rfl _ _ rfl rfl _ _ br4 (by kernel_rfl) (by simp) (by simp [Value.oneCell']) ?_) | fail)
    refine bodyPost_ret (results_cell_tmp Tryd.results51 _ _ _ _ _ _ _ rfl (setRow_heap _ _ _ _ _ _ br4) Tryd.underlying27 rfl (by kernel_rfl)) rfl ?_
    exact (HP.out _ _).2 ⟨by rw [HX.out, HX2.out]; rfl, below_setRow hbW4 (Nat.le_refl _) _⟩
  subst hrs
  have hP := HPr.out rfl
  have HX := Lib.hid (HR.out.trans (if_neg (by simp)))
  clear HR
  go_upto_region 8 with (first | ((with_reducible refine look_store ?_); refine wpList_store_new rfl _ _ _ rfl _ _ rfl rfl _ _ rfl (by kernel_rfl) (by simp) (by simp [Value.oneCell']) ?_) | fail)
  refine wp_name1 ?_
  intro w5 hb5 hs5 bk
  have br5 := br4.below hb5 br4.lt
  have bh5 := bh4.below hb5 bh4.lt
  have hbW5 := hbW4.trans (hb5.mono hbW4.size)
  have hl4 : w2.heap.size < w4.heap.size := bh4.lt
  have hSt := ((St.nil hbW5 hbW5.size).cons bh5).cons br5
  have hS : StN w w.heap.size _ w4.heap.size 27 (rdS P src dst) 0 w5 := ⟨hSt, by omega, by simp; omega, bk⟩
  clear hSt br4 bh4 hbW4 hb5 br5 bh5 hbW5 bk
  refine wp_region_walk0 (by kernel_rfl) (StN w w.heap.size _ w4.heap.size 27 (rdS P src dst)) [8, 11, 14] GTop [0, 1, 2, 3, 4, 5, 6, 7, 8, 9, 10, 11, 12, 13, 14] (by kernel_rfl) hS.drew ?_
  iterate 8
    apply Walk.one rfl rfl rfl
    case hrun =>
      intro c W hE hF
      have hh := hE.1.get 1 rfl
      have d6 := hh.cell 6
      have d7 := hh.cell 7
      have d8 := hh.cell 8
      go_wp2_with fail
      exact TextPost.mk ⟨GTop.mk, hE⟩
    case hv => rfl
  apply Walk.keep 0 rfl rfl rfl rfl
  case hrun =>
    intro W hE hF
    have hcx : W.cell? ⟨w4.heap.size, 0, none⟩ = some (.int .u8 0) := hE.2.2.2.cell 0
    have hfx := hE.2.2.2.frozen 0
    go_wp2_with fail
    exact TextPost.mk ⟨GTop.mk, hE.set 0 _ rfl⟩
  case hv => rfl
  iterate 2
    apply Walk.one rfl rfl rfl
    case hrun =>
      intro c W hE hF
      have hh := hE.1.get 1 rfl
      have d6 := hh.cell 6
      have d7 := hh.cell 7
      have d8 := hh.cell 8
      go_wp2_with fail
      exact TextPost.mk ⟨GTop.mk, hE⟩
    case hv => rfl
  apply Walk.keep 1 rfl rfl rfl rfl
  case hrun =>
    intro W hE hF
    have hcx : W.cell? ⟨w4.heap.size, 1, none⟩ = some (.int .u32 0) := hE.2.2.2.cell 1
    have hfx := hE.2.2.2.frozen 1
    go_wp2_with fail
    exact TextPost.mk ⟨GTop.mk, hE.set 1 _ rfl⟩
  case hv => rfl
  iterate 2
    apply Walk.one rfl rfl rfl
    case hrun =>
      intro c W hE hF
      have hh := hE.1.get 1 rfl
      have d6 := hh.cell 6
      have d7 := hh.cell 7
      have d8 := hh.cell 8
      go_wp2_with fail
      exact TextPost.mk ⟨GTop.mk, hE⟩
    case hv => rfl
  apply Walk.keep 2 rfl rfl rfl rfl
  case hrun =>
    intro W hE hF
    have hcx : W.cell? ⟨w4.heap.size, 2, none⟩ = some (.int .u32 0) := hE.2.2.2.cell 2
    have hfx := hE.2.2.2.frozen 2
    go_wp2_with fail
    exact TextPost.mk ⟨GTop.mk, hE.set 2 _ rfl⟩
  case hv => rfl
  refine Walk.done (fun W hE hF => ?_)
  have hSt : St w w.heap.size [(w.heap.size, 27, #[.int .u8 0, .int .u32 0, .int .u32 0, .int .u16 0, .int .u16 0, .int .u8 0, .int .u8 0, .int .u8 0, .int .u8 0, .int .u32 0, .int .u32 0, .int .i64 0, .int .i64 0, .int .u8 0, .int .u32 0, .int .u32 0, .int .u16 0, .int .u16 0, .int .u8 0]), (w2.heap.size, 143, #[.int .u8 tos, .int .u16 id, .bool df, .bool mf, .int .i64 off0, .int .u8 ttl, .int .u8 P, .int .u32 src, .int .u32 dst, .slice OA on oc])] W := hE.1
  have hkb : Blk W w4.heap.size 27 (fcC (baseK P src dst)) := hE.2.2.2
  have hp6 := (hSt.get 1 rfl).cell 6
  clear hE hF hS
  have Iz1 : (SZ : Int) ≤ TOT := by omega
  have Iz2 : (TOT : Int) ≤ cap := by omega
  have Iz0 : (0 : Int) ≤ SZ := by omega
  rcases hP with rfl | rfl | rfl
  · rw [show dataE 6 D = tcpE D by unfold dataE; rw [if_pos rfl]] at HX
    rw [show dataF 6 (baseK 6 src dst) D = tcpF (baseK 6 src dst) D by unfold dataF; rw [if_pos rfl]] at HF
    have HR0 := Lib.hid (fun (h : tcpE D ≠ 0) => show reasonOf (tcpE D) ≠ 0 from reasonOf_ne _ (by have := dataE_in 6 D (by unfold dataE; rw [if_pos rfl]; exact h); unfold dataE at this; rw [if_pos rfl] at this; exact this))
    by_cases hk : cap = SZ
    · obtain rfl : TOT = cap := by omega
      obtain rfl : n = TOT := by omega
      subst hk
      have HSg : Hid (∀ W, Below w.heap.size w W → Calls Tryd.prog 93 #[.agg #[.int .u8 6, .int .u32 src, .int .u32 dst, .int .u16 0, .int .u16 0, .int .u8 0, .int .u8 0, .int .u8 0, .int .u8 0, .int .u32 0, .int .u32 0, .int .i64 0, .int .i64 0, .int .u8 0, .int .u32 0, .int .u32 0, .int .u16 0, .int .u16 0, .int .u8 0], .slice (some ⟨b, off, none⟩) (0) (0)] W (SegOut W (tcpE D) (tcpF (baseK 6 src dst) D))) := Lib.hid fun W hb => rSegment_any 6 src dst (some ⟨b, off, none⟩) (0) (0) D W (by rw [HDe.out rfl]; rfl) (by omega) (by omega) HDb.out (by rw [HDe.out rfl]; exact Rd.nil)
      generalize tcpF (baseK 6 src dst) D = FD at *
      generalize tcpE D = EE at *
      go_wp2_with fail
      have hS : RdE w [(w.heap.size, 27, #[.int .u8 0, .int .u32 0, .int .u32 0, .int .u16 0, .int .u16 0, .int .u8 0, .int .u8 0, .int .u8 0, .int .u8 0, .int .u32 0, .int .u32 0, .int .i64 0, .int .i64 0, .int .u8 0, .int .u32 0, .int .u32 0, .int .u16 0, .int .u16 0, .int .u8 0]), (w2.heap.size, 143, #[.int .u8 tos, .int .u16 id, .bool df, .bool mf, .int .i64 off0, .int .u8 ttl, .int .u8 6, .int .u32 src, .int .u32 dst, .slice OA on oc])] w4.heap.size (baseK 6 src dst) FD EE 0 W := ⟨hSt, by omega, by simp; omega, _, hkb, fun _ => rfl, fun _ h => by omega⟩
      clear hSt hkb hp6
      refine wp_region_walk (by kernel_rfl) (RdE w [(w.heap.size, 27, #[.int .u8 0, .int .u32 0, .int .u32 0, .int .u16 0, .int .u16 0, .int .u8 0, .int .u8 0, .int .u8 0, .int .u8 0, .int .u32 0, .int .u32 0, .int .i64 0, .int .i64 0, .int .u8 0, .int .u32 0, .int .u32 0, .int .u16 0, .int .u16 0, .int .u8 0]), (w2.heap.size, 143, #[.int .u8 tos, .int .u16 id, .bool df, .bool mf, .int .i64 off0, .int .u8 ttl, .int .u8 6, .int .u32 src, .int .u32 dst, .slice OA on oc])] w4.heap.size (baseK 6 src dst) FD EE) [0, 9] GTop [] (fun _ _ _ => True) [0, 1, 2, 3, 4, 5, 6, 7, 8, 9, 10] (by kernel_rfl) (fun _ h => by simp at h) ⟨hS.1.drew, hS.2.1, hS.2.2.1, by obtain ⟨G, h4, h5, h6⟩ := hS.2.2.2; exact ⟨G, h4.drew, h5, h6⟩⟩ ?_
      clear hS
      apply Walk.store 0 (ops_at rfl) rfl rfl rfl
      case hrun =>
        intro W hE hF
        obtain ⟨G, hG, hG1, _⟩ := hE.2.2.2
        obtain rfl := hG1 (by omega)
        have hb : Blk W w4.heap.size 27 #[.int .u8 6, .int .u32 src, .int .u32 dst, .int .u16 0, .int .u16 0, .int .u8 0, .int .u8 0, .int .u8 0, .int .u8 0, .int .u32 0, .int .u32 0, .int .i64 0, .int .i64 0, .int .u8 0, .int .u32 0, .int .u32 0, .int .u16 0, .int .u16 0, .int .u8 0] := hG
        go_wp2_with (first | ((with_reducible refine look_load ?_); refine wpList_load_row rfl _ _ rfl _ rfl _ _ _ _ hb Tryd.underlying27 rfl (by kernel_rfl) ?_) | fail)
        exact TextPost.mk ⟨GTop.mk, hE.next⟩
      case hv => rfl
      iterate 4
        apply Walk.one rfl rfl rfl
        case hrun =>
          intro c W hE hF
          go_wp2_with fail
          exact TextPost.mk ⟨GTop.mk, hE⟩
        case hv => rfl
      refine Walk.anyOf (fun G : Facts => Value.tuple #[.agg (fcC G), .int .u8 (reasonOf EE)]) (fun x y h => fcC_inj (by simpa using h)) (fun G _ => EE = 0 → G = FD) (fun G W W' h _ => h) rfl rfl rfl (by kernel_rfl) (by kernel_rfl) ?_ (fun G => ?_)
      · intro c W hE hF
        go_wp2_with fail
        refine (HSg.out W hE.1.1).mono ?_
        rintro e2 W2 ⟨G, rfl, hG, l2⟩
        go_wp2_with fail
        exact ⟨G, rfl, hG, GTop.mk, hE.below ((l2 : Below W.heap.size W W2))⟩
      dsimp only [Act.put]
      simp only [List.setIfInBounds_toArray, List.set_cons_succ, List.set_cons_zero]
      iterate 3
        apply Walk.one rfl rfl rfl
        case hrun =>
          intro c W hE hF
          go_wp2_with fail
          exact TextPost.mk ⟨GTop.mk, hE⟩
        case hv => rfl
      apply Walk.keep 1 rfl rfl rfl rfl
      case hrun =>
        intro W hE hF
        obtain ⟨G', hG', _, _⟩ := hE.2.2.2
        refine wpList_store_row rfl _ _ _ rfl _ _ rfl rfl _ _ hG' (by kernel_rfl) rfl (fcC_one G) ?_
        go_wp2_with fail
        exact TextPost.mk ⟨GTop.mk, hE.put G hF.head⟩
      case hv => rfl
      apply Walk.one rfl rfl rfl
      case hrun =>
        intro c W hE hF
        go_wp2_with fail
        exact TextPost.mk ⟨GTop.mk, hE⟩
      case hv => rfl
      refine Walk.done (fun W hE hF => ?_)
      obtain ⟨G, hkb, _, hG⟩ := hE.2.2.2
      have br := hE.1.get 0 rfl
      have hbW := hE.1.1
      clear hE hF
      by_cases hE : EE = 0
      case neg =>
        have HX4 := Lib.hid (HF.out.trans (if_neg (by rw [HX.out]; exact HR0.out hE)))
        have eb : (reasonOf EE != 0) = true := by simpa using HR0.out hE
        clear hE hkb hG
        go_wp2_with (first | ((with_reducible refine look_store ?_); refine wpList_store_row rfl _ _ _ rfl _ _ rfl rfl _ _ br (by kernel_rfl) (by simp) (by simp [Value.oneCell']) ?_) | fail)
        refine bodyPost_ret (results_cell_tmp Tryd.results51 _ _ _ _ _ _ _ rfl (setRow_heap _ _ _ _ _ _ br) Tryd.underlying27 rfl (by kernel_rfl)) rfl ?_
        exact (HP.out _ _).2 ⟨by rw [HX.out, HX4.out]; rfl, below_setRow hbW (Nat.le_refl _) _⟩
      subst hE
      obtain rfl := hG rfl rfl
      have HX4 := Lib.hid (HF.out.trans (if_pos (by rw [HX.out]; rfl)))
      have eb : (reasonOf 0 != 0) = false := rfl
      obtain ⟨⟨k0, k1, k2, k3, k4⟩, f1, f2, f3, f4, f5, f6, f7, f8, ⟨q0, q1, q2, q3, q4⟩, f9⟩ := G
      have hk2 : Blk W w4.heap.size 27 #[.int .u8 k0, .int .u32 k1, .int .u32 k2, .int .u16 k3, .int .u16 k4, .int .u8 f1, .int .u8 f2, .int .u8 f3, .int .u8 f4, .int .u32 f5, .int .u32 f6, .int .i64 f7, .int .i64 f8, .int .u8 q0, .int .u32 q1, .int .u32 q2, .int .u16 q3, .int .u16 q4, .int .u8 f9] := hkb
      clear hkb hG
      go_wp2_with (first | ((with_reducible refine look_load ?_); refine wpList_load_row rfl _ _ rfl _ rfl _ _ _ _ hk2 Tryd.underlying27 rfl (by kernel_rfl) ?_) | ((with_reducible refine look_store ?_); refine wpList_store_row rfl _ _ _ rfl _ _ rfl rfl _ _ br (by kernel_rfl) (by simp) (by simp [Value.oneCell']) ?_) | fail)
      refine bodyPost_ret (results_cell_tmp Tryd.results51 _ _ _ _ _ _ _ rfl (setRow_heap _ _ _ _ _ _ br) Tryd.underlying27 rfl (by kernel_rfl)) rfl ?_
      exact (HP.out _ _).2 ⟨by rw [HX.out, HX4.out]; rfl, below_setRow hbW (Nat.le_refl _) _⟩
    · skip
      have HSg : Hid (∀ W, Below w.heap.size w W → Calls Tryd.prog 93 #[.agg #[.int .u8 6, .int .u32 src, .int .u32 dst, .int .u16 0, .int .u16 0, .int .u8 0, .int .u8 0, .int .u8 0, .int .u8 0, .int .u32 0, .int .u32 0, .int .i64 0, .int .i64 0, .int .u8 0, .int .u32 0, .int .u32 0, .int .u16 0, .int .u16 0, .int .u8 0], .slice (some ⟨b, off + SZ, none⟩) (TOT - SZ) (cap - SZ)] W (SegOut W (tcpE D) (tcpF (baseK 6 src dst) D))) := Lib.hid fun W hb => rSegment_any 6 src dst (some ⟨b, off + SZ, none⟩) (cap - SZ) (TOT - SZ) D W HD.out (by omega) (by omega) HDb.out (HDr.out.belows hb (Nat.le_refl _))
      generalize tcpF (baseK 6 src dst) D = FD at *
      generalize tcpE D = EE at *
      go_wp2_with fail
      have hS : RdE w [(w.heap.size, 27, #[.int .u8 0, .int .u32 0, .int .u32 0, .int .u16 0, .int .u16 0, .int .u8 0, .int .u8 0, .int .u8 0, .int .u8 0, .int .u32 0, .int .u32 0, .int .i64 0, .int .i64 0, .int .u8 0, .int .u32 0, .int .u32 0, .int .u16 0, .int .u16 0, .int .u8 0]), (w2.heap.size, 143, #[.int .u8 tos, .int .u16 id, .bool df, .bool mf, .int .i64 off0, .int .u8 ttl, .int .u8 6, .int .u32 src, .int .u32 dst, .slice OA on oc])] w4.heap.size (baseK 6 src dst) FD EE 0 W := ⟨hSt, by omega, by simp; omega, _, hkb, fun _ => rfl, fun _ h => by omega⟩
      clear hSt hkb hp6
      refine wp_region_walk (by kernel_rfl) (RdE w [(w.heap.size, 27, #[.int .u8 0, .int .u32 0, .int .u32 0, .int .u16 0, .int .u16 0, .int .u8 0, .int .u8 0, .int .u8 0, .int .u8 0, .int .u32 0, .int .u32 0, .int .i64 0, .int .i64 0, .int .u8 0, .int .u32 0, .int .u32 0, .int .u16 0, .int .u16 0, .int .u8 0]), (w2.heap.size, 143, #[.int .u8 tos, .int .u16 id, .bool df, .bool mf, .int .i64 off0, .int .u8 ttl, .int .u8 6, .int .u32 src, .int .u32 dst, .slice OA on oc])] w4.heap.size (baseK 6 src dst) FD EE) [0, 9] GTop [] (fun _ _ _ => True) [0, 1, 2, 3, 4, 5, 6, 7, 8, 9, 10] (by kernel_rfl) (fun _ h => by simp at h) ⟨hS.1.drew, hS.2.1, hS.2.2.1, by obtain ⟨G, h4, h5, h6⟩ := hS.2.2.2; exact ⟨G, h4.drew, h5, h6⟩⟩ ?_
      clear hS
      apply Walk.store 0 (ops_at rfl) rfl rfl rfl
      case hrun =>
        intro W hE hF
        obtain ⟨G, hG, hG1, _⟩ := hE.2.2.2
        obtain rfl := hG1 (by omega)
        have hb : Blk W w4.heap.size 27 #[.int .u8 6, .int .u32 src, .int .u32 dst, .int .u16 0, .int .u16 0, .int .u8 0, .int .u8 0, .int .u8 0, .int .u8 0, .int .u32 0, .int .u32 0, .int .i64 0, .int .i64 0, .int .u8 0, .int .u32 0, .int .u32 0, .int .u16 0, .int .u16 0, .int .u8 0] := hG
        go_wp2_with (first | ((with_reducible refine look_load ?_); refine wpList_load_row rfl _ _ rfl _ rfl _ _ _ _ hb Tryd.underlying27 rfl (by kernel_rfl) ?_) | fail)
        exact TextPost.mk ⟨GTop.mk, hE.next⟩
      case hv => rfl
      iterate 4
        apply Walk.one rfl rfl rfl
        case hrun =>
          intro c W hE hF
          go_wp2_with fail
          exact TextPost.mk ⟨GTop.mk, hE⟩
        case hv => rfl
      refine Walk.anyOf (fun G : Facts => Value.tuple #[.agg (fcC G), .int .u8 (reasonOf EE)]) (fun x y h => fcC_inj (by simpa using h)) (fun G _ => EE = 0 → G = FD) (fun G W W' h _ => h) rfl rfl rfl (by kernel_rfl) (by kernel_rfl) ?_ (fun G => ?_)
      · intro c W hE hF
        go_wp2_with fail
        refine (HSg.out W hE.1.1).mono ?_
        rintro e2 W2 ⟨G, rfl, hG, l2⟩
        go_wp2_with fail
        exact ⟨G, rfl, hG, GTop.mk, hE.below ((l2 : Below W.heap.size W W2))⟩
      dsimp only [Act.put]
      simp only [List.setIfInBounds_toArray, List.set_cons_succ, List.set_cons_zero]
      iterate 3
        apply Walk.one rfl rfl rfl
        case hrun =>
          intro c W hE hF
          go_wp2_with fail
          exact TextPost.mk ⟨GTop.mk, hE⟩
        case hv => rfl
      apply Walk.keep 1 rfl rfl rfl rfl
      case hrun =>
        intro W hE hF
        obtain ⟨G', hG', _, _⟩ := hE.2.2.2
        refine wpList_store_row rfl _ _ _ rfl _ _ rfl rfl _ _ hG' (by kernel_rfl) rfl (fcC_one G) ?_
        go_wp2_with fail
        exact TextPost.mk ⟨GTop.mk, hE.put G hF.head⟩
      case hv => rfl
      apply Walk.one rfl rfl rfl
      case hrun =>
        intro c W hE hF
        go_wp2_with fail
        exact TextPost.mk ⟨GTop.mk, hE⟩
      case hv => rfl
      refine Walk.done (fun W hE hF => ?_)
      obtain ⟨G, hkb, _, hG⟩ := hE.2.2.2
      have br := hE.1.get 0 rfl
      have hbW := hE.1.1
      clear hE hF
      by_cases hE : EE = 0
      case neg =>
        have HX4 := Lib.hid (HF.out.trans (if_neg (by rw [HX.out]; exact HR0.out hE)))
        have eb : (reasonOf EE != 0) = true := by simpa using HR0.out hE
        clear hE hkb hG
        go_wp2_with (first | ((with_reducible refine look_store ?_); refine wpList_store_row rfl _ _ _ rfl _ _ rfl rfl _ _ br (by kernel_rfl) (by simp) (by simp [Value.oneCell']) ?_) | fail)
        refine bodyPost_ret (results_cell_tmp Tryd.results51 _ _ _ _ _ _ _ rfl (setRow_heap _ _ _ _ _ _ br) Tryd.underlying27 rfl (by kernel_rfl)) rfl ?_
        exact (HP.out _ _).2 ⟨by rw [HX.out, HX4.out]; rfl, below_setRow hbW (Nat.le_refl _) _⟩
      subst hE
      obtain rfl := hG rfl rfl
      have HX4 := Lib.hid (HF.out.trans (if_pos (by rw [HX.out]; rfl)))
      have eb : (reasonOf 0 != 0) = false := rfl
      obtain ⟨⟨k0, k1, k2, k3, k4⟩, f1, f2, f3, f4, f5, f6, f7, f8, ⟨q0, q1, q2, q3, q4⟩, f9⟩ := G
      have hk2 : Blk W w4.heap.size 27 #[.int .u8 k0, .int .u32 k1, .int .u32 k2, .int .u16 k3, .int .u16 k4, .int .u8 f1, .int .u8 f2, .int .u8 f3, .int .u8 f4, .int .u32 f5, .int .u32 f6, .int .i64 f7, .int .i64 f8, .int .u8 q0, .int .u32 q1, .int .u32 q2, .int .u16 q3, .int .u16 q4, .int .u8 f9] := hkb
      clear hkb hG
      go_wp2_with (first | ((with_reducible refine look_load ?_); refine wpList_load_row rfl _ _ rfl _ rfl _ _ _ _ hk2 Tryd.underlying27 rfl (by kernel_rfl) ?_) | ((with_reducible refine look_store ?_); refine wpList_store_row rfl _ _ _ rfl _ _ rfl rfl _ _ br (by kernel_rfl) (by simp) (by simp [Value.oneCell']) ?_) | fail)
      refine bodyPost_ret (results_cell_tmp Tryd.results51 _ _ _ _ _ _ _ rfl (setRow_heap _ _ _ _ _ _ br) Tryd.underlying27 rfl (by kernel_rfl)) rfl ?_
      exact (HP.out _ _).2 ⟨by rw [HX.out, HX4.out]; rfl, below_setRow hbW (Nat.le_refl _) _⟩
  · rw [show dataE 17 D = udpE2 D by unfold dataE; rw [if_neg (by decide), if_pos rfl]] at HX
    rw [show dataF 17 (baseK 17 src dst) D = udpF (baseK 17 src dst) D by unfold dataF; rw [if_neg (by decide), if_pos rfl]] at HF
    have HR0 := Lib.hid (fun (h : udpE2 D ≠ 0) => show reasonOf (udpE2 D) ≠ 0 from reasonOf_ne _ (by have := dataE_in 17 D (by unfold dataE; rw [if_neg (by decide), if_pos rfl]; exact h); unfold dataE at this; rw [if_neg (by decide), if_pos rfl] at this; exact this))
    by_cases hk : cap = SZ
    · obtain rfl : TOT = cap := by omega
      obtain rfl : n = TOT := by omega
      subst hk
      have HSg : Hid (∀ W, Below w.heap.size w W → Calls Tryd.prog 94 #[.agg #[.int .u8 17, .int .u32 src, .int .u32 dst, .int .u16 0, .int .u16 0, .int .u8 0, .int .u8 0, .int .u8 0, .int .u8 0, .int .u32 0, .int .u32 0, .int .i64 0, .int .i64 0, .int .u8 0, .int .u32 0, .int .u32 0, .int .u16 0, .int .u16 0, .int .u8 0], .slice (some ⟨b, off, none⟩) (0) (0)] W (SegOut W (udpE2 D) (udpF (baseK 17 src dst) D))) := Lib.hid fun W hb => rDatagram_any 17 src dst (some ⟨b, off, none⟩) (0) (0) D W (by rw [HDe.out rfl]; rfl) (by omega) HDb.out (by rw [HDe.out rfl]; exact Rd.nil)
      generalize udpF (baseK 17 src dst) D = FD at *
      generalize udpE2 D = EE at *
      go_wp2_with fail
      have hS : RdE w [(w.heap.size, 27, #[.int .u8 0, .int .u32 0, .int .u32 0, .int .u16 0, .int .u16 0, .int .u8 0, .int .u8 0, .int .u8 0, .int .u8 0, .int .u32 0, .int .u32 0, .int .i64 0, .int .i64 0, .int .u8 0, .int .u32 0, .int .u32 0, .int .u16 0, .int .u16 0, .int .u8 0]), (w2.heap.size, 143, #[.int .u8 tos, .int .u16 id, .bool df, .bool mf, .int .i64 off0, .int .u8 ttl, .int .u8 17, .int .u32 src, .int .u32 dst, .slice OA on oc])] w4.heap.size (baseK 17 src dst) FD EE 0 W := ⟨hSt, by omega, by simp; omega, _, hkb, fun _ => rfl, fun _ h => by omega⟩
      clear hSt hkb hp6
      refine wp_region_walk (by kernel_rfl) (RdE w [(w.heap.size, 27, #[.int .u8 0, .int .u32 0, .int .u32 0, .int .u16 0, .int .u16 0, .int .u8 0, .int .u8 0, .int .u8 0, .int .u8 0, .int .u32 0, .int .u32 0, .int .i64 0, .int .i64 0, .int .u8 0, .int .u32 0, .int .u32 0, .int .u16 0, .int .u16 0, .int .u8 0]), (w2.heap.size, 143, #[.int .u8 tos, .int .u16 id, .bool df, .bool mf, .int .i64 off0, .int .u8 ttl, .int .u8 17, .int .u32 src, .int .u32 dst, .slice OA on oc])] w4.heap.size (baseK 17 src dst) FD EE) [0, 9] GTop [] (fun _ _ _ => True) [0, 1, 2, 3, 4, 5, 6, 7, 8, 9, 10] (by kernel_rfl) (fun _ h => by simp at h) ⟨hS.1.drew, hS.2.1, hS.2.2.1, by obtain ⟨G, h4, h5, h6⟩ := hS.2.2.2; exact ⟨G, h4.drew, h5, h6⟩⟩ ?_
      clear hS
      apply Walk.store 0 (ops_at rfl) rfl rfl rfl
      case hrun =>
        intro W hE hF
        obtain ⟨G, hG, hG1, _⟩ := hE.2.2.2
        obtain rfl := hG1 (by omega)
        have hb : Blk W w4.heap.size 27 #[.int .u8 17, .int .u32 src, .int .u32 dst, .int .u16 0, .int .u16 0, .int .u8 0, .int .u8 0, .int .u8 0, .int .u8 0, .int .u32 0, .int .u32 0, .int .i64 0, .int .i64 0, .int .u8 0, .int .u32 0, .int .u32 0, .int .u16 0, .int .u16 0, .int .u8 0] := hG
        go_wp2_with (first | ((with_reducible refine look_load ?_); refine wpList_load_row rfl _ _ rfl _ rfl _ _ _ _ hb Tryd.underlying27 rfl (by kernel_rfl) ?_) | fail)
        exact TextPost.mk ⟨GTop.mk, hE.next⟩
      case hv => rfl
      iterate 4
        apply Walk.one rfl rfl rfl
        case hrun =>
          intro c W hE hF
          go_wp2_with fail
          exact TextPost.mk ⟨GTop.mk, hE⟩
        case hv => rfl
      refine Walk.anyOf (fun G : Facts => Value.tuple #[.agg (fcC G), .int .u8 (reasonOf EE)]) (fun x y h => fcC_inj (by simpa using h)) (fun G _ => EE = 0 → G = FD) (fun G W W' h _ => h) rfl rfl rfl (by kernel_rfl) (by kernel_rfl) ?_ (fun G => ?_)
      · intro c W hE hF
        go_wp2_with fail
        refine (HSg.out W hE.1.1).mono ?_
        rintro e2 W2 ⟨G, rfl, hG, l2⟩
        go_wp2_with fail
        exact ⟨G, rfl, hG, GTop.mk, hE.below ((l2 : Below W.heap.size W W2))⟩
      dsimp only [Act.put]
      simp only [List.setIfInBounds_toArray, List.set_cons_succ, List.set_cons_zero]
      iterate 3
        apply Walk.one rfl rfl rfl
        case hrun =>
          intro c W hE hF
          go_wp2_with fail
          exact TextPost.mk ⟨GTop.mk, hE⟩
        case hv => rfl
      apply Walk.keep 1 rfl rfl rfl rfl
      case hrun =>
        intro W hE hF
        obtain ⟨G', hG', _, _⟩ := hE.2.2.2
        refine wpList_store_row rfl _ _ _ rfl _ _ rfl rfl _ _ hG' (by kernel_rfl) rfl (fcC_one G) ?_
        go_wp2_with fail
        exact TextPost.mk ⟨GTop.mk, hE.put G hF.head⟩
      case hv => rfl
      apply Walk.one rfl rfl rfl
      case hrun =>
        intro c W hE hF
        go_wp2_with fail
        exact TextPost.mk ⟨GTop.mk, hE⟩
      case hv => rfl
      refine Walk.done (fun W hE hF => ?_)
      obtain ⟨G, hkb, _, hG⟩ := hE.2.2.2
      have br := hE.1.get 0 rfl
      have hbW := hE.1.1
      clear hE hF
      by_cases hE : EE = 0
      case neg =>
        have HX4 := Lib.hid (HF.out.trans (if_neg (by rw [HX.out]; exact HR0.out hE)))
        have eb : (reasonOf EE != 0) = true := by simpa using HR0.out hE
        clear hE hkb hG
        go_wp2_with (first | ((with_reducible refine look_store ?_); refine wpList_store_row rfl _ _ _ rfl _ _ rfl rfl _ _ br (by kernel_rfl) (by simp) (by simp [Value.oneCell']) ?_) | fail)
        refine bodyPost_ret (results_cell_tmp Tryd.results51 _ _ _ _ _ _ _ rfl (setRow_heap _ _ _ _ _ _ br) Tryd.underlying27 rfl (by kernel_rfl)) rfl ?_
        exact (HP.out _ _).2 ⟨by rw [HX.out, HX4.out]; rfl, below_setRow hbW (Nat.le_refl _) _⟩
      subst hE
      obtain rfl := hG rfl rfl
      have HX4 := Lib.hid (HF.out.trans (if_pos (by rw [HX.out]; rfl)))
      have eb : (reasonOf 0 != 0) = false := rfl
      obtain ⟨⟨k0, k1, k2, k3, k4⟩, f1, f2, f3, f4, f5, f6, f7, f8, ⟨q0, q1, q2, q3, q4⟩, f9⟩ := G
      have hk2 : Blk W w4.heap.size 27 #[.int .u8 k0, .int .u32 k1, .int .u32 k2, .int .u16 k3, .int .u16 k4, .int .u8 f1, .int .u8 f2, .int .u8 f3, .int .u8 f4, .int .u32 f5, .int .u32 f6, .int .i64 f7, .int .i64 f8, .int .u8 q0, .int .u32 q1, .int .u32 q2, .int .u16 q3, .int .u16 q4, .int .u8 f9] := hkb
      clear hkb hG
      go_wp2_with (first | ((with_reducible refine look_load ?_); refine wpList_load_row rfl _ _ rfl _ rfl _ _ _ _ hk2 Tryd.underlying27 rfl (by kernel_rfl) ?_) | ((with_reducible refine look_store ?_); refine wpList_store_row rfl _ _ _ rfl _ _ rfl rfl _ _ br (by kernel_rfl) (by simp) (by simp [Value.oneCell']) ?_) | fail)
      refine bodyPost_ret (results_cell_tmp Tryd.results51 _ _ _ _ _ _ _ rfl (setRow_heap _ _ _ _ _ _ br) Tryd.underlying27 rfl (by kernel_rfl)) rfl ?_
      exact (HP.out _ _).2 ⟨by rw [HX.out, HX4.out]; rfl, below_setRow hbW (Nat.le_refl _) _⟩
    · skip
      have HSg : Hid (∀ W, Below w.heap.size w W → Calls Tryd.prog 94 #[.agg #[.int .u8 17, .int .u32 src, .int .u32 dst, .int .u16 0, .int .u16 0, .int .u8 0, .int .u8 0, .int .u8 0, .int .u8 0, .int .u32 0, .int .u32 0, .int .i64 0, .int .i64 0, .int .u8 0, .int .u32 0, .int .u32 0, .int .u16 0, .int .u16 0, .int .u8 0], .slice (some ⟨b, off + SZ, none⟩) (TOT - SZ) (cap - SZ)] W (SegOut W (udpE2 D) (udpF (baseK 17 src dst) D))) := Lib.hid fun W hb => rDatagram_any 17 src dst (some ⟨b, off + SZ, none⟩) (cap - SZ) (TOT - SZ) D W HD.out (by omega) HDb.out (HDr.out.belows hb (Nat.le_refl _))
      generalize udpF (baseK 17 src dst) D = FD at *
      generalize udpE2 D = EE at *
      go_wp2_with fail
      have hS : RdE w [(w.heap.size, 27, #[.int .u8 0, .int .u32 0, .int .u32 0, .int .u16 0, .int .u16 0, .int .u8 0, .int .u8 0, .int .u8 0, .int .u8 0, .int .u32 0, .int .u32 0, .int .i64 0, .int .i64 0, .int .u8 0, .int .u32 0, .int .u32 0, .int .u16 0, .int .u16 0, .int .u8 0]), (w2.heap.size, 143, #[.int .u8 tos, .int .u16 id, .bool df, .bool mf, .int .i64 off0, .int .u8 ttl, .int .u8 17, .int .u32 src, .int .u32 dst, .slice OA on oc])] w4.heap.size (baseK 17 src dst) FD EE 0 W := ⟨hSt, by omega, by simp; omega, _, hkb, fun _ => rfl, fun _ h => by omega⟩
      clear hSt hkb hp6
      refine wp_region_walk (by kernel_rfl) (RdE w [(w.heap.size, 27, #[.int .u8 0, .int .u32 0, .int .u32 0, .int .u16 0, .int .u16 0, .int .u8 0, .int .u8 0, .int .u8 0, .int .u8 0, .int .u32 0, .int .u32 0, .int .i64 0, .int .i64 0, .int .u8 0, .int .u32 0, .int .u32 0, .int .u16 0, .int .u16 0, .int .u8 0]), (w2.heap.size, 143, #[.int .u8 tos, .int .u16 id, .bool df, .bool mf, .int .i64 off0, .int .u8 ttl, .int .u8 17, .int .u32 src, .int .u32 dst, .slice OA on oc])] w4.heap.size (baseK 17 src dst) FD EE) [0, 9] GTop [] (fun _ _ _ => True) [0, 1, 2, 3, 4, 5, 6, 7, 8, 9, 10] (by kernel_rfl) (fun _ h => by simp at h) ⟨hS.1.drew, hS.2.1, hS.2.2.1, by obtain ⟨G, h4, h5, h6⟩ := hS.2.2.2; exact ⟨G, h4.drew, h5, h6⟩⟩ ?_
      clear hS
      apply Walk.store 0 (ops_at rfl) rfl rfl rfl
      case hrun =>
        intro W hE hF
        obtain ⟨G, hG, hG1, _⟩ := hE.2.2.2
        obtain rfl := hG1 (by omega)
        have hb : Blk W w4.heap.size 27 #[.int .u8 17, .int .u32 src, .int .u32 dst, .int .u16 0, .int .u16 0, .int .u8 0, .int .u8 0, .int .u8 0, .int .u8 0, .int .u32 0, .int .u32 0, .int .i64 0, .int .i64 0, .int .u8 0, .int .u32 0, .int .u32 0, .int .u16 0, .int .u16 0, .int .u8 0] := hG
        go_wp2_with (first | ((with_reducible refine look_load ?_); refine wpList_load_row rfl _ _ rfl _ rfl _ _ _ _ hb Tryd.underlying27 rfl (by kernel_rfl) ?_) | fail)
        exact TextPost.mk ⟨GTop.mk, hE.next⟩
      case hv => rfl
      iterate 4
        apply Walk.one rfl rfl rfl
        case hrun =>
          intro c W hE hF
          go_wp2_with fail
          exact TextPost.mk ⟨GTop.mk, hE⟩
        case hv => rfl
      refine Walk.anyOf (fun G : Facts => Value.tuple #[.agg (fcC G), .int .u8 (reasonOf EE)]) (fun x y h => fcC_inj (by simpa using h)) (fun G _ => EE = 0 → G = FD) (fun G W W' h _ => h) rfl rfl rfl (by kernel_rfl) (by kernel_rfl) ?_ (fun G => ?_)
      · intro c W hE hF
        go_wp2_with fail
        refine (HSg.out W hE.1.1).mono ?_
        rintro e2 W2 ⟨G, rfl, hG, l2⟩
        go_wp2_with fail
        exact ⟨G, rfl, hG, GTop.mk, hE.below ((l2 : Below W.heap.size W W2))⟩
      dsimp only [Act.put]
      simp only [List.setIfInBounds_toArray, List.set_cons_succ, List.set_cons_zero]
      iterate 3
        apply Walk.one rfl rfl rfl
        case hrun =>
          intro c W hE hF
          go_wp2_with fail
          exact TextPost.mk ⟨GTop.mk, hE⟩
        case hv => rfl
      apply Walk.keep 1 rfl rfl rfl rfl
      case hrun =>
        intro W hE hF
        obtain ⟨G', hG', _, _⟩ := hE.2.2.2
        refine wpList_store_row rfl _ _ _ rfl _ _ rfl rfl _ _ hG' (by kernel_rfl) rfl (fcC_one G) ?_
        go_wp2_with fail
        exact TextPost.mk ⟨GTop.mk, hE.put G hF.head⟩
      case hv => rfl
      apply Walk.one rfl rfl rfl
      case hrun =>
        intro c W hE hF
        go_wp2_with fail
        exact TextPost.mk ⟨GTop.mk, hE⟩
      case hv => rfl
      refine Walk.done (fun W hE hF => ?_)
      obtain ⟨G, hkb, _, hG⟩ := hE.2.2.2
      have br := hE.1.get 0 rfl
      have hbW := hE.1.1
      clear hE hF
      by_cases hE : EE = 0
      case neg =>
        have HX4 := Lib.hid (HF.out.trans (if_neg (by rw [HX.out]; exact HR0.out hE)))
        have eb : (reasonOf EE != 0) = true := by simpa using HR0.out hE
        clear hE hkb hG
        go_wp2_with (first | ((with_reducible refine look_store ?_); refine wpList_store_row rfl _ _ _ rfl _ _ rfl rfl _ _ br (by kernel_rfl) (by simp) (by simp [Value.oneCell']) ?_) | fail)
        refine bodyPost_ret (results_cell_tmp Tryd.results51 _ _ _ _ _ _ _ rfl (setRow_heap _ _ _ _ _ _ br) Tryd.underlying27 rfl (by kernel_rfl)) rfl ?_
        exact (HP.out _ _).2 ⟨by rw [HX.out, HX4.out]; rfl, below_setRow hbW (Nat.le_refl _) _⟩
      subst hE
      obtain rfl := hG rfl rfl
      have HX4 := Lib.hid (HF.out.trans (if_pos (by rw [HX.out]; rfl)))
      have eb : (reasonOf 0 != 0) = false := rfl
      obtain ⟨⟨k0, k1, k2, k3, k4⟩, f1, f2, f3, f4, f5, f6, f7, f8, ⟨q0, q1, q2, q3, q4⟩, f9⟩ := G
      have hk2 : Blk W w4.heap.size 27 #[.int .u8 k0, .int .u32 k1, .int .u32 k2, .int .u16 k3, .int .u16 k4, .int .u8 f1, .int .u8 f2, .int .u8 f3, .int .u8 f4, .int .u32 f5, .int .u32 f6, .int .i64 f7, .int .i64 f8, .int .u8 q0, .int .u32 q1, .int .u32 q2, .int .u16 q3, .int .u16 q4, .int .u8 f9] := hkb
      clear hkb hG
      go_wp2_with (first | ((with_reducible refine look_load ?_); refine wpList_load_row rfl _ _ rfl _ rfl _ _ _ _ hk2 Tryd.underlying27 rfl (by kernel_rfl) ?_) | ((with_reducible refine look_store ?_); refine wpList_store_row rfl _ _ _ rfl _ _ rfl rfl _ _ br (by kernel_rfl) (by simp) (by simp [Value.oneCell']) ?_) | fail)
      refine bodyPost_ret (results_cell_tmp Tryd.results51 _ _ _ _ _ _ _ rfl (setRow_heap _ _ _ _ _ _ br) Tryd.underlying27 rfl (by kernel_rfl)) rfl ?_
      exact (HP.out _ _).2 ⟨by rw [HX.out, HX4.out]; rfl, below_setRow hbW (Nat.le_refl _) _⟩
  · rw [show dataE 1 D = icmpE2 D by unfold dataE; rw [if_neg (by decide), if_neg (by decide)]] at HX
    rw [show dataF 1 (baseK 1 src dst) D = icmpF (baseK 1 src dst) D by unfold dataF; rw [if_neg (by decide), if_neg (by decide)]] at HF
    have HR0 := Lib.hid (fun (h : icmpE2 D ≠ 0) => show reasonOf (icmpE2 D) ≠ 0 from reasonOf_ne _ (by have := dataE_in 1 D (by unfold dataE; rw [if_neg (by decide), if_neg (by decide)]; exact h); unfold dataE at this; rw [if_neg (by decide), if_neg (by decide)] at this; exact this))
    by_cases hk : cap = SZ
    · obtain rfl : TOT = cap := by omega
      obtain rfl : n = TOT := by omega
      subst hk
      have HSg : Hid (∀ W, Below w.heap.size w W → Calls Tryd.prog 95 #[.agg #[.int .u8 1, .int .u32 src, .int .u32 dst, .int .u16 0, .int .u16 0, .int .u8 0, .int .u8 0, .int .u8 0, .int .u8 0, .int .u32 0, .int .u32 0, .int .i64 0, .int .i64 0, .int .u8 0, .int .u32 0, .int .u32 0, .int .u16 0, .int .u16 0, .int .u8 0], .slice (some ⟨b, off, none⟩) (0) (0)] W (SegOut W (icmpE2 D) (icmpF (baseK 1 src dst) D))) := Lib.hid fun W hb => rMessage_any 1 src dst (some ⟨b, off, none⟩) (0) (0) D W (by rw [HDe.out rfl]; rfl) (by omega) (by omega) HDb.out (by rw [HDe.out rfl]; exact Rd.nil)
      generalize icmpF (baseK 1 src dst) D = FD at *
      generalize icmpE2 D = EE at *
      go_wp2_with fail
      have hS : RdE w [(w.heap.size, 27, #[.int .u8 0, .int .u32 0, .int .u32 0, .int .u16 0, .int .u16 0, .int .u8 0, .int .u8 0, .int .u8 0, .int .u8 0, .int .u32 0, .int .u32 0, .int .i64 0, .int .i64 0, .int .u8 0, .int .u32 0, .int .u32 0, .int .u16 0, .int .u16 0, .int .u8 0]), (w2.heap.size, 143, #[.int .u8 tos, .int .u16 id, .bool df, .bool mf, .int .i64 off0, .int .u8 ttl, .int .u8 1, .int .u32 src, .int .u32 dst, .slice OA on oc])] w4.heap.size (baseK 1 src dst) FD EE 0 W := ⟨hSt, by omega, by simp; omega, _, hkb, fun _ => rfl, fun _ h => by omega⟩
      clear hSt hkb hp6
      refine wp_region_walk (by kernel_rfl) (RdE w [(w.heap.size, 27, #[.int .u8 0, .int .u32 0, .int .u32 0, .int .u16 0, .int .u16 0, .int .u8 0, .int .u8 0, .int .u8 0, .int .u8 0, .int .u32 0, .int .u32 0, .int .i64 0, .int .i64 0, .int .u8 0, .int .u32 0, .int .u32 0, .int .u16 0, .int .u16 0, .int .u8 0]), (w2.heap.size, 143, #[.int .u8 tos, .int .u16 id, .bool df, .bool mf, .int .i64 off0, .int .u8 ttl, .int .u8 1, .int .u32 src, .int .u32 dst, .slice OA on oc])] w4.heap.size (baseK 1 src dst) FD EE) [0, 9] GTop [] (fun _ _ _ => True) [0, 1, 2, 3, 4, 5, 6, 7, 8, 9, 10] (by kernel_rfl) (fun _ h => by simp at h) ⟨hS.1.drew, hS.2.1, hS.2.2.1, by obtain ⟨G, h4, h5, h6⟩ := hS.2.2.2; exact ⟨G, h4.drew, h5, h6⟩⟩ ?_
      clear hS
      apply Walk.store 0 (ops_at rfl) rfl rfl rfl
      case hrun =>
        intro W hE hF
        obtain ⟨G, hG, hG1, _⟩ := hE.2.2.2
        obtain rfl := hG1 (by omega)
        have hb : Blk W w4.heap.size 27 #[.int .u8 1, .int .u32 src, .int .u32 dst, .int .u16 0, .int .u16 0, .int .u8 0, .int .u8 0, .int .u8 0, .int .u8 0, .int .u32 0, .int .u32 0, .int .i64 0, .int .i64 0, .int .u8 0, .int .u32 0, .int .u32 0, .int .u16 0, .int .u16 0, .int .u8 0] := hG
        go_wp2_with (first | ((with_reducible refine look_load ?_); refine wpList_load_row rfl _ _ rfl _ rfl _ _ _ _ hb Tryd.underlying27 rfl (by kernel_rfl) ?_) | fail)
        exact TextPost.mk ⟨GTop.mk, hE.next⟩
      case hv => rfl
      iterate 4
        apply Walk.one rfl rfl rfl
        case hrun =>
          intro c W hE hF
          go_wp2_with fail
          exact TextPost.mk ⟨GTop.mk, hE⟩
        case hv => rfl
      refine Walk.anyOf (fun G : Facts => Value.tuple #[.agg (fcC G), .int .u8 (reasonOf EE)]) (fun x y h => fcC_inj (by simpa using h)) (fun G _ => EE = 0 → G = FD) (fun G W W' h _ => h) rfl rfl rfl (by kernel_rfl) (by kernel_rfl) ?_ (fun G => ?_)
      · intro c W hE hF
        go_wp2_with fail
        refine (HSg.out W hE.1.1).mono ?_
        rintro e2 W2 ⟨G, rfl, hG, l2⟩
        go_wp2_with fail
        exact ⟨G, rfl, hG, GTop.mk, hE.below ((l2 : Below W.heap.size W W2))⟩
      dsimp only [Act.put]
      simp only [List.setIfInBounds_toArray, List.set_cons_succ, List.set_cons_zero]
      iterate 3
        apply Walk.one rfl rfl rfl
        case hrun =>
          intro c W hE hF
          go_wp2_with fail
          exact TextPost.mk ⟨GTop.mk, hE⟩
        case hv => rfl
      apply Walk.keep 1 rfl rfl rfl rfl
      case hrun =>
        intro W hE hF
        obtain ⟨G', hG', _, _⟩ := hE.2.2.2
        refine wpList_store_row rfl _ _ _ rfl _ _ rfl rfl _ _ hG' (by kernel_rfl) rfl (fcC_one G) ?_
        go_wp2_with fail
        exact TextPost.mk ⟨GTop.mk, hE.put G hF.head⟩
      case hv => rfl
      apply Walk.one rfl rfl rfl
      case hrun =>
        intro c W hE hF
        go_wp2_with fail
        exact TextPost.mk ⟨GTop.mk, hE⟩
      case hv => rfl
      refine Walk.done (fun W hE hF => ?_)
      obtain ⟨G, hkb, _, hG⟩ := hE.2.2.2
      have br := hE.1.get 0 rfl
      have hbW := hE.1.1
      clear hE hF
      by_cases hE : EE = 0
      case neg =>
        have HX4 := Lib.hid (HF.out.trans (if_neg (by rw [HX.out]; exact HR0.out hE)))
        have eb : (reasonOf EE != 0) = true := by simpa using HR0.out hE
        clear hE hkb hG
        go_wp2_with (first | ((with_reducible refine look_store ?_); refine wpList_store_row rfl _ _ _ rfl _ _ rfl rfl _ _ br (by kernel_rfl) (by simp) (by simp [Value.oneCell']) ?_) | fail)
        refine bodyPost_ret (results_cell_tmp Tryd.results51 _ _ _ _ _ _ _ rfl (setRow_heap _ _ _ _ _ _ br) Tryd.underlying27 rfl (by kernel_rfl)) rfl ?_
        exact (HP.out _ _).2 ⟨by rw [HX.out, HX4.out]; rfl, below_setRow hbW (Nat.le_refl _) _⟩
      subst hE
      obtain rfl := hG rfl rfl
      have HX4 := Lib.hid (HF.out.trans (if_pos (by rw [HX.out]; rfl)))
      have eb : (reasonOf 0 != 0) = false := rfl
      obtain ⟨⟨k0, k1, k2, k3, k4⟩, f1, f2, f3, f4, f5, f6, f7, f8, ⟨q0, q1, q2, q3, q4⟩, f9⟩ := G
      have hk2 : Blk W w4.heap.size 27 #[.int .u8 k0, .int .u32 k1, .int .u32 k2, .int .u16 k3, .int .u16 k4, .int .u8 f1, .int .u8 f2, .int .u8 f3, .int .u8 f4, .int .u32 f5, .int .u32 f6, .int .i64 f7, .int .i64 f8, .int .u8 q0, .int .u32 q1, .int .u32 q2, .int .u16 q3, .int .u16 q4, .int .u8 f9] := hkb
      clear hkb hG
      go_wp2_with (first | ((with_reducible refine look_load ?_); refine wpList_load_row rfl _ _ rfl _ rfl _ _ _ _ hk2 Tryd.underlying27 rfl (by kernel_rfl) ?_) | ((with_reducible refine look_store ?_); refine wpList_store_row rfl _ _ _ rfl _ _ rfl rfl _ _ br (by kernel_rfl) (by simp) (by simp [Value.oneCell']) ?_) | fail)
      refine bodyPost_ret (results_cell_tmp Tryd.results51 _ _ _ _ _ _ _ rfl (setRow_heap _ _ _ _ _ _ br) Tryd.underlying27 rfl (by kernel_rfl)) rfl ?_
      exact (HP.out _ _).2 ⟨by rw [HX.out, HX4.out]; rfl, below_setRow hbW (Nat.le_refl _) _⟩
    · skip
      have HSg : Hid (∀ W, Below w.heap.size w W → Calls Tryd.prog 95 #[.agg #[.int .u8 1, .int .u32 src, .int .u32 dst, .int .u16 0, .int .u16 0, .int .u8 0, .int .u8 0, .int .u8 0, .int .u8 0, .int .u32 0, .int .u32 0, .int .i64 0, .int .i64 0, .int .u8 0, .int .u32 0, .int .u32 0, .int .u16 0, .int .u16 0, .int .u8 0], .slice (some ⟨b, off + SZ, none⟩) (TOT - SZ) (cap - SZ)] W (SegOut W (icmpE2 D) (icmpF (baseK 1 src dst) D))) := Lib.hid fun W hb => rMessage_any 1 src dst (some ⟨b, off + SZ, none⟩) (cap - SZ) (TOT - SZ) D W HD.out (by omega) (by omega) HDb.out (HDr.out.belows hb (Nat.le_refl _))
      generalize icmpF (baseK 1 src dst) D = FD at *
      generalize icmpE2 D = EE at *
      go_wp2_with fail
      have hS : RdE w [(w.heap.size, 27, #[.int .u8 0, .int .u32 0, .int .u32 0, .int .u16 0, .int .u16 0, .int .u8 0, .int .u8 0, .int .u8 0, .int .u8 0, .int .u32 0, .int .u32 0, .int .i64 0, .int .i64 0, .int .u8 0, .int .u32 0, .int .u32 0, .int .u16 0, .int .u16 0, .int .u8 0]), (w2.heap.size, 143, #[.int .u8 tos, .int .u16 id, .bool df, .bool mf, .int .i64 off0, .int .u8 ttl, .int .u8 1, .int .u32 src, .int .u32 dst, .slice OA on oc])] w4.heap.size (baseK 1 src dst) FD EE 0 W := ⟨hSt, by omega, by simp; omega, _, hkb, fun _ => rfl, fun _ h => by omega⟩
      clear hSt hkb hp6
      refine wp_region_walk (by kernel_rfl) (RdE w [(w.heap.size, 27, #[.int .u8 0, .int .u32 0, .int .u32 0, .int .u16 0, .int .u16 0, .int .u8 0, .int .u8 0, .int .u8 0, .int .u8 0, .int .u32 0, .int .u32 0, .int .i64 0, .int .i64 0, .int .u8 0, .int .u32 0, .int .u32 0, .int .u16 0, .int .u16 0, .int .u8 0]), (w2.heap.size, 143, #[.int .u8 tos, .int .u16 id, .bool df, .bool mf, .int .i64 off0, .int .u8 ttl, .int .u8 1, .int .u32 src, .int .u32 dst, .slice OA on oc])] w4.heap.size (baseK 1 src dst) FD EE) [0, 9] GTop [] (fun _ _ _ => True) [0, 1, 2, 3, 4, 5, 6, 7, 8, 9, 10] (by kernel_rfl) (fun _ h => by simp at h) ⟨hS.1.drew, hS.2.1, hS.2.2.1, by obtain ⟨G, h4, h5, h6⟩ := hS.2.2.2; exact ⟨G, h4.drew, h5, h6⟩⟩ ?_
      clear hS
      apply Walk.store 0 (ops_at rfl) rfl rfl rfl
      case hrun =>
        intro W hE hF
        obtain ⟨G, hG, hG1, _⟩ := hE.2.2.2
        obtain rfl := hG1 (by omega)
        have hb : Blk W w4.heap.size 27 #[.int .u8 1, .int .u32 src, .int .u32 dst, .int .u16 0, .int .u16 0, .int .u8 0, .int .u8 0, .int .u8 0, .int .u8 0, .int .u32 0, .int .u32 0, .int .i64 0, .int .i64 0, .int .u8 0, .int .u32 0, .int .u32 0, .int .u16 0, .int .u16 0, .int .u8 0] := hG
        go_wp2_with (first | ((with_reducible refine look_load ?_); refine wpList_load_row rfl _ _ rfl _ rfl _ _ _ _ hb Tryd.underlying27 rfl (by kernel_rfl) ?_) | fail)
        exact TextPost.mk ⟨GTop.mk, hE.next⟩
      case hv => rfl
      iterate 4
        apply Walk.one rfl rfl rfl
        case hrun =>
          intro c W hE hF
          go_wp2_with fail
          exact TextPost.mk ⟨GTop.mk, hE⟩
        case hv => rfl
      refine Walk.anyOf (fun G : Facts => Value.tuple #[.agg (fcC G), .int .u8 (reasonOf EE)]) (fun x y h => fcC_inj (by simpa using h)) (fun G _ => EE = 0 → G = FD) (fun G W W' h _ => h) rfl rfl rfl (by kernel_rfl) (by kernel_rfl) ?_ (fun G => ?_)
      · intro c W hE hF
        go_wp2_with fail
        refine (HSg.out W hE.1.1).mono ?_
        rintro e2 W2 ⟨G, rfl, hG, l2⟩
        go_wp2_with fail
        exact ⟨G, rfl, hG, GTop.mk, hE.below ((l2 : Below W.heap.size W W2))⟩
      dsimp only [Act.put]
      simp only [List.setIfInBounds_toArray, List.set_cons_succ, List.set_cons_zero]
      iterate 3
        apply Walk.one rfl rfl rfl
        case hrun =>
          intro c W hE hF
          go_wp2_with fail
          exact TextPost.mk ⟨GTop.mk, hE⟩
        case hv => rfl
      apply Walk.keep 1 rfl rfl rfl rfl
      case hrun =>
        intro W hE hF
        obtain ⟨G', hG', _, _⟩ := hE.2.2.2
        refine wpList_store_row rfl _ _ _ rfl _ _ rfl rfl _ _ hG' (by kernel_rfl) rfl (fcC_one G) ?_
        go_wp2_with fail
        exact TextPost.mk ⟨GTop.mk, hE.put G hF.head⟩
      case hv => rfl
      apply Walk.one rfl rfl rfl
      case hrun =>
        intro c W hE hF
        go_wp2_with fail
        exact TextPost.mk ⟨GTop.mk, hE⟩
      case hv => rfl
      refine Walk.done (fun W hE hF => ?_)
      obtain ⟨G, hkb, _, hG⟩ := hE.2.2.2
      have br := hE.1.get 0 rfl
      have hbW := hE.1.1
      clear hE hF
      by_cases hE : EE = 0
      case neg =>
        have HX4 := Lib.hid (HF.out.trans (if_neg (by rw [HX.out]; exact HR0.out hE)))
        have eb : (reasonOf EE != 0) = true := by simpa using HR0.out hE
        clear hE hkb hG
        go_wp2_with (first | ((with_reducible refine look_store ?_); refine wpList_store_row rfl _ _ _ rfl _ _ rfl rfl _ _ br (by kernel_rfl) (by simp) (by simp [Value.oneCell']) ?_) | fail)
        refine bodyPost_ret (results_cell_tmp Tryd.results51 _ _ _ _ _ _ _ rfl (setRow_heap _ _ _ _ _ _ br) Tryd.underlying27 rfl (by kernel_rfl)) rfl ?_
        exact (HP.out _ _).2 ⟨by rw [HX.out, HX4.out]; rfl, below_setRow hbW (Nat.le_refl _) _⟩
      subst hE
      obtain rfl := hG rfl rfl
      have HX4 := Lib.hid (HF.out.trans (if_pos (by rw [HX.out]; rfl)))
      have eb : (reasonOf 0 != 0) = false := rfl
      obtain ⟨⟨k0, k1, k2, k3, k4⟩, f1, f2, f3, f4, f5, f6, f7, f8, ⟨q0, q1, q2, q3, q4⟩, f9⟩ := G
      have hk2 : Blk W w4.heap.size 27 #[.int .u8 k0, .int .u32 k1, .int .u32 k2, .int .u16 k3, .int .u16 k4, .int .u8 f1, .int .u8 f2, .int .u8 f3, .int .u8 f4, .int .u32 f5, .int .u32 f6, .int .i64 f7, .int .i64 f8, .int .u8 q0, .int .u32 q1, .int .u32 q2, .int .u16 q3, .int .u16 q4, .int .u8 f9] := hkb
      clear hkb hG
      go_wp2_with (first | ((with_reducible refine look_load ?_); refine wpList_load_row rfl _ _ rfl _ rfl _ _ _ _ hk2 Tryd.underlying27 rfl (by kernel_rfl) ?_) | ((with_reducible refine look_store ?_); refine wpList_store_row rfl _ _ _ rfl _ _ rfl rfl _ _ br (by kernel_rfl) (by simp) (by simp [Value.oneCell']) ?_) | fail)
      refine bodyPost_ret (results_cell_tmp Tryd.results51 _ _ _ _ _ _ _ rfl (setRow_heap _ _ _ _ _ _ br) Tryd.underlying27 rfl (by kernel_rfl)) rfl ?_
      exact (HP.out _ _).2 ⟨by rw [HX.out, HX4.out]; rfl, below_setRow hbW (Nat.le_refl _) _⟩
theorem r11Read_any (A : Option Addr) (cap n : Nat) (xs : List Int) (w : World) (hn : xs.length = n) (hl : n ≤ 1000000) (hcap : n ≤ cap) (hB : Byt xs) (hr : Rd w w.heap.size A .u8 xs) :
    Calls Tryd.prog 51 #[.slice A n cap] w (ReadPost w xs) := by
  rcases Nat.lt_or_ge (ipN xs) 7 with h | h
  · exact r11Read_bad A cap n xs w hn hl hcap hB hr h
  · exact r11Read_good A cap n xs w hn hl hcap hB hr (by have := firstB_le (ipT xs) 7 0; unfold ipN at *; omega)
end Go.Proofs.YtebeekjcepjcnaaDoor
