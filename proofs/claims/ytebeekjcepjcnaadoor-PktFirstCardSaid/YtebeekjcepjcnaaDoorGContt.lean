/-
  bafflelaw11.content, a segment.
  bafflelaw11.content, a query or a reply.
-/
import Derived.Lib.MinMax
import Derived.WalkKit
import Derived.WalkSpells
import Derived.WalkLawsBesides
import Derived.WalkSmall
import Derived.Lib.Hide
import Derived.Deep.AppendLies
import Derived.Maps.AppendAt
import Derived.Laws.AppendOwnNone
import Derived.Laws.CopyOwn
import Derived.OneCell
import Derived.Test.YtebeekjcepjcnaaDoorProg
import Derived.Lib.SliceRun
import Derived.RangeFuncNested
import Derived.RangeFuncBound
import Derived.RangeFuncCalls
import Derived.RangeFuncLeaves
import Derived.Shelf.Abstract
import Derived.OwnWalkIn
import Derived.TacticsInMore
import Derived.LoopNIn
import Derived.LoopIn
import Derived.Lib.AppendZeros
import Derived.BigRegion
import Derived.ChangeAlike
import Derived.Deep.RegionLaw
import Derived.Deep.DeepCutAuto
import Derived.Orders
import Derived.RegionTactic
import Derived.Still
import Derived.Deep.MidRow
import Derived.Deep.RegionHeld3
import Derived.MapKept
import Derived.RegionIn
import Derived.Laws.StructEq
import Derived.Laws.BitsAllLaws
import Derived.Deep.CutBlock
import Derived.Test.YtebeekjcepjcnaaDoorGBase
import Derived.Test.YtebeekjcepjcnaaDoorGBits
import Derived.Test.YtebeekjcepjcnaaDoorGCsum
import Derived.Test.YtebeekjcepjcnaaDoorGSum
import Derived.Test.YtebeekjcepjcnaaDoorGFix
import Derived.Test.YtebeekjcepjcnaaDoorGFacts
import Derived.Test.YtebeekjcepjcnaaDoorGPkt
import Derived.Test.YtebeekjcepjcnaaDoorGWalk
import Derived.Test.YtebeekjcepjcnaaDoorGStep
import Derived.Test.YtebeekjcepjcnaaDoorGTcpw
import Derived.Test.YtebeekjcepjcnaaDoorGUdpw
import Derived.Test.YtebeekjcepjcnaaDoorGData
import Derived.Test.YtebeekjcepjcnaaDoorGIprd
import Derived.Test.YtebeekjcepjcnaaDoorGFold
import Derived.Test.YtebeekjcepjcnaaDoorGFresh
import Derived.Test.YtebeekjcepjcnaaDoorGIpre
import Derived.Test.YtebeekjcepjcnaaDoorGIpread
import Derived.Test.YtebeekjcepjcnaaDoorGOptsa
import Derived.Test.YtebeekjcepjcnaaDoorGOptsb
import Derived.Test.YtebeekjcepjcnaaDoorGOptsc
import Derived.Test.YtebeekjcepjcnaaDoorGOptsd
import Derived.Test.YtebeekjcepjcnaaDoorGTcprd
import Derived.Test.YtebeekjcepjcnaaDoorGEq
import Derived.Test.YtebeekjcepjcnaaDoorGMade8
import Derived.Test.YtebeekjcepjcnaaDoorGIpback
import Derived.Test.YtebeekjcepjcnaaDoorGMade6p
import Derived.Test.YtebeekjcepjcnaaDoorGMade10
import Derived.Test.YtebeekjcepjcnaaDoorGMade9
import Derived.Test.YtebeekjcepjcnaaDoorGPright
import Derived.Test.YtebeekjcepjcnaaDoorGBuilt
import Derived.Test.YtebeekjcepjcnaaDoorGUdprd
import Derived.Test.YtebeekjcepjcnaaDoorGIcmprd
namespace Go.Proofs.YtebeekjcepjcnaaDoor
open Go.RowKit
set_option maxRecDepth 100000 in
set_option maxHeartbeats 8000000 in
theorem content_tcp (x : Sm) (hx : x.Ok) (src dst : Int) (w : World) (x0 : 0 ≤ src) (x1 : src < 4294967296) (y0 : 0 ≤ dst) (y1 : dst < 4294967296) (hA : SmAt w w.heap.size x) :
    Calls Tryd.prog 63 #[x.val, .int .u8 0, .int .u32 src, .int .u32 dst] w (ContPost 0 w) := by
  obtain ⟨g0, g1⟩ := hx.tf
  obtain ⟨m0, m1⟩ := hx.tm
  obtain ⟨o0, o1⟩ := hx.tw
  obtain ⟨ul, uc, ub⟩ := hx.tl
  have hU := hA.tb
  have hH := hx.hd
  have hml : (x.tb.take 100).length = min x.tn 100 := by rw [List.length_take]; omega
  have hmb : Byt (x.tb.take 100) := ub.take 100
  have hm1 : min x.tn 100 ≤ 100 := by omega
  obtain ⟨a0, a1⟩ := w16At_bd hH 0
  obtain ⟨b0, b1⟩ := w16At_bd hH 2
  obtain ⟨c0, c1⟩ := l32At_bd hH 4
  obtain ⟨d0, d1⟩ := l32At_bd hH 8
  obtain ⟨e0, e1⟩ := w16At_bd hH 12
  obtain ⟨f0, f1⟩ := w16At_bd hH 14
  have hol : (m8O x.hd (4 * (x.tw.toNat % 11))).length = 4 * (x.tw.toNat % 11) := m8O_len _ _
  have hob : Byt (m8O x.hd (4 * (x.tw.toNat % 11))) := m8O_byt _ hH _ (by omega)
  have hjj : 4 * (x.tw.toNat % 11) ≤ 40 := by omega
  have hj4 : 4 * (x.tw.toNat % 11) % 4 = 0 := by omega
  have HM := Lib.hid (fun w' (hb : Below w.heap.size w w') => made8_any x.hd x.tf x.tm x.tw x.ts x.td x.tA x.tc x.tn (min x.tn 100) x.tb w' hH g0 m0 m1 o0 o1 ul uc rfl (hU.belows hb (Nat.le_refl _)))
  unfold Made8Post at HM
  dsimp only [Sm.hd, List.getD_cons_zero, List.getD_cons_succ] at HM
  clear hA hx hU hH ul uc ub
  dsimp only [Sm.val, Sm.cells]
  rw [show [x.h0, x.h1, x.h2, x.h3, x.h4, x.h5, x.h6, x.h7, x.h8, x.h9, x.h10, x.h11, x.h12, x.h13, x.h14, x.h15] = x.hd from rfl] at HM
  generalize w16At x.hd 0 = vsp at *
  generalize w16At x.hd 2 = vdp at *
  generalize l32At x.hd 4 = sq at *
  generalize l32At x.hd 8 = ak at *
  generalize w16At x.hd 12 = win at *
  generalize w16At x.hd 14 = urg at *
  generalize m8O x.hd (4 * (x.tw.toNat % 11)) = opts at *
  generalize 4 * (x.tw.toNat % 11) = ol at *
  generalize x.tb.take 100 = data at *
  generalize min x.tn 100 = m at *
  go_enter Tryd.func63, Tryd.ntmps63
  go_upto_region 1 with fail
  refine wp_name2 ?_
  intro w1 hb1 hs1 bx bf
  have hru := bx.range 8 (l := [.int .u8 x.h0, .int .u8 x.h1, .int .u8 x.h2, .int .u8 x.h3, .int .u8 x.h4, .int .u8 x.h5, .int .u8 x.h6, .int .u8 x.h7, .int .u8 x.h8, .int .u8 x.h9, .int .u8 x.h10, .int .u8 x.h11, .int .u8 x.h12, .int .u8 x.h13, .int .u8 x.h14, .int .u8 x.h15, .int .u8 x.tf, .int .u8 x.tm, .int .u8 x.tw, .int .u32 x.ts, .int .u32 x.td, .slice x.tA x.tn x.tc]) (by simp)
  go_upto_region 4 with (first | ((with_reducible refine look_load ?_); refine wpList_load_mid rfl _ _ rfl _ _ rfl _ _ hru Tryd.underlying59 rfl (by kernel_rfl) ?_) | (go_at_call 115; refine (HM.out _ hb1).mono ?_; rintro e w2 ⟨F, o, p, hF, hsane, rfl, hp2, ho2, hl2⟩) | ((with_reducible refine look_store ?_); refine wpList_store_new rfl _ _ _ rfl _ _ rfl rfl _ _ rfl (by kernel_rfl) (by simp) (by simp [Value.oneCell']) ?_) | fail)
  try dsimp only [Act.put]
  refine wp_name1 ?_
  intro w4 hb4 hs4 bh4
  clear hru bx HM
  have bf4 := (bf.below hl2 bf.lt).below hb4 (bf.below hl2 bf.lt).lt
  have ho4 := ho2.below hb4 (Nat.le_refl _)
  have hp4 := hp2.below hb4 (Nat.le_refl _)
  have hbw := (hb1.trans (hl2.mono hb1.size)).trans (hb4.mono (Nat.le_trans hb1.size hl2.size))
  have hg4 : w.heap.size + 1 < w4.heap.size := bf4.lt
  have hne : w2.heap.size ≠ w.heap.size + 1 := by have := bf.lt; have := hl2.size; omega
  have HW := Lib.hid (tcpWrite_any (max vsp 1) (max vdp 1) sq ak win urg F o.1 o.2 ol opts src dst p.1 p.2 m data w4 (by omega) (by omega) (by omega) (by omega) c0 c1 d0 d1 hF hsane e0 e1 f0 f1 hol hjj hj4 hml (by omega) x0 x1 y0 y1 hob hmb hp4.rd ho4.rd)
  have HC := Lib.hid (cont_tcp (src := src) (dst := dst) (data := data) (opts := opts) (sp := max vsp 1) (dp := max vdp 1) (seqn := sq) (ackn := ak) (win := win) (urg := urg) (fl := F) (by omega) (by omega) (by omega) (by omega) c0 c1 d0 d1 hF hsane e0 e1 f0 f1 (by omega) (by omega) (by omega) x0 x1 y0 y1 hob hmb)
  have hbl : w.heap.size ≤ w4.heap.size := hbw.size
  have h63 := and_u8_63 (F : Int) (by omega) (by omega)
  clear hl2 hb4 bf ho2 hp2 hb1 ho4 hp4
  go_upto_region 5 with (first | ((with_reducible refine look_load ?_); refine wpList_load_row rfl _ _ rfl _ rfl _ _ _ _ bh4 Tryd.underlying164 rfl (by kernel_rfl) ?_) | (go_at_call 116; refine HW.out.mono ?_; rintro e w5 ⟨v, rfl, ho5, hl5⟩) | fail)
  try dsimp only [Act.put]
  obtain ⟨q, rfl⟩ := ho5.shape rfl
  have bh5 := bh4.below hl5 bh4.lt
  have bf5 := bf4.below hl5 bf4.lt
  have hbw5 := hbw.trans (hl5.mono hbl)
  clear HW hl5 bh4 bf4 hbw
  generalize max vsp 1 = sp at *
  generalize max vdp 1 = dp at *
  have hSt : St1 w w.heap.size [(w2.heap.size, _, _)] (w.heap.size + 1) 27 _ #[.int .u8 6, .int .u32 0, .int .u32 0, .int .u16 sp, .int .u16 dp, .int .u8 1, .int .u8 ((F : Int) % 64), .int .u8 0, .int .u8 0, .int .u32 sq, .int .u32 ak, .int .i64 win, .int .i64 m, .int .u8 0, .int .u32 0, .int .u32 0, .int .u16 0, .int .u16 0, .int .u8 0] 0 w5 := ⟨(St.nil hbw5 hbw5.size).cons bh5, by omega, by simp; omega, bf5⟩
  clear hbw5 bh5 bf5
  have hO := ho5.base_le (show w.heap.size + 1 + 1 ≤ w4.heap.size by omega)
  have hml' := Lib.hid (show (m : Int) = data.length by omega)
  have HC' := Lib.hid HC.out
  clear ho5 HC
  generalize tcpL sp dp sq ak F win urg opts src dst data = ys at *
  generalize hyl : ys.length = k at *
  refine wp_region_walk0 (by kernel_rfl) (fun c W => St1 w w.heap.size _ (w.heap.size + 1) 27 _ #[.int .u8 6, .int .u32 0, .int .u32 0, .int .u16 sp, .int .u16 dp, .int .u8 1, .int .u8 ((F : Int) % 64), .int .u8 0, .int .u8 0, .int .u32 sq, .int .u32 ak, .int .i64 win, .int .i64 m, .int .u8 0, .int .u32 0, .int .u32 0, .int .u16 0, .int .u16 0, .int .u8 0] c W ∧ Own W (w.heap.size + 1 + 1) (.slice q.1 k q.2) ys) [20] (GrowR (w.heap.size + 1)) [0, 1, 2, 3, 4, 5, 6, 7, 8, 9, 10, 11, 12, 13, 14, 15, 16, 17, 18, 19, 20] (by kernel_rfl) ⟨hSt.drew, hO.drew⟩ ?_
  iterate 20
    apply Walk.one rfl rfl rfl
    case hrun =>
      intro c W hE hF
      have hc := (hE.1.1.get 0 rfl).cell
      go_wp2_with fail
      exact TextPost.mk ⟨GrowR.refl _ _, hE⟩
    case hv => rfl
  apply Walk.keep 0 rfl rfl rfl rfl
  case hrun =>
    intro W2 hE hF
    have hbR := hE.1.2.2.2
    rw [if_pos rfl] at hbR
    go_wp2_with (first | ((with_reducible refine look_store ?_); refine wpList_store_row rfl _ _ _ rfl _ _ rfl rfl _ _ hbR (by kernel_rfl) (by simp) (by simp [Value.oneCell']) ?_) | fail)
    exact TextPost.mk ⟨grown_setRow _ _ _, hE.1.put, hE.2.growR (grown_setRow _ _ _)⟩
  case hv => rfl
  refine Walk.done (fun W hE hF => ?_)
  have hbR := hE.1.2.2.2
  have hbW := hE.1.1.1
  have ho := hE.2
  clear hE hF hSt hO
  go_wp2_with fail
  refine bodyPost_ret (results_tmp_cell Tryd.results63 _ _ _ _ _ _ _ rfl hbR Tryd.underlying27 rfl (by kernel_rfl)) rfl ⟨ys, q, _, ?_, ?_, HC'.out, hbW⟩
  · rw [← hml'.out, hyl]
    rfl
  · rw [hyl]; exact ho.base_le (by omega)
end Go.Proofs.YtebeekjcepjcnaaDoor
namespace Go.Proofs.YtebeekjcepjcnaaDoor
open Go.RowKit
theorem m10_tab : ∀ r, r < 11 → kindN (typL.getD r 0).toNat = kinL.getD r 0 ∧ codesN (typL.getD r 0).toNat = limL.getD r 0 ∧ kinL.getD r 0 ≠ 0 ∧ 0 ≤ typL.getD r 0 ∧ typL.getD r 0 < 256 ∧ 0 ≤ limL.getD r 0 ∧ limL.getD r 0 < 16 ∧ (r < 6 → kinL.getD r 0 = 3 ∨ kinL.getD r 0 = 4) ∧ (6 ≤ r → kinL.getD r 0 = 5) := by decide
theorem m10_good (t c : Int) (_t0 : 0 ≤ t) : ∃ T C : Nat, m10T t = T ∧ m10C t c = C ∧ T < 256 ∧ C < 256 ∧ kind2 T C = 0 ∧ kind1 T C = m10K t ∧ (t % 11 < 6 → m10K t = 3 ∨ m10K t = 4) ∧ (6 ≤ t % 11 → m10K t = 5) := by
  obtain ⟨h1, h2, h3, h4, h5, h6, h7, h8, h9⟩ := m10_tab (t % 11).toNat (by omega)
  have hc0 : 0 ≤ c % (limL.getD (t % 11).toNat 0 + 1) := Int.emod_nonneg _ (by omega)
  have hc1 : c % (limL.getD (t % 11).toNat 0 + 1) < limL.getD (t % 11).toNat 0 + 1 := Int.emod_lt_of_pos _ (by omega)
  refine ⟨(m10T t).toNat, (m10C t c).toNat, ?_, ?_, ?_, ?_, ?_, ?_, fun h => h8 (by omega), fun h => h9 (by omega)⟩
  · unfold m10T; omega
  · unfold m10C; omega
  · unfold m10T; omega
  · unfold m10C; omega
  · unfold kind2 m10T m10C
    rw [h1, h2, if_neg h3, if_neg (by omega)]
  · unfold kind1 m10T m10C m10K
    rw [h1, h2, if_neg h3, if_neg (by omega)]
set_option maxRecDepth 100000 in
set_option maxHeartbeats 8000000 in
theorem content_icmp (x : Sm) (hx : x.Ok) (src dst : Int) (w : World) (hA : SmAt w w.heap.size x) (hT : Tabs w) (hs : SortsAt w) :
    Calls Tryd.prog 63 #[x.val, .int .u8 2, .int .u32 src, .int .u32 dst] w (ContPost 2 w) := by
  obtain ⟨g0, g1⟩ := hx.ity
  obtain ⟨m0, m1⟩ := hx.ico
  obtain ⟨i0, i1⟩ := hx.iid
  obtain ⟨s0, s1⟩ := hx.isq
  obtain ⟨ul, uc, ub⟩ := hx.il
  have hU := hA.ib
  have hml : (x.ib.take 80).length = min x.inn 80 := by rw [List.length_take]; omega
  have hmb : Byt (x.ib.take 80) := ub.take 80
  have hm1 : min x.inn 80 ≤ 80 := by omega
  have ht2 : x.ity.tmod 6 = x.ity % 6 := Int.tmod_eq_emod_of_nonneg g0
  have HM := Lib.hid (fun w' (hb : Below w.heap.size w w') => made10_any (x.ity % 6) x.ico x.iid x.isq x.iA x.ic x.inn (min x.inn 80) x.ib w' (by omega) m0 m1 ul uc rfl (hU.belows hb (Nat.le_refl _)) (hT.below hb (Nat.le_refl _)))
  unfold Made10Post at HM
  obtain ⟨T, C, hT1, hC1, hT2, hC2, hk2, hk1, hk6, _⟩ := m10_good (x.ity % 6) x.ico (by omega)
  rw [hT1, hC1, ← hk1] at HM
  have h34 : kind1 T C = 3 ∨ kind1 T C = 4 := by rw [hk1]; exact hk6 (by omega)
  clear hA hx hU ul uc ub hT hT1 hC1 hk1 hk6
  have ht0 : 0 ≤ x.ity % 6 := by omega
  have ht6 : x.ity % 6 < 6 := by omega
  dsimp only [Sm.val, Sm.cells]
  generalize x.ity % 6 = tt at *
  generalize x.ib.take 80 = data at *
  generalize min x.inn 80 = m at *
  go_enter Tryd.func63, Tryd.ntmps63
  go_upto_region 1 with fail
  refine wp_name2 ?_
  intro w1 hb1 hs1 bx bf
  have hcx := bx.cell
  have hfx := bx.frozen
  go_upto_region 13 with fail
  try dsimp only [Act.put]
  have bx2 := bx.set 36 (.int .u8 tt)
  have hbx := hb1.setCell (p := ⟨w.heap.size, 36, none⟩) (Nat.le_refl _) (.int .u8 tt)
  have bf2 := bf.far (p := ⟨w.heap.size, 36, none⟩) (by show w.heap.size + 1 ≠ w.heap.size; omega) (.int .u8 tt)
  have hs2 : (w1.setCell ⟨w.heap.size, 36, none⟩ (.int .u8 tt)).heap.size = w.heap.size + 2 := by simp [hs1]
  clear hcx hfx bx bf hb1 hs1
  revert bx2 hbx bf2 hs2
  generalize w1.setCell ⟨w.heap.size, 36, none⟩ (.int .u8 tt) = w2
  intro bx2 hbx bf2 hs2
  have hru := bx2.range 36 (l := [.int .u8 tt, .int .u8 x.ico, .int .u16 x.iid, .int .u16 x.isq, .slice x.iA x.inn x.ic]) (by simp)
  go_upto_region 14 with (first | ((with_reducible refine look_load ?_); refine wpList_load_mid rfl _ _ rfl _ _ rfl _ _ hru Tryd.underlying63 rfl (by kernel_rfl) ?_) | (go_at_call 119; refine (HM.out _ hbx).mono ?_; rintro e w3 ⟨p, rfl, ho3, hl3⟩) | ((with_reducible refine look_store ?_); refine wpList_store_new rfl _ _ _ rfl _ _ rfl rfl _ _ rfl (by kernel_rfl) (by simp) (by simp [Value.oneCell']) ?_) | fail)
  try dsimp only [Act.put]
  refine wp_name1 ?_
  intro w4 hb4 hs4 bh4
  clear hru bx2 HM
  have bf4 := (bf2.below hl3 bf2.lt).below hb4 (bf2.below hl3 bf2.lt).lt
  have ho4 := ho3.below hb4 (Nat.le_refl _)
  have hbw := (hbx.trans (hl3.mono hbx.size)).trans (hb4.mono (Nat.le_trans hbx.size hl3.size))
  have hg4 : w.heap.size + 1 < w4.heap.size := bf4.lt
  have hne : w3.heap.size ≠ w.heap.size + 1 := by have := bf2.lt; have := hl3.size; omega
  have hs4' := hs.below hbw (Nat.le_refl _)
  subst hml
  have HW := Lib.hid (icmpWrite_any T C x.iid x.isq p.1 p.2 data w4 hT2 hC2 i0 i1 s0 s1 hs4' hk2 (by omega) hmb ho4.rd)
  have HC := Lib.hid (cont_icmp (data := data) (t := T) (c := C) (i := x.iid) (s := x.isq) hT2 hC2 i0 i1 s0 s1 hk2 h34 (by omega) hmb)
  have hbl : w.heap.size ≤ w4.heap.size := hbw.size
  clear hl3 hb4 bf2 ho3 hbx ho4 hs4' hs hk2 h34
  generalize kind1 T C = K at *
  go_upto_region 15 with (first | ((with_reducible refine look_load ?_); refine wpList_load_row rfl _ _ rfl _ rfl _ _ _ _ bh4 Tryd.underlying84 rfl (by kernel_rfl) ?_) | (go_at_call 39; refine HW.out.mono ?_; rintro e w5 ⟨v, rfl, ho5, hl5⟩) | fail)
  try dsimp only [Act.put]
  obtain ⟨q, rfl⟩ := ho5.shape rfl
  have bh5 := bh4.below hl5 bh4.lt
  have bf5 := bf4.below hl5 bf4.lt
  have hbw5 := hbw.trans (hl5.mono hbl)
  clear HW hl5 bh4 bf4 hbw
  have hSt : St1 w w.heap.size [(w3.heap.size, _, _)] (w.heap.size + 1) 27 _ #[.int .u8 1, .int .u32 0, .int .u32 0, .int .u16 x.iid, .int .u16 x.iid, .int .u8 K, .int .u8 0, .int .u8 (T : Int), .int .u8 (C : Int), .int .u32 0, .int .u32 0, .int .i64 0, .int .i64 data.length, .int .u8 0, .int .u32 0, .int .u32 0, .int .u16 0, .int .u16 0, .int .u8 0] 0 w5 := ⟨(St.nil hbw5 hbw5.size).cons bh5, by omega, by simp; omega, bf5⟩
  clear hbw5 bh5 bf5
  have hO := ho5.base_le (show w.heap.size + 1 + 1 ≤ w4.heap.size by omega)
  have HC' := Lib.hid HC.out
  clear ho5 HC
  generalize icmpL T C x.iid x.isq data = ys at *
  generalize hyl : ys.length = k at *
  refine wp_region_walk0 (by kernel_rfl) (fun c W => St1 w w.heap.size _ (w.heap.size + 1) 27 _ #[.int .u8 1, .int .u32 0, .int .u32 0, .int .u16 x.iid, .int .u16 x.iid, .int .u8 K, .int .u8 0, .int .u8 (T : Int), .int .u8 (C : Int), .int .u32 0, .int .u32 0, .int .i64 0, .int .i64 data.length, .int .u8 0, .int .u32 0, .int .u32 0, .int .u16 0, .int .u16 0, .int .u8 0] c W ∧ Own W (w.heap.size + 1 + 1) (.slice q.1 k q.2) ys) [15] (GrowR (w.heap.size + 1)) [0, 1, 2, 3, 4, 5, 6, 7, 8, 9, 10, 11, 12, 13, 14, 15] (by kernel_rfl) ⟨hSt.drew, hO.drew⟩ ?_
  iterate 15
    apply Walk.one rfl rfl rfl
    case hrun =>
      intro c W hE hF
      have hc := (hE.1.1.get 0 rfl).cell
      go_wp2_with fail
      exact TextPost.mk ⟨GrowR.refl _ _, hE⟩
    case hv => rfl
  apply Walk.keep 0 rfl rfl rfl rfl
  case hrun =>
    intro W2 hE hF
    have hbR := hE.1.2.2.2
    rw [if_pos rfl] at hbR
    go_wp2_with (first | ((with_reducible refine look_store ?_); refine wpList_store_row rfl _ _ _ rfl _ _ rfl rfl _ _ hbR (by kernel_rfl) (by simp) (by simp [Value.oneCell']) ?_) | fail)
    exact TextPost.mk ⟨grown_setRow _ _ _, hE.1.put, hE.2.growR (grown_setRow _ _ _)⟩
  case hv => rfl
  refine Walk.done (fun W hE hF => ?_)
  have hbR := hE.1.2.2.2
  have hbW := hE.1.1.1
  have ho := hE.2
  clear hE hF hSt hO
  go_wp2_with fail
  refine bodyPost_ret (results_tmp_cell Tryd.results63 _ _ _ _ _ _ _ rfl hbR Tryd.underlying27 rfl (by kernel_rfl)) rfl ⟨ys, q, _, ?_, ?_, HC'.out, hbW⟩
  · rw [hyl]
    rfl
  · rw [hyl]; exact ho.base_le (by omega)
theorem content_low (k : Int) (x : Sm) (hx : x.Ok) (src dst : Int) (w : World) (hk : k = 0 ∨ k = 1 ∨ k = 2) (x0 : 0 ≤ src) (x1 : src < 4294967296) (y0 : 0 ≤ dst) (y1 : dst < 4294967296) (hA : SmAt w w.heap.size x) (hT : Tabs w) (hs : SortsAt w) :
    Calls Tryd.prog 63 #[x.val, .int .u8 k, .int .u32 src, .int .u32 dst] w (ContPost k.toNat w) := by
  rcases hk with rfl | rfl | rfl
  · exact content_tcp x hx src dst w x0 x1 y0 y1 hA
  · exact content_udp x hx src dst w x0 x1 y0 y1 hA
  · exact content_icmp x hx src dst w hA hT hs
end Go.Proofs.YtebeekjcepjcnaaDoor
