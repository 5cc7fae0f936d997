/-
  bafflelaw11.PktFacts.
  Facts as an argument: opened to data, and shut again; the table of package icmp, read off the heap as it was laid.
-/
import Derived.Lib.MinMax
import Derived.WalkKit
import Derived.WalkSpells
import Derived.WalkLawsBesides
import Derived.WalkSmall
import Derived.Lib.Hide
import Derived.Deep.AppendLies
import Derived.Maps.AppendAt
import Derived.Laws.AppendOwnNone
import Derived.Laws.CopyOwn
import Derived.OneCell
import Derived.Test.YtebeekjcepjcnaaDoorProg
import Derived.Lib.SliceRun
import Derived.RangeFuncNested
import Derived.RangeFuncBound
import Derived.RangeFuncCalls
import Derived.RangeFuncLeaves
import Derived.Shelf.Abstract
import Derived.OwnWalkIn
import Derived.TacticsInMore
import Derived.LoopNIn
import Derived.LoopIn
import Derived.Lib.AppendZeros
import Derived.BigRegion
import Derived.ChangeAlike
import Derived.Deep.RegionLaw
import Derived.Deep.DeepCutAuto
import Derived.Orders
import Derived.RegionTactic
import Derived.Still
import Derived.Deep.MidRow
import Derived.Deep.RegionHeld3
import Derived.MapKept
import Derived.RegionIn
import Derived.Laws.StructEq
import Derived.Laws.BitsAllLaws
import Derived.Deep.CutBlock
import Derived.Test.YtebeekjcepjcnaaDoorRows
import Derived.ProofKit
import Derived.LaidMore
import Derived.OpenShut
import Derived.Lay
import Derived.Deep.Strs
import Derived.Test.YtebeekjcepjcnaaDoorFBase
import Derived.Test.YtebeekjcepjcnaaDoorFBits
import Derived.Test.YtebeekjcepjcnaaDoorFCsum
import Derived.Test.YtebeekjcepjcnaaDoorFSum
import Derived.Test.YtebeekjcepjcnaaDoorFConcat
import Derived.Test.YtebeekjcepjcnaaDoorFFix
import Derived.Test.YtebeekjcepjcnaaDoorFFacts
import Derived.Test.YtebeekjcepjcnaaDoorFPkt
import Derived.Test.YtebeekjcepjcnaaDoorFRegion
import Derived.Test.YtebeekjcepjcnaaDoorFWalk
import Derived.Test.YtebeekjcepjcnaaDoorFStep
import Derived.Test.YtebeekjcepjcnaaDoorFTcpw
import Derived.Test.YtebeekjcepjcnaaDoorFUdpw
import Derived.Test.YtebeekjcepjcnaaDoorFData
import Derived.Test.YtebeekjcepjcnaaDoorFIprd
import Derived.Test.YtebeekjcepjcnaaDoorFFold
import Derived.Test.YtebeekjcepjcnaaDoorFIpre
import Derived.Test.YtebeekjcepjcnaaDoorFIpread
import Derived.Test.YtebeekjcepjcnaaDoorFOptsa
import Derived.Test.YtebeekjcepjcnaaDoorFOptsb
import Derived.Test.YtebeekjcepjcnaaDoorFOptsc
import Derived.Test.YtebeekjcepjcnaaDoorFOptsd
import Derived.Test.YtebeekjcepjcnaaDoorFTcprd
import Derived.Test.YtebeekjcepjcnaaDoorFEq
import Derived.Test.YtebeekjcepjcnaaDoorFMade8
import Derived.Test.YtebeekjcepjcnaaDoorFIpback
import Derived.Test.YtebeekjcepjcnaaDoorFMade6p
import Derived.Test.YtebeekjcepjcnaaDoorFOptw
import Derived.Test.YtebeekjcepjcnaaDoorFMade10
import Derived.Test.YtebeekjcepjcnaaDoorFMade9
import Derived.Test.YtebeekjcepjcnaaDoorFPright
import Derived.Test.YtebeekjcepjcnaaDoorFPktlen
import Derived.Test.YtebeekjcepjcnaaDoorFSm
import Derived.Test.YtebeekjcepjcnaaDoorFUdprd
import Derived.Test.YtebeekjcepjcnaaDoorFIcmprd
import Derived.Test.YtebeekjcepjcnaaDoorFContt
import Derived.Test.YtebeekjcepjcnaaDoorFMade11p
import Derived.Test.YtebeekjcepjcnaaDoorFM11law
import Derived.Test.YtebeekjcepjcnaaDoorFConte
import Derived.Test.YtebeekjcepjcnaaDoorFMade6
import Derived.Test.YtebeekjcepjcnaaDoorFMade11
import Derived.Test.YtebeekjcepjcnaaDoorFPktn
import Derived.Test.YtebeekjcepjcnaaDoorFQuotc
import Derived.Test.YtebeekjcepjcnaaDoorFPkto
import Derived.Test.YtebeekjcepjcnaaDoorFPkta
import Derived.Test.YtebeekjcepjcnaaDoorFPktr
import Derived.Test.YtebeekjcepjcnaaDoorFRip5
import Derived.Test.YtebeekjcepjcnaaDoorFPawake
namespace Go.Proofs.YtebeekjcepjcnaaDoor
open Go.RowKit
set_option maxRecDepth 100000 in
set_option maxHeartbeats 16000000 in
theorem pktFacts_any (x : Sm) (hx : x.Ok) (A : Option Addr) (cap n : Nat) (zs : List Int) (w : World) (hA : SmAt w w.heap.size x) (hn : zs.length = n) (hcap : n ≤ cap) (hB : Byt zs) (hr : Rd w w.heap.size A .u8 zs) (hT : Tabs w) (hs : SortsAt w) (hm : NamesAt w) :
    Calls Tryd.prog 11 #[x.val, .slice A n cap] w fun e W => e = .returned (.bool true) ∧ Below w.heap.size w W := by
  have HAw := Lib.hid (fun (W : World) (hb : Below w.heap.size w W) => awakeP_any W (hs.below hb (Nat.le_refl _)) (hm.below hb (Nat.le_refl _)))
  have HM := Lib.hid (fun (W : World) (hb : Below w.heap.size w W) => made11_any x hx W ((hA.below hb (Nat.le_refl _)).more hb.size) (hT.below hb (Nat.le_refl _)) (hs.below hb (Nat.le_refl _)))
  have Hs := Lib.hid (fun (W : World) (hb : Below w.heap.size w W) => hs.below hb (Nat.le_refl _))
  have HR := Lib.hid (fun (W : World) (hb : Below w.heap.size w W) => (hr.take 50).below hb (Nat.le_refl _))
  obtain ⟨m, hmm⟩ : ∃ m : Nat, m = min n 50 := ⟨_, rfl⟩
  have hmi : min (n : Int) 50 = (m : Int) := by omega
  have hmc : (m : Int) ≤ cap := by omega
  have HZ := Lib.hid (show (zs.take 50).length = m ∧ m ≤ 50 from ⟨by rw [List.length_take]; omega, by omega⟩)
  have HBz := Lib.hid (hB.take 50)
  generalize zs.take 50 = ys at *
  have HLaw := Lib.hid (fun (os : List OE) (data : List Int) (f : Facts) (hos : OsOk os) (hC : Cont (x.kind % 4).toNat data f) => m11_law hx hos hC (by omega))
  clear hA hn hcap hB hr hT hs hm hmm hx
  unfold Made11Post at HM
  dsimp only [Sm.val, Sm.cells] at HM
  dsimp only [Sm.val, Sm.cells]
  go_enter Tryd.func11, Tryd.ntmps11
  go_upto_region 1 with fail
  refine wp_name1 ?_
  intro w1 hb1 hs1 bx
  have L1 := Lib.hid hb1
  clear hb1 hs1
  go_wp2_with fail
  refine (HAw.out w1 L1.out).mono ?_
  rintro e w2 ⟨rfl, l2⟩
  have bx2 := bx.below l2 bx.lt
  have L2 := Lib.hid (L1.out.trans (l2.mono L1.out.size))
  clear l2 bx HAw L1
  go_wp2_with (first | ((with_reducible refine look_load ?_); refine wpList_load_row rfl _ _ rfl _ rfl _ _ _ _ bx2 Tryd.underlying65 rfl (by kernel_rfl) ?_) | fail)
  refine (HM.out w2 L2.out).mono ?_
  rintro e w3 ⟨os, oA, oc, p, data, f, rfl, ho, hd, _, hos, hC, _, l3⟩
  have HL := Lib.hid (HLaw.out os data f hos hC)
  have HO := Lib.hid ho
  have HD := Lib.hid hd
  have L3 := Lib.hid (L2.out.trans (l3.mono L2.out.size))
  clear ho hd hos hC l3 HLaw HM bx2
  have HW := Lib.hid (fun (W : World) (hb : Below w3.heap.size w3 W) => ipWrite_any (m11H x f.key.proto os) oA oc p.1 p.2 data W HL.out.ok HL.out.right (HO.out.below hb (Nat.le_refl _)).rd (HD.out.below hb (Nat.le_refl _)).rd)
  have HBk := Lib.hid (HL.out.back ys)
  have HBy := Lib.hid HL.out.byt
  have HLn := Lib.hid HL.out.len
  have hlen : 0 < (ipWriteL (m11H x f.key.proto os) data).length := by rw [ipWriteL_len]; omega
  have HL0 := Lib.hid hlen
  clear hlen HL
  generalize ipWriteL (m11H x f.key.proto os) data = bs at *
  generalize m11F x f = F at *
  generalize m11H x f.key.proto os = h at *
  have HEq := Lib.hid (fun (W : World) => run_eq_facts F F W)
  rw [facts_eqB_refl] at HEq
  have HP := Lib.hid (fun (W : World) (A' : Option Addr) (c' k : Nat) (hk : (bs ++ ys).length = k) (hc : k ≤ c') (hr : Rd W W.heap.size A' .u8 (bs ++ ys)) (hb : Below w.heap.size w W) => pktRead_any A' c' k (bs ++ ys) W hk (by have := HLn.out; have := HZ.out; rw [List.length_append] at hk; omega) hc (HBy.out.append HBz.out) hr (Hs.out W hb))
  rw [HBk.out.1, HBk.out.2] at HP
  obtain ⟨⟨k0, k1, k2, k3, k4⟩, f1, f2, f3, f4, f5, f6, f7, f8, ⟨z0, z1, z2, z3, z4⟩, f9⟩ := F
  obtain ⟨tos, ident, df, mf, off, ttl, proto, src, dst, opts⟩ := h
  dsimp only [IpH.val, Facts.val, Facts.cells, Key.cells, List.cons_append, List.nil_append] at *
  obtain ⟨q1, q2, q3⟩ := two_blocks w3 67 27 #[.int .u8 0, .int .u16 0, .bool false, .bool false, .int .i64 0, .int .u8 0, .int .u8 0, .int .u32 0, .int .u32 0, .slice none 0 0] #[.int .u8 0, .int .u32 0, .int .u32 0, .int .u16 0, .int .u16 0, .int .u8 0, .int .u8 0, .int .u8 0, .int .u8 0, .int .u32 0, .int .u32 0, .int .i64 0, .int .i64 0, .int .u8 0, .int .u32 0, .int .u32 0, .int .u16 0, .int .u16 0, .int .u8 0] #[.int .u8 tos, .int .u16 ident, .bool df, .bool mf, .int .i64 off, .int .u8 ttl, .int .u8 proto, .int .u32 src, .int .u32 dst, .slice oA opts.length oc] #[.int .u8 k0, .int .u32 k1, .int .u32 k2, .int .u16 k3, .int .u16 k4, .int .u8 f1, .int .u8 f2, .int .u8 f3, .int .u8 f4, .int .u32 f5, .int .u32 f6, .int .i64 f7, .int .i64 f8, .int .u8 z0, .int .u32 z1, .int .u32 z2, .int .u16 z3, .int .u16 z4, .int .u8 f9]
  go_upto_region 4 with (first | ((with_reducible refine look_store ?_); refine wpList_store_row rfl _ _ _ rfl _ _ rfl rfl _ _ q1 (by kernel_rfl) (by simp) (by simp [Value.oneCell']) ?_) | ((with_reducible refine look_store ?_); refine wpList_store_row rfl _ _ _ rfl _ _ rfl rfl _ _ q2 (by kernel_rfl) (by simp) (by simp [Value.oneCell']) ?_) | fail)
  try dsimp only [Act.put]
  clear q1 q2 q3
  refine wp_two ?_
  intro w4 hb4 hs4 bh bf
  have H5 := Lib.hid (HW.out w4 hb4)
  have L4 := Lib.hid (L3.out.trans (hb4.mono L3.out.size))
  clear HW HO HD hb4 hs4
  go_wp2_with (first | ((with_reducible refine look_load ?_); refine wpList_load_row rfl _ _ rfl _ rfl _ _ _ _ bh Tryd.underlying67 rfl (by kernel_rfl) ?_) | fail)
  refine H5.out.mono ?_
  rintro e w5 ⟨v, rfl, hown, l5⟩
  obtain ⟨g, c5, rfl, hg0, _, hc5, _⟩ := hown.form HL0.out
  have bf5 := bf.below l5 bf.lt
  have L5 := Lib.hid (L4.out.trans (l5.mono L4.out.size))
  have HR5 := Lib.hid hown.rd
  have HBl := Lib.hid (show w3.heap.size + 1 < w5.heap.size from bf5.lt)
  clear H5 L4 bf bh l5 hown hg0
  generalize hbl : bs.length = bl at *
  have HBL := Lib.hid hbl
  clear hbl
  have hbc : (bl : Int) ≤ c5 := by omega
  go_upto_region 5 with fail
  try dsimp only [Act.put]
  have hSt : St w5 w5.heap.size [] w5 := St.nil (Below.refl _ _) (Nat.le_refl _)
  refine wp_region_walk (by kernel_rfl) (fun _ W => St w5 w5.heap.size [] W) [] (Late w5.heap.size 27 #[.int .u8 0, .int .u32 0, .int .u32 0, .int .u16 0, .int .u16 0, .int .u8 0, .int .u8 0, .int .u8 0, .int .u8 0, .int .u32 0, .int .u32 0, .int .i64 0, .int .i64 0, .int .u8 0, .int .u32 0, .int .u32 0, .int .u16 0, .int .u16 0, .int .u8 0] #[.int .u8 k0, .int .u32 k1, .int .u32 k2, .int .u16 k3, .int .u16 k4, .int .u8 f1, .int .u8 f2, .int .u8 f3, .int .u8 f4, .int .u32 f5, .int .u32 f6, .int .i64 f7, .int .i64 f8, .int .u8 z0, .int .u32 z1, .int .u32 z2, .int .u16 z3, .int .u16 z4, .int .u8 f9]) [16] (fun _ => LateB w5.heap.size 27 #[.int .u8 0, .int .u32 0, .int .u32 0, .int .u16 0, .int .u16 0, .int .u8 0, .int .u8 0, .int .u8 0, .int .u8 0, .int .u32 0, .int .u32 0, .int .i64 0, .int .i64 0, .int .u8 0, .int .u32 0, .int .u32 0, .int .u16 0, .int .u16 0, .int .u8 0] #[.int .u8 k0, .int .u32 k1, .int .u32 k2, .int .u16 k3, .int .u16 k4, .int .u8 f1, .int .u8 f2, .int .u8 f3, .int .u8 f4, .int .u32 f5, .int .u32 f6, .int .i64 f7, .int .i64 f8, .int .u8 z0, .int .u32 z1, .int .u32 z2, .int .u16 z3, .int .u16 z4, .int .u8 f9]) [0, 1, 2, 3, 4, 5, 6, 7, 8, 9, 10, 11, 12, 13, 14, 15, 18, 16, 17] (by kernel_rfl) ?hfree hSt.drew ?hwalk
  case hfree =>
    intro k hk
    simp only [List.mem_singleton] at hk
    subst hk
    refine ⟨rfl, LateB.keep, fun o ho a c W hE => ?_⟩
    simp at ho
    subst ho
    go_wp2_with fail
    exact ⟨_, rfl, ⟨W.heap.size, rfl, hE.2.1, .inl (Blk.new _ _ _)⟩, Late.grown ((Below.refl _ _).alloc (Nat.le_refl _) _) hE.2.1, hE.alloc _⟩
  case hwalk =>
  iterate 11
    apply Walk.one rfl rfl rfl
    case hrun =>
      intro c W hE hF
      go_wp2_with fail
      exact TextPost.mk ⟨Late.refl _, hE⟩
    case hv => rfl
  refine Walk.anyOfF (fun q : Option Addr × Nat => .slice q.1 (bl + m) q.2) (sl_inj0 (bl + m)) (fun q W => RdL w5.heap.size q (bl + m) (bs ++ ys) W) (fun _ _ _ h hG => h.keep hG) (fun _ => LateB.keep) rfl rfl rfl (by kernel_rfl) (by kernel_rfl) ?_ (fun q => ?_)
  · intro c W hE hF
    go_wp2_with (first | (at_builtin; refine app_full rfl _ _ rfl g 0 bl bs rfl HBL.out w5.heap.size (HR5.out.below hE.1 (Nat.le_refl _)) hE.2.1 w.heap.size A m cap ys rfl HZ.out.1.symm ((HR.out W (L5.out.trans (hE.1.mono L5.out.size)))) (by have := HLn.out; have := HZ.out; omega) ?_; intro v2 w2 o2 l2) | fail)
    exact ⟨v2, rfl, o2, Late.grown l2 hE.2.1, hE.below l2⟩
  dsimp only [Act.put]
  simp only [List.setIfInBounds_toArray, List.set_cons_succ, List.set_cons_zero]
  apply Walk.one rfl rfl rfl
  case hrun =>
    intro c W hE hF
    have hq := hF.head.rd hE.2.1
    have H6 := Lib.hid (HP.out W q.1 q.2 (bl + m) (by have := HBL.out; have := HZ.out; rw [List.length_append]; omega) hq.2 hq.1 (L5.out.trans (hE.1.mono L5.out.size)))
    clear hq
    go_wp2_with (first | (go_at_call 31; refine H6.out.mono ?_; rintro e W2 ⟨rfl, l⟩) | fail)
    exact TextPost.mk ⟨Late.grown l hE.2.1, hE.below l⟩
  case hv => rfl
  iterate 4
    apply Walk.one rfl rfl rfl
    case hrun =>
      intro c W hE hF
      go_wp2_with fail
      exact TextPost.mk ⟨Late.refl _, hE⟩
    case hv => rfl
  refine Walk.freeOp LateB.keep rfl rfl (by kernel_rfl) ?_ (fun u16 => ?_)
  · intro a c W hE
    go_wp2_with fail
    exact ⟨_, rfl, ⟨W.heap.size, rfl, hE.2.1, .inl (Blk.new _ _ _)⟩, Late.grown ((Below.refl _ _).alloc (Nat.le_refl _) _) hE.2.1, hE.alloc _⟩
  dsimp only [Act.put]
  simp only [List.setIfInBounds_toArray, List.set_cons_succ, List.set_cons_zero]
  refine Walk.whatever (fun _ W => LateN w5.heap.size 27 #[.int .u8 k0, .int .u32 k1, .int .u32 k2, .int .u16 k3, .int .u16 k4, .int .u8 f1, .int .u8 f2, .int .u8 f3, .int .u8 f4, .int .u32 f5, .int .u32 f6, .int .i64 f7, .int .i64 f8, .int .u8 z0, .int .u32 z1, .int .u32 z2, .int .u16 z3, .int .u16 z4, .int .u8 f9] u16 W) ?_ rfl rfl rfl (by kernel_rfl) ?_ (fun _ => ?_)
  · exact fun _ => LateN.keep u16
  · intro c W hE hF
    obtain ⟨g6, rfl, hg6, hg | hg⟩ := hF.head
    all_goals
      go_wp2_with (first | ((with_reducible refine look_store ?_); refine wpList_store_row rfl _ _ _ rfl _ _ rfl rfl _ _ hg (by kernel_rfl) (by simp) (by simp [Value.oneCell']) ?_) | fail)
      refine ⟨undef, rfl, ⟨g6, rfl, hg6, setRow_heap _ _ _ _ _ _ hg⟩, ?_, hE.rowFar hg6 (by simp) _⟩
    · exact Late.store hg hg6
    · exact Late.again hg hg6
  dsimp only [Act.put]
  refine Walk.done (fun W hE hF => ?_)
  obtain ⟨g6, rfl, hg6, bg⟩ := hF.head
  have bfW := bf5.below hE.1 bf5.lt
  have LW := Lib.hid (L5.out.trans (hE.1.mono L5.out.size))
  have heq := HEq.out W
  clear hE hF hSt bf5
  go_wp2_with (first | ((with_reducible refine look_load ?_); refine wpList_load_guarded (by first | rfl | simp [Region.wanted, yielded]) _ _ rfl _ rfl _ _ _ _ bg Tryd.underlying27 rfl (by kernel_rfl) ?_) | ((with_reducible refine look_load ?_); refine wpList_load_guarded (by first | rfl | simp [Region.wanted, yielded]) _ _ rfl _ rfl _ _ _ _ bfW Tryd.underlying27 rfl (by kernel_rfl) ?_) | fail)
  go_ret
  exact ⟨rfl, LW.out⟩
end Go.Proofs.YtebeekjcepjcnaaDoor
namespace Go.Proofs.YtebeekjcepjcnaaDoor
open Go.ChangeShapes Go.WideShapes Go.ChangeAt Go.RowKit

section
variable {H : Type} {enc : TypeId × Value → H} {w : World} {base : Nat} {spare : Nat → Bool} {held : Bool}
theorem wf_u8 {n : Int} : (Lit.int .u8 n).wf = true ↔ 0 ≤ n ∧ n < 256 := by simp [Lit.wf, IntKind.min, IntKind.max, IntKind.signed, IntKind.bits]; omega
theorem wf_u16 {n : Int} : (Lit.int .u16 n).wf = true ↔ 0 ≤ n ∧ n < 65536 := by simp [Lit.wf, IntKind.min, IntKind.max, IntKind.signed, IntKind.bits]; omega
theorem wf_u32 {n : Int} : (Lit.int .u32 n).wf = true ↔ 0 ≤ n ∧ n < 4294967296 := by simp [Lit.wf, IntKind.min, IntKind.max, IntKind.signed, IntKind.bits]; omega
theorem cOne8 : Tryd.prog.cellsOf 5 = 1 := by kernel_rfl
theorem cOne16 : Tryd.prog.cellsOf 23 = 1 := by kernel_rfl
theorem cOne32 : Tryd.prog.cellsOf 22 = 1 := by kernel_rfl
/-- One number among the cells. -/
theorem one_int {t : TypeId} {k : IntKind} {n off : Nat} {cs : List Value} {c : Value} {y : DataW H × List MemPlace} (ht : Tryd.prog.underlying t = some (.int k)) (hc : Tryd.prog.cellsOf t = 1) (h1 : (cs.drop off).take 1 = [c])
    (h : DataW.trod enc Tryd.prog w base spare held n t ((cs.drop off).take (Tryd.prog.cellsOf t)) = some y) : ∃ x, c = .int k x ∧ y = (.lit (.int k x), []) ∧ (Lit.int k x).wf = true := by
  rw [hc, h1] at h
  obtain ⟨x, e1, e2, e3⟩ := DataW.trod_int ht h
  simp only [List.cons.injEq, and_true] at e1
  exact ⟨x, e1, e2, e3⟩
end

theorem gSorts : Tryd.prog.globalNamed "baffle/icmp.sorts" = some 1 := by kernel_rfl
theorem tSorts : (Tryd.prog.globals[1]?).map (·.type) = some 189 := by kernel_rfl
theorem cSort : Tryd.prog.cellsOf 188 = 3 := by kernel_rfl
theorem nth_of_take {l : List Value} {a : Nat} {c : Value} (h : (l.drop a).take 1 = [c]) : l[a]? = some c := by
  have h2 : ((l.drop a).take 1)[0]? = some c := by rw [h]; rfl
  rwa [List.getElem?_take_of_lt (by omega), List.getElem?_drop, Nat.add_zero] at h2
theorem sorts_dat {H : Type} (k : Nat) (hk : k < 19) : ∃ l : List (DataW H), Rows.laid_baffle_icmp_sorts = .agg l ∧ l[k]? = some (.agg [.lit (.int .u8 (kindN k)), .lit (.int .u8 (codesN k)), .lit (.int .u8 (replyN k))]) := by
  refine ⟨_, rfl, ?_⟩
  rcases (show k = 0 ∨ k = 1 ∨ k = 2 ∨ k = 3 ∨ k = 4 ∨ k = 5 ∨ k = 6 ∨ k = 7 ∨ k = 8 ∨ k = 9 ∨ k = 10 ∨ k = 11 ∨ k = 12 ∨ k = 13 ∨ k = 14 ∨ k = 15 ∨ k = 16 ∨ k = 17 ∨ k = 18 by omega) with rfl | rfl | rfl | rfl | rfl | rfl | rfl | rfl | rfl | rfl | rfl | rfl | rfl | rfl | rfl | rfl | rfl | rfl | rfl <;> rfl
end Go.Proofs.YtebeekjcepjcnaaDoor
