/-
  bafflelaw12.BuildWrong.
-/
import Derived.Lib.MinMax
import Derived.WalkKit
import Derived.WalkSpells
import Derived.WalkLawsBesides
import Derived.WalkSmall
import Derived.Lib.Hide
import Derived.Deep.AppendLies
import Derived.Maps.AppendAt
import Derived.Laws.AppendOwnNone
import Derived.Laws.CopyOwn
import Derived.OneCell
import Derived.Test.YtebeekjcepjcnaaDoorProg
import Derived.Lib.SliceRun
import Derived.RangeFuncNested
import Derived.RangeFuncBound
import Derived.RangeFuncCalls
import Derived.RangeFuncLeaves
import Derived.Shelf.Abstract
import Derived.OwnWalkIn
import Derived.TacticsInMore
import Derived.LoopNIn
import Derived.LoopIn
import Derived.Lib.AppendZeros
import Derived.BigRegion
import Derived.ChangeAlike
import Derived.Deep.RegionLaw
import Derived.Deep.DeepCutAuto
import Derived.Orders
import Derived.RegionTactic
import Derived.Still
import Derived.Deep.MidRow
import Derived.Deep.RegionHeld3
import Derived.MapKept
import Derived.RegionIn
import Derived.Laws.StructEq
import Derived.Laws.BitsAllLaws
import Derived.Deep.CutBlock
import Derived.Test.YtebeekjcepjcnaaDoorWBase
import Derived.Test.YtebeekjcepjcnaaDoorWBits
import Derived.Test.YtebeekjcepjcnaaDoorWCsum
import Derived.Test.YtebeekjcepjcnaaDoorWSum
import Derived.Test.YtebeekjcepjcnaaDoorWConcat
import Derived.Test.YtebeekjcepjcnaaDoorWFix
import Derived.Test.YtebeekjcepjcnaaDoorWFacts
import Derived.Test.YtebeekjcepjcnaaDoorWIpw
import Derived.Test.YtebeekjcepjcnaaDoorWPkt
import Derived.Test.YtebeekjcepjcnaaDoorWRegion
import Derived.Test.YtebeekjcepjcnaaDoorWWalk
import Derived.Test.YtebeekjcepjcnaaDoorWStep
import Derived.Test.YtebeekjcepjcnaaDoorWTcpw
import Derived.Test.YtebeekjcepjcnaaDoorWUdpw
import Derived.Test.YtebeekjcepjcnaaDoorWData
import Derived.Test.YtebeekjcepjcnaaDoorWMaps
import Derived.Test.YtebeekjcepjcnaaDoorWQuoted
import Derived.Test.YtebeekjcepjcnaaDoorWBuilda
import Derived.Test.YtebeekjcepjcnaaDoorWRerr
import Derived.Test.YtebeekjcepjcnaaDoorWIcmpr
import Derived.Test.YtebeekjcepjcnaaDoorWIprd
import Derived.Test.YtebeekjcepjcnaaDoorWFresh
import Derived.Test.YtebeekjcepjcnaaDoorWIpre
import Derived.Test.YtebeekjcepjcnaaDoorWOptsa
import Derived.Test.YtebeekjcepjcnaaDoorWOptsb
import Derived.Test.YtebeekjcepjcnaaDoorWRight
import Derived.Test.YtebeekjcepjcnaaDoorWAnswer
import Derived.Test.YtebeekjcepjcnaaDoorWMade8
import Derived.Test.YtebeekjcepjcnaaDoorWIpback
import Derived.Test.YtebeekjcepjcnaaDoorWMade6p
import Derived.Test.YtebeekjcepjcnaaDoorWOptw
import Derived.Test.YtebeekjcepjcnaaDoorWMade10
import Derived.Test.YtebeekjcepjcnaaDoorWMade9
import Derived.Test.YtebeekjcepjcnaaDoorWLookp
import Derived.Test.YtebeekjcepjcnaaDoorWFailure
import Derived.Test.YtebeekjcepjcnaaDoorWBuildb
import Derived.Test.YtebeekjcepjcnaaDoorWPright
import Derived.Test.YtebeekjcepjcnaaDoorWBuilt
import Derived.Test.YtebeekjcepjcnaaDoorWContu
import Derived.Test.YtebeekjcepjcnaaDoorWContt
import Derived.Test.YtebeekjcepjcnaaDoorWMade11p
import Derived.Test.YtebeekjcepjcnaaDoorWM11law
import Derived.Test.YtebeekjcepjcnaaDoorWConte
import Derived.Test.YtebeekjcepjcnaaDoorWAnswerb
import Derived.Test.YtebeekjcepjcnaaDoorWAwake
import Derived.Test.YtebeekjcepjcnaaDoorWAnslaw
import Derived.Test.YtebeekjcepjcnaaDoorWMade6
import Derived.Test.YtebeekjcepjcnaaDoorWMade11
namespace Go.Proofs.YtebeekjcepjcnaaDoor
open Go.RowKit
def kindL : List Int := [0, 1, 2, 3, 0, 0, 0, 1, 2, 2, 3, 3, 3, 1]
theorem kindL_bd : ∀ i, i < 14 → 0 ≤ kindL.getD i 0 ∧ kindL.getD i 0 < 4 := by decide
theorem kindL_cell : ∀ i, i < 14 → (#[.int .u8 0, .int .u8 1, .int .u8 2, .int .u8 3, .int .u8 0, .int .u8 0, .int .u8 0, .int .u8 1, .int .u8 2, .int .u8 2, .int .u8 3, .int .u8 3, .int .u8 3, .int .u8 1] : Array Value)[i]? = some (.int .u8 (kindL.getD i 0)) := by
  intro i hi
  rcases (show i = 0 ∨ i = 1 ∨ i = 2 ∨ i = 3 ∨ i = 4 ∨ i = 5 ∨ i = 6 ∨ i = 7 ∨ i = 8 ∨ i = 9 ∨ i = 10 ∨ i = 11 ∨ i = 12 ∨ i = 13 by omega) with rfl | rfl | rfl | rfl | rfl | rfl | rfl | rfl | rfl | rfl | rfl | rfl | rfl | rfl <;> rfl
/-- The packet's facts and the bad ones. -/
def BW (w : World) (gF gB : Nat) (F B : Facts) (W : World) : Prop := Below w.heap.size w W ∧ w.heap.size ≤ gF ∧ gF < gB ∧ Blk W gF 27 F.cells.toArray ∧ Blk W gB 27 B.cells.toArray
theorem BW.set {w W : World} {gF gB : Nat} {F B B' : Facts} (h : BW w gF gB F B W) (i : Nat) (u : Value) (e : B.cells.toArray.setIfInBounds i u = B'.cells.toArray) : BW w gF gB F B' (W.setCell ⟨gB, i, none⟩ u) := by
  obtain ⟨h1, h2, h3, h4, h5⟩ := h
  refine ⟨h1.setCell (p := ⟨gB, i, none⟩) (by show w.heap.size ≤ gB; omega) u, h2, h3, h4.far (p := ⟨gB, i, none⟩) (by show gF ≠ gB; omega) u, ?_⟩
  rw [← e]
  exact h5.set i u

set_option maxRecDepth 100000 in
set_option maxHeartbeats 16000000 in
theorem buildWrong_any (x : Sm) (hx : x.Ok) (way n : Int) (w : World) (hA : SmAt w w.heap.size x) (a0 : 0 ≤ way) (_a1 : way < 256) (n0 : 0 ≤ n) (n1 : n < 256) (hT : Tabs w) (hs : SortsAt w) :
    Calls Tryd.prog 10 #[x.val, .int .u8 way, .int .u8 n] w fun e W => e = .returned (.bool true) ∧ Below w.heap.size w W := by
  have HAw := Lib.hid (fun (W : World) (hb : Below w.heap.size w W) => awake_any W (hs.below hb (Nat.le_refl _)))
  obtain ⟨i, hi1, hi2⟩ : ∃ i : Nat, way.tmod 14 = i ∧ i < 14 := ⟨(way % 14).toNat, by rw [Int.tmod_eq_emod_of_nonneg a0]; omega, by omega⟩
  obtain ⟨kt, hkt⟩ : ∃ kt, kindL.getD i 0 = kt := ⟨_, rfl⟩
  have hkb := kindL_bd i hi2
  rw [hkt] at hkb
  have hxo : Sm.Ok { x with kind := kt } := { hx with kind := ⟨hkb.1, by show kt < 256; omega⟩ }
  have HM := Lib.hid (fun (W : World) (hb : Below w.heap.size w W) => made11_any { x with kind := kt } hxo W (by have h := (hA.below hb (Nat.le_refl _)).more hb.size; exact ⟨h.os, h.tb, h.ub, h.ib⟩) (hT.below hb (Nat.le_refl _)) (hs.below hb (Nat.le_refl _)))
  have Hs := Lib.hid (fun (W : World) (hb : Below w.heap.size w W) => hs.below hb (Nat.le_refl _))
  have HLaw := Lib.hid (fun (os : List OE) (data : List Int) (f : Facts) (hos : OsOk os) (hC : Cont (kt % 4).toNat data f) => m11_law hxo hos hC (by omega))
  have HKb := Lib.hid hkb
  have HKt := Lib.hid hkt
  have hct := fun W : World => (Blk.new W 5 #[.int .u8 0, .int .u8 1, .int .u8 2, .int .u8 3, .int .u8 0, .int .u8 0, .int .u8 0, .int .u8 1, .int .u8 2, .int .u8 2, .int .u8 3, .int .u8 3, .int .u8 3, .int .u8 1]).cell i
  rw [kindL_cell i hi2, hkt] at hct
  have hii : (i : Int) < 14 := by omega
  have HIi := Lib.hid hi2
  clear hA hT hs hx hxo hkb hkt hi2
  unfold Made11Post at HM
  dsimp only [Sm.val, Sm.cells] at HM
  dsimp only [Sm.val, Sm.cells]
  go_enter Tryd.func10, Tryd.ntmps10
  go_upto_region 1 with fail
  refine wp_name1 ?_
  intro w1 hb1 hs1 bx
  have L1 := Lib.hid hb1
  clear hb1 hs1
  go_wp2_with fail
  refine (HAw.out w1 L1.out).mono ?_
  rintro e w2 ⟨rfl, l2⟩
  have bx2 := bx.below l2 bx.lt
  have L2 := Lib.hid (L1.out.trans (l2.mono L1.out.size))
  clear l2 bx HAw L1
  have hcx := fun o => (bx2.alloc o).cell 0
  have hfx := fun o => (bx2.alloc o).frozen 0
  go_upto_region 4 with fail
  try dsimp only [Act.put]
  have bx3 : Blk ((w2.alloc (.cells #[.int .u8 0, .int .u8 1, .int .u8 2, .int .u8 3, .int .u8 0, .int .u8 0, .int .u8 0, .int .u8 1, .int .u8 2, .int .u8 2, .int .u8 3, .int .u8 3, .int .u8 3, .int .u8 1] 5)).setCell ⟨w.heap.size, 0, none⟩ (.int .u8 kt)) w.heap.size 65 #[.int .u8 kt, .int .u8 x.tos, .int .u8 x.ttl, .int .u16 x.id, .bool x.df, .int .u32 x.src, .int .u32 x.dst, .slice x.oA x.on x.oc, .int .u8 x.h0, .int .u8 x.h1, .int .u8 x.h2, .int .u8 x.h3, .int .u8 x.h4, .int .u8 x.h5, .int .u8 x.h6, .int .u8 x.h7, .int .u8 x.h8, .int .u8 x.h9, .int .u8 x.h10, .int .u8 x.h11, .int .u8 x.h12, .int .u8 x.h13, .int .u8 x.h14, .int .u8 x.h15, .int .u8 x.tf, .int .u8 x.tm, .int .u8 x.tw, .int .u32 x.ts, .int .u32 x.td, .slice x.tA x.tn x.tc, .int .u16 x.ufr, .int .u16 x.uto, .bool x.uck, .int .u32 x.us, .int .u32 x.ud, .slice x.uA x.un x.uc, .int .u8 x.ity, .int .u8 x.ico, .int .u16 x.iid, .int .u16 x.isq, .slice x.iA x.inn x.ic] := (bx2.alloc (.cells #[.int .u8 0, .int .u8 1, .int .u8 2, .int .u8 3, .int .u8 0, .int .u8 0, .int .u8 0, .int .u8 1, .int .u8 2, .int .u8 2, .int .u8 3, .int .u8 3, .int .u8 3, .int .u8 1] 5)).set 0 (.int .u8 kt)
  have hL3 : Below w.heap.size w ((w2.alloc (.cells #[.int .u8 0, .int .u8 1, .int .u8 2, .int .u8 3, .int .u8 0, .int .u8 0, .int .u8 0, .int .u8 1, .int .u8 2, .int .u8 2, .int .u8 3, .int .u8 3, .int .u8 3, .int .u8 1] 5)).setCell ⟨w.heap.size, 0, none⟩ (.int .u8 kt)) := (L2.out.alloc L2.out.size _).setCell (p := ⟨w.heap.size, 0, none⟩) (Nat.le_refl _) _
  clear hcx hfx hct bx2 L2
  revert bx3 hL3
  generalize (w2.alloc (.cells #[.int .u8 0, .int .u8 1, .int .u8 2, .int .u8 3, .int .u8 0, .int .u8 0, .int .u8 0, .int .u8 1, .int .u8 2, .int .u8 2, .int .u8 3, .int .u8 3, .int .u8 3, .int .u8 1] 5)).setCell ⟨w.heap.size, 0, none⟩ (.int .u8 kt) = v2
  intro bx3 hL3
  have L2 := Lib.hid hL3
  clear hL3
  go_wp2_with (first | ((with_reducible refine look_load ?_); refine wpList_load_row rfl _ _ rfl _ rfl _ _ _ _ bx3 Tryd.underlying65 rfl (by kernel_rfl) ?_) | fail)
  refine (HM.out v2 L2.out).mono ?_
  rintro e w3 ⟨os, oA, oc, p, data, f, rfl, ho, hd, _, hos, hC, _, l3⟩
  have HL := HLaw.out os data f hos hC
  have fok := HL.fok
  have fright := HL.fright
  have L3 := Lib.hid (L2.out.trans (l3.mono L2.out.size))
  have hkk := hC.kind
  have hktn : (kt % 4).toNat = kt.toNat := by have := HKb.out; omega
  rw [hktn] at hkk
  have hfk : f.kind = (m11F { x with kind := kt } f).kind := rfl
  rw [hfk] at hkk
  clear ho hd hos hC l3 HLaw HM bx3 HL hfk hktn
  generalize m11F { x with kind := kt } f = F at *
  generalize m11H { x with kind := kt } f.key.proto os = h at *
  generalize hop : h.opts.length = ol at *
  obtain ⟨tos, ident, df, mf, off, ttl, proto, src, dst, opts⟩ := h
  dsimp only at hop
  subst hop
  have HKd : Hid (((i = 0 ∨ i = 4 ∨ i = 5 ∨ i = 6) → F.kind = 1) ∧ ((i = 1 ∨ i = 7 ∨ i = 13) → F.kind = 2) ∧ ((i = 2 ∨ i = 8 ∨ i = 9) → F.kind = 3 ∨ F.kind = 4) ∧ ((i = 3 ∨ i = 10 ∨ i = 11 ∨ i = 12) → F.kind = 5)) := Lib.hid (by
    have hk := HKt.out
    refine ⟨fun h => hkk.1 ?_, fun h => hkk.2.1 ?_, fun h => hkk.2.2.1 ?_, fun h => hkk.2.2.2 ?_⟩
    · rcases h with rfl | rfl | rfl | rfl <;> (rw [← hk]; rfl)
    · rcases h with rfl | rfl | rfl <;> (rw [← hk]; rfl)
    · rcases h with rfl | rfl | rfl <;> (rw [← hk]; rfl)
    · rcases h with rfl | rfl | rfl | rfl <;> (rw [← hk]; rfl))
  clear hkk HKt HKb
  have HBd := Lib.hid (fun (g : Facts) (go : g.Ok) (W : World) (hb : Below w.heap.size w W) => build_all g W go (Hs.out W hb))
  have HRt := Lib.hid (fun (g : Facts) (go : g.Ok) (W : World) (hb : Below w.heap.size w W) => right_all g W go (Hs.out W hb))
  have HAg := Lib.hid (fun (g : Facts) (go : g.Ok) (W : World) (hb : Below w.heap.size w W) => answer_all g W go (Hs.out W hb))
  have HRj := Lib.hid (fun (g : Facts) (go : g.Ok) (k c : Nat) (hk : k < 256) (W : World) (hb : Below w.heap.size w W) => reject_any g k c W go (Hs.out W hb) hk)
  obtain ⟨EE, hEE, hE1⟩ : ∃ EE : Int, (∀ k c, ¬ (kind2 k c = 0 ∧ kind1 k c = 5) → F.rejectF k c = Facts.zero ∧ F.rejectE k c = EE) ∧ ((F.kind = 5 ∧ EE = 6) ∨ (F.kind ≠ 5 ∧ EE = 2)) := by
    by_cases h5 : F.kind = 5
    · exact ⟨6, fun k c _ => reject_err fright h5 k c, .inl ⟨h5, rfl⟩⟩
    · exact ⟨2, fun k c h => reject_not fright h5 k c h, .inr ⟨h5, rfl⟩⟩
  have HEE := Lib.hid hEE
  have HE1 := Lib.hid hE1
  clear hEE hE1
  have FOK := Lib.hid fok
  have FRT := Lib.hid fright
  obtain ⟨⟨k0, k1, k2, k3, k4⟩, f1, f2, f3, f4, f5, f6, f7, f8, ⟨z0, z1, z2, z3, z4⟩, f9⟩ := F
  have hf2 := fok.flags0
  have hf3 := fok.flags1
  dsimp only at hf2 hf3
  obtain ⟨fl, hfl, hfl2⟩ : ∃ fl : Nat, f2 = fl ∧ fl < 256 := ⟨f2.toNat, by omega, by omega⟩
  subst hfl
  clear hf2 hf3 fok fright
  dsimp only [IpH.val, Facts.val, Facts.cells, Key.cells, List.cons_append, List.nil_append]
  obtain ⟨q1, q2, q3⟩ := two_blocks w3 67 27 #[.int .u8 0, .int .u16 0, .bool false, .bool false, .int .i64 0, .int .u8 0, .int .u8 0, .int .u32 0, .int .u32 0, .slice none 0 0] #[.int .u8 0, .int .u32 0, .int .u32 0, .int .u16 0, .int .u16 0, .int .u8 0, .int .u8 0, .int .u8 0, .int .u8 0, .int .u32 0, .int .u32 0, .int .i64 0, .int .i64 0, .int .u8 0, .int .u32 0, .int .u32 0, .int .u16 0, .int .u16 0, .int .u8 0] #[.int .u8 tos, .int .u16 ident, .bool df, .bool mf, .int .i64 off, .int .u8 ttl, .int .u8 proto, .int .u32 src, .int .u32 dst, .slice oA opts.length oc] #[.int .u8 k0, .int .u32 k1, .int .u32 k2, .int .u16 k3, .int .u16 k4, .int .u8 f1, .int .u8 (fl : Int), .int .u8 f3, .int .u8 f4, .int .u32 f5, .int .u32 f6, .int .i64 f7, .int .i64 f8, .int .u8 z0, .int .u32 z1, .int .u32 z2, .int .u16 z3, .int .u16 z4, .int .u8 f9]
  go_upto_region 5 with (first | ((with_reducible refine look_store ?_); refine wpList_store_row rfl _ _ _ rfl _ _ rfl rfl _ _ q1 (by kernel_rfl) (by simp) (by simp [Value.oneCell']) ?_) | ((with_reducible refine look_store ?_); refine wpList_store_row rfl _ _ _ rfl _ _ rfl rfl _ _ q2 (by kernel_rfl) (by simp) (by simp [Value.oneCell']) ?_) | fail)
  try dsimp only [Act.put]
  clear q1 q2 q3
  refine wp_two ?_
  intro w4 hb4 hs4 bh bf
  have L4 := Lib.hid (L3.out.trans (hb4.mono L3.out.size))
  have Hg34 := Lib.hid (show w.heap.size ≤ w3.heap.size ∧ w4.heap.size = w3.heap.size + 2 from ⟨L3.out.size, hs4⟩)
  clear hb4 bh L3 hs4
  go_upto_region 6 with (first | ((with_reducible refine look_load ?_); refine wpList_load_row rfl _ _ rfl _ rfl _ _ _ _ bf Tryd.underlying27 rfl (by kernel_rfl) ?_) | ((with_reducible refine look_store ?_); refine wpList_store_new rfl _ _ _ rfl _ _ rfl rfl _ _ rfl (by kernel_rfl) (by simp) (by simp [Value.oneCell']) ?_) | fail)
  try dsimp only [Act.put]
  refine wp_name1 ?_
  intro w5 hb5 hs5 bB
  have HBW : Hid (BW w (w3.heap.size + 1) w4.heap.size ⟨⟨k0, k1, k2, k3, k4⟩, f1, (fl : Int), f3, f4, f5, f6, f7, f8, ⟨z0, z1, z2, z3, z4⟩, f9⟩ ⟨⟨k0, k1, k2, k3, k4⟩, f1, (fl : Int), f3, f4, f5, f6, f7, f8, ⟨z0, z1, z2, z3, z4⟩, f9⟩ w5) := Lib.hid ⟨L4.out.trans (hb5.mono L4.out.size), by have := Hg34.out; omega, by have := Hg34.out; omega, bf.below hb5 bf.lt, bB⟩
  have hcB := bB.cell
  have hfB := bB.frozen
  clear hb5 hs5 bf L4
  obtain ⟨P, hPb, hP⟩ := or18_bits n n0 n1
  obtain ⟨c16, hc16⟩ : ∃ c : Nat, n.tmod 16 = c ∧ c < 16 := ⟨(n % 16).toNat, by rw [Int.tmod_eq_emod_of_nonneg n0]; omega, by omega⟩
  have HF3 : bits .or .u8 (fl : Int) 3 = ((fl ||| 3 : Nat) : Int) := u8_or_nat fl 3 hfl2 (by omega)
  have ht16 := hc16.1
  have ht200 : n.tmod 200 = n % 200 := Int.tmod_eq_emod_of_nonneg n0
  have e1 : IntKind.u32.wrap (3758096384 + n) = 3758096384 + n := by rw [IntKind.wrap_u32]; omega
  have e3 : IntKind.u8.wrap (6 + n % 200) = 6 + n % 200 := by rw [IntKind.wrap_u8]; omega
  have e5 : IntKind.i64.wrap (-1 - n) = -1 - n := by rw [IntKind.wrap_i64]; omega
  have e6 : IntKind.i64.wrap (65496 + n) = 65496 + n := by rw [IntKind.wrap_i64]; omega
  have e8 : IntKind.u16.wrap (k3 + 1) = (k3 + 1) % 65536 := IntKind.wrap_u16 _
  have e10 : IntKind.i64.wrap (27 - n) = 27 - n := by rw [IntKind.wrap_i64]; omega
  have e13 : IntKind.u32.wrap (1 + n) = 1 + n := by rw [IntKind.wrap_u32]; omega
  have fok := FOK.out
  have fright := FRT.out
  have FO2 := Lib.hid fok
  have FR2 := Lib.hid fright
  clear fok fright FOK FRT
  go_upto_block 0 with fail
  try dsimp only [Act.put]
  go_cut [] (fun wx => ∃ B : Facts, B.Ok ∧ B.right = false ∧ Hid (BW w (w3.heap.size + 1) w4.heap.size ⟨⟨k0, k1, k2, k3, k4⟩, f1, (fl : Int), f3, f4, f5, f6, f7, f8, ⟨z0, z1, z2, z3, z4⟩, f9⟩ B wx))
  case first =>
    have hi2 := HIi.out
    rcases (show i = 0 ∨ i = 1 ∨ i = 2 ∨ i = 3 ∨ i = 4 ∨ i = 5 ∨ i = 6 ∨ i = 7 ∨ i = 8 ∨ i = 9 ∨ i = 10 ∨ i = 11 ∨ i = 12 ∨ i = 13 by omega) with rfl | rfl | rfl | rfl | rfl | rfl | rfl | rfl | rfl | rfl | rfl | rfl | rfl | rfl
    · clear HKd; go_wp2_with fail
      go_meet
      exact ⟨⟨⟨k0, k2, k2, k3, k4⟩, f1, (fl : Int), f3, f4, f5, f6, f7, f8, ⟨z0, z1, z2, z3, z4⟩, f9⟩, { FO2.out with key := { FO2.out.key with src0 := FO2.out.key.dst0, src1 := FO2.out.key.dst1 } }, badF0 ⟨⟨k0, k1, k2, k3, k4⟩, f1, (fl : Int), f3, f4, f5, f6, f7, f8, ⟨z0, z1, z2, z3, z4⟩, f9⟩, Lib.hid (HBW.out.set 1 (.int .u32 k2) rfl)⟩
    · clear HKd; go_wp2_with fail
      go_meet
      exact ⟨⟨⟨k0, k1, (3758096384 + n), k3, k4⟩, f1, (fl : Int), f3, f4, f5, f6, f7, f8, ⟨z0, z1, z2, z3, z4⟩, f9⟩, { FO2.out with key := { FO2.out.key with dst0 := (by show 0 ≤ 3758096384 + n; omega), dst1 := (by show 3758096384 + n < 4294967296; omega) } }, badF1 ⟨⟨k0, k1, k2, k3, k4⟩, f1, (fl : Int), f3, f4, f5, f6, f7, f8, ⟨z0, z1, z2, z3, z4⟩, f9⟩ n n0, Lib.hid (HBW.out.set 2 (.int .u32 (3758096384 + n)) rfl)⟩
    · clear HKd; go_wp2_with fail
      go_meet
      exact ⟨⟨⟨P, k1, k2, k3, k4⟩, f1, (fl : Int), f3, f4, f5, f6, f7, f8, ⟨z0, z1, z2, z3, z4⟩, f9⟩, { FO2.out with key := { FO2.out.key with proto0 := hP.2.2.2.1, proto1 := hP.2.2.2.2 } }, badF2 ⟨⟨k0, k1, k2, k3, k4⟩, f1, (fl : Int), f3, f4, f5, f6, f7, f8, ⟨z0, z1, z2, z3, z4⟩, f9⟩ P ⟨hP.1, hP.2.1, hP.2.2.1⟩, Lib.hid (HBW.out.set 0 (.int .u8 P) rfl)⟩
    · clear HKd; go_wp2_with fail
      go_meet
      exact ⟨⟨⟨k0, k1, k2, k3, k4⟩, (6 + n % 200), (fl : Int), f3, f4, f5, f6, f7, f8, ⟨z0, z1, z2, z3, z4⟩, f9⟩, { FO2.out with kind0 := (by show 0 ≤ 6 + n % 200; omega), kind1 := (by show 6 + n % 200 < 256; omega) }, badF3 ⟨⟨k0, k1, k2, k3, k4⟩, f1, (fl : Int), f3, f4, f5, f6, f7, f8, ⟨z0, z1, z2, z3, z4⟩, f9⟩ (n % 200) (by omega), Lib.hid (HBW.out.set 5 (.int .u8 (6 + n % 200)) rfl)⟩
    · have HKD := Lib.hid (HKd.out.1 (.inr (.inl rfl))); clear HKd; go_wp2_with fail
      go_meet
      exact ⟨⟨⟨k0, k1, k2, k3, k4⟩, f1, ((fl ||| 3 : Nat) : Int), f3, f4, f5, f6, f7, f8, ⟨z0, z1, z2, z3, z4⟩, f9⟩, { FO2.out with flags0 := (by show 0 ≤ ((fl ||| 3 : Nat) : Int); omega), flags1 := (by show ((fl ||| 3 : Nat) : Int) < 256; have := or3_lt fl hfl2; omega) }, badF4 ⟨⟨k0, k1, k2, k3, k4⟩, f1, (fl : Int), f3, f4, f5, f6, f7, f8, ⟨z0, z1, z2, z3, z4⟩, f9⟩ fl hfl2 HKD.out, Lib.hid (HBW.out.set 6 (.int .u8 ((fl ||| 3 : Nat) : Int)) rfl)⟩
    · have HKD := Lib.hid (HKd.out.1 (.inr (.inr (.inl rfl)))); clear HKd; go_wp2_with fail
      go_meet
      exact ⟨⟨⟨k0, k1, k2, k3, k4⟩, f1, (fl : Int), f3, f4, f5, f6, (-1 - n), f8, ⟨z0, z1, z2, z3, z4⟩, f9⟩, { FO2.out with window0 := (by show -9223372036854775808 ≤ -1 - n; omega), window1 := (by show -1 - n ≤ 9223372036854775807; omega) }, badF5 ⟨⟨k0, k1, k2, k3, k4⟩, f1, (fl : Int), f3, f4, f5, f6, f7, f8, ⟨z0, z1, z2, z3, z4⟩, f9⟩ n n0 HKD.out, Lib.hid (HBW.out.set 11 (.int .i64 (-1 - n)) rfl)⟩
    · have HKD := Lib.hid (HKd.out.1 (.inr (.inr (.inr rfl)))); clear HKd; go_wp2_with fail
      go_meet
      exact ⟨⟨⟨k0, k1, k2, k3, k4⟩, f1, (fl : Int), f3, f4, f5, f6, f7, (65496 + n), ⟨z0, z1, z2, z3, z4⟩, f9⟩, { FO2.out with length0 := (by show -9223372036854775808 ≤ 65496 + n; omega), length1 := (by show 65496 + n ≤ 9223372036854775807; omega) }, badF6 ⟨⟨k0, k1, k2, k3, k4⟩, f1, (fl : Int), f3, f4, f5, f6, f7, f8, ⟨z0, z1, z2, z3, z4⟩, f9⟩ n n0 HKD.out, Lib.hid (HBW.out.set 12 (.int .i64 (65496 + n)) rfl)⟩
    · have HKD := Lib.hid (HKd.out.2.1 (.inr (.inl rfl))); clear HKd; go_wp2_with fail
      go_meet
      exact ⟨⟨⟨k0, k1, k2, 0, k4⟩, f1, (fl : Int), f3, f4, f5, f6, f7, f8, ⟨z0, z1, z2, z3, z4⟩, f9⟩, { FO2.out with key := { FO2.out.key with sp0 := (show (0 : Int) ≤ 0 by decide), sp1 := (show (0 : Int) < 65536 by decide) } }, badF7 ⟨⟨k0, k1, k2, k3, k4⟩, f1, (fl : Int), f3, f4, f5, f6, f7, f8, ⟨z0, z1, z2, z3, z4⟩, f9⟩ HKD.out, Lib.hid (HBW.out.set 3 (.int .u16 0) rfl)⟩
    · have HKD := Lib.hid (HKd.out.2.2.1 (.inr (.inl rfl))); clear HKd; go_wp2_with fail
      go_meet
      exact ⟨⟨⟨k0, k1, k2, ((k3 + 1) % 65536), k4⟩, f1, (fl : Int), f3, f4, f5, f6, f7, f8, ⟨z0, z1, z2, z3, z4⟩, f9⟩, { FO2.out with key := { FO2.out.key with sp0 := (by show 0 ≤ (k3 + 1) % 65536; omega), sp1 := (by show (k3 + 1) % 65536 < 65536; omega) } }, badF8 ⟨⟨k0, k1, k2, k3, k4⟩, f1, (fl : Int), f3, f4, f5, f6, f7, f8, ⟨z0, z1, z2, z3, z4⟩, f9⟩ (right_ok FR2.out) HKD.out, Lib.hid (HBW.out.set 3 (.int .u16 ((k3 + 1) % 65536)) rfl)⟩
    · have HKD := Lib.hid (HKd.out.2.2.1 (.inr (.inr rfl))); clear HKd; go_wp2_with fail
      go_meet
      exact ⟨⟨⟨k0, k1, k2, k3, k4⟩, f1, (fl : Int), 3, ((c16 : Nat) : Int), f5, f6, f7, f8, ⟨z0, z1, z2, z3, z4⟩, f9⟩, { FO2.out with type0 := (show (0 : Int) ≤ 3 by decide), type1 := (show (3 : Int) < 256 by decide), code0 := (by show 0 ≤ ((c16 : Nat) : Int); omega), code1 := (by show ((c16 : Nat) : Int) < 256; have := hc16.2; omega) }, badF9 ⟨⟨k0, k1, k2, k3, k4⟩, f1, (fl : Int), f3, f4, f5, f6, f7, f8, ⟨z0, z1, z2, z3, z4⟩, f9⟩ c16 hc16.2 HKD.out, Lib.hid ((HBW.out.set (B' := ⟨⟨k0, k1, k2, k3, k4⟩, f1, (fl : Int), 3, f4, f5, f6, f7, f8, ⟨z0, z1, z2, z3, z4⟩, f9⟩) 7 (.int .u8 3) rfl).set 8 (.int .u8 ((c16 : Nat) : Int)) rfl)⟩
    · have HKD := Lib.hid (HKd.out.2.2.2 (.inr (.inl rfl))); clear HKd; go_wp2_with fail
      go_meet
      exact ⟨⟨⟨k0, k1, k2, k3, k4⟩, f1, (fl : Int), f3, f4, f5, f6, f7, (27 - n), ⟨z0, z1, z2, z3, z4⟩, f9⟩, { FO2.out with length0 := (by show -9223372036854775808 ≤ 27 - n; omega), length1 := (by show 27 - n ≤ 9223372036854775807; omega) }, badF10 ⟨⟨k0, k1, k2, k3, k4⟩, f1, (fl : Int), f3, f4, f5, f6, f7, f8, ⟨z0, z1, z2, z3, z4⟩, f9⟩ n n0 HKD.out, Lib.hid (HBW.out.set 12 (.int .i64 (27 - n)) rfl)⟩
    · have HKD := Lib.hid (HKd.out.2.2.2 (.inr (.inr (.inl rfl)))); clear HKd; go_wp2_with fail
      go_meet
      exact ⟨⟨⟨k0, k1, k2, k3, k4⟩, f1, (fl : Int), f3, f4, f5, f6, f7, f8, ⟨z0, z1, z2, z3, z4⟩, 5⟩, { FO2.out with qkind0 := (show (0 : Int) ≤ 5 by decide), qkind1 := (show (5 : Int) < 256 by decide) }, badF11 ⟨⟨k0, k1, k2, k3, k4⟩, f1, (fl : Int), f3, f4, f5, f6, f7, f8, ⟨z0, z1, z2, z3, z4⟩, f9⟩ HKD.out, Lib.hid (HBW.out.set 18 (.int .u8 5) rfl)⟩
    · have HKD := Lib.hid (HKd.out.2.2.2 (.inr (.inr (.inr rfl)))); clear HKd; go_wp2_with fail
      go_meet
      exact ⟨⟨⟨k0, k1, k2, k3, k4⟩, f1, (fl : Int), f3, f4, f5, f6, f7, f8, ⟨P, z1, z2, z3, z4⟩, f9⟩, { FO2.out with quoted := { FO2.out.quoted with proto0 := hP.2.2.2.1, proto1 := hP.2.2.2.2 } }, badF12 ⟨⟨k0, k1, k2, k3, k4⟩, f1, (fl : Int), f3, f4, f5, f6, f7, f8, ⟨z0, z1, z2, z3, z4⟩, f9⟩ P ⟨hP.1, hP.2.1, hP.2.2.1⟩ HKD.out, Lib.hid (HBW.out.set 13 (.int .u8 P) rfl)⟩
    · have HKD := Lib.hid (HKd.out.2.1 (.inr (.inr rfl))); clear HKd; go_wp2_with fail
      go_meet
      exact ⟨⟨⟨k0, k1, k2, k3, k4⟩, f1, (fl : Int), f3, f4, (1 + n), f6, f7, f8, ⟨z0, z1, z2, z3, z4⟩, f9⟩, { FO2.out with seqn0 := (by show 0 ≤ 1 + n; omega), seqn1 := (by show 1 + n < 4294967296; omega) }, badF13 ⟨⟨k0, k1, k2, k3, k4⟩, f1, (fl : Int), f3, f4, f5, f6, f7, f8, ⟨z0, z1, z2, z3, z4⟩, f9⟩ n n0 HKD.out, Lib.hid (HBW.out.set 9 (.int .u32 (1 + n)) rfl)⟩
  case rest =>
    obtain ⟨B, hBo, hBr, hBW2⟩ := hcut
    rename World => w6
    have HB1 := HBd.out B hBo w6 hBW2.out.1
    have hmE : B.madeE = 120 := by unfold Facts.madeE; rw [hBr]; rfl
    rw [hmE] at HB1
    generalize B.madeL = mL at HB1
    generalize mL.length = ml at HB1
    have HBuild := Lib.hid HB1
    have HAn := Lib.hid (fun (W : World) (hb : Below w.heap.size w W) => HAg.out B hBo W hb)
    rw [(answer_bad hBr).1, (answer_bad hBr).2] at HAn
    have HRx := Lib.hid (fun (W : World) (hb : Below w.heap.size w W) => HRj.out B hBo 9 9 (by omega) W hb)
    rw [(reject_bad hBr 9 9).1, (reject_bad hBr 9 9).2] at HRx
    have HRg := Lib.hid (fun (W : World) (hb : Below w.heap.size w W) => HRt.out B hBo W hb)
    rw [hBr] at HRg
    obtain ⟨j, hj1, hj2⟩ : ∃ j : Nat, n.tmod 6 = j ∧ j < 6 := ⟨(n % 6).toNat, by rw [Int.tmod_eq_emod_of_nonneg n0]; omega, by omega⟩
    obtain ⟨K1, hK1⟩ : ∃ K1, [0, 1, 8, 13, 18, 19].getD j 0 = K1 := ⟨_, rfl⟩
    have hK2 : K1 < 256 ∧ ¬ (kind2 K1 0 = 0 ∧ kind1 K1 0 = 5) := by
      have h := no_error j
      rw [Nat.mod_eq_of_lt hj2, hK1] at h
      refine ⟨?_, fun h2 => h h2.2⟩
      rw [← hK1]
      rcases (show j = 0 ∨ j = 1 ∨ j = 2 ∨ j = 3 ∨ j = 4 ∨ j = 5 by omega) with rfl | rfl | rfl | rfl | rfl | rfl <;> decide
    have HF1 := Lib.hid (fun (W : World) (hb : Below w.heap.size w W) => (show Calls Tryd.prog 35 #[Facts.val ⟨⟨k0, k1, k2, k3, k4⟩, f1, (fl : Int), f3, f4, f5, f6, f7, f8, ⟨z0, z1, z2, z3, z4⟩, f9⟩, .int .u8 (K1 : Int), .int .u8 0] W fun e w' => e = .returned (.tuple #[Facts.zero.val, .int .i64 EE]) ∧ Below W.heap.size W w' from by
      have h := HRj.out ⟨⟨k0, k1, k2, k3, k4⟩, f1, (fl : Int), f3, f4, f5, f6, f7, f8, ⟨z0, z1, z2, z3, z4⟩, f9⟩ FO2.out K1 0 hK2.1 W hb
      rw [(HEE.out K1 0 hK2.2).1, (HEE.out K1 0 hK2.2).2] at h
      exact h))
    obtain ⟨c2, hc2⟩ : ∃ c : Nat, 2 + n % 200 = (c : Int) := ⟨(2 + n % 200).toNat, by omega⟩
    have hcw : IntKind.u8.wrap (2 + n % 200) = (c2 : Int) := by rw [IntKind.wrap_u8]; omega
    have HF2 := Lib.hid (fun (W : World) (hb : Below w.heap.size w W) => (show Calls Tryd.prog 35 #[Facts.val ⟨⟨k0, k1, k2, k3, k4⟩, f1, (fl : Int), f3, f4, f5, f6, f7, f8, ⟨z0, z1, z2, z3, z4⟩, f9⟩, .int .u8 11, .int .u8 (c2 : Int)] W fun e w' => e = .returned (.tuple #[Facts.zero.val, .int .i64 EE]) ∧ Below W.heap.size W w' from by
      have hn : ¬ (kind2 11 c2 = 0 ∧ kind1 11 c2 = 5) := fun h => no_error11 c2 (by omega) h.1
      have h := HRj.out ⟨⟨k0, k1, k2, k3, k4⟩, f1, (fl : Int), f3, f4, f5, f6, f7, f8, ⟨z0, z1, z2, z3, z4⟩, f9⟩ FO2.out 11 c2 (by omega) W hb
      rw [(HEE.out 11 c2 hn).1, (HEE.out 11 c2 hn).2] at h
      exact h))
    have hcell : (#[.int .u8 0, .int .u8 1, .int .u8 8, .int .u8 13, .int .u8 18, .int .u8 19] : Array Value)[j]? = some (.int .u8 (K1 : Int)) := by
      rw [← hK1]
      rcases (show j = 0 ∨ j = 1 ∨ j = 2 ∨ j = 3 ∨ j = 4 ∨ j = 5 by omega) with rfl | rfl | rfl | rfl | rfl | rfl <;> rfl
    have HCl := Lib.hid hcell
    have hji : (j : Int) < 6 := by omega
    have HC2 := Lib.hid hc2
    have HZZ := Lib.hid (fun (W : World) => run_eq_facts Facts.zero Facts.zero W)
    rw [facts_eqB_refl] at HZZ
    obtain ⟨l6, _, _, bF, bB6⟩ := hBW2.out
    have L6 := Lib.hid l6
    clear HBd HRt HAg HRj HEE FO2 FR2 HKd hBo hBr hBW2 l6 hmE HB1 hK1 hK2 hcell hc2 hcB hfB bB HBW hPb hP HF3 ht16 hc16 e1 e3 e5 e6 e8 e10 e13 hii hi1 HIi hfl2
    obtain ⟨⟨y0, y1, y2, y3, y4⟩, y5, y6, y7, y8, y9, y10, y11, y12, ⟨y13, y14, y15, y16, y17⟩, y18⟩ := B
    dsimp only [Facts.val, Facts.cells, Key.cells, Facts.zero, Key.zero, List.cons_append, List.nil_append] at *
    have bF : Blk w6 (w3.heap.size + 1) 27 #[.int .u8 k0, .int .u32 k1, .int .u32 k2, .int .u16 k3, .int .u16 k4, .int .u8 f1, .int .u8 (fl : Int), .int .u8 f3, .int .u8 f4, .int .u32 f5, .int .u32 f6, .int .i64 f7, .int .i64 f8, .int .u8 z0, .int .u32 z1, .int .u32 z2, .int .u16 z3, .int .u16 z4, .int .u8 f9] := bF
    have bB6 : Blk w6 w4.heap.size 27 #[.int .u8 y0, .int .u32 y1, .int .u32 y2, .int .u16 y3, .int .u16 y4, .int .u8 y5, .int .u8 y6, .int .u8 y7, .int .u8 y8, .int .u32 y9, .int .u32 y10, .int .i64 y11, .int .i64 y12, .int .u8 y13, .int .u32 y14, .int .u32 y15, .int .u16 y16, .int .u16 y17, .int .u8 y18] := bB6
    go_wp2_with (first | ((with_reducible refine look_load ?_); refine wpList_load_row rfl _ _ rfl _ rfl _ _ _ _ bB6 Tryd.underlying27 rfl (by kernel_rfl) ?_) | fail)
    refine HBuild.out.mono ?_
    rintro e w7 ⟨Am, cm, rfl, _, l7⟩
    have bF7 := bF.below l7 bF.lt
    have bB7 := bB6.below l7 bB6.lt
    have L7 := Lib.hid (L6.out.trans (l7.mono L6.out.size))
    clear l7 bF bB6 L6 HBuild
    go_wp2_with (first | ((with_reducible refine look_load ?_); refine wpList_load_row rfl _ _ rfl _ rfl _ _ _ _ bB7 Tryd.underlying27 rfl (by kernel_rfl) ?_) | fail)
    refine (HAn.out w7 L7.out).mono ?_
    rintro e w8 ⟨rfl, l8⟩
    go_upto_region 36 with (first | ((with_reducible refine look_store ?_); refine wpList_store_new rfl _ _ _ rfl _ _ rfl rfl _ _ rfl (by kernel_rfl) (by simp) (by simp [Value.oneCell']) ?_) | fail)
    try dsimp only [Act.put]
    refine wp_name1 ?_
    intro w9 hb9 hs9 _
    have bF9 := (bF7.below l8 bF7.lt).below hb9 (bF7.below l8 bF7.lt).lt
    have bB9 := (bB7.below l8 bB7.lt).below hb9 (bB7.below l8 bB7.lt).lt
    have L9 := Lib.hid ((L7.out.trans (l8.mono L7.out.size)).trans (hb9.mono (Nat.le_trans L7.out.size l8.size)))
    clear l8 hb9 hs9 bF7 bB7 L7 HAn
    go_wp2_with (first | ((with_reducible refine look_load ?_); refine wpList_load_row rfl _ _ rfl _ rfl _ _ _ _ bB9 Tryd.underlying27 rfl (by kernel_rfl) ?_) | fail)
    refine (HRx.out w9 L9.out).mono ?_
    rintro e w10 ⟨rfl, l10⟩
    go_upto_region 37 with (first | ((with_reducible refine look_store ?_); refine wpList_store_new rfl _ _ _ rfl _ _ rfl rfl _ _ rfl (by kernel_rfl) (by simp) (by simp [Value.oneCell']) ?_) | fail)
    try dsimp only [Act.put]
    refine wp_name1 ?_
    intro w11 hb11 hs11 _
    have bF11 := (bF9.below l10 bF9.lt).below hb11 (bF9.below l10 bF9.lt).lt
    have bB11 := (bB9.below l10 bB9.lt).below hb11 (bB9.below l10 bB9.lt).lt
    have L11 := Lib.hid ((L9.out.trans (l10.mono L9.out.size)).trans (hb11.mono (Nat.le_trans L9.out.size l10.size)))
    clear l10 hb11 hs11 bF9 bB9 L9 HRx
    go_wp2_with (first | ((with_reducible refine look_load ?_); refine wpList_load_row rfl _ _ rfl _ rfl _ _ _ _ bB11 Tryd.underlying27 rfl (by kernel_rfl) ?_) | fail)
    refine (HRg.out w11 L11.out).mono ?_
    rintro e w12 ⟨rfl, l12⟩
    have bF12 := bF11.below l12 bF11.lt
    have L12 := Lib.hid (L11.out.trans (l12.mono L11.out.size))
    clear l12 bF11 bB11 L11 HRg
    go_wp2_with fail
    have hSt : St w12 w12.heap.size [] w12 := St.nil (Below.refl _ _) (Nat.le_refl _)
    refine wp_region_walk (by kernel_rfl) (fun _ W => St w12 w12.heap.size [] W) [] (Late w12.heap.size 27 #[.int .u8 0, .int .u32 0, .int .u32 0, .int .u16 0, .int .u16 0, .int .u8 0, .int .u8 0, .int .u8 0, .int .u8 0, .int .u32 0, .int .u32 0, .int .i64 0, .int .i64 0, .int .u8 0, .int .u32 0, .int .u32 0, .int .u16 0, .int .u16 0, .int .u8 0] #[.int .u8 0, .int .u32 0, .int .u32 0, .int .u16 0, .int .u16 0, .int .u8 0, .int .u8 0, .int .u8 0, .int .u8 0, .int .u32 0, .int .u32 0, .int .i64 0, .int .i64 0, .int .u8 0, .int .u32 0, .int .u32 0, .int .u16 0, .int .u16 0, .int .u8 0]) [10] (fun _ => LateB w12.heap.size 27 #[.int .u8 0, .int .u32 0, .int .u32 0, .int .u16 0, .int .u16 0, .int .u8 0, .int .u8 0, .int .u8 0, .int .u8 0, .int .u32 0, .int .u32 0, .int .i64 0, .int .i64 0, .int .u8 0, .int .u32 0, .int .u32 0, .int .u16 0, .int .u16 0, .int .u8 0] #[.int .u8 0, .int .u32 0, .int .u32 0, .int .u16 0, .int .u16 0, .int .u8 0, .int .u8 0, .int .u8 0, .int .u8 0, .int .u32 0, .int .u32 0, .int .i64 0, .int .i64 0, .int .u8 0, .int .u32 0, .int .u32 0, .int .u16 0, .int .u16 0, .int .u8 0]) [0, 2, 3, 1, 4, 5, 6, 7, 8, 9, 12, 10, 11] (by kernel_rfl) ?hfree hSt.drew ?hwalk
    case hfree =>
      intro k hk
      simp only [List.mem_singleton] at hk
      subst hk
      refine ⟨rfl, LateB.keep, fun o ho a c W hE => ?_⟩
      simp at ho
      subst ho
      go_wp2_with fail
      exact ⟨_, rfl, ⟨W.heap.size, rfl, hE.2.1, .inl (Blk.new _ _ _)⟩, Late.grown ((Below.refl _ _).alloc (Nat.le_refl _) _) hE.2.1, hE.alloc _⟩
    case hwalk =>
    iterate 3
      apply Walk.one rfl rfl rfl
      case hrun =>
        intro c W hE hF
        have bFW := bF12.below hE.1 bF12.lt
        go_wp2_with (first | ((with_reducible refine look_load ?_); refine wpList_load_row rfl _ _ rfl _ rfl _ _ _ _ bFW Tryd.underlying27 rfl (by kernel_rfl) ?_) | fail)
        exact TextPost.mk ⟨Late.refl _, hE⟩
      case hv => rfl
    refine Walk.anyOfF (fun g : Nat => .slice (some ⟨g, 0, none⟩) 6 6) slice_inj (fun g W => Blk W g 5 #[.int .u8 0, .int .u8 1, .int .u8 8, .int .u8 13, .int .u8 18, .int .u8 19]) (fun g _ _ h hG => hG.keep g _ h (by intro h; injection h with _ h2; exact absurd h2 (by decide))) (fun _ => LateB.keep) rfl rfl rfl (by kernel_rfl) (by kernel_rfl) ?_ (fun g => ?_)
    · intro c W hE hF
      go_wp2_with fail
      exact ⟨W.heap.size, rfl, Blk.new _ _ _, Late.grown ((Below.refl _ _).alloc (Nat.le_refl _) _) hE.2.1, hE.below ((Below.refl _ _).alloc (Nat.le_refl _) _)⟩
    dsimp only [Act.put]
    simp only [List.setIfInBounds_toArray, List.set_cons_succ, List.set_cons_zero]
    iterate 2
      apply Walk.one rfl rfl rfl
      case hrun =>
        intro c W hE hF
        have hcg := hF.head.cell j
        rw [HCl.out] at hcg
        go_wp2_with fail
        exact TextPost.mk ⟨Late.refl _, hE⟩
      case hv => rfl
    apply Walk.one rfl rfl rfl
    case hrun =>
      intro c W hE hF
      have H7 := Lib.hid (HF1.out W (L12.out.trans (hE.1.mono L12.out.size)))
      go_wp2_with (first | (go_at_call 35; refine H7.out.mono ?_; rintro e W2 ⟨rfl, l⟩) | fail)
      exact TextPost.mk ⟨Late.grown l hE.2.1, hE.below l⟩
    case hv => rfl
    iterate 4
      apply Walk.one rfl rfl rfl
      case hrun =>
        intro c W hE hF
        go_wp2_with fail
        exact TextPost.mk ⟨Late.refl _, hE⟩
      case hv => rfl
    refine Walk.freeOp LateB.keep rfl rfl (by kernel_rfl) ?_ (fun u10 => ?_)
    · intro a c W hE
      go_wp2_with fail
      exact ⟨_, rfl, ⟨W.heap.size, rfl, hE.2.1, .inl (Blk.new _ _ _)⟩, Late.grown ((Below.refl _ _).alloc (Nat.le_refl _) _) hE.2.1, hE.alloc _⟩
    dsimp only [Act.put]
    simp only [List.setIfInBounds_toArray, List.set_cons_succ, List.set_cons_zero]
    refine Walk.whatever (fun _ W => LateN w12.heap.size 27 #[.int .u8 0, .int .u32 0, .int .u32 0, .int .u16 0, .int .u16 0, .int .u8 0, .int .u8 0, .int .u8 0, .int .u8 0, .int .u32 0, .int .u32 0, .int .i64 0, .int .i64 0, .int .u8 0, .int .u32 0, .int .u32 0, .int .u16 0, .int .u16 0, .int .u8 0] u10 W) ?_ rfl rfl rfl (by kernel_rfl) ?_ (fun _ => ?_)
    · exact fun _ => LateN.keep u10
    · intro c W hE hF
      obtain ⟨g6, rfl, hg6, hg⟩ := hF.head
      have hg : Blk W g6 27 #[.int .u8 0, .int .u32 0, .int .u32 0, .int .u16 0, .int .u16 0, .int .u8 0, .int .u8 0, .int .u8 0, .int .u8 0, .int .u32 0, .int .u32 0, .int .i64 0, .int .i64 0, .int .u8 0, .int .u32 0, .int .u32 0, .int .u16 0, .int .u16 0, .int .u8 0] := hg.elim id id
      go_wp2_with (first | ((with_reducible refine look_store ?_); refine wpList_store_row rfl _ _ _ rfl _ _ rfl rfl _ _ hg (by kernel_rfl) (by simp) (by simp [Value.oneCell']) ?_) | fail)
      exact ⟨undef, rfl, ⟨g6, rfl, hg6, setRow_heap _ _ _ _ _ _ hg⟩, Late.store hg hg6, hE.rowFar hg6 (by simp) _⟩
    dsimp only [Act.put]
    refine Walk.done (fun W hE hF => ?_)
    obtain ⟨g6, rfl, hg6, bg⟩ := hF.head
    have bFW := bF12.below hE.1 bF12.lt
    have LW := Lib.hid (L12.out.trans (hE.1.mono L12.out.size))
    have H8 := Lib.hid (HF2.out W LW.out)
    clear hE hF hSt bF12 L12 HF1 HF2 HCl
    go_wp2_with (first | ((with_reducible refine look_load ?_); refine wpList_load_row rfl _ _ rfl _ rfl _ _ _ _ bFW Tryd.underlying27 rfl (by kernel_rfl) ?_) | fail)
    refine H8.out.mono ?_
    rintro e w13 ⟨rfl, l13⟩
    have bF13 := bFW.below l13 bFW.lt
    have bg13 := bg.below l13 bg.lt
    have L13 := Lib.hid (LW.out.trans (l13.mono LW.out.size))
    clear l13 bFW bg LW H8
    have hcf := bF13.cell
    have hzz := HZZ.out w13
    rcases HE1.out with ⟨rfl, rfl⟩ | ⟨h5, rfl⟩
    · clear HE1
      go_wp2_with fail
      go_ret
      exact ⟨rfl, L13.out⟩
    · clear HE1
      have h55 : (f1 == 5) = false := by simpa using h5
      go_wp2_with (first | ((with_reducible refine look_load ?_); refine wpList_load_g (by first | rfl | simp [Region.wanted, yielded]) _ _ rfl _ rfl _ _ _ _ bg13 Tryd.underlying27 rfl (by kernel_rfl) ?_) | fail)
      go_ret
      exact ⟨rfl, L13.out⟩
end Go.Proofs.YtebeekjcepjcnaaDoor
