/-
  Package build: the data of a segment, a datagram, a message; a header before some data.
-/
import Derived.WalkKit
import Derived.WalkSpells
import Derived.WalkLawsBesides
import Derived.WalkSmall
import Derived.Lib.Hide
import Derived.Deep.AppendLies
import Derived.Maps.AppendAt
import Derived.Laws.AppendOwnNone
import Derived.Laws.CopyOwn
import Derived.OneCell
import Derived.Orders
import Derived.RegionTactic
import Derived.Still
import Derived.Test.YtebeekjcepjcnaaDoorProg
import Derived.Deep.MidRow
import Derived.Lib.SliceRun
import Derived.RangeFuncNested
import Derived.RangeFuncBound
import Derived.RangeFuncCalls
import Derived.RangeFuncLeaves
import Derived.Shelf.Abstract
import Derived.OwnWalkIn
import Derived.TacticsInMore
import Derived.LoopNIn
import Derived.LoopIn
import Derived.Lib.AppendZeros
import Derived.Deep.RegionLaw
import Derived.Deep.RegionHeld3
import Derived.Deep.DeepCutAuto
import Derived.BigRegion
import Derived.ChangeAlike
import Derived.Test.YtebeekjcepjcnaaDoorWBase
import Derived.Test.YtebeekjcepjcnaaDoorWBits
import Derived.Test.YtebeekjcepjcnaaDoorWCsum
import Derived.Test.YtebeekjcepjcnaaDoorWSum
import Derived.Test.YtebeekjcepjcnaaDoorWConcat
import Derived.Test.YtebeekjcepjcnaaDoorWFix
import Derived.Test.YtebeekjcepjcnaaDoorWFacts
import Derived.Test.YtebeekjcepjcnaaDoorWIpw
import Derived.Test.YtebeekjcepjcnaaDoorWRegion
import Derived.Test.YtebeekjcepjcnaaDoorWWalk
import Derived.Test.YtebeekjcepjcnaaDoorWStep
import Derived.Test.YtebeekjcepjcnaaDoorWTcpw
import Derived.Test.YtebeekjcepjcnaaDoorWUdpw
namespace Go.Proofs.YtebeekjcepjcnaaDoor
open Go.RowKit

/-- The world grows. -/
def Grow (W W' : World) : Prop := Below W.heap.size W W'
theorem Grow.refl (W : World) : Grow W W := Below.refl _ _
theorem Own.keep {b : Nat} {v : Value} {xs : List Int} {W W' : World} (h : Own W b v xs) (hG : Grow W W') : Own W' b v xs := h.below hG (Nat.le_refl _)
theorem tup_inj {r : Value} (x y : Value) (h : (.tuple #[x, r] : Value) = .tuple #[y, r]) : x = y := by simpa using h
theorem slice_inj {n m : Nat} (x y : Nat) (h : Value.slice (some ⟨x, 0, none⟩) n m = Value.slice (some ⟨y, 0, none⟩) n m) : x = y := by simpa using h
def zerosL (n : Nat) : List Int := List.replicate n 0
theorem zerosL_len (n : Nat) : (zerosL n).length = n := by simp [zerosL]
theorem zerosL_byt (n : Nat) : Byt (zerosL n) := Byt.zeros n

def Facts.segL (f : Facts) : List Int := tcpL f.key.sp f.key.dp f.seqn f.ackn f.flags.toNat f.window 0 [] f.key.src f.key.dst (zerosL f.length.toNat)
set_option maxRecDepth 100000 in
set_option maxHeartbeats 2000000 in
theorem segment_any (f : Facts) (w : World) (ho : f.Ok) (hr : f.rightTCP = true) :
    Calls Tryd.prog 80 #[f.val] w fun e w' => ∃ v, e = .returned v ∧ Own w' w.heap.size v f.segL ∧ Below w.heap.size w w' := by
  obtain ⟨⟨k0, k1, k2, k3, k4⟩, kind, flags, type, code, seqn, ackn, window, length, ⟨q0, q1, q2, q3, q4⟩, qkind⟩ := f
  simp only [Facts.rightTCP, Key.ported, betweenB, Bool.and_eq_true, decide_eq_true_eq] at hr
  obtain ⟨⟨⟨⟨⟨p0, p1⟩, fl6⟩, hsane⟩, w0, w1'⟩, l0, l1⟩ := hr
  obtain ⟨a0, a1⟩ := And.intro ho.flags0 ho.flags1
  obtain ⟨s0, s1⟩ := And.intro ho.seqn0 ho.seqn1
  obtain ⟨c0, c1⟩ := And.intro ho.ackn0 ho.ackn1
  obtain ⟨g0, g1⟩ := And.intro ho.key.src0 ho.key.src1
  obtain ⟨d0, d1⟩ := And.intro ho.key.dst0 ho.key.dst1
  have sp1 := ho.key.sp1
  have dp1 := ho.key.dp1
  clear ho
  dsimp only at *
  obtain ⟨fl, rfl⟩ : ∃ n : Nat, flags = n := ⟨flags.toNat, by omega⟩
  obtain ⟨n, rfl⟩ : ∃ n : Nat, length = n := ⟨length.toNat, by omega⟩
  have HL := Lib.hid (show (⟨⟨k0, k1, k2, k3, k4⟩, kind, fl, type, code, seqn, ackn, window, n, ⟨q0, q1, q2, q3, q4⟩, qkind⟩ : Facts).segL = tcpL k3 k4 seqn ackn fl window 0 [] k1 k2 (zerosL n) by simp [Facts.segL])
  rw [HL.out]
  rw [Int.toNat_natCast] at hsane
  have Hsane := Lib.hid hsane
  have hwp : IntKind.u16.wrap window = window := by rw [IntKind.wrap_u16]; omega
  clear hsane
  dsimp only [Facts.val, Facts.cells, Key.cells, List.cons_append, List.nil_append]
  go_enter Tryd.func80, Tryd.ntmps80
  go_upto_region 2 with (first | ((with_reducible refine look_store ?_); refine wpList_store_new rfl _ _ _ rfl _ _ rfl rfl _ _ (by first | (simp only [World.size_alloc] <;> omega) | rfl | omega) (by kernel_rfl) (by simp) (by simp [Value.oneCell']) ?_) | fail)
  try dsimp only [Act.put]
  refine wp_name2 ?_
  intro w1 hb1 hs1 b0 bh
  have hSt := ((St.nil hb1 hb1.size).cons bh).cons b0
  refine wp_region_walk0 (by kernel_rfl) (fun _ W => St w w.heap.size _ W) [] Grow [0, 1, 2, 3, 4, 5, 6, 7, 8, 9, 10, 11, 12, 13, 14, 15, 16, 17, 18] (by kernel_rfl) hSt.drew ?_
  iterate 12
    apply Walk.one rfl rfl rfl
    case hrun =>
      intro c W hE hF
      have hbh := hE.get 1 rfl
      have hc0 := (hE.get 0 rfl).cell
      go_wp2_with (first | ((with_reducible refine look_load ?_); refine wpList_load_row rfl _ _ rfl _ rfl _ _ _ _ hbh Tryd.underlying164 rfl (by kernel_rfl) ?_) | fail)
      exact TextPost.mk ⟨Grow.refl _, hE⟩
    case hv => rfl
  refine Walk.anyOf (fun g => .slice (some ⟨g, 0, none⟩) n n) slice_inj (fun g W => Own W w.heap.size (.slice (some ⟨g, 0, none⟩) n n) (zerosL n)) (fun _ _ _ h hG => h.keep hG) rfl rfl rfl (by kernel_rfl) (by kernel_rfl) ?_ (fun g => ?_)
  · intro c W hE hF
    refine make_own rfl _ _ rfl w.heap.size _ _ _ _ n n rfl rfl rfl rfl (Nat.le_refl _) (by omega) hE.2.1 ?_
    intro w2 hown hb2 hlt2
    go_wp2_with fail
    exact ⟨_, rfl, hown, hb2, hE.below hb2⟩
  dsimp only [Act.put]
  simp only [List.setIfInBounds_toArray, List.set_cons_succ, List.set_cons_zero]
  refine Walk.anyOf (fun v => .tuple #[v, .int .i64 0]) tup_inj (fun v W => Own W w.heap.size v (tcpL k3 k4 seqn ackn fl window 0 [] k1 k2 (zerosL n))) (fun _ _ _ h hG => h.keep hG) rfl rfl rfl (by kernel_rfl) (by kernel_rfl) ?_ (fun v => ?_)
  · intro c W hE hF
    have ho := hF.head
    obtain ⟨A, cap, ev, hrd, _, _⟩ := ho.open_
    rw [zerosL_len] at ev
    simp only [Value.slice.injEq, true_and] at ev
    obtain ⟨rfl, rfl⟩ := ev
    go_wp2_with fail
    refine (tcpWrite_any k3 k4 seqn ackn window 0 fl none 0 0 [] k1 k2 (some ⟨g, 0, none⟩) n n (zerosL n) W p0 sp1 p1 dp1 s0 s1 c0 c1 (by omega) Hsane.out w0 (by omega) (by omega) (by omega) rfl (by omega) rfl (zerosL_len n) (by omega) g0 g1 d0 d1 Byt.nil (zerosL_byt n) Rd.nil hrd).mono ?_
    rintro e W2 ⟨v, rfl, hown, l⟩
    go_wp2_with fail
    exact ⟨v, rfl, hown.base_le hE.2.1, l, hE.below l⟩
  dsimp only [Act.put]
  simp only [List.setIfInBounds_toArray, List.set_cons_succ, List.set_cons_zero]
  iterate 5
    apply Walk.one rfl rfl rfl
    case hrun =>
      intro c W hE hF
      go_wp2_with fail
      exact TextPost.mk ⟨Grow.refl _, hE⟩
    case hv => rfl
  refine Walk.done (fun W hE hF => ?_)
  have ho := hF.head
  have hbW := hE.1
  clear hSt hE hF
  go_wp2_with fail
  go_ret
  exact ⟨v, rfl, ho, hbW⟩

def Facts.datL (f : Facts) : List Int := udpL f.key.sp f.key.dp true f.key.src f.key.dst (zerosL f.length.toNat)
set_option maxRecDepth 100000 in
set_option maxHeartbeats 2000000 in
theorem datagram_any (f : Facts) (w : World) (ho : f.Ok) (hr : f.rightUDP = true) :
    Calls Tryd.prog 82 #[f.val] w fun e w' => ∃ v, e = .returned v ∧ Own w' w.heap.size v f.datL ∧ Below w.heap.size w w' := by
  obtain ⟨⟨k0, k1, k2, k3, k4⟩, kind, flags, type, code, seqn, ackn, window, length, ⟨q0, q1, q2, q3, q4⟩, qkind⟩ := f
  simp only [Facts.rightUDP, Key.ported, betweenB, Bool.and_eq_true, decide_eq_true_eq] at hr
  obtain ⟨⟨p0, p1⟩, l0, l1⟩ := hr
  obtain ⟨g0, g1⟩ := And.intro ho.key.src0 ho.key.src1
  obtain ⟨d0, d1⟩ := And.intro ho.key.dst0 ho.key.dst1
  have sp1 := ho.key.sp1
  have sp0 := ho.key.sp0
  have dp1 := ho.key.dp1
  clear ho sp0
  dsimp only at *
  obtain ⟨n, rfl⟩ : ∃ n : Nat, length = n := ⟨length.toNat, by omega⟩
  rw [show (⟨⟨k0, k1, k2, k3, k4⟩, kind, flags, type, code, seqn, ackn, window, n, ⟨q0, q1, q2, q3, q4⟩, qkind⟩ : Facts).datL = udpL k3 k4 true k1 k2 (zerosL n) by simp [Facts.datL]]
  dsimp only [Facts.val, Facts.cells, Key.cells, List.cons_append, List.nil_append]
  go_enter Tryd.func82, Tryd.ntmps82
  go_upto_region 1 with (fail)
  refine wp_name1 ?_
  intro w1 hb1 hs1 b0
  have hSt := (St.nil hb1 hb1.size).cons b0
  refine wp_region_walk0 (by kernel_rfl) (fun _ W => St w w.heap.size _ W) [] Grow [0, 1, 2, 3, 4, 5, 6, 7, 8, 9, 10, 11, 12, 13, 14, 15, 16, 17, 18, 19, 20, 21, 22, 23, 24, 25, 26] (by kernel_rfl) hSt.drew ?_
  iterate 20
    apply Walk.one rfl rfl rfl
    case hrun =>
      intro c W hE hF
      have hc0 := (hE.get 0 rfl).cell
      go_wp2_with fail
      exact TextPost.mk ⟨Grow.refl _, hE⟩
    case hv => rfl
  refine Walk.anyOf (fun g => .slice (some ⟨g, 0, none⟩) n n) slice_inj (fun g W => Own W w.heap.size (.slice (some ⟨g, 0, none⟩) n n) (zerosL n)) (fun _ _ _ h hG => h.keep hG) rfl rfl rfl (by kernel_rfl) (by kernel_rfl) ?_ (fun g => ?_)
  · intro c W hE hF
    refine make_own rfl _ _ rfl w.heap.size _ _ _ _ n n rfl rfl rfl rfl (Nat.le_refl _) (by omega) hE.2.1 ?_
    intro w2 hown hb2 hlt2
    go_wp2_with fail
    exact ⟨_, rfl, hown, hb2, hE.below hb2⟩
  dsimp only [Act.put]
  simp only [List.setIfInBounds_toArray, List.set_cons_succ, List.set_cons_zero]
  refine Walk.anyOf (fun v => .tuple #[v, .int .i64 0]) tup_inj (fun v W => Own W w.heap.size v (udpL k3 k4 true k1 k2 (zerosL n))) (fun _ _ _ h hG => h.keep hG) rfl rfl rfl (by kernel_rfl) (by kernel_rfl) ?_ (fun v => ?_)
  · intro c W hE hF
    have ho := hF.head
    obtain ⟨A, cap, ev, hrd, _, _⟩ := ho.open_
    rw [zerosL_len] at ev
    simp only [Value.slice.injEq, true_and] at ev
    obtain ⟨rfl, rfl⟩ := ev
    go_wp2_with fail
    refine (udpWrite_any k3 k4 true k1 k2 (some ⟨g, 0, none⟩) n n (zerosL n) W (by omega) sp1 p1 dp1 (zerosL_len n) (by omega) g0 g1 d0 d1 (zerosL_byt n) hrd).mono ?_
    rintro e W2 ⟨v, rfl, hown, l⟩
    go_wp2_with fail
    exact ⟨v, rfl, hown.base_le hE.2.1, l, hE.below l⟩
  dsimp only [Act.put]
  simp only [List.setIfInBounds_toArray, List.set_cons_succ, List.set_cons_zero]
  iterate 5
    apply Walk.one rfl rfl rfl
    case hrun =>
      intro c W hE hF
      go_wp2_with fail
      exact TextPost.mk ⟨Grow.refl _, hE⟩
    case hv => rfl
  refine Walk.done (fun W hE hF => ?_)
  have ho := hF.head
  have hbW := hE.1
  clear hSt hE hF
  go_wp2_with fail
  go_ret
  exact ⟨v, rfl, ho, hbW⟩

def Facts.msgL (f : Facts) : List Int := icmpL f.type f.code f.key.sp 0 (zerosL f.length.toNat)
set_option maxRecDepth 100000 in
set_option maxHeartbeats 2000000 in
theorem message_any (f : Facts) (w : World) (ho : f.Ok) (hr : f.rightQuery = true) (hs : SortsAt w) :
    Calls Tryd.prog 84 #[f.val] w fun e w' => ∃ v, e = .returned v ∧ Own w' w.heap.size v f.msgL ∧ Below w.heap.size w w' := by
  obtain ⟨⟨k0, k1, k2, k3, k4⟩, kind, flags, type, code, seqn, ackn, window, length, ⟨q0, q1, q2, q3, q4⟩, qkind⟩ := f
  simp only [Facts.rightQuery, betweenB, Bool.and_eq_true, decide_eq_true_eq, beq_iff_eq] at hr
  obtain ⟨⟨⟨hk, hke⟩, hkf⟩, l0, l1⟩ := hr
  clear hke hkf
  obtain ⟨g0, g1⟩ := And.intro ho.key.src0 ho.key.src1
  obtain ⟨d0, d1⟩ := And.intro ho.key.dst0 ho.key.dst1
  have sp1 := ho.key.sp1
  have sp0 := ho.key.sp0
  have dp1 := ho.key.dp1
  obtain ⟨t0, t1⟩ := And.intro ho.type0 ho.type1
  obtain ⟨c0, c1⟩ := And.intro ho.code0 ho.code1
  clear ho g0 g1 d0 d1 dp1
  dsimp only at *
  obtain ⟨n, rfl⟩ : ∃ n : Nat, length = n := ⟨length.toNat, by omega⟩
  obtain ⟨ty, rfl⟩ : ∃ n : Nat, type = n := ⟨type.toNat, by omega⟩
  obtain ⟨co, rfl⟩ : ∃ n : Nat, code = n := ⟨code.toNat, by omega⟩
  simp only [Int.toNat_natCast] at hk
  have Hk := Lib.hid hk
  have Hs := Lib.hid hs
  clear hk hs
  rw [show (⟨⟨k0, k1, k2, k3, k4⟩, kind, flags, ty, co, seqn, ackn, window, n, ⟨q0, q1, q2, q3, q4⟩, qkind⟩ : Facts).msgL = icmpL ty co k3 0 (zerosL n) by simp [Facts.msgL]]
  dsimp only [Facts.val, Facts.cells, Key.cells, List.cons_append, List.nil_append]
  go_enter Tryd.func84, Tryd.ntmps84
  go_upto_region 1 with (fail)
  refine wp_name1 ?_
  intro w1 hb1 hs1 b0
  have hSt := (St.nil hb1 hb1.size).cons b0
  refine wp_region_walk0 (by kernel_rfl) (fun _ W => St w w.heap.size _ W) [] Grow [0, 1, 2, 3, 4, 5, 6, 7, 8, 9, 10, 11, 12, 13, 14, 15, 16, 17, 18, 19, 20] (by kernel_rfl) hSt.drew ?_
  iterate 14
    apply Walk.one rfl rfl rfl
    case hrun =>
      intro c W hE hF
      have hc0 := (hE.get 0 rfl).cell
      go_wp2_with fail
      exact TextPost.mk ⟨Grow.refl _, hE⟩
    case hv => rfl
  refine Walk.anyOf (fun g => .slice (some ⟨g, 0, none⟩) n n) slice_inj (fun g W => Own W w.heap.size (.slice (some ⟨g, 0, none⟩) n n) (zerosL n)) (fun _ _ _ h hG => h.keep hG) rfl rfl rfl (by kernel_rfl) (by kernel_rfl) ?_ (fun g => ?_)
  · intro c W hE hF
    refine make_own rfl _ _ rfl w.heap.size _ _ _ _ n n rfl rfl rfl rfl (Nat.le_refl _) (by omega) hE.2.1 ?_
    intro w2 hown hb2 hlt2
    go_wp2_with fail
    exact ⟨_, rfl, hown, hb2, hE.below hb2⟩
  dsimp only [Act.put]
  simp only [List.setIfInBounds_toArray, List.set_cons_succ, List.set_cons_zero]
  refine Walk.anyOf (fun v => .tuple #[v, .int .i64 0]) tup_inj (fun v W => Own W w.heap.size v (icmpL ty co k3 0 (zerosL n))) (fun _ _ _ h hG => h.keep hG) rfl rfl rfl (by kernel_rfl) (by kernel_rfl) ?_ (fun v => ?_)
  · intro c W hE hF
    have ho := hF.head
    obtain ⟨A, cap, ev, hrd, _, _⟩ := ho.open_
    rw [zerosL_len] at ev
    simp only [Value.slice.injEq, true_and] at ev
    obtain ⟨rfl, rfl⟩ := ev
    go_wp2_with fail
    have hiw := icmpWrite_any ty co k3 0 (some ⟨g, 0, none⟩) n (zerosL n) W (by omega) (by omega) sp0 sp1 (by omega) (by omega) (Hs.out.below hE.1 (Nat.le_refl _)) Hk.out (by rw [zerosL_len]; omega) (zerosL_byt n) hrd
    rw [zerosL_len] at hiw
    refine hiw.mono ?_
    rintro e W2 ⟨v, rfl, hown, l⟩
    go_wp2_with fail
    exact ⟨v, rfl, hown.base_le hE.2.1, l, hE.below l⟩
  dsimp only [Act.put]
  simp only [List.setIfInBounds_toArray, List.set_cons_succ, List.set_cons_zero]
  iterate 5
    apply Walk.one rfl rfl rfl
    case hrun =>
      intro c W hE hF
      go_wp2_with fail
      exact TextPost.mk ⟨Grow.refl _, hE⟩
    case hv => rfl
  refine Walk.done (fun W hE hF => ?_)
  have ho := hF.head
  have hbW := hE.1
  clear hSt hE hF
  go_wp2_with fail
  go_ret
  exact ⟨v, rfl, ho, hbW⟩

def hdrH (k : Key) : IpH := ⟨0, 0, false, false, 0, 64, k.proto, k.src, k.dst, []⟩
set_option maxRecDepth 100000 in
set_option maxHeartbeats 2000000 in
/-- A header before some data. -/
theorem header_any (f : Facts) (D : Option Addr) (dcap dl : Nat) (data : List Int) (w : World) (ho : f.key.Ok) (hdl : data.length = dl) (hd : dl ≤ 65515) (hrD : Rd w w.heap.size D .u8 data) :
    Calls Tryd.prog 45 #[f.val, .slice D dl dcap] w fun e w' => ∃ v, e = .returned v ∧ Own w' w.heap.size v (ipWriteL (hdrH f.key) data) ∧ Below w.heap.size w w' := by
  obtain ⟨⟨k0, k1, k2, k3, k4⟩, kind, flags, type, code, seqn, ackn, window, length, ⟨q0, q1, q2, q3, q4⟩, qkind⟩ := f
  have hO : (hdrH ⟨k0, k1, k2, k3, k4⟩).Ok := ⟨by simp [hdrH], by simp [hdrH], by simp [hdrH], by simp [hdrH], by simp [hdrH], by simp [hdrH], ho.proto0, ho.proto1, ho.src0, ho.src1, ho.dst0, ho.dst1, Byt.nil⟩
  have hR : (hdrH ⟨k0, k1, k2, k3, k4⟩).Right data.length := ⟨by simp [hdrH], by simp [hdrH], by simp [hdrH], by simp [hdrH], by simp [hdrH], by simp [hdrH]; omega, by simp [hdrH]; omega, by simp [hdrH]⟩
  have Hc := Lib.hid (fun W (h : Rd W W.heap.size D .u8 data) => ipWrite_any (hdrH ⟨k0, k1, k2, k3, k4⟩) none 0 D dcap data W hO hR Rd.nil h)
  rw [hdl] at Hc
  clear ho hO hR
  have Hd := Lib.hid hdl
  clear hdl
  have HL := Lib.hid (show ipWriteL (hdrH ⟨k0, k1, k2, k3, k4⟩) data = ipWriteL (hdrH ⟨k0, k1, k2, k3, k4⟩) data from rfl)
  dsimp only [Facts.val, Facts.cells, Key.cells, List.cons_append, List.nil_append]
  generalize ipWriteL (hdrH ⟨k0, k1, k2, k3, k4⟩) data = R at *
  dsimp only [hdrH, IpH.val, List.length_nil] at Hc
  go_enter Tryd.func45, Tryd.ntmps45
  go_upto_region 1 with (fail)
  refine wp_name1 ?_
  intro w1 hb1 hs1 b0
  have hc0 := b0.cell
  have hr1 := (hrD.below hb1 (Nat.le_refl _)).more hb1.size
  go_wp2_with (go_at_call 36; refine (Hc.out _ hr1).mono ?_; rintro e w2 ⟨v, rfl, hown, l2⟩)
  go_ret
  exact ⟨_, rfl, hown.base_le hb1.size, hb1.trans (l2.mono hb1.size)⟩

end Go.Proofs.YtebeekjcepjcnaaDoor
