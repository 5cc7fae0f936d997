/-
  Package build: the data of a segment, a datagram, a message; a header before some data.
  Package build: the data of what an error quotes.
  Laws on byte slices at this seat's program: a prefix of an own row is an own row; an append of zeros onto an own row.
-/
import Derived.Test.YtebeekjcepjcnaaGreatDoorRUdpw
import Derived.Test.YtebeekjcepjcnaaGreatDoorRStepb
namespace Go.Proofs.YtebeekjcepjcnaaGreatDoor
open Go.RowKit

/-- The world grows. -/
def Grow (W W' : World) : Prop := Below W.heap.size W W'
theorem Grow.refl (W : World) : Grow W W := Below.refl _ _
theorem Own.keep {b : Nat} {v : Value} {xs : List Int} {W W' : World} (h : Own W b v xs) (hG : Grow W W') : Own W' b v xs := h.below hG (Nat.le_refl _)
theorem tup_inj {r : Value} (x y : Value) (h : (.tuple #[x, r] : Value) = .tuple #[y, r]) : x = y := by simpa using h
theorem slice_inj {n m : Nat} (x y : Nat) (h : Value.slice (some ⟨x, 0, none⟩) n m = Value.slice (some ⟨y, 0, none⟩) n m) : x = y := by simpa using h
def zerosL (n : Nat) : List Int := List.replicate n 0
theorem zerosL_len (n : Nat) : (zerosL n).length = n := by simp [zerosL]
theorem zerosL_byt (n : Nat) : Byt (zerosL n) := Byt.zeros n

def Facts.segL (f : Facts) : List Int := tcpL f.key.sp f.key.dp f.seqn f.ackn f.flags.toNat f.window 0 [] f.key.src f.key.dst (zerosL f.length.toNat)
set_option maxRecDepth 100000 in
set_option maxHeartbeats 2000000 in
theorem segment_any (f : Facts) (w : World) (ho : f.Ok) (hr : f.rightTCP = true) :
    Calls Tryz.prog 43 #[f.val] w fun e w' => ∃ v, e = .returned v ∧ Own w' w.heap.size v f.segL ∧ Below w.heap.size w w' := by
  obtain ⟨⟨k0, k1, k2, k3, k4⟩, kind, flags, type, code, seqn, ackn, window, length, ⟨q0, q1, q2, q3, q4⟩, qkind⟩ := f
  simp only [Facts.rightTCP, Key.ported, betweenB, Bool.and_eq_true, decide_eq_true_eq] at hr
  obtain ⟨⟨⟨⟨⟨p0, p1⟩, fl6⟩, hsane⟩, w0, w1'⟩, l0, l1⟩ := hr
  obtain ⟨a0, a1⟩ := And.intro ho.flags0 ho.flags1
  obtain ⟨s0, s1⟩ := And.intro ho.seqn0 ho.seqn1
  obtain ⟨c0, c1⟩ := And.intro ho.ackn0 ho.ackn1
  obtain ⟨g0, g1⟩ := And.intro ho.key.src0 ho.key.src1
  obtain ⟨d0, d1⟩ := And.intro ho.key.dst0 ho.key.dst1
  have sp1 := ho.key.sp1
  have dp1 := ho.key.dp1
  clear ho
  dsimp only at *
  obtain ⟨fl, rfl⟩ : ∃ n : Nat, flags = n := ⟨flags.toNat, by omega⟩
  obtain ⟨n, rfl⟩ : ∃ n : Nat, length = n := ⟨length.toNat, by omega⟩
  have HL := Lib.hid (show (⟨⟨k0, k1, k2, k3, k4⟩, kind, fl, type, code, seqn, ackn, window, n, ⟨q0, q1, q2, q3, q4⟩, qkind⟩ : Facts).segL = tcpL k3 k4 seqn ackn fl window 0 [] k1 k2 (zerosL n) by simp [Facts.segL])
  rw [HL.out]
  rw [Int.toNat_natCast] at hsane
  have Hsane := Lib.hid hsane
  have hwp : IntKind.u16.wrap window = window := by rw [IntKind.wrap_u16]; omega
  clear hsane
  dsimp only [Facts.val, Facts.cells, Key.cells, List.cons_append, List.nil_append]
  go_enter Tryz.func43, Tryz.ntmps43
  go_upto_region 2 with (first | ((with_reducible refine look_store ?_); refine wpList_store_new rfl _ _ _ rfl _ _ rfl rfl _ _ (by first | (simp only [World.size_alloc] <;> omega) | rfl | omega) (by kernel_rfl) (by simp) (by simp [Value.oneCell']) ?_) | fail)
  try dsimp only [Act.put]
  refine wp_name2 ?_
  intro w1 hb1 hs1 b0 bh
  have hSt := ((St.nil hb1 hb1.size).cons bh).cons b0
  refine wp_region_walk0 (by kernel_rfl) (fun _ W => St w w.heap.size _ W) [] Grow [0, 1, 2, 3, 4, 5, 6, 7, 8, 9, 10, 11, 12, 13, 14, 15, 16, 17, 18] (by kernel_rfl) hSt.drew ?_
  iterate 12
    apply Walk.one rfl rfl rfl
    case hrun =>
      intro c W hE hF
      have hbh := hE.get 1 rfl
      have hc0 := (hE.get 0 rfl).cell
      go_wp2_with (first | ((with_reducible refine look_load ?_); refine wpList_load_row rfl _ _ rfl _ rfl _ _ _ _ hbh Tryz.underlying110 rfl (by kernel_rfl) ?_) | fail)
      exact TextPost.mk ⟨Grow.refl _, hE⟩
    case hv => rfl
  refine Walk.anyOf (fun g => .slice (some ⟨g, 0, none⟩) n n) slice_inj (fun g W => Own W w.heap.size (.slice (some ⟨g, 0, none⟩) n n) (zerosL n)) (fun _ _ _ h hG => h.keep hG) rfl rfl rfl (by kernel_rfl) (by kernel_rfl) ?_ (fun g => ?_)
  · intro c W hE hF
    refine make_own rfl _ _ rfl w.heap.size _ _ _ _ n n rfl rfl rfl rfl (Nat.le_refl _) (by omega) hE.2.1 ?_
    intro w2 hown hb2 hlt2
    go_wp2_with fail
    exact ⟨_, rfl, hown, hb2, hE.below hb2⟩
  dsimp only [Act.put]
  simp only [List.setIfInBounds_toArray, List.set_cons_succ, List.set_cons_zero]
  refine Walk.anyOf (fun v => .tuple #[v, .int .i64 0]) tup_inj (fun v W => Own W w.heap.size v (tcpL k3 k4 seqn ackn fl window 0 [] k1 k2 (zerosL n))) (fun _ _ _ h hG => h.keep hG) rfl rfl rfl (by kernel_rfl) (by kernel_rfl) ?_ (fun v => ?_)
  · intro c W hE hF
    have ho := hF.head
    obtain ⟨A, cap, ev, hrd, _, _⟩ := ho.open_
    rw [zerosL_len] at ev
    simp only [Value.slice.injEq, true_and] at ev
    obtain ⟨rfl, rfl⟩ := ev
    go_wp2_with fail
    refine (tcpWrite_any k3 k4 seqn ackn window 0 fl none 0 0 [] k1 k2 (some ⟨g, 0, none⟩) n n (zerosL n) W p0 sp1 p1 dp1 s0 s1 c0 c1 (by omega) Hsane.out w0 (by omega) (by omega) (by omega) rfl (by omega) rfl (zerosL_len n) (by omega) g0 g1 d0 d1 Byt.nil (zerosL_byt n) Rd.nil hrd).mono ?_
    rintro e W2 ⟨v, rfl, hown, l⟩
    go_wp2_with fail
    exact ⟨v, rfl, hown.base_le hE.2.1, l, hE.below l⟩
  dsimp only [Act.put]
  simp only [List.setIfInBounds_toArray, List.set_cons_succ, List.set_cons_zero]
  iterate 5
    apply Walk.one rfl rfl rfl
    case hrun =>
      intro c W hE hF
      go_wp2_with fail
      exact TextPost.mk ⟨Grow.refl _, hE⟩
    case hv => rfl
  refine Walk.done (fun W hE hF => ?_)
  have ho := hF.head
  have hbW := hE.1
  clear hSt hE hF
  go_wp2_with fail
  go_ret
  exact ⟨v, rfl, ho, hbW⟩

def Facts.datL (f : Facts) : List Int := udpL f.key.sp f.key.dp true f.key.src f.key.dst (zerosL f.length.toNat)
set_option maxRecDepth 100000 in
set_option maxHeartbeats 2000000 in
theorem datagram_any (f : Facts) (w : World) (ho : f.Ok) (hr : f.rightUDP = true) :
    Calls Tryz.prog 45 #[f.val] w fun e w' => ∃ v, e = .returned v ∧ Own w' w.heap.size v f.datL ∧ Below w.heap.size w w' := by
  obtain ⟨⟨k0, k1, k2, k3, k4⟩, kind, flags, type, code, seqn, ackn, window, length, ⟨q0, q1, q2, q3, q4⟩, qkind⟩ := f
  simp only [Facts.rightUDP, Key.ported, betweenB, Bool.and_eq_true, decide_eq_true_eq] at hr
  obtain ⟨⟨p0, p1⟩, l0, l1⟩ := hr
  obtain ⟨g0, g1⟩ := And.intro ho.key.src0 ho.key.src1
  obtain ⟨d0, d1⟩ := And.intro ho.key.dst0 ho.key.dst1
  have sp1 := ho.key.sp1
  have sp0 := ho.key.sp0
  have dp1 := ho.key.dp1
  clear ho sp0
  dsimp only at *
  obtain ⟨n, rfl⟩ : ∃ n : Nat, length = n := ⟨length.toNat, by omega⟩
  rw [show (⟨⟨k0, k1, k2, k3, k4⟩, kind, flags, type, code, seqn, ackn, window, n, ⟨q0, q1, q2, q3, q4⟩, qkind⟩ : Facts).datL = udpL k3 k4 true k1 k2 (zerosL n) by simp [Facts.datL]]
  dsimp only [Facts.val, Facts.cells, Key.cells, List.cons_append, List.nil_append]
  go_enter Tryz.func45, Tryz.ntmps45
  go_upto_region 1 with (fail)
  refine wp_name1 ?_
  intro w1 hb1 hs1 b0
  have hSt := (St.nil hb1 hb1.size).cons b0
  refine wp_region_walk0 (by kernel_rfl) (fun _ W => St w w.heap.size _ W) [] Grow [0, 1, 2, 3, 4, 5, 6, 7, 8, 9, 10, 11, 12, 13, 14, 15, 16, 17, 18, 19, 20, 21, 22, 23, 24, 25, 26] (by kernel_rfl) hSt.drew ?_
  iterate 20
    apply Walk.one rfl rfl rfl
    case hrun =>
      intro c W hE hF
      have hc0 := (hE.get 0 rfl).cell
      go_wp2_with fail
      exact TextPost.mk ⟨Grow.refl _, hE⟩
    case hv => rfl
  refine Walk.anyOf (fun g => .slice (some ⟨g, 0, none⟩) n n) slice_inj (fun g W => Own W w.heap.size (.slice (some ⟨g, 0, none⟩) n n) (zerosL n)) (fun _ _ _ h hG => h.keep hG) rfl rfl rfl (by kernel_rfl) (by kernel_rfl) ?_ (fun g => ?_)
  · intro c W hE hF
    refine make_own rfl _ _ rfl w.heap.size _ _ _ _ n n rfl rfl rfl rfl (Nat.le_refl _) (by omega) hE.2.1 ?_
    intro w2 hown hb2 hlt2
    go_wp2_with fail
    exact ⟨_, rfl, hown, hb2, hE.below hb2⟩
  dsimp only [Act.put]
  simp only [List.setIfInBounds_toArray, List.set_cons_succ, List.set_cons_zero]
  refine Walk.anyOf (fun v => .tuple #[v, .int .i64 0]) tup_inj (fun v W => Own W w.heap.size v (udpL k3 k4 true k1 k2 (zerosL n))) (fun _ _ _ h hG => h.keep hG) rfl rfl rfl (by kernel_rfl) (by kernel_rfl) ?_ (fun v => ?_)
  · intro c W hE hF
    have ho := hF.head
    obtain ⟨A, cap, ev, hrd, _, _⟩ := ho.open_
    rw [zerosL_len] at ev
    simp only [Value.slice.injEq, true_and] at ev
    obtain ⟨rfl, rfl⟩ := ev
    go_wp2_with fail
    refine (udpWrite_any k3 k4 true k1 k2 (some ⟨g, 0, none⟩) n n (zerosL n) W (by omega) sp1 p1 dp1 (zerosL_len n) (by omega) g0 g1 d0 d1 (zerosL_byt n) hrd).mono ?_
    rintro e W2 ⟨v, rfl, hown, l⟩
    go_wp2_with fail
    exact ⟨v, rfl, hown.base_le hE.2.1, l, hE.below l⟩
  dsimp only [Act.put]
  simp only [List.setIfInBounds_toArray, List.set_cons_succ, List.set_cons_zero]
  iterate 5
    apply Walk.one rfl rfl rfl
    case hrun =>
      intro c W hE hF
      go_wp2_with fail
      exact TextPost.mk ⟨Grow.refl _, hE⟩
    case hv => rfl
  refine Walk.done (fun W hE hF => ?_)
  have ho := hF.head
  have hbW := hE.1
  clear hSt hE hF
  go_wp2_with fail
  go_ret
  exact ⟨v, rfl, ho, hbW⟩

def Facts.msgL (f : Facts) : List Int := icmpL f.type f.code f.key.sp 0 (zerosL f.length.toNat)
set_option maxRecDepth 100000 in
set_option maxHeartbeats 2000000 in
theorem message_any (f : Facts) (w : World) (ho : f.Ok) (hr : f.rightQuery = true) (hs : SortsAt w) :
    Calls Tryz.prog 47 #[f.val] w fun e w' => ∃ v, e = .returned v ∧ Own w' w.heap.size v f.msgL ∧ Below w.heap.size w w' := by
  obtain ⟨⟨k0, k1, k2, k3, k4⟩, kind, flags, type, code, seqn, ackn, window, length, ⟨q0, q1, q2, q3, q4⟩, qkind⟩ := f
  simp only [Facts.rightQuery, betweenB, Bool.and_eq_true, decide_eq_true_eq, beq_iff_eq] at hr
  obtain ⟨⟨⟨hk, hke⟩, hkf⟩, l0, l1⟩ := hr
  clear hke hkf
  obtain ⟨g0, g1⟩ := And.intro ho.key.src0 ho.key.src1
  obtain ⟨d0, d1⟩ := And.intro ho.key.dst0 ho.key.dst1
  have sp1 := ho.key.sp1
  have sp0 := ho.key.sp0
  have dp1 := ho.key.dp1
  obtain ⟨t0, t1⟩ := And.intro ho.type0 ho.type1
  obtain ⟨c0, c1⟩ := And.intro ho.code0 ho.code1
  clear ho g0 g1 d0 d1 dp1
  dsimp only at *
  obtain ⟨n, rfl⟩ : ∃ n : Nat, length = n := ⟨length.toNat, by omega⟩
  obtain ⟨ty, rfl⟩ : ∃ n : Nat, type = n := ⟨type.toNat, by omega⟩
  obtain ⟨co, rfl⟩ : ∃ n : Nat, code = n := ⟨code.toNat, by omega⟩
  simp only [Int.toNat_natCast] at hk
  have Hk := Lib.hid hk
  have Hs := Lib.hid hs
  clear hk hs
  rw [show (⟨⟨k0, k1, k2, k3, k4⟩, kind, flags, ty, co, seqn, ackn, window, n, ⟨q0, q1, q2, q3, q4⟩, qkind⟩ : Facts).msgL = icmpL ty co k3 0 (zerosL n) by simp [Facts.msgL]]
  dsimp only [Facts.val, Facts.cells, Key.cells, List.cons_append, List.nil_append]
  go_enter Tryz.func47, Tryz.ntmps47
  go_upto_region 1 with (fail)
  refine wp_name1 ?_
  intro w1 hb1 hs1 b0
  have hSt := (St.nil hb1 hb1.size).cons b0
  refine wp_region_walk0 (by kernel_rfl) (fun _ W => St w w.heap.size _ W) [] Grow [0, 1, 2, 3, 4, 5, 6, 7, 8, 9, 10, 11, 12, 13, 14, 15, 16, 17, 18, 19, 20] (by kernel_rfl) hSt.drew ?_
  iterate 14
    apply Walk.one rfl rfl rfl
    case hrun =>
      intro c W hE hF
      have hc0 := (hE.get 0 rfl).cell
      go_wp2_with fail
      exact TextPost.mk ⟨Grow.refl _, hE⟩
    case hv => rfl
  refine Walk.anyOf (fun g => .slice (some ⟨g, 0, none⟩) n n) slice_inj (fun g W => Own W w.heap.size (.slice (some ⟨g, 0, none⟩) n n) (zerosL n)) (fun _ _ _ h hG => h.keep hG) rfl rfl rfl (by kernel_rfl) (by kernel_rfl) ?_ (fun g => ?_)
  · intro c W hE hF
    refine make_own rfl _ _ rfl w.heap.size _ _ _ _ n n rfl rfl rfl rfl (Nat.le_refl _) (by omega) hE.2.1 ?_
    intro w2 hown hb2 hlt2
    go_wp2_with fail
    exact ⟨_, rfl, hown, hb2, hE.below hb2⟩
  dsimp only [Act.put]
  simp only [List.setIfInBounds_toArray, List.set_cons_succ, List.set_cons_zero]
  refine Walk.anyOf (fun v => .tuple #[v, .int .i64 0]) tup_inj (fun v W => Own W w.heap.size v (icmpL ty co k3 0 (zerosL n))) (fun _ _ _ h hG => h.keep hG) rfl rfl rfl (by kernel_rfl) (by kernel_rfl) ?_ (fun v => ?_)
  · intro c W hE hF
    have ho := hF.head
    obtain ⟨A, cap, ev, hrd, _, _⟩ := ho.open_
    rw [zerosL_len] at ev
    simp only [Value.slice.injEq, true_and] at ev
    obtain ⟨rfl, rfl⟩ := ev
    go_wp2_with fail
    have hiw := icmpWrite_any ty co k3 0 (some ⟨g, 0, none⟩) n (zerosL n) W (by omega) (by omega) sp0 sp1 (by omega) (by omega) (Hs.out.below hE.1 (Nat.le_refl _)) Hk.out (by rw [zerosL_len]; omega) (zerosL_byt n) hrd
    rw [zerosL_len] at hiw
    refine hiw.mono ?_
    rintro e W2 ⟨v, rfl, hown, l⟩
    go_wp2_with fail
    exact ⟨v, rfl, hown.base_le hE.2.1, l, hE.below l⟩
  dsimp only [Act.put]
  simp only [List.setIfInBounds_toArray, List.set_cons_succ, List.set_cons_zero]
  iterate 5
    apply Walk.one rfl rfl rfl
    case hrun =>
      intro c W hE hF
      go_wp2_with fail
      exact TextPost.mk ⟨Grow.refl _, hE⟩
    case hv => rfl
  refine Walk.done (fun W hE hF => ?_)
  have ho := hF.head
  have hbW := hE.1
  clear hSt hE hF
  go_wp2_with fail
  go_ret
  exact ⟨v, rfl, ho, hbW⟩

def hdrH (k : Key) : IpH := ⟨0, 0, false, false, 0, 64, k.proto, k.src, k.dst, []⟩
set_option maxRecDepth 100000 in
set_option maxHeartbeats 2000000 in
/-- A header before some data. -/
theorem header_any (f : Facts) (D : Option Addr) (dcap dl : Nat) (data : List Int) (w : World) (ho : f.key.Ok) (hdl : data.length = dl) (hd : dl ≤ 65515) (hrD : Rd w w.heap.size D .u8 data) :
    Calls Tryz.prog 21 #[f.val, .slice D dl dcap] w fun e w' => ∃ v, e = .returned v ∧ Own w' w.heap.size v (ipWriteL (hdrH f.key) data) ∧ Below w.heap.size w w' := by
  obtain ⟨⟨k0, k1, k2, k3, k4⟩, kind, flags, type, code, seqn, ackn, window, length, ⟨q0, q1, q2, q3, q4⟩, qkind⟩ := f
  have hO : (hdrH ⟨k0, k1, k2, k3, k4⟩).Ok := ⟨by simp [hdrH], by simp [hdrH], by simp [hdrH], by simp [hdrH], by simp [hdrH], by simp [hdrH], ho.proto0, ho.proto1, ho.src0, ho.src1, ho.dst0, ho.dst1, Byt.nil⟩
  have hR : (hdrH ⟨k0, k1, k2, k3, k4⟩).Right data.length := ⟨by simp [hdrH], by simp [hdrH], by simp [hdrH], by simp [hdrH], by simp [hdrH], by simp [hdrH]; omega, by simp [hdrH]; omega, by simp [hdrH]⟩
  have Hc := Lib.hid (fun W (h : Rd W W.heap.size D .u8 data) => ipWrite_any (hdrH ⟨k0, k1, k2, k3, k4⟩) none 0 D dcap data W hO hR Rd.nil h)
  rw [hdl] at Hc
  clear ho hO hR
  have Hd := Lib.hid hdl
  clear hdl
  have HL := Lib.hid (show ipWriteL (hdrH ⟨k0, k1, k2, k3, k4⟩) data = ipWriteL (hdrH ⟨k0, k1, k2, k3, k4⟩) data from rfl)
  dsimp only [Facts.val, Facts.cells, Key.cells, List.cons_append, List.nil_append]
  generalize ipWriteL (hdrH ⟨k0, k1, k2, k3, k4⟩) data = R at *
  dsimp only [hdrH, IpH.val, List.length_nil] at Hc
  go_enter Tryz.func21, Tryz.ntmps21
  go_upto_region 1 with (fail)
  refine wp_name1 ?_
  intro w1 hb1 hs1 b0
  have hc0 := b0.cell
  have hr1 := (hrD.below hb1 (Nat.le_refl _)).more hb1.size
  go_wp2_with (go_at_call 30; refine (Hc.out _ hr1).mono ?_; rintro e w2 ⟨v, rfl, hown, l2⟩)
  go_ret
  exact ⟨_, rfl, hown.base_le hb1.size, hb1.trans (l2.mono hb1.size)⟩

end Go.Proofs.YtebeekjcepjcnaaGreatDoor
namespace Go.Proofs.YtebeekjcepjcnaaGreatDoor
open Go.RowKit

theorem callFunc_d (k : Int) (args : Array Value) (W : World) : (callFunc (dataS k) args).run Tryz.prog W = .ok (.enter (dataS k) args) W := by
  unfold dataS
  split
  · kernel_rfl
  · split
    · kernel_rfl
    · split <;> kernel_rfl
def Facts.qL (f : Facts) : List Int := if f.qkind = 1 then f.quotedF.segL else if f.qkind = 2 then f.quotedF.datL else f.quotedF.msgL
theorem quotedF_ok {f : Facts} (ho : f.Ok) : f.quotedF.Ok := by
  have h1 : 0 ≤ f.quotedF.flags ∧ f.quotedF.flags < 256 := by simp only [Facts.quotedF]; split <;> omega
  have h2 : 0 ≤ f.quotedF.type ∧ f.quotedF.type < 256 := by simp only [Facts.quotedF]; split <;> omega
  exact ⟨ho.quoted, ho.qkind0, ho.qkind1, h1.1, h1.2, h2.1, h2.2, by simp [Facts.quotedF, Facts.zero], by simp [Facts.quotedF, Facts.zero], by simp [Facts.quotedF, Facts.zero], by simp [Facts.quotedF, Facts.zero], by simp [Facts.quotedF, Facts.zero],
    by simp [Facts.quotedF, Facts.zero], by simp [Facts.quotedF, Facts.zero], by simp [Facts.quotedF, Facts.zero], by simp [Facts.quotedF, Facts.zero], by simp [Facts.quotedF, Facts.zero],
    ⟨by simp [Facts.quotedF, Facts.zero, Key.zero], by simp [Facts.quotedF, Facts.zero, Key.zero], by simp [Facts.quotedF, Facts.zero, Key.zero], by simp [Facts.quotedF, Facts.zero, Key.zero], by simp [Facts.quotedF, Facts.zero, Key.zero], by simp [Facts.quotedF, Facts.zero, Key.zero], by simp [Facts.quotedF, Facts.zero, Key.zero], by simp [Facts.quotedF, Facts.zero, Key.zero], by simp [Facts.quotedF, Facts.zero, Key.zero], by simp [Facts.quotedF, Facts.zero, Key.zero]⟩,
    by simp [Facts.quotedF, Facts.zero], by simp [Facts.quotedF, Facts.zero]⟩
theorem qdata_any (f : Facts) (w : World) (ho : f.Ok) (hq : isQ f.qkind = true) (hr : f.qRight = true) (hs : SortsAt w) :
    Calls Tryz.prog (dataS f.qkind) #[f.quotedF.val] w fun e w' => ∃ v, e = .returned v ∧ Own w' w.heap.size v f.qL ∧ Below w.heap.size w w' := by
  have hO := quotedF_ok ho
  simp only [isQ, Bool.and_eq_true, decide_eq_true_eq] at hq
  unfold Facts.qL dataS
  unfold Facts.qRight at hr
  by_cases h1 : f.qkind = 1
  · rw [if_pos h1] at hr
    rw [if_pos h1, if_pos h1]; exact segment_any f.quotedF w hO hr
  · rw [if_neg h1] at hr
    rw [if_neg h1, if_neg h1]
    by_cases h2 : f.qkind = 2
    · rw [if_neg (by omega)] at hr
      rw [if_pos h2, if_pos h2]; exact datagram_any f.quotedF w hO hr
    · rw [if_pos (by omega)] at hr
      rw [if_neg h2, if_neg h2, if_neg (by omega)]; exact message_any f.quotedF w hO hr hs

/-- The same with the sum of a datagram struck out. -/
def Facts.qIn (f : Facts) : List Int := if f.qkind = 2 then (f.qL.set 6 0).set 7 0 else f.qL
theorem qL_len {f : Facts} (h : f.quotedF.length = 0) : 8 ≤ f.qL.length ∧ f.qL.length ≤ 20 := by
  unfold Facts.qL
  split
  · unfold Facts.segL tcpL tcpSumL
    rw [length_splice]
    · simp [tcpL0, tcpHead, b16s_len, b32s_len, h, zerosL]
    · simp [tcpL0, tcpHead, b16s_len, b32s_len, h, zerosL]
  · split
    · unfold Facts.datL udpL
      simp [udp0_len, h, zerosL]
    · unfold Facts.msgL icmpL
      rw [fixL_len]
      simp [icmpHead, h, zerosL]
theorem quotedF_length (f : Facts) : f.quotedF.length = 0 := rfl
theorem qIn_len (f : Facts) : f.qIn.length = f.qL.length := by
  unfold Facts.qIn; split <;> simp
theorem qIn_byt {f : Facts} (ho : f.Ok) : Byt (f.qIn.take 8) := by
  have hO := quotedF_ok ho
  have hk := hO.key
  unfold Facts.qIn
  by_cases h2 : f.qkind = 2
  · rw [if_pos h2]
    have e : ((f.qL.set 6 0).set 7 0).take 8 = [f.quotedF.key.sp / 256, f.quotedF.key.sp % 256, f.quotedF.key.dp / 256, f.quotedF.key.dp % 256, 0, 8, 0, 0] := by
      unfold Facts.qL
      rw [if_neg (by omega), if_pos h2]
      simp [Facts.datL, udpL, udp0, udpS, quotedF_length, zerosL]
    rw [e]
    have := hk.sp0; have := hk.sp1; have := hk.dp0; have := hk.dp1
    exact .cons (by omega) (by omega) (.cons (by omega) (by omega) (.cons (by omega) (by omega) (.cons (by omega) (by omega) (.cons (by omega) (by omega) (.cons (by omega) (by omega) (.cons (by omega) (by omega) (.cons (by omega) (by omega) .nil)))))))
  · rw [if_neg h2]
    unfold Facts.qL
    by_cases h1 : f.qkind = 1
    · rw [if_pos h1]
      have e : f.quotedF.segL.take 8 = b16s [f.quotedF.key.sp, f.quotedF.key.dp] ++ b32s [f.quotedF.seqn] := by
        unfold Facts.segL tcpL tcpSumL splice
        rw [List.take_append_of_le_length (by simp [tcpL0, tcpHead, b16s_len, b32s_len]; omega), List.take_take]
        simp [tcpL0, tcpHead, b16s, b32s, b16, b32]
      rw [e]
      have := hk.sp0; have := hk.sp1; have := hk.dp0; have := hk.dp1; have := hO.seqn0; have := hO.seqn1
      exact Byt.append (b16s_byt (by intro y hy; simp at hy; rcases hy with rfl | rfl <;> omega)) (b32s_byt (by intro y hy; simp at hy; rcases hy with rfl; omega))
    · rw [if_neg h1, if_neg h2]
      have := hk.sp0; have := hk.sp1; have := hO.type0; have := hO.type1; have := hO.code0; have := hO.code1
      refine Byt.take ?_ 8
      unfold Facts.msgL icmpL icmpHead
      refine fixL_byt ?_ 2
      refine Byt.append ?_ (zerosL_byt _)
      exact .cons (by omega) (by omega) (.cons (by omega) (by omega) (.cons (by omega) (by omega) (.cons (by omega) (by omega) (.cons (by omega) (by omega) (.cons (by omega) (by omega) (.cons (by omega) (by omega) (.cons (by omega) (by omega) .nil)))))))
end Go.Proofs.YtebeekjcepjcnaaGreatDoor
namespace Go.Proofs.YtebeekjcepjcnaaGreatDoor
open Go.RowKit

theorem Own.take_ {w : World} {base g n cap : Nat} {xs : List Int} (h : Own w base (.slice (some ⟨g, 0, none⟩) n cap) xs) (m : Nat) (hm : m ≤ n) : Own w base (.slice (some ⟨g, 0, none⟩) m cap) (xs.take m) := by
  have hn := h.len
  obtain ⟨g', cap', cur, e, hb, hg, hnc, hmx, hcs, ht⟩ := h.2.resolve_left (by simp)
  simp only [Value.slice.injEq, Option.some.injEq, Addr.mk.injEq, and_true] at e
  obtain ⟨rfl, _, rfl⟩ := e
  refine Own.mk' (n := m) (l := U8 (xs.take m)) ⟨by simp [U8]; omega, .inr ⟨g, cap, cur, rfl, hb, hg, by omega, hmx, hcs, ?_⟩⟩ (by simp; omega) rfl
  rw [Nat.mul_one] at ht ⊢
  rw [← U8_take, ← ht, List.take_take]
  congr 1; omega

theorem zeroCells_u8 (m : Nat) : Builtin.zeroCells (Value.cells (.int .u8 0)) m = (U8 (List.replicate m 0)).toArray := by
  rw [← U8_zeros]
  apply Array.ext'
  have h1 : ∀ i : Nat, i % 1 = 0 := fun i => Nat.mod_one i
  simp [Builtin.zeroCells, Value.cells, h1, List.map_const']

set_option maxRecDepth 100000 in
set_option maxHeartbeats 1000000 in
theorem run_app_zeros (w : World) (ty : TypeId) (base g n cap : Nat) (xs : List Int) (hown : Own w base (.slice (some ⟨g, 0, none⟩) n cap) xs) (m : Nat) (hb : xs.length + m ≤ 140737488355328) (hbase : base ≤ w.heap.size) :
    ∃ v' w', (Builtin.append_ #[26, 3] ty #[.slice (some ⟨g, 0, none⟩) n cap, .int .i64 m]).run Tryz.prog w = .ok v' w' ∧ Own w' base v' (xs ++ List.replicate m 0) ∧ w.grownBy w' (some g) ∧
      (v'.ownBlock = some g ∨ v'.ownBlock = some w.heap.size) := by
  obtain rfl := hown.len
  obtain ⟨i, hi, hz, hs, hby⟩ := info_parts u8info
  obtain ⟨g', cap', cur, e, hbg, hg, hnc, hmx, hcs, ht⟩ := hown.2.resolve_left (by simp)
  simp only [Value.slice.injEq, Option.some.injEq, Addr.mk.injEq, and_true] at e
  obtain ⟨rfl, _, rfl⟩ := e
  have hw : IntKind.i64.wrap (m : Int) = m := by rw [IntKind.wrap_i64]; omega
  have hneg : ¬ ((m : Int) < 0) := by omega
  have h48i : ¬ (281474976710656 < (m : Int)) := by omega
  have hZ := zeroCells_u8 m
  have hlZ : (U8 (List.replicate m 0)).length = m := by simp [U8]
  have hlen : (U8 (xs ++ List.replicate m 0)).length = (xs.length + m) * 1 := by simp [U8]
  have hcl : cur.toList.length = cap := by simpa using hcs
  rw [Nat.mul_one] at ht
  by_cases hroom : xs.length + m ≤ cap
  · have hst := run_storeCells_at Tryz.prog g xs.length 5 (U8 (List.replicate m 0)) 0 cur w hg (by rw [hlZ]; omega) (U8_one _)
    simp only [Nat.add_zero, hlZ] at hst
    refine ⟨.slice (some ⟨g, 0, none⟩) (xs.length + m) cap, w.setRow g (cur.toList.take xs.length ++ U8 (List.replicate m 0) ++ cur.toList.drop (xs.length + m)).toArray, ?_, ?_, ?_, .inl rfl⟩
    · by_cases hm : m = 0
      · subst hm
        have hw0 : IntKind.i64.wrap 0 = 0 := by rw [IntKind.wrap_i64]; omega
        simp [U8] at hst
        simp [Builtin.append_, run_underlying Tryz.underlying26, run_underlying Tryz.underlying3, sizeOf, typeInfo, zeroValue, hi, hz, hs, hby, asInt, asIntOf, hw0, hnc, hst, U8, Addr.add_lit]
      · simp [Builtin.append_, run_underlying Tryz.underlying26, run_underlying Tryz.underlying3, sizeOf, typeInfo, zeroValue, hi, hz, hs, hby, asInt, asIntOf, hw, hneg, h48i, hroom, hm, hZ, hst, Addr.add_lit]
    · refine Own.mk' (n := xs.length + m) ⟨hlen, .inr ⟨g, cap, _, rfl, hbg, setRow_heap w g cur _ _ _ hg, hroom, hmx, ?_, ?_⟩⟩ (by simp) rfl
      · simp only [List.size_toArray, List.length_append, List.length_take, List.length_drop, hcl, hlZ]
        omega
      · rw [ht, ← U8_append, ← hlen]
        exact List.take_left
    · exact ⟨rfl, rfl, rfl, by simp, fun k _ hk => setRow_other w g k _ (fun e => hk (by rw [e]))⟩
  · have hn : ¬ (xs.length + m ≤ cap) := hroom
    have hm : m ≠ 0 := by omega
    have h63' : ¬ (9223372036854775807 < ((xs.length : Int) + (m : Int))) := by omega
    have hfit : Builtin.nextslicecap (xs.length + m) cap * 1 ≤ 281474976710656 := growslice_fits (by omega) (by omega)
    have h48' : ¬ (281474976710656 < Builtin.nextslicecap (xs.length + m) cap) := by omega
    have holds : ∀ j u, (U8 xs)[j]? = some u → w.cell? ((⟨g, 0, none⟩ : Addr).add j) = some u := hown.rd.cells
    have hfo := run_firstCells_some (P := Tryz.prog) w.drew i.size xs.length ⟨g, 0, none⟩ xs.length cap (U8 xs) (by rw [hs, U8_length]; omega) (by simpa using holds)
    rw [hs] at hfo
    have hge := grownCap_ge w (xs.length + m) cap 5
    have hcm : grownCap w (xs.length + m) cap 5 ≤ maxLen := grownCap_le_maxLen w (xs.length + m) cap 5 (by simp only [maxLen]; omega)
    refine ⟨.slice (some ⟨w.heap.size, 0, none⟩) (xs.length + m) (grownCap w (xs.length + m) cap 5), w.drew.alloc (.cells ((U8 xs).toArray ++ (U8 (List.replicate m 0)).toArray ++ Builtin.zeroCells (Value.cells (.int .u8 0)) (grownCap w (xs.length + m) cap 5 - (xs.length + m))) 5), ?_, ?_, ?_, .inr rfl⟩
    · simp [Builtin.append_, run_underlying Tryz.underlying26, run_underlying Tryz.underlying3, sizeOf, typeInfo, zeroValue, hi, hz, hs, hby, asInt, asIntOf, hw, hneg, h48i, hn, hm, h63', h48', hZ, hfo, Question.forced, newRow, grownCap]
      congr 2
      apply Array.ext'
      simp [List.append_assoc]
    · refine Own.mk' (n := xs.length + m) ⟨hlen, .inr ⟨w.heap.size, _, _, rfl, hbase, heap_alloc_new w.drew _, hge, hcm, ?_, ?_⟩⟩ (by simp) rfl
      · simp only [Array.size_append, List.size_toArray, size_zeroCells, hlZ, U8_length]
        simp [Value.cells]
        omega
      · simp only [Array.toList_append, List.append_assoc]
        rw [← List.append_assoc, ← U8_append, ← hlen]
        exact List.take_left
    · exact ⟨rfl, rfl, rfl, by simp, fun k hk _ => heap_alloc_old w.drew _ hk⟩

/-- THE ARM: 'append(data, make([]byte, m)...)', data an own row that is not nil. -/
theorem app_zeros {w : World} {ops : Array Oper} {rest : List Oper} {o : Oper} {a : Act} {Q : Exit → Act → World → Prop} (hgd : o.guard = none) (s x : Operand)
    (ho : o.op = .call { callee := .builtin .append, args := #[s, x], argTypes := #[26, 3] })
    (base g n cap : Nat) (xs : List Int) (hs : a.eval s = .slice (some ⟨g, 0, none⟩) n cap) (hown : Own w base (.slice (some ⟨g, 0, none⟩) n cap) xs) (z : Int) (m : Nat)
    (hx : a.eval x = .int .i64 z) (hz : z = (m : Int)) (hb : xs.length + m ≤ 140737488355328) (hbase : base ≤ w.heap.size)
    (h : ∀ v' w', Own w' base v' (xs ++ List.replicate m 0) → Below base w w' → w.grownBy w' (some g) → (v'.ownBlock = some g ∨ v'.ownBlock = some w.heap.size) → wpList Tryz.prog ops Q rest (a.put o.dst v') w') :
    wpList Tryz.prog ops Q (o :: rest) a w := by
  subst hz
  refine wpList_plain hgd fun K hK => ?_
  obtain ⟨v', w', hrun, h2, h3, h4⟩ := run_app_zeros w o.type base g n cap xs hown m hb hbase
  unfold Oper.wp execOp
  simp only [ho, resolve, invoke, builtin, Sem.run_bind, Sem.run_pure, Result.andThen_ok, List.map_toArray, List.map_cons, List.map_nil, hs, hx, hrun]
  exact hK _ _ (h v' w' h2 (below_of_grown h3 hbase (fun k hk => (hown.lt (by simpa [Value.ownBlock] using hk)).1)) h3 h4)

/-- An append onto an own row that has room: in place. -/
theorem run_app_room (w : World) (ty : TypeId) (base g n cap : Nat) (xs : List Int) (hown : Own w base (.slice (some ⟨g, 0, none⟩) n cap) xs) (B : Nat) (A : Option Addr) (c : Nat) (ys : List Int) (hr : Rd w B A .u8 ys) (h0 : 0 < ys.length) (hroom : n + ys.length ≤ cap) :
    ∃ w', (Builtin.append_ #[26, 26] ty #[.slice (some ⟨g, 0, none⟩) n cap, .slice A ys.length c]).run Tryz.prog w = .ok (.slice (some ⟨g, 0, none⟩) (n + ys.length) cap) w' ∧ Own w' base (.slice (some ⟨g, 0, none⟩) (n + ys.length) cap) (xs ++ ys) ∧ w.grownBy w' (some g) := by
  obtain rfl := hown.len
  obtain ⟨i, hi, hz, hs, hby⟩ := info_parts u8info
  obtain ⟨g', cap', cur, e, hbg, hg, hnc, hmx, hcs, ht⟩ := hown.2.resolve_left (by simp)
  simp only [Value.slice.injEq, Option.some.injEq, Addr.mk.injEq, and_true] at e
  obtain ⟨rfl, _, rfl⟩ := e
  obtain ⟨b, off, rfl, _, _⟩ := hr.at0 h0
  have hcl : cur.toList.length = cap := by simpa using hcs
  have hlen : (U8 (xs ++ ys)).length = (xs.length + ys.length) * 1 := by simp [U8]
  rw [Nat.mul_one] at ht
  have hrun := run_append_room (P := Tryz.prog) w 26 ty 5 i Tryz.underlying26 hi g xs.length cap cur hg ⟨b, off, none⟩ ys.length c (U8 ys) (by rw [U8_length, hs]; omega) hr.cells (U8_one ys) hroom (by rw [hs, U8_length, ← Array.length_toList]; omega)
  rw [hs, Nat.mul_one] at hrun
  refine ⟨_, hrun, ?_, ⟨rfl, rfl, rfl, by simp, fun k _ hk => setRow_other w g k _ (fun e => hk (by rw [e]))⟩⟩
  refine Own.mk' (n := xs.length + ys.length) ⟨hlen, .inr ⟨g, cap, _, rfl, hbg, setRow_heap w g cur _ _ _ hg, hroom, hmx, ?_, ?_⟩⟩ (by simp) rfl
  · simp only [List.size_toArray, List.length_append, List.length_take, List.length_drop, hcl, U8_length]
    omega
  · rw [ht, ← U8_append, ← hlen]
    exact List.take_left
/-- THE ARM. -/
theorem app_room {w : World} {ops : Array Oper} {rest : List Oper} {o : Oper} {a : Act} {Q : Exit → Act → World → Prop} (hgd : o.guard = none) (s x : Operand)
    (ho : o.op = .call { callee := .builtin .append, args := #[s, x], argTypes := #[26, 26] })
    (base g n cap : Nat) (xs : List Int) (hs : a.eval s = .slice (some ⟨g, 0, none⟩) n cap) (hown : Own w base (.slice (some ⟨g, 0, none⟩) n cap) xs) (B : Nat) (A : Option Addr) (m c : Nat) (ys : List Int)
    (hx : a.eval x = .slice A m c) (hm : m = ys.length) (hr : Rd w B A .u8 ys) (h0 : 0 < ys.length) (hroom : n + ys.length ≤ cap)
    (h : ∀ w', Own w' base (.slice (some ⟨g, 0, none⟩) (n + ys.length) cap) (xs ++ ys) → w.grownBy w' (some g) → wpList Tryz.prog ops Q rest (a.put o.dst (.slice (some ⟨g, 0, none⟩) (n + ys.length) cap)) w') :
    wpList Tryz.prog ops Q (o :: rest) a w := by
  subst hm
  refine wpList_plain hgd fun K hK => ?_
  obtain ⟨w', hrun, h2, h3⟩ := run_app_room w o.type base g n cap xs hown B A c ys hr h0 hroom
  unfold Oper.wp execOp
  simp only [ho, resolve, invoke, builtin, Sem.run_bind, Sem.run_pure, Result.andThen_ok, List.map_toArray, List.map_cons, List.map_nil, hs, hx, hrun]
  exact hK _ _ (h w' h2 h3)

end Go.Proofs.YtebeekjcepjcnaaGreatDoor
