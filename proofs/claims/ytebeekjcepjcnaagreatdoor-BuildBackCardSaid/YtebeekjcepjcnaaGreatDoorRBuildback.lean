/-
  bafflelaw12.BuildBack.
-/
import Derived.Test.YtebeekjcepjcnaaGreatDoorRRejlaw
import Derived.Test.YtebeekjcepjcnaaGreatDoorRAwake
import Derived.Test.YtebeekjcepjcnaaGreatDoorRPktr
import Derived.Test.YtebeekjcepjcnaaGreatDoorRMade11
import Derived.Test.YtebeekjcepjcnaaGreatDoorRZerob
namespace Go.Proofs.YtebeekjcepjcnaaGreatDoor
open Go.RowKit
/-- The row while hops are done: the facts' block lies ahead of it. -/
structure BJ (w : World) (B gF : Nat) (C : Array Value) (h : IpH) (data : List Int) (L j : Nat) (q : Nat × Nat) (W : World) : Prop where
  below : Below w.heap.size w W
  facts : Blk W gF 41 C
  lt : gF < B
  le : B ≤ W.heap.size
  own : Own W B (.slice (some ⟨q.1, 0, none⟩) L q.2) (ipWriteL (h.down j) data)
  cap : L ≤ q.2
theorem BJ.next {w : World} {B gF : Nat} {C : Array Value} {h : IpH} {data : List Int} {L j : Nat} {q : Nat × Nat} {W W' : World} (k : BJ w B gF C h data L j q W) (l : Below W.heap.size W W') : BJ w B gF C h data L j q W' :=
  ⟨k.below.trans (l.mono k.below.size), k.facts.below l k.facts.lt, k.lt, Nat.le_trans k.le l.size, k.own.below l (Nat.le_refl _), k.cap⟩
set_option maxRecDepth 100000 in
set_option maxHeartbeats 16000000 in
theorem buildBack_any (x : Sm) (hx : x.Ok) (hops behind : Int) (w : World) (hA : SmAt w w.heap.size x) (n0 : 0 ≤ hops) (_n1 : hops < 256) (b0 : 0 ≤ behind) (b1 : behind < 256) (hT : Tabs w) (hs : SortsAt w) :
    Calls Tryz.prog 4 #[x.val, .int .u8 hops, .int .u8 behind] w fun e W => e = .returned (.bool true) ∧ Below w.heap.size w W := by
  have HAw := Lib.hid (fun (W : World) (hb : Below w.heap.size w W) => awake_any W (hs.below hb (Nat.le_refl _)))
  have HM := Lib.hid (fun (W : World) (hb : Below w.heap.size w W) => made11_any x hx W ((hA.below hb (Nat.le_refl _)).more hb.size) (hT.below hb (Nat.le_refl _)) (hs.below hb (Nat.le_refl _)))
  have Hs := Lib.hid (fun (W : World) (hb : Below w.heap.size w W) => hs.below hb (Nat.le_refl _))
  have HLaw := Lib.hid (fun (os : List OE) (data : List Int) (f : Facts) (hos : OsOk os) (hC : Cont (x.kind % 4).toNat data f) => m11_law hx hos hC (by omega))
  obtain ⟨m, hm1, hm2⟩ : ∃ m : Nat, hops.tmod 5 = m ∧ m < 5 := ⟨(hops % 5).toNat, by rw [Int.tmod_eq_emod_of_nonneg n0]; omega, by omega⟩
  obtain ⟨bh, rfl⟩ : ∃ bh : Nat, behind = bh := ⟨behind.toNat, by omega⟩
  clear hA hT hs hx
  unfold Made11Post at HM
  dsimp only [Sm.val, Sm.cells] at HM
  dsimp only [Sm.val, Sm.cells]
  go_enter Tryz.func4, Tryz.ntmps4
  go_upto_region 1 with fail
  refine wp_name1 ?_
  intro w1 hb1 hs1 bx
  have L1 := Lib.hid hb1
  clear hb1 hs1
  go_wp2_with fail
  refine (HAw.out w1 L1.out).mono ?_
  rintro e w2 ⟨rfl, l2⟩
  have bx2 := bx.below l2 bx.lt
  have L2 := Lib.hid (L1.out.trans (l2.mono L1.out.size))
  clear l2 bx HAw L1
  go_wp2_with (first | ((with_reducible refine look_load ?_); refine wpList_load_row rfl _ _ rfl _ rfl _ _ _ _ bx2 Tryz.underlying34 rfl (by kernel_rfl) ?_) | fail)
  refine (HM.out w2 L2.out).mono ?_
  rintro e w3 ⟨os, oA, oc, p, data, f, rfl, ho, hd, _, hos, hC, _, l3⟩
  have HL := HLaw.out os data f hos hC
  have fok := HL.fok
  have fright := HL.fright
  have L3 := Lib.hid (L2.out.trans (l3.mono L2.out.size))
  clear ho hd hos hC l3 HLaw HM bx2 HL
  generalize m11F x f = F at *
  generalize m11H x f.key.proto os = h at *
  generalize hop : h.opts.length = ol at *
  obtain ⟨tos, ident, df, mf, off, ttl, proto, src, dst, opts⟩ := h
  dsimp only at hop
  subst hop
  have hdl := dataL_len fright
  have hML : F.madeL = F.buildL := if_pos fright
  have hME : F.madeE = 0 := if_pos fright
  have HBd := Lib.hid (fun (W : World) (hb : Below w.heap.size w W) => build_all F W fok (Hs.out W hb))
  rw [hML, hME] at HBd
  have HRt := Lib.hid (fun (W : World) (hb : Below w.heap.size w W) => right_all F W fok (Hs.out W hb))
  rw [fright] at HRt
  have hbl : F.buildL = ipWriteL ((hdrH F.key).down 0) F.dataL := by rw [down_zero]; rfl
  obtain ⟨L, hL⟩ : ∃ L, F.buildL.length = L := ⟨_, rfl⟩
  have hlen : (ipWriteL (hdrH F.key) F.dataL).length = L := hL
  have hL6 : 0 < L ∧ L ≤ 65535 := by
    have h1 := ipWriteL_len (hdrH F.key) F.dataL
    have h2 : (hdrH F.key).opts.length = 0 := rfl
    have h3 := (hdr_right (k := F.key) hdl.2).all
    omega
  rw [hL, hbl] at HBd
  have HFd : Hid (∀ j : Nat, j ≤ m → ((hdrH F.key).down j).Ok ∧ ((hdrH F.key).down j).Right F.dataL.length ∧ 2 ≤ ((hdrH F.key).down j).ttl ∧ (ipWriteL ((hdrH F.key).down j) F.dataL).length = L) := Lib.hid (fun j hj => ⟨down_ok (hdr_ok fok.key) (j := j) (by show (j : Int) ≤ 64; omega), down_right (hdr_right hdl.2) j, (by show 2 ≤ (64 : Int) - (j : Int); omega), by rw [down_len]; exact hlen⟩)
  have HBk : Hid (pktR (ipWriteL ((hdrH F.key).down m) F.dataL ++ List.replicate bh 0) = 0 ∧ pktF (ipWriteL ((hdrH F.key).down m) F.dataL ++ List.replicate bh 0) = F) := Lib.hid (built_down fok fright (by omega) _)
  have HBt : Hid (Byt (ipWriteL ((hdrH F.key).down m) F.dataL)) := Lib.hid (ipWriteL_byt (down_ok (hdr_ok fok.key) (j := m) (by show (m : Int) ≤ 64; omega)) (show 0 ≤ 40 by decide) (dataL_byt fok fright))
  have HDb := Lib.hid (dataL_byt fok fright)
  have hd0 : 8 ≤ F.dataL.length := by rw [hdl.1]; split <;> omega
  have HDl := Lib.hid (show 0 < F.dataL.length ∧ F.dataL.length ≤ 65535 from ⟨by omega, by have := hdl.2; omega⟩)
  have HEq := Lib.hid (fun (W : World) => run_eq_facts F F W)
  rw [facts_eqB_refl] at HEq
  clear fok fright hdl hd0 hML hME hL hlen hbl
  generalize hdrH F.key = h at *
  generalize F.dataL = dl at *
  have hm5 : (m : Int) < 5 := by omega
  dsimp only [IpH.val]
  obtain ⟨⟨k0, k1, k2, k3, k4⟩, f1, f2, f3, f4, f5, f6, f7, f8, ⟨z0, z1, z2, z3, z4⟩, f9⟩ := F
  dsimp only [Facts.val, Facts.cells, Key.cells, List.cons_append, List.nil_append] at *
  obtain ⟨q1, q2, q3⟩ := two_blocks w3 37 41 #[.int .u8 0, .int .u16 0, .bool false, .bool false, .int .i64 0, .int .u8 0, .int .u8 0, .int .u32 0, .int .u32 0, .slice none 0 0] #[.int .u8 0, .int .u32 0, .int .u32 0, .int .u16 0, .int .u16 0, .int .u8 0, .int .u8 0, .int .u8 0, .int .u8 0, .int .u32 0, .int .u32 0, .int .i64 0, .int .i64 0, .int .u8 0, .int .u32 0, .int .u32 0, .int .u16 0, .int .u16 0, .int .u8 0] #[.int .u8 tos, .int .u16 ident, .bool df, .bool mf, .int .i64 off, .int .u8 ttl, .int .u8 proto, .int .u32 src, .int .u32 dst, .slice oA opts.length oc] #[.int .u8 k0, .int .u32 k1, .int .u32 k2, .int .u16 k3, .int .u16 k4, .int .u8 f1, .int .u8 f2, .int .u8 f3, .int .u8 f4, .int .u32 f5, .int .u32 f6, .int .i64 f7, .int .i64 f8, .int .u8 z0, .int .u32 z1, .int .u32 z2, .int .u16 z3, .int .u16 z4, .int .u8 f9]
  go_upto_region 4 with (first | ((with_reducible refine look_store ?_); refine wpList_store_row rfl _ _ _ rfl _ _ rfl rfl _ _ q1 (by kernel_rfl) (by simp) (by simp [Value.oneCell']) ?_) | ((with_reducible refine look_store ?_); refine wpList_store_row rfl _ _ _ rfl _ _ rfl rfl _ _ q2 (by kernel_rfl) (by simp) (by simp [Value.oneCell']) ?_) | fail)
  try dsimp only [Act.put]
  clear q1 q2 q3
  refine wp_two ?_
  intro w4 hb4 hs4 bh4 bf
  have L4 := Lib.hid (L3.out.trans (hb4.mono L3.out.size))
  have HB4 := Lib.hid (HBd.out w4 L4.out)
  clear hb4 hs4 bh4 HBd L3
  go_wp2_with (first | ((with_reducible refine look_load ?_); refine wpList_load_row rfl _ _ rfl _ rfl _ _ _ _ bf Tryz.underlying41 rfl (by kernel_rfl) ?_) | fail)
  refine HB4.out.mono ?_
  rintro e w5 ⟨A5, c5, rfl, o5, l5⟩
  obtain ⟨g5, c5', he, _, _, hc5, _⟩ := o5.formL L (HFd.out 0 (by omega)).2.2.2 hL6.1
  cases he
  have bf5 := bf.below l5 bf.lt
  have L5 := Lib.hid (L4.out.trans (l5.mono L4.out.size))
  have H44 := Lib.hid L4.out.size
  have HJ5 : Hid (BJ w w4.heap.size (w3.heap.size + 1) #[.int .u8 k0, .int .u32 k1, .int .u32 k2, .int .u16 k3, .int .u16 k4, .int .u8 f1, .int .u8 f2, .int .u8 f3, .int .u8 f4, .int .u32 f5, .int .u32 f6, .int .i64 f7, .int .i64 f8, .int .u8 z0, .int .u32 z1, .int .u32 z2, .int .u16 z3, .int .u16 z4, .int .u8 f9] h dl L 0 (g5, c5) w5) := Lib.hid ⟨L5.out, bf5, bf.lt, l5.size, o5, hc5⟩
  have HR5 := Lib.hid (HRt.out w5 L5.out)
  clear l5 bf o5 hc5 HB4 L4 HRt
  go_wp2_with (first | ((with_reducible refine look_load ?_); refine wpList_load_row rfl _ _ rfl _ rfl _ _ _ _ bf5 Tryz.underlying41 rfl (by kernel_rfl) ?_) | ((with_reducible refine look_load ?_); refine wpList_load_g (by first | rfl | simp [Region.wanted, yielded]) _ _ rfl _ rfl _ _ _ _ bf5 Tryz.underlying41 rfl (by kernel_rfl) ?_) | fail)
  refine HR5.out.mono ?_
  rintro e w6 ⟨rfl, l6⟩
  have HJ6 := Lib.hid (HJ5.out.next l6)
  clear l6 bf5 HR5 HJ5 L5
  go_wp2_with fail
  go_loopw [10, 11, 36] (fun bv ev iv W => ∃ (j : Nat) (q : Nat × Nat), j ≤ m ∧ iv = .int .u8 j ∧ ev = .int .i64 0 ∧ bv = .slice (some ⟨q.1, 0, none⟩) L q.2 ∧ Hid (BJ w w4.heap.size (w3.heap.size + 1) #[.int .u8 k0, .int .u32 k1, .int .u32 k2, .int .u16 k3, .int .u16 k4, .int .u8 f1, .int .u8 f2, .int .u8 f3, .int .u8 f4, .int .u32 f5, .int .u32 f6, .int .i64 f7, .int .i64 f8, .int .u8 z0, .int .u32 z1, .int .u32 z2, .int .u16 z3, .int .u16 z4, .int .u8 f9] h dl L j q W)) (fun _ _ iv _ => m - (intOf iv).toNat)
  case atStart => exact ⟨0, _, by omega, rfl, rfl, rfl, HJ6⟩
  case round =>
    obtain ⟨j, q, hj, rfl, rfl, rfl, hJ⟩ := hrel
    rename World => wo
    clear HJ6
    by_cases hlt : j < m
    · have e1 : decide ((j : Int) < m) = true := by simp; omega
      have e2 : decide (j < m) = true := by simp; omega
      have hj5 : (j : Int) < 5 := by omega
      have hwj : IntKind.u8.wrap ((j : Int) + 1) = ((j + 1 : Nat) : Int) := by rw [IntKind.wrap_u8]; omega
      have HH := Lib.hid (hop_any (h.down j) (some ⟨q.1, 0, none⟩) q.2 L dl wo (HFd.out j hj).1 (HFd.out j hj).2.1 HDl.out.2 HDl.out.1 HDb.out (HFd.out j hj).2.2.1 (HFd.out j hj).2.2.2 hJ.out.cap hJ.out.own.rd)
      rw [down_next] at HH
      go_wp2_with (first | (go_at_call 11; refine HH.out.mono ?_; rintro e w7 ⟨v7, rfl, ho7, l7⟩; obtain ⟨g7, c7, rfl, _, _, hc7, _⟩ := ho7.formL L (HFd.out (j + 1) (by omega)).2.2.2 hL6.1; have HJ7 : Hid (BJ w w4.heap.size (w3.heap.size + 1) #[.int .u8 k0, .int .u32 k1, .int .u32 k2, .int .u16 k3, .int .u16 k4, .int .u8 f1, .int .u8 f2, .int .u8 f3, .int .u8 f4, .int .u32 f5, .int .u32 f6, .int .i64 f7, .int .i64 f8, .int .u8 z0, .int .u32 z1, .int .u32 z2, .int .u16 z3, .int .u16 z4, .int .u8 f9] h dl L (j + 1) (g7, c7) w7) := Lib.hid ⟨hJ.out.below.trans (l7.mono hJ.out.below.size), hJ.out.facts.below l7 hJ.out.facts.lt, hJ.out.lt, Nat.le_trans hJ.out.le l7.size, ho7.base_le hJ.out.le, hc7⟩; clear ho7 l7) | fail)
      go_roundw
      case rel => exact ⟨j + 1, _, by omega, by go_num, rfl, rfl, HJ7⟩
      case measure => simp [intOf]; omega
    · obtain rfl : j = m := by omega
      have e1 : decide ((j : Int) < j) = false := by simp
      have hLb : L + bh ≤ 140737488355328 := by omega
      have HLx := Lib.hid (show (ipWriteL (h.down j) dl).length = L from (HFd.out j (Nat.le_refl _)).2.2.2)
      have HRd := Lib.hid (fun (W : World) (A : Option Addr) (c n : Nat) (hn : n = L + bh) (hc : n ≤ c) (hr : Rd W W.heap.size A .u8 (ipWriteL (h.down j) dl ++ List.replicate bh 0)) (hb : Below w.heap.size w W) => pktRead_any A c n _ W (by rw [List.length_append, List.length_replicate, HLx.out, hn]) (by omega) hc (HBt.out.append (Byt.zeros bh)) hr (Hs.out W hb))
      rw [HBk.out.1, HBk.out.2] at HRd
      have HLn := Lib.hid (show (ipWriteL (h.down j) dl ++ List.replicate bh 0).length = L + bh from by rw [List.length_append, List.length_replicate, HLx.out])
      have HOw := Lib.hid hJ.out.own
      have HBw := Lib.hid (show Below w.heap.size w wo ∧ w3.heap.size + 1 < w4.heap.size ∧ w4.heap.size ≤ wo.heap.size ∧ w.heap.size ≤ w4.heap.size from ⟨hJ.out.below, hJ.out.lt, hJ.out.le, H44.out⟩)
      have bf6 := hJ.out.facts
      clear HBk HBt HFd HDb HDl Hs hJ
      generalize ipWriteL (h.down j) dl = xs at *
      dsimp only [Facts.val, Facts.cells, Key.cells, List.cons_append, List.nil_append] at HRd
      go_upto_region 14 with (first | (at_builtin; refine app_zeros8 rfl _ _ rfl w4.heap.size q.1 L q.2 _ rfl HOw.out (bh : Int) bh rfl rfl (by rw [HLx.out]; exact hLb) HBw.out.2.2.1 ?_; intro v8 w8 o8 l8 _ _; obtain ⟨g8, c8, hv8, _, _, hc8, _⟩ := o8.formL (L + bh) HLn.out (by omega); subst hv8; have L8 := Lib.hid (HBw.out.1.trans (l8.mono HBw.out.2.2.2)); have H8 := Lib.hid (HRd.out w8 (some ⟨g8, 0, none⟩) c8 (L + bh) rfl hc8 o8.rd L8.out); have bf8 := bf6.below l8 HBw.out.2.1; clear o8 l8 hc8) | (go_at_call 9; refine H8.out.mono ?_; rintro e w9 ⟨rfl, l9⟩) | ((with_reducible refine look_store ?_); refine wpList_store_new rfl _ _ _ rfl _ _ rfl rfl _ _ rfl (by kernel_rfl) (by simp) (by simp [Value.oneCell']) ?_) | fail)
      try dsimp only [Act.put]
      refine wp_name1 ?_
      intro w10 hb10 hs10 bg
      have bf10 := (bf8.below l9 bf8.lt).below hb10 (bf8.below l9 bf8.lt).lt
      have L10 := Lib.hid ((L8.out.trans (l9.mono L8.out.size)).trans (hb10.mono (Nat.le_trans L8.out.size l9.size)))
      clear l9 hb10 hs10 bf8 L8 H8
      have heq := HEq.out w10
      go_wp2_with (first | ((with_reducible refine look_load ?_); refine wpList_load_g (by first | rfl | simp [Region.wanted, yielded]) _ _ rfl _ rfl _ _ _ _ bg Tryz.underlying41 rfl (by kernel_rfl) ?_) | ((with_reducible refine look_load ?_); refine wpList_load_g (by first | rfl | simp [Region.wanted, yielded]) _ _ rfl _ rfl _ _ _ _ bf10 Tryz.underlying41 rfl (by kernel_rfl) ?_) | fail)
      go_ret
      exact ⟨rfl, L10.out⟩
end Go.Proofs.YtebeekjcepjcnaaGreatDoor
