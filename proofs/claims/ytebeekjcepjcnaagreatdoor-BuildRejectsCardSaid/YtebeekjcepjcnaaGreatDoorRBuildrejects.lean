/-
  bafflelaw12.BuildRejects.
-/
import Derived.Test.YtebeekjcepjcnaaGreatDoorRRejlaw
import Derived.Test.YtebeekjcepjcnaaGreatDoorRAwake
import Derived.Test.YtebeekjcepjcnaaGreatDoorRPktr
import Derived.Test.YtebeekjcepjcnaaGreatDoorRMade11
namespace Go.Proofs.YtebeekjcepjcnaaGreatDoor
open Go.RowKit
theorem wpList_load_mid_g {P : Program} {ops : Array Oper} {rest : List Oper} {o : Oper} {a : Act} {w : World} {Q : Exit → Act → World → Prop} (hw : Region.wanted o (yielded ops a.tmps) = true) (ty : TypeId) (x : Operand) (ho : o.op = .load ty x)
    (b off : Nat) (hx : a.eval x = .pointer (some ⟨b, off, none⟩)) (cs : List Value) (d : TypeDesc) (hc : w.rangeAt b off cs)
    (hu : P.underlying ty = some d) (hd : d.isRow = true) (hi : (P.info? ty).map (·.size) = some cs.length)
    (h : wpList P ops Q rest (a.put o.dst (.agg cs.toArray)) w) : wpList P ops Q (o :: rest) a w := by
  rw [wpList, if_pos hw]
  exact .inl (wp_load_mid ty x ho b off hx cs d hc hu hd hi h)
set_option maxRecDepth 100000 in
set_option maxHeartbeats 16000000 in
theorem buildRejects_at (x : Sm) (hx : x.Ok) (kind code : Int) (a : Nat) (jj ai bi cm : Int) (w : World) (hA : SmAt w w.heap.size x) (hj : kind.tmod 5 = jj) (hab : (jj = 0 ∧ a = 3 ∧ ai = 3 ∧ bi = 15 ∧ cm = 16) ∨ (jj = 1 ∧ a = 4 ∧ ai = 4 ∧ bi = 0 ∧ cm = 1) ∨ (jj = 2 ∧ a = 5 ∧ ai = 5 ∧ bi = 3 ∧ cm = 4) ∨ (jj = 3 ∧ a = 11 ∧ ai = 11 ∧ bi = 1 ∧ cm = 2) ∨ (jj = 4 ∧ a = 12 ∧ ai = 12 ∧ bi = 2 ∧ cm = 3)) (c0 : 0 ≤ code) (hT : Tabs w) (hs : SortsAt w) :
    Calls Tryz.prog 3 #[x.val, .int .u8 kind, .int .u8 code] w fun e W => e = .returned (.bool true) ∧ Below w.heap.size w W := by
  have HAw := Lib.hid (fun (W : World) (hb : Below w.heap.size w W) => awake_any W (hs.below hb (Nat.le_refl _)))
  have HM := Lib.hid (fun (W : World) (hb : Below w.heap.size w W) => made11_any x hx W ((hA.below hb (Nat.le_refl _)).more hb.size) (hT.below hb (Nat.le_refl _)) (hs.below hb (Nat.le_refl _)))
  have Hs := Lib.hid (fun (W : World) (hb : Below w.heap.size w W) => hs.below hb (Nat.le_refl _))
  have HLaw := Lib.hid (fun (os : List OE) (data : List Int) (f : Facts) (hos : OsOk os) (hC : Cont (x.kind % 4).toNat data f) => m11_law hx hos hC (by omega))
  have hcm : 1 ≤ cm ∧ cm ≤ 16 := by omega
  have hcm0 : (cm == 0) = false := by simp; omega
  have hcm1 : ¬ cm = 0 := by omega
  have hbw : IntKind.u8.wrap (bi + 1) = cm := by rw [IntKind.wrap_u8]; omega
  have hix : ∀ W, (Instr.index 45 (.agg #[.int .u8 3, .int .u8 15, .int .u8 4, .int .u8 0, .int .u8 5, .int .u8 3, .int .u8 11, .int .u8 1, .int .u8 12, .int .u8 2]) (.int .u8 jj)).run Tryz.prog W = .ok (.agg #[.int .u8 ai, .int .u8 bi]) W := by
    rcases hab with ⟨rfl, rfl, rfl, rfl, rfl⟩ | ⟨rfl, rfl, rfl, rfl, rfl⟩ | ⟨rfl, rfl, rfl, rfl, rfl⟩ | ⟨rfl, rfl, rfl, rfl, rfl⟩ | ⟨rfl, rfl, rfl, rfl, rfl⟩ <;> intro W <;> kernel_rfl
  obtain ⟨nn, hn1, hn2⟩ : ∃ nn : Nat, code.tmod cm = nn ∧ (nn : Int) < cm := by
    have e1 := Int.emod_nonneg code hcm1
    have e2 := Int.emod_lt_of_pos code (show 0 < cm by omega)
    exact ⟨(code % cm).toNat, by rw [Int.tmod_eq_emod_of_nonneg c0]; omega, by omega⟩
  have hkd : kind2 a nn = 0 ∧ kind1 a nn = 5 := by
    rcases hab with ⟨rfl, rfl, rfl, rfl, rfl⟩ | ⟨rfl, rfl, rfl, rfl, rfl⟩ | ⟨rfl, rfl, rfl, rfl, rfl⟩ | ⟨rfl, rfl, rfl, rfl, rfl⟩ | ⟨rfl, rfl, rfl, rfl, rfl⟩ <;> first | exact errT_ok 0 (by decide) nn (by omega) (by show (nn : Int) ≤ 15; omega) | exact errT_ok 1 (by decide) nn (by omega) (by show (nn : Int) ≤ 0; omega) | exact errT_ok 2 (by decide) nn (by omega) (by show (nn : Int) ≤ 3; omega) | exact errT_ok 3 (by decide) nn (by omega) (by show (nn : Int) ≤ 1; omega) | exact errT_ok 4 (by decide) nn (by omega) (by show (nn : Int) ≤ 2; omega)
  have hai : (a : Int) = ai := by rcases hab with ⟨rfl, rfl, rfl, rfl, rfl⟩ | ⟨rfl, rfl, rfl, rfl, rfl⟩ | ⟨rfl, rfl, rfl, rfl, rfl⟩ | ⟨rfl, rfl, rfl, rfl, rfl⟩ | ⟨rfl, rfl, rfl, rfl, rfl⟩ <;> rfl
  have ha2 : a < 256 := by omega
  have hnn : nn < 256 := by omega
  clear hab hcm
  clear hA hT hs hx c0
  unfold Made11Post at HM
  dsimp only [Sm.val, Sm.cells] at HM
  dsimp only [Sm.val, Sm.cells]
  go_enter Tryz.func3, Tryz.ntmps3
  go_upto_region 1 with fail
  refine wp_name1 ?_
  intro w1 hb1 hs1 bx
  have L1 := Lib.hid hb1
  clear hb1 hs1
  go_wp2_with fail
  refine (HAw.out w1 L1.out).mono ?_
  rintro e w2 ⟨rfl, l2⟩
  have bx2 := bx.below l2 bx.lt
  have L2 := Lib.hid (L1.out.trans (l2.mono L1.out.size))
  clear l2 bx HAw L1
  go_wp2_with (first | ((with_reducible refine look_load ?_); refine wpList_load_row rfl _ _ rfl _ rfl _ _ _ _ bx2 Tryz.underlying34 rfl (by kernel_rfl) ?_) | fail)
  refine (HM.out w2 L2.out).mono ?_
  rintro e w3 ⟨os, oA, oc, p, data, f, rfl, ho, hd, _, hos, hC, _, l3⟩
  have HL := HLaw.out os data f hos hC
  have fok := HL.fok
  have fright := HL.fright
  have L3 := Lib.hid (L2.out.trans (l3.mono L2.out.size))
  clear ho hd hos hC l3 HLaw HM bx2 HL
  generalize m11F x f = F at *
  generalize m11H x f.key.proto os = h at *
  generalize hop : h.opts.length = ol at *
  obtain ⟨tos, ident, df, mf, off, ttl, proto, src, dst, opts⟩ := h
  dsimp only at hop
  subst hop
  have HRj := Lib.hid (fun (W : World) (hb : Below w.heap.size w W) => reject_any F a nn W fok (Hs.out W hb) ha2)
  rw [hai] at HRj
  dsimp only [IpH.val]
  by_cases hk5 : F.kind = 5
  · obtain ⟨e1, e2⟩ := rej_five fright hk5 a nn
    rw [e1, e2] at HRj
    clear e1 e2 fok fright hkd
    have HZZ := Lib.hid (fun (W : World) => run_eq_facts Facts.zero Facts.zero W)
    rw [facts_eqB_refl] at HZZ
    rw [show Facts.val Facts.zero = .agg #[.int .u8 0, .int .u32 0, .int .u32 0, .int .u16 0, .int .u16 0, .int .u8 0, .int .u8 0, .int .u8 0, .int .u8 0, .int .u32 0, .int .u32 0, .int .i64 0, .int .i64 0, .int .u8 0, .int .u32 0, .int .u32 0, .int .u16 0, .int .u16 0, .int .u8 0] from rfl] at HZZ HRj
    obtain ⟨⟨k0, k1, k2, k3, k4⟩, f1, f2, f3, f4, f5, f6, f7, f8, ⟨z0, z1, z2, z3, z4⟩, f9⟩ := F
    dsimp only at hk5
    subst hk5
    dsimp only [Facts.val, Facts.cells, Key.cells, List.cons_append, List.nil_append] at *
    obtain ⟨q1, q2, q3⟩ := two_blocks w3 37 41 #[.int .u8 0, .int .u16 0, .bool false, .bool false, .int .i64 0, .int .u8 0, .int .u8 0, .int .u32 0, .int .u32 0, .slice none 0 0] #[.int .u8 0, .int .u32 0, .int .u32 0, .int .u16 0, .int .u16 0, .int .u8 0, .int .u8 0, .int .u8 0, .int .u8 0, .int .u32 0, .int .u32 0, .int .i64 0, .int .i64 0, .int .u8 0, .int .u32 0, .int .u32 0, .int .u16 0, .int .u16 0, .int .u8 0] #[.int .u8 tos, .int .u16 ident, .bool df, .bool mf, .int .i64 off, .int .u8 ttl, .int .u8 proto, .int .u32 src, .int .u32 dst, .slice oA opts.length oc] #[.int .u8 k0, .int .u32 k1, .int .u32 k2, .int .u16 k3, .int .u16 k4, .int .u8 5, .int .u8 f2, .int .u8 f3, .int .u8 f4, .int .u32 f5, .int .u32 f6, .int .i64 f7, .int .i64 f8, .int .u8 z0, .int .u32 z1, .int .u32 z2, .int .u16 z3, .int .u16 z4, .int .u8 f9]
    go_upto_region 4 with (first | ((with_reducible refine look_store ?_); refine wpList_store_row rfl _ _ _ rfl _ _ rfl rfl _ _ q1 (by kernel_rfl) (by simp) (by simp [Value.oneCell']) ?_) | ((with_reducible refine look_store ?_); refine wpList_store_row rfl _ _ _ rfl _ _ rfl rfl _ _ q2 (by kernel_rfl) (by simp) (by simp [Value.oneCell']) ?_) | fail)
    try dsimp only [Act.put]
    clear q1 q2 q3
    refine wp_two ?_
    intro w4 hb4 hs4 bh bf
    have L4 := Lib.hid (L3.out.trans (hb4.mono L3.out.size))
    clear hb4 hs4 bh L3
    go_upto_region 5 with (first | ((with_reducible refine look_store ?_); refine wpList_store_new rfl _ _ _ rfl _ _ rfl rfl _ _ rfl (by kernel_rfl) (by simp) (by simp [Value.oneCell']) ?_) | fail)
    try dsimp only [Act.put]
    refine wp_name1 ?_
    intro w5 hb5 hs5 bt
    have bf5 := bf.below hb5 bf.lt
    have L5 := Lib.hid (L4.out.trans (hb5.mono L4.out.size))
    have HR5 := Lib.hid (HRj.out w5 L5.out)
    clear hb5 hs5 bf L4 HRj
    have hct := bt.cell
    have hcf := bf5.cell
    go_upto_region 7 with (first | ((with_reducible refine look_load ?_); refine wpList_load_row rfl _ _ rfl _ rfl _ _ _ _ bf5 Tryz.underlying41 rfl (by kernel_rfl) ?_) | (go_at_call 7; refine HR5.out.mono ?_; rintro e w6 ⟨rfl, l6⟩) | ((with_reducible refine look_store ?_); refine wpList_store_new rfl _ _ _ rfl _ _ rfl rfl _ _ rfl (by kernel_rfl) (by simp) (by simp [Value.oneCell']) ?_) | fail)
    try dsimp only [Act.put]
    refine wp_name1 ?_
    intro w7 hb7 hs7 bg
    have bf7 := (bf5.below l6 bf5.lt).below hb7 (bf5.below l6 bf5.lt).lt
    have L7 := Lib.hid ((L5.out.trans (l6.mono L5.out.size)).trans (hb7.mono (Nat.le_trans L5.out.size l6.size)))
    clear hb7 hs7 l6 hct hcf bt bf5 L5 HR5
    have hcf := bf7.cell
    have heq := HZZ.out w7
    go_wp2_with (first | ((with_reducible refine look_load ?_); refine wpList_load_g (by first | rfl | simp [Region.wanted, yielded]) _ _ rfl _ rfl _ _ _ _ bg Tryz.underlying41 rfl (by kernel_rfl) ?_) | fail)
    go_ret
    exact ⟨rfl, L7.out⟩
  have R := rej_ok fok fright hk5 (k := a) (c := nn) ha2 hnn hkd.1 hkd.2
  have HA5 := rej_five R.right rfl 3 0
  have HR2 := Lib.hid (fun (W : World) (hb : Below w.heap.size w W) => reject_any (F.rejectOk a nn) 3 0 W R.ok (Hs.out W hb) (by decide))
  rw [HA5.1, HA5.2] at HR2
  have HBd := Lib.hid (fun (W : World) (hb : Below w.heap.size w W) => build_all (F.rejectOk a nn) W R.ok (Hs.out W hb))
  rw [R.made.1, R.made.2] at HBd
  rw [R.f1, R.e1] at HRj
  have hlen := R.len
  have hbyt := R.byt
  have hback := R.back
  have HRd := Lib.hid (fun (W : World) (A : Option Addr) (c : Nat) (hc : 56 ≤ c) (hr : Rd W W.heap.size A .u8 (F.rejectOk a nn).buildL) (hb : Below w.heap.size w W) => pktRead_any A c 56 _ W hlen (by decide) hc hbyt hr (Hs.out W hb))
  rw [hback.1, hback.2] at HRd
  have HLn := Lib.hid hlen
  rw [hlen] at HBd
  have HNe := Lib.hid (fun (W : World) => run_ne_facts (F.rejectOk a nn) W)
  have HKe := Lib.hid (fun (W : World) => run_eq_keys F.key F.key W)
  have HKf := Lib.hid (fun (W : World) => run_eq_keys (F.rejectOk a nn).key (F.rejectOk a nn).key W)
  rw [key_eqB_refl] at HKe HKf
  have hk5' : (F.kind == 5) = false := by simp [hk5]
  clear R HA5 hlen hbyt hback fok fright hkd
  generalize hG : (F.rejectOk a nn).buildL = bs at *
  clear hG
  have hv : (F.rejectOk a nn).val = .agg #[.int .u8 1, .int .u32 F.key.dst, .int .u32 F.key.src, .int .u16 0, .int .u16 0, .int .u8 5, .int .u8 0, .int .u8 ai, .int .u8 nn, .int .u32 0, .int .u32 0, .int .i64 0, .int .i64 28, .int .u8 F.key.proto, .int .u32 F.key.src, .int .u32 F.key.dst, .int .u16 F.key.sp, .int .u16 F.key.dp, .int .u8 F.kind] := by rw [← hai]; rfl
  have hkv : (F.rejectOk a nn).key.val = .agg #[.int .u8 1, .int .u32 F.key.dst, .int .u32 F.key.src, .int .u16 0, .int .u16 0] := rfl
  rw [hv] at HRj HR2 HBd HRd HNe
  rw [hkv] at HKf
  rw [show Facts.val Facts.zero = .agg #[.int .u8 0, .int .u32 0, .int .u32 0, .int .u16 0, .int .u16 0, .int .u8 0, .int .u8 0, .int .u8 0, .int .u8 0, .int .u32 0, .int .u32 0, .int .i64 0, .int .i64 0, .int .u8 0, .int .u32 0, .int .u32 0, .int .u16 0, .int .u16 0, .int .u8 0] from rfl] at HR2
  clear hv hkv
  obtain ⟨⟨k0, k1, k2, k3, k4⟩, f1, f2, f3, f4, f5, f6, f7, f8, ⟨z0, z1, z2, z3, z4⟩, f9⟩ := F
  dsimp only [Facts.val, Facts.cells, Key.val, Key.cells, List.cons_append, List.nil_append] at *
  obtain ⟨q1, q2, q3⟩ := two_blocks w3 37 41 #[.int .u8 0, .int .u16 0, .bool false, .bool false, .int .i64 0, .int .u8 0, .int .u8 0, .int .u32 0, .int .u32 0, .slice none 0 0] #[.int .u8 0, .int .u32 0, .int .u32 0, .int .u16 0, .int .u16 0, .int .u8 0, .int .u8 0, .int .u8 0, .int .u8 0, .int .u32 0, .int .u32 0, .int .i64 0, .int .i64 0, .int .u8 0, .int .u32 0, .int .u32 0, .int .u16 0, .int .u16 0, .int .u8 0] #[.int .u8 tos, .int .u16 ident, .bool df, .bool mf, .int .i64 off, .int .u8 ttl, .int .u8 proto, .int .u32 src, .int .u32 dst, .slice oA opts.length oc] #[.int .u8 k0, .int .u32 k1, .int .u32 k2, .int .u16 k3, .int .u16 k4, .int .u8 f1, .int .u8 f2, .int .u8 f3, .int .u8 f4, .int .u32 f5, .int .u32 f6, .int .i64 f7, .int .i64 f8, .int .u8 z0, .int .u32 z1, .int .u32 z2, .int .u16 z3, .int .u16 z4, .int .u8 f9]
  go_upto_region 4 with (first | ((with_reducible refine look_store ?_); refine wpList_store_row rfl _ _ _ rfl _ _ rfl rfl _ _ q1 (by kernel_rfl) (by simp) (by simp [Value.oneCell']) ?_) | ((with_reducible refine look_store ?_); refine wpList_store_row rfl _ _ _ rfl _ _ rfl rfl _ _ q2 (by kernel_rfl) (by simp) (by simp [Value.oneCell']) ?_) | fail)
  try dsimp only [Act.put]
  clear q1 q2 q3
  refine wp_two ?_
  intro w4 hb4 hs4 bh bf
  have L4 := Lib.hid (L3.out.trans (hb4.mono L3.out.size))
  clear hb4 hs4 bh L3
  go_upto_region 5 with (first | ((with_reducible refine look_store ?_); refine wpList_store_new rfl _ _ _ rfl _ _ rfl rfl _ _ rfl (by kernel_rfl) (by simp) (by simp [Value.oneCell']) ?_) | fail)
  try dsimp only [Act.put]
  refine wp_name1 ?_
  intro w5 hb5 hs5 bt
  have bf5 := bf.below hb5 bf.lt
  have L5 := Lib.hid (L4.out.trans (hb5.mono L4.out.size))
  have HR5 := Lib.hid (HRj.out w5 L5.out)
  clear hb5 hs5 bf L4 HRj
  have hct := bt.cell
  have hcf := bf5.cell
  go_upto_region 7 with (first | ((with_reducible refine look_load ?_); refine wpList_load_row rfl _ _ rfl _ rfl _ _ _ _ bf5 Tryz.underlying41 rfl (by kernel_rfl) ?_) | (go_at_call 7; refine HR5.out.mono ?_; rintro e w6 ⟨rfl, l6⟩) | ((with_reducible refine look_store ?_); refine wpList_store_new rfl _ _ _ rfl _ _ rfl rfl _ _ rfl (by kernel_rfl) (by simp) (by simp [Value.oneCell']) ?_) | fail)
  try dsimp only [Act.put]
  refine wp_name1 ?_
  intro w7 hb7 hs7 bg
  have bf7 := (bf5.below l6 bf5.lt).below hb7 (bf5.below l6 bf5.lt).lt
  have bt7 := (bt.below l6 bt.lt).below hb7 (bt.below l6 bt.lt).lt
  have L7 := Lib.hid ((L5.out.trans (l6.mono L5.out.size)).trans (hb7.mono (Nat.le_trans L5.out.size l6.size)))
  have HB7 := Lib.hid (HBd.out w7 L7.out)
  clear hb7 hs7 l6 hct hcf bt bf5 L5 HR5 HBd
  have hcf := bf7.cell
  go_wp2_with (first | ((with_reducible refine look_load ?_); refine wpList_load_row rfl _ _ rfl _ rfl _ _ _ _ bg Tryz.underlying41 rfl (by kernel_rfl) ?_) | fail)
  refine HB7.out.mono ?_
  rintro e w8 ⟨A8, c8, rfl, o8, l8⟩
  obtain ⟨g8, c8', he, _, _, hc8, _⟩ := o8.formL 56 HLn.out (by decide)
  cases he
  have bf8 := bf7.below l8 bf7.lt
  have bt8 := bt7.below l8 bt7.lt
  have bg8 := bg.below l8 bg.lt
  have L8 := Lib.hid (L7.out.trans (l8.mono L7.out.size))
  have H8 := Lib.hid (HRd.out w8 (some ⟨g8, 0, none⟩) c8 hc8 o8.rd L8.out)
  clear l8 bf7 bt7 bg L7 HB7 HRd o8 hc8 hcf HLn
  go_upto_region 11 with (first | (go_at_call 9; refine H8.out.mono ?_; rintro e w9 ⟨rfl, l9⟩) | ((with_reducible refine look_store ?_); refine wpList_store_new rfl _ _ _ rfl _ _ rfl rfl _ _ rfl (by kernel_rfl) (by simp) (by simp [Value.oneCell']) ?_) | fail)
  try dsimp only [Act.put]
  refine wp_name1 ?_
  intro w10 hb10 hs10 bk
  have bf10 := (bf8.below l9 bf8.lt).below hb10 (bf8.below l9 bf8.lt).lt
  have bt10 := (bt8.below l9 bt8.lt).below hb10 (bt8.below l9 bt8.lt).lt
  have bg10 := (bg8.below l9 bg8.lt).below hb10 (bg8.below l9 bg8.lt).lt
  have L10 := Lib.hid ((L8.out.trans (l9.mono L8.out.size)).trans (hb10.mono (Nat.le_trans L8.out.size l9.size)))
  have H10 := Lib.hid (HR2.out w10 L10.out)
  clear l9 hb10 hs10 bf8 bt8 bg8 L8 H8 HR2
  go_upto_region 12 with (first | ((with_reducible refine look_load ?_); refine wpList_load_row rfl _ _ rfl _ rfl _ _ _ _ bg10 Tryz.underlying41 rfl (by kernel_rfl) ?_) | (go_at_call 7; refine H10.out.mono ?_; rintro e w11 ⟨rfl, l11⟩) | ((with_reducible refine look_store ?_); refine wpList_store_new rfl _ _ _ rfl _ _ rfl rfl _ _ rfl (by kernel_rfl) (by simp) (by simp [Value.oneCell']) ?_) | fail)
  try dsimp only [Act.put]
  refine wp_name1 ?_
  intro w12 hb12 hs12 bz
  have bf12 := (bf10.below l11 bf10.lt).below hb12 (bf10.below l11 bf10.lt).lt
  have bt12 := (bt10.below l11 bt10.lt).below hb12 (bt10.below l11 bt10.lt).lt
  have bg12 := (bg10.below l11 bg10.lt).below hb12 (bg10.below l11 bg10.lt).lt
  have bk12 := (bk.below l11 bk.lt).below hb12 (bk.below l11 bk.lt).lt
  have L12 := Lib.hid ((L10.out.trans (l11.mono L10.out.size)).trans (hb12.mono (Nat.le_trans L10.out.size l11.size)))
  clear l11 hb12 hs12 bf10 bt10 bg10 bk bz L10 H10
  have hne := HNe.out w12
  have hke := HKe.out w12
  have hkf := HKf.out w12
  clear HNe HKe HKf
  have hcf := bf12.cell
  have hct := bt12.cell
  have hcg := bg12.cell
  have hrf := bf12.range 0 (l := [.int .u8 k0, .int .u32 k1, .int .u32 k2, .int .u16 k3, .int .u16 k4]) (by simp)
  have hrg := bg12.range 0 (l := [.int .u8 1, .int .u32 k2, .int .u32 k1, .int .u16 0, .int .u16 0]) (by simp)
  have hrq := bg12.range 13 (l := [.int .u8 k0, .int .u32 k1, .int .u32 k2, .int .u16 k3, .int .u16 k4]) (by simp)
  go_wp2_with (first | ((with_reducible refine look_load ?_); refine wpList_load_g (by first | rfl | simp [Region.wanted, yielded]) _ _ rfl _ rfl _ _ _ _ bk12 Tryz.underlying41 rfl (by kernel_rfl) ?_) | ((with_reducible refine look_load ?_); refine wpList_load_g (by first | rfl | simp [Region.wanted, yielded]) _ _ rfl _ rfl _ _ _ _ bg12 Tryz.underlying41 rfl (by kernel_rfl) ?_) | ((with_reducible refine look_load ?_); refine wpList_load_mid_g (by first | rfl | simp [Region.wanted, yielded]) _ _ rfl _ _ rfl _ _ hrq Tryz.underlying39 rfl (by kernel_rfl) ?_) | ((with_reducible refine look_load ?_); refine wpList_load_mid_g (by first | rfl | simp [Region.wanted, yielded]) _ _ rfl _ _ rfl _ _ hrf Tryz.underlying39 rfl (by kernel_rfl) ?_) | ((with_reducible refine look_load ?_); refine wpList_load_mid_g (by first | rfl | simp [Region.wanted, yielded]) _ _ rfl _ _ rfl _ _ hrg Tryz.underlying39 rfl (by kernel_rfl) ?_) | fail)
  go_ret
  exact ⟨rfl, L12.out⟩
theorem buildRejects_any (x : Sm) (hx : x.Ok) (kind code : Int) (w : World) (hA : SmAt w w.heap.size x) (n0 : 0 ≤ kind) (_n1 : kind < 256) (c0 : 0 ≤ code) (_c1 : code < 256) (hT : Tabs w) (hs : SortsAt w) :
    Calls Tryz.prog 3 #[x.val, .int .u8 kind, .int .u8 code] w fun e W => e = .returned (.bool true) ∧ Below w.heap.size w W := by
  have h : kind.tmod 5 = kind % 5 := Int.tmod_eq_emod_of_nonneg n0
  rcases (show kind % 5 = 0 ∨ kind % 5 = 1 ∨ kind % 5 = 2 ∨ kind % 5 = 3 ∨ kind % 5 = 4 by omega) with e | e | e | e | e
  · exact buildRejects_at x hx kind code 3 0 3 15 16 w hA (h.trans e) (by decide) c0 hT hs
  · exact buildRejects_at x hx kind code 4 1 4 0 1 w hA (h.trans e) (by decide) c0 hT hs
  · exact buildRejects_at x hx kind code 5 2 5 3 4 w hA (h.trans e) (by decide) c0 hT hs
  · exact buildRejects_at x hx kind code 11 3 11 1 2 w hA (h.trans e) (by decide) c0 hT hs
  · exact buildRejects_at x hx kind code 12 4 12 2 3 w hA (h.trans e) (by decide) c0 hT hs
end Go.Proofs.YtebeekjcepjcnaaGreatDoor
