/-
  bafflelaw12.BuildAnswers.
-/
import Derived.Lib.MinMax
import Derived.WalkKit
import Derived.WalkSpells
import Derived.WalkLawsBesides
import Derived.WalkSmall
import Derived.Lib.Hide
import Derived.Deep.AppendLies
import Derived.Maps.AppendAt
import Derived.Laws.AppendOwnNone
import Derived.Laws.CopyOwn
import Derived.OneCell
import Derived.Test.YtebeekjcepjcnaaDoorProg
import Derived.Lib.SliceRun
import Derived.RangeFuncNested
import Derived.RangeFuncBound
import Derived.RangeFuncCalls
import Derived.RangeFuncLeaves
import Derived.Shelf.Abstract
import Derived.OwnWalkIn
import Derived.TacticsInMore
import Derived.LoopNIn
import Derived.LoopIn
import Derived.Lib.AppendZeros
import Derived.BigRegion
import Derived.ChangeAlike
import Derived.Deep.RegionLaw
import Derived.Deep.DeepCutAuto
import Derived.Orders
import Derived.RegionTactic
import Derived.Still
import Derived.Deep.MidRow
import Derived.Deep.RegionHeld3
import Derived.MapKept
import Derived.RegionIn
import Derived.Laws.StructEq
import Derived.Laws.BitsAllLaws
import Derived.Deep.CutBlock
import Derived.Test.YtebeekjcepjcnaaDoorBBase
import Derived.Test.YtebeekjcepjcnaaDoorBBits
import Derived.Test.YtebeekjcepjcnaaDoorBCsum
import Derived.Test.YtebeekjcepjcnaaDoorBSum
import Derived.Test.YtebeekjcepjcnaaDoorBConcat
import Derived.Test.YtebeekjcepjcnaaDoorBFix
import Derived.Test.YtebeekjcepjcnaaDoorBFacts
import Derived.Test.YtebeekjcepjcnaaDoorBIpw
import Derived.Test.YtebeekjcepjcnaaDoorBPkt
import Derived.Test.YtebeekjcepjcnaaDoorBRegion
import Derived.Test.YtebeekjcepjcnaaDoorBWalk
import Derived.Test.YtebeekjcepjcnaaDoorBStep
import Derived.Test.YtebeekjcepjcnaaDoorBTcpw
import Derived.Test.YtebeekjcepjcnaaDoorBUdpw
import Derived.Test.YtebeekjcepjcnaaDoorBData
import Derived.Test.YtebeekjcepjcnaaDoorBMaps
import Derived.Test.YtebeekjcepjcnaaDoorBQuoted
import Derived.Test.YtebeekjcepjcnaaDoorBBuilda
import Derived.Test.YtebeekjcepjcnaaDoorBRerr
import Derived.Test.YtebeekjcepjcnaaDoorBIcmpr
import Derived.Test.YtebeekjcepjcnaaDoorBIprd
import Derived.Test.YtebeekjcepjcnaaDoorBFresh
import Derived.Test.YtebeekjcepjcnaaDoorBIpre
import Derived.Test.YtebeekjcepjcnaaDoorBOptsa
import Derived.Test.YtebeekjcepjcnaaDoorBOptsb
import Derived.Test.YtebeekjcepjcnaaDoorBRight
import Derived.Test.YtebeekjcepjcnaaDoorBAnswer
import Derived.Test.YtebeekjcepjcnaaDoorBMade8
import Derived.Test.YtebeekjcepjcnaaDoorBIpback
import Derived.Test.YtebeekjcepjcnaaDoorBMade6p
import Derived.Test.YtebeekjcepjcnaaDoorBOptw
import Derived.Test.YtebeekjcepjcnaaDoorBMade10
import Derived.Test.YtebeekjcepjcnaaDoorBMade9
import Derived.Test.YtebeekjcepjcnaaDoorBLookp
import Derived.Test.YtebeekjcepjcnaaDoorBFailure
import Derived.Test.YtebeekjcepjcnaaDoorBBuildb
import Derived.Test.YtebeekjcepjcnaaDoorBPright
import Derived.Test.YtebeekjcepjcnaaDoorBBuilt
import Derived.Test.YtebeekjcepjcnaaDoorBContu
import Derived.Test.YtebeekjcepjcnaaDoorBContt
import Derived.Test.YtebeekjcepjcnaaDoorBMade11p
import Derived.Test.YtebeekjcepjcnaaDoorBM11law
import Derived.Test.YtebeekjcepjcnaaDoorBConte
import Derived.Test.YtebeekjcepjcnaaDoorBAnswerb
import Derived.Test.YtebeekjcepjcnaaDoorBAwake
import Derived.Test.YtebeekjcepjcnaaDoorBAnslaw
import Derived.Test.YtebeekjcepjcnaaDoorBMade6
import Derived.Test.YtebeekjcepjcnaaDoorBMade11
namespace Go.Proofs.YtebeekjcepjcnaaDoor
open Go.RowKit
set_option maxRecDepth 100000 in
set_option maxHeartbeats 16000000 in
theorem buildAnswers_any (x : Sm) (hx : x.Ok) (w : World) (hA : SmAt w w.heap.size x) (hT : Tabs w) (hs : SortsAt w) :
    Calls Tryd.prog 9 #[x.val] w fun e W => e = .returned (.bool true) ∧ Below w.heap.size w W := by
  have HAw := Lib.hid (fun (W : World) (hb : Below w.heap.size w W) => awake_any W (hs.below hb (Nat.le_refl _)))
  have HM := Lib.hid (fun (W : World) (hb : Below w.heap.size w W) => made11_any x hx W ((hA.below hb (Nat.le_refl _)).more hb.size) (hT.below hb (Nat.le_refl _)) (hs.below hb (Nat.le_refl _)))
  have Hs := Lib.hid (fun (W : World) (hb : Below w.heap.size w W) => hs.below hb (Nat.le_refl _))
  have HLaw := Lib.hid (fun (os : List OE) (data : List Int) (f : Facts) (hos : OsOk os) (hC : Cont (x.kind % 4).toNat data f) => m11_law hx hos hC (by omega))
  clear hA hT hs hx
  unfold Made11Post at HM
  dsimp only [Sm.val, Sm.cells] at HM
  dsimp only [Sm.val, Sm.cells]
  go_enter Tryd.func9, Tryd.ntmps9
  go_upto_region 1 with fail
  refine wp_name1 ?_
  intro w1 hb1 hs1 bx
  have L1 := Lib.hid hb1
  clear hb1 hs1
  go_wp2_with fail
  refine (HAw.out w1 L1.out).mono ?_
  rintro e w2 ⟨rfl, l2⟩
  have bx2 := bx.below l2 bx.lt
  have L2 := Lib.hid (L1.out.trans (l2.mono L1.out.size))
  clear l2 bx HAw L1
  go_wp2_with (first | ((with_reducible refine look_load ?_); refine wpList_load_row rfl _ _ rfl _ rfl _ _ _ _ bx2 Tryd.underlying65 rfl (by kernel_rfl) ?_) | fail)
  refine (HM.out w2 L2.out).mono ?_
  rintro e w3 ⟨os, oA, oc, p, data, f, rfl, ho, hd, _, hos, hC, _, l3⟩
  have HL := HLaw.out os data f hos hC
  have fok := HL.fok
  have fright := HL.fright
  have L3 := Lib.hid (L2.out.trans (l3.mono L2.out.size))
  clear ho hd hos hC l3 HLaw HM bx2 HL
  generalize m11F x f = F at *
  generalize m11H x f.key.proto os = h at *
  generalize hop : h.opts.length = ol at *
  obtain ⟨tos, ident, df, mf, off, ttl, proto, src, dst, opts⟩ := h
  dsimp only at hop
  subst hop
  have HAF := Lib.hid (fun (W : World) (hb : Below w.heap.size w W) => answer_all F W fok (Hs.out W hb))
  have r := right_ok fright
  have hz5 := r.k0
  have hz6 := r.k1
  have HEq := Lib.hid (fun (W : World) => run_eq_facts F F W)
  rw [facts_eqB_refl] at HEq
  have HRt := Lib.hid (fun (g : Facts) (go : g.Ok) (W : World) (hb : Below w.heap.size w W) => right_all g W go (Hs.out W hb))
  have HAg := Lib.hid (fun (g : Facts) (go : g.Ok) (W : World) (hb : Below w.heap.size w W) => answer_all g W go (Hs.out W hb))
  dsimp only [IpH.val]
  by_cases hno : F.kind = 4 ∨ F.kind = 5 ∨ F.rst = true
  · obtain ⟨e1, e2⟩ := ans_none fright hno
    have hv : F.answerF.val = .agg #[.int .u8 0, .int .u32 0, .int .u32 0, .int .u16 0, .int .u16 0, .int .u8 0, .int .u8 0, .int .u8 0, .int .u8 0, .int .u32 0, .int .u32 0, .int .i64 0, .int .i64 0, .int .u8 0, .int .u32 0, .int .u32 0, .int .u16 0, .int .u16 0, .int .u8 0] := by rw [e2]; rfl
    rw [hv, e1] at HAF
    have hfl : (F.kind == 4 || (F.kind == 5 || (bits .and .u8 F.flags 4 != 0))) = true := by
      rcases hno with h | h | h
      · simp [h]
      · simp [h]
      · have hb : (bits .and .u8 F.flags 4 == 0) = false := by
          have h0 := fok.flags0
          have := and_4 F.flags.toNat (by have := fok.flags1; omega)
          rw [show ((F.flags.toNat : Nat) : Int) = F.flags by omega] at this
          rw [this]
          unfold Facts.rst at h
          rw [h]
          rfl
        simp [bne, hb]
    have HFl := Lib.hid hfl
    clear e1 e2 hv hfl fok fright r hz5 hz6 HRt HAg HEq hno
    have HZZ := Lib.hid (fun (W : World) => run_eq_facts Facts.zero Facts.zero W)
    rw [facts_eqB_refl] at HZZ
    rw [show Facts.val Facts.zero = .agg #[.int .u8 0, .int .u32 0, .int .u32 0, .int .u16 0, .int .u16 0, .int .u8 0, .int .u8 0, .int .u8 0, .int .u8 0, .int .u32 0, .int .u32 0, .int .i64 0, .int .i64 0, .int .u8 0, .int .u32 0, .int .u32 0, .int .u16 0, .int .u16 0, .int .u8 0] from rfl] at HZZ
    obtain ⟨⟨k0, k1, k2, k3, k4⟩, f1, f2, f3, f4, f5, f6, f7, f8, ⟨z0, z1, z2, z3, z4⟩, f9⟩ := F
    dsimp only [Facts.val, Facts.cells, Key.cells, List.cons_append, List.nil_append] at *
    obtain ⟨q1, q2, q3⟩ := two_blocks w3 67 27 #[.int .u8 0, .int .u16 0, .bool false, .bool false, .int .i64 0, .int .u8 0, .int .u8 0, .int .u32 0, .int .u32 0, .slice none 0 0] #[.int .u8 0, .int .u32 0, .int .u32 0, .int .u16 0, .int .u16 0, .int .u8 0, .int .u8 0, .int .u8 0, .int .u8 0, .int .u32 0, .int .u32 0, .int .i64 0, .int .i64 0, .int .u8 0, .int .u32 0, .int .u32 0, .int .u16 0, .int .u16 0, .int .u8 0] #[.int .u8 tos, .int .u16 ident, .bool df, .bool mf, .int .i64 off, .int .u8 ttl, .int .u8 proto, .int .u32 src, .int .u32 dst, .slice oA opts.length oc] #[.int .u8 k0, .int .u32 k1, .int .u32 k2, .int .u16 k3, .int .u16 k4, .int .u8 f1, .int .u8 f2, .int .u8 f3, .int .u8 f4, .int .u32 f5, .int .u32 f6, .int .i64 f7, .int .i64 f8, .int .u8 z0, .int .u32 z1, .int .u32 z2, .int .u16 z3, .int .u16 z4, .int .u8 f9]
    go_upto_region 4 with (first | ((with_reducible refine look_store ?_); refine wpList_store_row rfl _ _ _ rfl _ _ rfl rfl _ _ q1 (by kernel_rfl) (by simp) (by simp [Value.oneCell']) ?_) | ((with_reducible refine look_store ?_); refine wpList_store_row rfl _ _ _ rfl _ _ rfl rfl _ _ q2 (by kernel_rfl) (by simp) (by simp [Value.oneCell']) ?_) | fail)
    try dsimp only [Act.put]
    clear q1 q2 q3
    refine wp_two ?_
    intro w4 hb4 hs4 bh bf
    have L4 := Lib.hid (L3.out.trans (hb4.mono L3.out.size))
    have HA4 := Lib.hid (HAF.out w4 L4.out)
    clear hb4 hs4 bh HAF L3
    go_upto_region 5 with (first | ((with_reducible refine look_load ?_); refine wpList_load_row rfl _ _ rfl _ rfl _ _ _ _ bf Tryd.underlying27 rfl (by kernel_rfl) ?_) | (go_at_call 33; refine HA4.out.mono ?_; rintro e w5 ⟨rfl, l5⟩) | ((with_reducible refine look_store ?_); refine wpList_store_new rfl _ _ _ rfl _ _ rfl rfl _ _ rfl (by kernel_rfl) (by simp) (by simp [Value.oneCell']) ?_) | fail)
    try dsimp only [Act.put]
    refine wp_name1 ?_
    intro w6 hb6 hs6 bg
    have bf6 := (bf.below l5 bf.lt).below hb6 (bf.below l5 bf.lt).lt
    have L6 := Lib.hid ((L4.out.trans (l5.mono L4.out.size)).trans (hb6.mono (Nat.le_trans L4.out.size l5.size)))
    clear l5 hb6 hs6 bf HA4 L4
    have hcf := bf6.cell
    have heq := HZZ.out w6
    obtain ⟨b4, hb4⟩ : ∃ b, (f1 == 4) = b := ⟨_, rfl⟩
    obtain ⟨b5, hb5⟩ : ∃ b, (f1 == 5) = b := ⟨_, rfl⟩
    obtain ⟨bf, hbf⟩ : ∃ b, (bits .and .u8 f2 4 != 0) = b := ⟨_, rfl⟩
    have hall := HFl.out
    rw [hb4, hb5, hbf] at hall
    have hb42 : decide (f1 = 4) = b4 := by rw [← hb4]; rfl
    clear HFl
    rcases b4 with _ | _ <;> rcases b5 with _ | _ <;> rcases bf with _ | _
    · cases hall
    all_goals
      clear hall
      go_wp2_with (first | ((with_reducible refine look_load ?_); refine wpList_load_g (by first | rfl | simp [Region.wanted, yielded]) _ _ rfl _ rfl _ _ _ _ bg Tryd.underlying27 rfl (by kernel_rfl) ?_) | fail)
      go_ret
      exact ⟨rfl, L6.out⟩
  by_cases hk2 : F.kind = 2
  · obtain ⟨e1, e2, e3, e4, e5⟩ := ans_udp fright hk2
    have hfl := r.flags (by omega)
    obtain ⟨⟨k0, k1, k2, k3, k4⟩, f1, f2, f3, f4, f5, f6, f7, f8, ⟨z0, z1, z2, z3, z4⟩, f9⟩ := F
    dsimp only at hk2
    dsimp only at hfl
    subst hk2
    subst hfl
    have hv : (Facts.answerF ⟨⟨k0, k1, k2, k3, k4⟩, 2, 0, f3, f4, f5, f6, f7, f8, ⟨z0, z1, z2, z3, z4⟩, f9⟩).val = .agg #[.int .u8 k0, .int .u32 k2, .int .u32 k1, .int .u16 k4, .int .u16 k3, .int .u8 2, .int .u8 0, .int .u8 0, .int .u8 0, .int .u32 0, .int .u32 0, .int .i64 0, .int .i64 f8, .int .u8 0, .int .u32 0, .int .u32 0, .int .u16 0, .int .u16 0, .int .u8 0] := by rw [e2]; rfl
    rw [hv, e1] at HAF
    have HR := Lib.hid (fun (W : World) (hb : Below w.heap.size w W) => HRt.out _ (answerB_ok fok) W hb)
    have HB := Lib.hid (fun (W : World) (hb : Below w.heap.size w W) => HAg.out _ (answerB_ok fok) W hb)
    rw [e3] at HR
    rw [e4, e5] at HB
    rw [show Facts.val (Facts.answerB ⟨⟨k0, k1, k2, k3, k4⟩, 2, 0, f3, f4, f5, f6, f7, f8, ⟨z0, z1, z2, z3, z4⟩, f9⟩) = .agg #[.int .u8 k0, .int .u32 k2, .int .u32 k1, .int .u16 k4, .int .u16 k3, .int .u8 2, .int .u8 0, .int .u8 0, .int .u8 0, .int .u32 0, .int .u32 0, .int .i64 0, .int .i64 f8, .int .u8 0, .int .u32 0, .int .u32 0, .int .u16 0, .int .u16 0, .int .u8 0] from (by rfl)] at HR HB
    have HNe := Lib.hid (fun (W : World) => run_ne_keys ⟨k0, k2, k1, k4, k3⟩ W)
    have h04 : (bits .and .u8 0 4 != 0) = false := by decide
    clear e1 e2 e3 e4 e5 hv HRt HAg fok fright r
    dsimp only [Facts.val, Facts.cells, Key.val, Key.cells, Facts.zero, Key.zero, List.cons_append, List.nil_append] at *
    obtain ⟨q1, q2, q3⟩ := two_blocks w3 67 27 #[.int .u8 0, .int .u16 0, .bool false, .bool false, .int .i64 0, .int .u8 0, .int .u8 0, .int .u32 0, .int .u32 0, .slice none 0 0] #[.int .u8 0, .int .u32 0, .int .u32 0, .int .u16 0, .int .u16 0, .int .u8 0, .int .u8 0, .int .u8 0, .int .u8 0, .int .u32 0, .int .u32 0, .int .i64 0, .int .i64 0, .int .u8 0, .int .u32 0, .int .u32 0, .int .u16 0, .int .u16 0, .int .u8 0] #[.int .u8 tos, .int .u16 ident, .bool df, .bool mf, .int .i64 off, .int .u8 ttl, .int .u8 proto, .int .u32 src, .int .u32 dst, .slice oA opts.length oc] #[.int .u8 k0, .int .u32 k1, .int .u32 k2, .int .u16 k3, .int .u16 k4, .int .u8 2, .int .u8 0, .int .u8 f3, .int .u8 f4, .int .u32 f5, .int .u32 f6, .int .i64 f7, .int .i64 f8, .int .u8 z0, .int .u32 z1, .int .u32 z2, .int .u16 z3, .int .u16 z4, .int .u8 f9]
    go_upto_region 4 with (first | ((with_reducible refine look_store ?_); refine wpList_store_row rfl _ _ _ rfl _ _ rfl rfl _ _ q1 (by kernel_rfl) (by simp) (by simp [Value.oneCell']) ?_) | ((with_reducible refine look_store ?_); refine wpList_store_row rfl _ _ _ rfl _ _ rfl rfl _ _ q2 (by kernel_rfl) (by simp) (by simp [Value.oneCell']) ?_) | fail)
    try dsimp only [Act.put]
    clear q1 q2 q3
    refine wp_two ?_
    intro w4 hb4 hs4 bh bf
    have L4 := Lib.hid (L3.out.trans (hb4.mono L3.out.size))
    have HA4 := Lib.hid (HAF.out w4 L4.out)
    clear hb4 hs4 bh HAF L3
    go_upto_region 5 with (first | ((with_reducible refine look_load ?_); refine wpList_load_row rfl _ _ rfl _ rfl _ _ _ _ bf Tryd.underlying27 rfl (by kernel_rfl) ?_) | (go_at_call 33; refine HA4.out.mono ?_; rintro e w5 ⟨rfl, l5⟩) | ((with_reducible refine look_store ?_); refine wpList_store_new rfl _ _ _ rfl _ _ rfl rfl _ _ rfl (by kernel_rfl) (by simp) (by simp [Value.oneCell']) ?_) | fail)
    try dsimp only [Act.put]
    refine wp_name1 ?_
    intro w6 hb6 hs6 bg
    have bf6 := (bf.below l5 bf.lt).below hb6 (bf.below l5 bf.lt).lt
    have L6 := Lib.hid ((L4.out.trans (l5.mono L4.out.size)).trans (hb6.mono (Nat.le_trans L4.out.size l5.size)))
    clear l5 hb6 hs6 bf HA4 L4
    have hcf := bf6.cell
    have hr5 := bf6.range 0 (l := [.int .u8 k0, .int .u32 k1, .int .u32 k2, .int .u16 k3, .int .u16 k4]) (by simp)
    go_upto_region 8 with (first | ((with_reducible refine look_load ?_); refine wpList_load_mid rfl _ _ rfl _ _ rfl _ _ hr5 Tryd.underlying25 rfl (by kernel_rfl) ?_) | ((with_reducible refine look_store ?_); refine wpList_store_new rfl _ _ _ rfl _ _ rfl rfl _ _ rfl (by kernel_rfl) (by simp) (by simp [Value.oneCell']) ?_) | fail)
    try dsimp only [Act.put]
    refine wp_name1 ?_
    intro w7 hb7 hs7 bk
    have bf7 := bf6.below hb7 bf6.lt
    have bg7 := bg.below hb7 bg.lt
    have L7 := Lib.hid (L6.out.trans (hb7.mono L6.out.size))
    clear hb7 hs7 hcf hr5 bf6 bg L6
    go_wp2_with (first | ((with_reducible refine look_load ?_); refine wpList_load_g (by first | rfl | simp [Region.wanted, yielded]) _ _ rfl _ rfl _ _ _ _ bg7 Tryd.underlying27 rfl (by kernel_rfl) ?_) | fail)
    refine (HR.out w7 L7.out).mono ?_
    rintro e w8 ⟨rfl, l8⟩
    have bf8 := bf7.below l8 bf7.lt
    have bg8 := bg7.below l8 bg7.lt
    have bk8 := bk.below l8 bk.lt
    have L8 := Lib.hid (L7.out.trans (l8.mono L7.out.size))
    clear l8 bf7 bg7 bk L7 HR
    have hcg := bg8.cell
    have hck := bk8.cell
    have hne := HNe.out w8
    go_wp2_with (first | ((with_reducible refine look_load ?_); refine wpList_load_row rfl _ _ rfl _ rfl _ _ _ _ bg8 Tryd.underlying27 rfl (by kernel_rfl) ?_) | fail)
    refine (HB.out w8 L8.out).mono ?_
    rintro e w9 ⟨rfl, l9⟩
    clear hcg hck hne HB HNe
    go_upto_region 11 with (first | ((with_reducible refine look_store ?_); refine wpList_store_new rfl _ _ _ rfl _ _ rfl rfl _ _ rfl (by kernel_rfl) (by simp) (by simp [Value.oneCell']) ?_) | fail)
    try dsimp only [Act.put]
    refine wp_name1 ?_
    intro w10 hb10 hs10 bh
    have bf10 := (bf8.below l9 bf8.lt).below hb10 (bf8.below l9 bf8.lt).lt
    have bg10 := (bg8.below l9 bg8.lt).below hb10 (bg8.below l9 bg8.lt).lt
    have bk10 := (bk8.below l9 bk8.lt).below hb10 (bk8.below l9 bk8.lt).lt
    have L10 := Lib.hid ((L8.out.trans (l9.mono L8.out.size)).trans (hb10.mono (Nat.le_trans L8.out.size l9.size)))
    clear l9 hb10 hs10 bf8 bg8 bk8 L8
    have hcf := bf10.cell
    have heq := HEq.out w10
    go_wp2_with (first | ((with_reducible refine look_load ?_); refine wpList_load_g (by first | rfl | simp [Region.wanted, yielded]) _ _ rfl _ rfl _ _ _ _ bh Tryd.underlying27 rfl (by kernel_rfl) ?_) | ((with_reducible refine look_load ?_); refine wpList_load_g (by first | rfl | simp [Region.wanted, yielded]) _ _ rfl _ rfl _ _ _ _ bf10 Tryd.underlying27 rfl (by kernel_rfl) ?_) | fail)
    go_ret
    exact ⟨rfl, L10.out⟩

  by_cases hk3 : F.kind = 3
  · obtain ⟨e1, e2, e3, e4, e5⟩ := ans_qry fright hk3
    have hfl := r.flags (by omega)
    obtain ⟨⟨k0, k1, k2, k3, k4⟩, f1, f2, f3, f4, f5, f6, f7, f8, ⟨z0, z1, z2, z3, z4⟩, f9⟩ := F
    dsimp only at hk3
    dsimp only at hfl
    subst hk3
    subst hfl
    have hv : (Facts.answerF ⟨⟨k0, k1, k2, k3, k4⟩, 3, 0, f3, f4, f5, f6, f7, f8, ⟨z0, z1, z2, z3, z4⟩, f9⟩).val = .agg #[.int .u8 k0, .int .u32 k2, .int .u32 k1, .int .u16 k4, .int .u16 k3, .int .u8 4, .int .u8 0, .int .u8 (replyN (Int.toNat f3)), .int .u8 f4, .int .u32 0, .int .u32 0, .int .i64 0, .int .i64 f8, .int .u8 0, .int .u32 0, .int .u32 0, .int .u16 0, .int .u16 0, .int .u8 0] := by rw [e2]; rfl
    rw [hv, e1] at HAF
    have HR := Lib.hid (fun (W : World) (hb : Below w.heap.size w W) => HRt.out _ (ansQ_ok fok) W hb)
    have HB := Lib.hid (fun (W : World) (hb : Below w.heap.size w W) => HAg.out _ (ansQ_ok fok) W hb)
    rw [e3] at HR
    rw [e4, e5] at HB
    rw [show Facts.val (Facts.ansQ ⟨⟨k0, k1, k2, k3, k4⟩, 3, 0, f3, f4, f5, f6, f7, f8, ⟨z0, z1, z2, z3, z4⟩, f9⟩) = .agg #[.int .u8 k0, .int .u32 k2, .int .u32 k1, .int .u16 k4, .int .u16 k3, .int .u8 4, .int .u8 0, .int .u8 (replyN (Int.toNat f3)), .int .u8 f4, .int .u32 0, .int .u32 0, .int .i64 0, .int .i64 f8, .int .u8 0, .int .u32 0, .int .u32 0, .int .u16 0, .int .u16 0, .int .u8 0] from (by rfl)] at HR HB
    have HNe := Lib.hid (fun (W : World) => run_ne_keys ⟨k0, k2, k1, k4, k3⟩ W)
    have h04 : (bits .and .u8 0 4 != 0) = false := by decide
    clear e1 e2 e3 e4 e5 hv HRt HAg fok fright r
    dsimp only [Facts.val, Facts.cells, Key.val, Key.cells, Facts.zero, Key.zero, List.cons_append, List.nil_append] at *
    obtain ⟨q1, q2, q3⟩ := two_blocks w3 67 27 #[.int .u8 0, .int .u16 0, .bool false, .bool false, .int .i64 0, .int .u8 0, .int .u8 0, .int .u32 0, .int .u32 0, .slice none 0 0] #[.int .u8 0, .int .u32 0, .int .u32 0, .int .u16 0, .int .u16 0, .int .u8 0, .int .u8 0, .int .u8 0, .int .u8 0, .int .u32 0, .int .u32 0, .int .i64 0, .int .i64 0, .int .u8 0, .int .u32 0, .int .u32 0, .int .u16 0, .int .u16 0, .int .u8 0] #[.int .u8 tos, .int .u16 ident, .bool df, .bool mf, .int .i64 off, .int .u8 ttl, .int .u8 proto, .int .u32 src, .int .u32 dst, .slice oA opts.length oc] #[.int .u8 k0, .int .u32 k1, .int .u32 k2, .int .u16 k3, .int .u16 k4, .int .u8 3, .int .u8 0, .int .u8 f3, .int .u8 f4, .int .u32 f5, .int .u32 f6, .int .i64 f7, .int .i64 f8, .int .u8 z0, .int .u32 z1, .int .u32 z2, .int .u16 z3, .int .u16 z4, .int .u8 f9]
    go_upto_region 4 with (first | ((with_reducible refine look_store ?_); refine wpList_store_row rfl _ _ _ rfl _ _ rfl rfl _ _ q1 (by kernel_rfl) (by simp) (by simp [Value.oneCell']) ?_) | ((with_reducible refine look_store ?_); refine wpList_store_row rfl _ _ _ rfl _ _ rfl rfl _ _ q2 (by kernel_rfl) (by simp) (by simp [Value.oneCell']) ?_) | fail)
    try dsimp only [Act.put]
    clear q1 q2 q3
    refine wp_two ?_
    intro w4 hb4 hs4 bh bf
    have L4 := Lib.hid (L3.out.trans (hb4.mono L3.out.size))
    have HA4 := Lib.hid (HAF.out w4 L4.out)
    clear hb4 hs4 bh HAF L3
    go_upto_region 5 with (first | ((with_reducible refine look_load ?_); refine wpList_load_row rfl _ _ rfl _ rfl _ _ _ _ bf Tryd.underlying27 rfl (by kernel_rfl) ?_) | (go_at_call 33; refine HA4.out.mono ?_; rintro e w5 ⟨rfl, l5⟩) | ((with_reducible refine look_store ?_); refine wpList_store_new rfl _ _ _ rfl _ _ rfl rfl _ _ rfl (by kernel_rfl) (by simp) (by simp [Value.oneCell']) ?_) | fail)
    try dsimp only [Act.put]
    refine wp_name1 ?_
    intro w6 hb6 hs6 bg
    have bf6 := (bf.below l5 bf.lt).below hb6 (bf.below l5 bf.lt).lt
    have L6 := Lib.hid ((L4.out.trans (l5.mono L4.out.size)).trans (hb6.mono (Nat.le_trans L4.out.size l5.size)))
    clear l5 hb6 hs6 bf HA4 L4
    have hcf := bf6.cell
    have hr5 := bf6.range 0 (l := [.int .u8 k0, .int .u32 k1, .int .u32 k2, .int .u16 k3, .int .u16 k4]) (by simp)
    go_upto_region 8 with (first | ((with_reducible refine look_load ?_); refine wpList_load_mid rfl _ _ rfl _ _ rfl _ _ hr5 Tryd.underlying25 rfl (by kernel_rfl) ?_) | ((with_reducible refine look_store ?_); refine wpList_store_new rfl _ _ _ rfl _ _ rfl rfl _ _ rfl (by kernel_rfl) (by simp) (by simp [Value.oneCell']) ?_) | fail)
    try dsimp only [Act.put]
    refine wp_name1 ?_
    intro w7 hb7 hs7 bk
    have bf7 := bf6.below hb7 bf6.lt
    have bg7 := bg.below hb7 bg.lt
    have L7 := Lib.hid (L6.out.trans (hb7.mono L6.out.size))
    clear hb7 hs7 hcf hr5 bf6 bg L6
    go_wp2_with (first | ((with_reducible refine look_load ?_); refine wpList_load_g (by first | rfl | simp [Region.wanted, yielded]) _ _ rfl _ rfl _ _ _ _ bg7 Tryd.underlying27 rfl (by kernel_rfl) ?_) | fail)
    refine (HR.out w7 L7.out).mono ?_
    rintro e w8 ⟨rfl, l8⟩
    have bf8 := bf7.below l8 bf7.lt
    have bg8 := bg7.below l8 bg7.lt
    have bk8 := bk.below l8 bk.lt
    have L8 := Lib.hid (L7.out.trans (l8.mono L7.out.size))
    clear l8 bf7 bg7 bk L7 HR
    have hcg := bg8.cell
    have hck := bk8.cell
    have hne := HNe.out w8
    go_wp2_with (first | ((with_reducible refine look_load ?_); refine wpList_load_row rfl _ _ rfl _ rfl _ _ _ _ bg8 Tryd.underlying27 rfl (by kernel_rfl) ?_) | fail)
    refine (HB.out w8 L8.out).mono ?_
    rintro e w9 ⟨rfl, l9⟩
    clear hcg hck hne HB HNe
    go_upto_region 11 with (first | ((with_reducible refine look_store ?_); refine wpList_store_new rfl _ _ _ rfl _ _ rfl rfl _ _ rfl (by kernel_rfl) (by simp) (by simp [Value.oneCell']) ?_) | fail)
    try dsimp only [Act.put]
    refine wp_name1 ?_
    intro w10 hb10 hs10 bh
    have bf10 := (bf8.below l9 bf8.lt).below hb10 (bf8.below l9 bf8.lt).lt
    have bg10 := (bg8.below l9 bg8.lt).below hb10 (bg8.below l9 bg8.lt).lt
    have bk10 := (bk8.below l9 bk8.lt).below hb10 (bk8.below l9 bk8.lt).lt
    have L10 := Lib.hid ((L8.out.trans (l9.mono L8.out.size)).trans (hb10.mono (Nat.le_trans L8.out.size l9.size)))
    clear l9 hb10 hs10 bf8 bg8 bk8 L8
    have hcf := bf10.cell
    have hcg := bg10.cell
    go_wp2_with fail
    go_ret
    exact ⟨rfl, L10.out⟩

  have hk1 : F.kind = 1 := by omega
  have hrst : F.rst = false := by
    cases h : F.rst
    · rfl
    · exact absurd (.inr (.inr h)) hno
  obtain ⟨e1, e2, e3, e4, e5⟩ := ans_tcp fright hk1 hrst
  have h2 := (r.tcp hk1).2.1
  simp only [Facts.rightTCP, betweenB, Bool.and_eq_true, decide_eq_true_eq] at h2
  have hf6 := fok.flags0
  have hln := h2.2
  have hf64 := h2.1.1.1.2
  have hs0 := fok.seqn0
  have hs1 := fok.seqn1
  have ha0 := fok.ackn0
  have ha1 := fok.ackn1
  clear h2
  obtain ⟨fl, hfl⟩ : ∃ fl : Nat, F.flags = fl := ⟨F.flags.toNat, by omega⟩
  obtain ⟨op, hop⟩ : ∃ op, F.opens = op := ⟨_, rfl⟩
  obtain ⟨FL, hFL⟩ : ∃ FL, (if op then (18 : Int) else 16) = FL := ⟨_, rfl⟩
  obtain ⟨AK, hAK⟩ : ∃ AK, (F.seqn + F.extent) % 4294967296 = AK := ⟨_, rfl⟩
  obtain ⟨YK2, hYK⟩ : ∃ y, (F.ackn + if F.opens then 1 else 0) % 4294967296 = y := ⟨_, rfl⟩
  have hrb : (fl / 4 % 2 == 1) = false := by
    have := hrst
    unfold Facts.rst at this
    rw [hfl, Int.toNat_natCast] at this
    exact this
  have hopv : op = (fl / 2 % 2 == 1 && fl / 16 % 2 == 0) := by rw [← hop]; unfold Facts.opens; rw [hfl, Int.toNat_natCast]
  have hext : F.extent = F.length + ((fl / 2 % 2 : Nat) : Int) + ((fl % 2 : Nat) : Int) := by unfold Facts.extent; rw [hfl, Int.toNat_natCast]
  have hAE : IntKind.u32.wrap (AK - F.seqn) = F.length + ((fl / 2 % 2 : Nat) : Int) + ((fl % 2 : Nat) : Int) := by rw [IntKind.wrap_u32, ← hAK, hext]; omega
  rw [hAK, hYK] at e5
  have hHW : IntKind.u32.wrap (F.ackn + if op then 1 else 0) = YK2 := by rw [IntKind.wrap_u32, ← hYK, hop]
  have g4 : (bits .and .u8 (fl : Int) 4 == 0) = true := by rw [and_4 fl (by omega), hrb]; rfl
  have g4' : (bits .and .u8 (fl : Int) 4 != 0) = false := by rw [bne, g4]; rfl
  have g18 : (bits .and .u8 (fl : Int) 18 == 2) = op := by rw [and_18 fl (by omega), hopv]
  have g2 : (bits .and .u8 (fl : Int) 2 != 0) = (fl / 2 % 2 == 1) := by
    rw [and_u8_2 fl (by omega)]
    rcases Nat.mod_two_eq_zero_or_one (fl / 2) with h | h <;> rw [h] <;> rfl
  have g1 : (bits .and .u8 (fl : Int) 1 != 0) = (fl % 2 == 1) := by
    rw [and_u8_1 fl (by omega)]
    rcases Nat.mod_two_eq_zero_or_one fl with h | h <;> rw [h] <;> rfl
  have hflt : fl < 64 := by omega
  obtain ⟨⟨k0, k1, k2, k3, k4⟩, f1, f2, f3, f4, f5, f6, f7, f8, ⟨z0, z1, z2, z3, z4⟩, f9⟩ := F
  dsimp only at hk1
  dsimp only at hfl hf6 hln hf64 hs0 hs1 ha0 ha1
  subst hk1
  subst hfl
  have HAE := Lib.hid hAE
  have HHW := Lib.hid hHW
  have HOPV := Lib.hid hopv
  have HFL := Lib.hid hFL
  clear hAE hHW hopv hrst hno hrb hext
  have hv : (Facts.answerF ⟨⟨k0, k1, k2, k3, k4⟩, 1, (fl : Int), f3, f4, f5, f6, f7, f8, ⟨z0, z1, z2, z3, z4⟩, f9⟩).val = .agg #[.int .u8 k0, .int .u32 k2, .int .u32 k1, .int .u16 k4, .int .u16 k3, .int .u8 1, .int .u8 FL, .int .u8 0, .int .u8 0, .int .u32 f6, .int .u32 AK, .int .i64 f7, .int .i64 0, .int .u8 0, .int .u32 0, .int .u32 0, .int .u16 0, .int .u16 0, .int .u8 0] := by rw [e2]; (rw [← hFL, ← hop, ← hAK]; rfl)
  rw [hv, e1] at HAF
  have HR := Lib.hid (fun (W : World) (hb : Below w.heap.size w W) => HRt.out _ (ansT_ok fok) W hb)
  have HB := Lib.hid (fun (W : World) (hb : Below w.heap.size w W) => HAg.out _ (ansT_ok fok) W hb)
  rw [e3] at HR
  rw [e4, e5] at HB
  rw [show Facts.val (Facts.ansT ⟨⟨k0, k1, k2, k3, k4⟩, 1, (fl : Int), f3, f4, f5, f6, f7, f8, ⟨z0, z1, z2, z3, z4⟩, f9⟩) = .agg #[.int .u8 k0, .int .u32 k2, .int .u32 k1, .int .u16 k4, .int .u16 k3, .int .u8 1, .int .u8 FL, .int .u8 0, .int .u8 0, .int .u32 f6, .int .u32 AK, .int .i64 f7, .int .i64 0, .int .u8 0, .int .u32 0, .int .u32 0, .int .u16 0, .int .u16 0, .int .u8 0] from (by (rw [← hFL, ← hop, ← hAK]; rfl))] at HR HB
  have HNe := Lib.hid (fun (W : World) => run_ne_keys ⟨k0, k2, k1, k4, k3⟩ W)
  clear e1 e2 e3 e4 e5 hv hop hFL hAK hYK HRt HAg fok fright r
  dsimp only [Facts.val, Facts.cells, Key.val, Key.cells, Facts.zero, Key.zero, List.cons_append, List.nil_append] at *
  obtain ⟨q1, q2, q3⟩ := two_blocks w3 67 27 #[.int .u8 0, .int .u16 0, .bool false, .bool false, .int .i64 0, .int .u8 0, .int .u8 0, .int .u32 0, .int .u32 0, .slice none 0 0] #[.int .u8 0, .int .u32 0, .int .u32 0, .int .u16 0, .int .u16 0, .int .u8 0, .int .u8 0, .int .u8 0, .int .u8 0, .int .u32 0, .int .u32 0, .int .i64 0, .int .i64 0, .int .u8 0, .int .u32 0, .int .u32 0, .int .u16 0, .int .u16 0, .int .u8 0] #[.int .u8 tos, .int .u16 ident, .bool df, .bool mf, .int .i64 off, .int .u8 ttl, .int .u8 proto, .int .u32 src, .int .u32 dst, .slice oA opts.length oc] #[.int .u8 k0, .int .u32 k1, .int .u32 k2, .int .u16 k3, .int .u16 k4, .int .u8 1, .int .u8 (fl : Int), .int .u8 f3, .int .u8 f4, .int .u32 f5, .int .u32 f6, .int .i64 f7, .int .i64 f8, .int .u8 z0, .int .u32 z1, .int .u32 z2, .int .u16 z3, .int .u16 z4, .int .u8 f9]
  go_upto_region 4 with (first | ((with_reducible refine look_store ?_); refine wpList_store_row rfl _ _ _ rfl _ _ rfl rfl _ _ q1 (by kernel_rfl) (by simp) (by simp [Value.oneCell']) ?_) | ((with_reducible refine look_store ?_); refine wpList_store_row rfl _ _ _ rfl _ _ rfl rfl _ _ q2 (by kernel_rfl) (by simp) (by simp [Value.oneCell']) ?_) | fail)
  try dsimp only [Act.put]
  clear q1 q2 q3
  refine wp_two ?_
  intro w4 hb4 hs4 bh bf
  have L4 := Lib.hid (L3.out.trans (hb4.mono L3.out.size))
  have HA4 := Lib.hid (HAF.out w4 L4.out)
  clear hb4 hs4 bh HAF L3
  go_upto_region 5 with (first | ((with_reducible refine look_load ?_); refine wpList_load_row rfl _ _ rfl _ rfl _ _ _ _ bf Tryd.underlying27 rfl (by kernel_rfl) ?_) | (go_at_call 33; refine HA4.out.mono ?_; rintro e w5 ⟨rfl, l5⟩) | ((with_reducible refine look_store ?_); refine wpList_store_new rfl _ _ _ rfl _ _ rfl rfl _ _ rfl (by kernel_rfl) (by simp) (by simp [Value.oneCell']) ?_) | fail)
  try dsimp only [Act.put]
  refine wp_name1 ?_
  intro w6 hb6 hs6 bg
  have bf6 := (bf.below l5 bf.lt).below hb6 (bf.below l5 bf.lt).lt
  have L6 := Lib.hid ((L4.out.trans (l5.mono L4.out.size)).trans (hb6.mono (Nat.le_trans L4.out.size l5.size)))
  clear l5 hb6 hs6 bf HA4 L4
  have hcf := bf6.cell
  have hr5 := bf6.range 0 (l := [.int .u8 k0, .int .u32 k1, .int .u32 k2, .int .u16 k3, .int .u16 k4]) (by simp)
  go_upto_region 8 with (first | ((with_reducible refine look_load ?_); refine wpList_load_mid rfl _ _ rfl _ _ rfl _ _ hr5 Tryd.underlying25 rfl (by kernel_rfl) ?_) | ((with_reducible refine look_store ?_); refine wpList_store_new rfl _ _ _ rfl _ _ rfl rfl _ _ rfl (by kernel_rfl) (by simp) (by simp [Value.oneCell']) ?_) | fail)
  try dsimp only [Act.put]
  refine wp_name1 ?_
  intro w7 hb7 hs7 bk
  have bf7 := bf6.below hb7 bf6.lt
  have bg7 := bg.below hb7 bg.lt
  have L7 := Lib.hid (L6.out.trans (hb7.mono L6.out.size))
  clear hb7 hs7 hcf hr5 bf6 bg L6
  go_wp2_with (first | ((with_reducible refine look_load ?_); refine wpList_load_g (by first | rfl | simp [Region.wanted, yielded]) _ _ rfl _ rfl _ _ _ _ bg7 Tryd.underlying27 rfl (by kernel_rfl) ?_) | fail)
  refine (HR.out w7 L7.out).mono ?_
  rintro e w8 ⟨rfl, l8⟩
  have bf8 := bf7.below l8 bf7.lt
  have bg8 := bg7.below l8 bg7.lt
  have bk8 := bk.below l8 bk.lt
  have L8 := Lib.hid (L7.out.trans (l8.mono L7.out.size))
  clear l8 bf7 bg7 bk L7 HR
  have hcg := bg8.cell
  have hck := bk8.cell
  have hne := HNe.out w8
  go_wp2_with (first | ((with_reducible refine look_load ?_); refine wpList_load_row rfl _ _ rfl _ rfl _ _ _ _ bg8 Tryd.underlying27 rfl (by kernel_rfl) ?_) | fail)
  refine (HB.out w8 L8.out).mono ?_
  rintro e w9 ⟨rfl, l9⟩
  clear hcg hck hne HB HNe
  go_upto_region 11 with (first | ((with_reducible refine look_store ?_); refine wpList_store_new rfl _ _ _ rfl _ _ rfl rfl _ _ rfl (by kernel_rfl) (by simp) (by simp [Value.oneCell']) ?_) | fail)
  try dsimp only [Act.put]
  refine wp_name1 ?_
  intro w10 hb10 hs10 bh
  have bf10 := (bf8.below l9 bf8.lt).below hb10 (bf8.below l9 bf8.lt).lt
  have bg10 := (bg8.below l9 bg8.lt).below hb10 (bg8.below l9 bg8.lt).lt
  have bk10 := (bk8.below l9 bk8.lt).below hb10 (bk8.below l9 bk8.lt).lt
  have L10 := Lib.hid ((L8.out.trans (l9.mono L8.out.size)).trans (hb10.mono (Nat.le_trans L8.out.size l9.size)))
  clear l9 hb10 hs10 bf8 bg8 bk8 L8
  have hcf := bf10.cell
  have hcg := bg10.cell
  have hch := bh.cell
  have hck := bk10.cell
  have hkeq := run_eq_keys ⟨k0, k1, k2, k3, k4⟩ ⟨k0, k1, k2, k3, k4⟩ w10
  rw [key_eqB_refl] at hkeq
  dsimp only [Key.val, Key.cells] at hkeq
  have c18 : bits .and .u8 18 2 = 2 := by decide
  have d18 : bits .andNot .u8 18 2 = 16 := by decide
  have c16 : bits .and .u8 16 2 = 0 := by decide
  have d16 : bits .andNot .u8 16 2 = 16 := by decide
  have w1 : IntKind.i64.wrap (f8 + 1) = f8 + 1 := by rw [IntKind.wrap_i64]; omega
  have w2' : IntKind.i64.wrap (f8 + 1 + 1) = f8 + 1 + 1 := by rw [IntKind.wrap_i64]; omega
  have u0 : IntKind.u32.wrap f8 = f8 := by rw [IntKind.wrap_u32]; omega
  have u1 : IntKind.u32.wrap (f8 + 1) = f8 + 1 := by rw [IntKind.wrap_u32]; omega
  have u2 : IntKind.u32.wrap (f8 + 1 + 1) = f8 + 1 + 1 := by rw [IntKind.wrap_u32]; omega
  obtain ⟨sy, hsy⟩ : ∃ b, (fl / 2 % 2 == 1) = b := ⟨_, rfl⟩
  obtain ⟨fi, hfi⟩ : ∃ b, (fl % 2 == 1) = b := ⟨_, rfl⟩
  have hsyn : ((fl / 2 % 2 : Nat) : Int) = if sy then 1 else 0 := by
    rw [← hsy]
    rcases Nat.mod_two_eq_zero_or_one (fl / 2) with h | h <;> rw [h] <;> rfl
  have hfin : ((fl % 2 : Nat) : Int) = if fi then 1 else 0 := by
    rw [← hfi]
    rcases Nat.mod_two_eq_zero_or_one fl with h | h <;> rw [h] <;> rfl
  rw [hsyn, hfin] at HAE
  have hae := HAE.out
  have hHw := HHW.out
  rw [hsy] at g2
  rw [hfi] at g1
  have hop3 := HOPV.out
  rw [hsy] at hop3
  obtain ⟨q16, hq16⟩ : ∃ b, (fl / 16 % 2 == 0) = b := ⟨_, rfl⟩
  rw [hq16] at hop3
  clear hsyn hfin hsy hfi HAE HHW HOPV hq16
  rcases sy with _ | _ <;> rcases fi with _ | _ <;> rcases op with _ | _
  all_goals first | (exfalso; revert hop3; cases q16 <;> decide) | skip
  all_goals
    clear hop3
    have hFL := HFL.out
    clear HFL
    simp only [if_true, Bool.false_eq_true, if_false] at hFL
    subst hFL
    simp only [if_true, Bool.false_eq_true, if_false, Int.add_zero] at hae hHw hcg hch bg10 bh
    go_wp2_with fail
    go_ret
    exact ⟨rfl, L10.out⟩

end Go.Proofs.YtebeekjcepjcnaaDoor
