/-
  Package build: what is right for an error; what is right for each kind.
-/
import Derived.Test.YtebeekjcepjcnaaGreatDoorRQuoted
import Derived.Test.YtebeekjcepjcnaaGreatDoorRBuilda
namespace Go.Proofs.YtebeekjcepjcnaaGreatDoor
open Go.RowKit

theorem quoted_any (f : Facts) (w : World) : Calls Tryz.prog 82 #[f.val] w fun e w' => e = .returned (.tuple #[f.quoteV, .bool (isQ f.qkind)]) ∧ Below w.heap.size w w' := by
  obtain ⟨⟨k0, k1, k2, k3, k4⟩, kind, flags, type, code, seqn, ackn, window, length, ⟨q0, q1, q2, q3, q4⟩, qkind⟩ := f
  rcases (show qkind = 1 ∨ qkind = 2 ∨ qkind = 3 ∨ qkind = 4 ∨ qkind = 5 ∨ ¬ (1 ≤ qkind ∧ qkind ≤ 5) by omega) with rfl | rfl | rfl | rfl | rfl | hk
  · exact (quoted_one k0 k1 k2 k3 k4 kind flags type code seqn ackn window length q0 q1 q2 q3 q4 w).mono fun e w' ⟨h, l⟩ => ⟨by rw [h]; rfl, l⟩
  · exact (quoted_two k0 k1 k2 k3 k4 kind flags type code seqn ackn window length q0 q1 q2 q3 q4 w).mono fun e w' ⟨h, l⟩ => ⟨by rw [h]; rfl, l⟩
  · exact (quoted_three k0 k1 k2 k3 k4 kind flags type code seqn ackn window length q0 q1 q2 q3 q4 w).mono fun e w' ⟨h, l⟩ => ⟨by rw [h]; rfl, l⟩
  · exact (quoted_four k0 k1 k2 k3 k4 kind flags type code seqn ackn window length q0 q1 q2 q3 q4 w).mono fun e w' ⟨h, l⟩ => ⟨by rw [h]; rfl, l⟩
  · exact (quoted_five k0 k1 k2 k3 k4 kind flags type code seqn ackn window length q0 q1 q2 q3 q4 w).mono fun e w' ⟨h, l⟩ => ⟨by rw [h]; rfl, l⟩
  · have h1 : qkind ≠ 1 := by omega
    have h3 : qkind ≠ 3 := by omega
    refine (quoted_other qkind hk k0 k1 k2 k3 k4 kind flags type code seqn ackn window length q0 q1 q2 q3 q4 w).mono ?_
    rintro e w' ⟨rfl, l⟩
    refine ⟨?_, l⟩
    simp [Facts.quoteV, Facts.quotedF, Facts.zero, Key.zero, Facts.cells, Key.cells, qProto, qFields, qData, isQ_no hk, h1, h3]

/-- What is named for a kind, and whether it is right. -/
def Facts.qPart (f : Facts) : Facts := if f.qkind = 1 then f.quotedF.tcpPart else if f.qkind = 3 ∨ f.qkind = 4 then f.quotedF.queryPart else f.quotedF.udpPart
def Facts.qRight (f : Facts) : Bool := if f.qkind = 1 then f.quotedF.rightTCP else if f.qkind = 3 ∨ f.qkind = 4 then f.quotedF.rightQuery else f.quotedF.rightUDP
theorem qfields_any (f : Facts) (w : World) (hs : SortsAt w) : Calls Tryz.prog (qFields f.qkind) #[f.quotedF.val] w fun e w' => e = .returned (.tuple #[f.qPart.val, .bool f.qRight]) ∧ Below w.heap.size w w' := by
  by_cases h1 : f.qkind = 1
  · have hp : f.qPart = f.quotedF.tcpPart := if_pos h1
    have hr : f.qRight = f.quotedF.rightTCP := if_pos h1
    rw [hp, hr, show qFields f.qkind = 42 by rw [h1]; rfl]
    have hfl : 0 ≤ f.quotedF.flags ∧ f.quotedF.flags < 256 := by simp only [Facts.quotedF]; split <;> omega
    exact rightTCP_any _ w hfl.1 hfl.2
  · by_cases h3 : f.qkind = 3 ∨ f.qkind = 4
    · have hp : f.qPart = f.quotedF.queryPart := by unfold Facts.qPart; rw [if_neg h1, if_pos h3]
      have hr : f.qRight = f.quotedF.rightQuery := by unfold Facts.qRight; rw [if_neg h1, if_pos h3]
      rw [hp, hr, show qFields f.qkind = 46 by rcases h3 with h3 | h3 <;> rw [h3] <;> rfl]
      have ht : 0 ≤ f.quotedF.type ∧ f.quotedF.type < 256 := by simp only [Facts.quotedF]; split <;> omega
      exact rightQuery_any _ w hs ht.1 ht.2 (by simp [Facts.quotedF, Facts.zero])
    · have hp : f.qPart = f.quotedF.udpPart := by unfold Facts.qPart; rw [if_neg h1, if_neg h3]
      have hr : f.qRight = f.quotedF.rightUDP := by unfold Facts.qRight; rw [if_neg h1, if_neg h3]
      rw [hp, hr, show qFields f.qkind = 44 by
        unfold qFields
        by_cases hq : isQ f.qkind = true
        · rw [if_pos hq]
          simp only [isQ, Bool.and_eq_true, decide_eq_true_eq] at hq
          rw [show f.qkind = 2 by omega]; rfl
        · rw [if_neg hq]]
      exact rightUDP_any _ w

/-- What is right for an error. -/
def Facts.errorPart (f : Facts) : Facts := { Facts.zero with key := f.key, kind := f.kind, type := f.type, code := f.code, length := f.length, quoted := f.quoted, qkind := f.qkind }
def Facts.rightError (f : Facts) : Bool := (kind2 f.type.toNat f.code.toNat == 0) && (kind1 f.type.toNat f.code.toNat == f.kind) && isQ f.qkind && f.qRight && (f.quoted.proto == qProto f.qkind) && (f.key.sp == 0) && (f.key.dp == 0) && betweenB f.length 28 65507

/-- Nothing is asked of the world's way. -/
def GTop (_ _ : World) : Prop := True
theorem GTop.mk {W W' : World} : GTop W W' := trivial
theorem quote_open (f : Facts) : ∃ fl ty D, D.oneCell' = true ∧ f.quoteV = .agg #[.int .u8 f.quoted.proto, .int .u32 f.quoted.src, .int .u32 f.quoted.dst, .int .u16 f.quoted.sp, .int .u16 f.quoted.dp, .int .u8 f.qkind, .int .u8 fl, .int .u8 ty, .int .u8 0, .int .u32 0, .int .u32 0, .int .i64 0, .int .i64 0, .int .u8 0, .int .u32 0, .int .u32 0, .int .u16 0, .int .u16 0, .int .u8 0, .int .u8 (qProto f.qkind), .func (.func (qFields f.qkind)) #[] #[], D] ∧
    f.quotedF.val = .agg #[.int .u8 f.quoted.proto, .int .u32 f.quoted.src, .int .u32 f.quoted.dst, .int .u16 f.quoted.sp, .int .u16 f.quoted.dp, .int .u8 f.qkind, .int .u8 fl, .int .u8 ty, .int .u8 0, .int .u32 0, .int .u32 0, .int .i64 0, .int .i64 0, .int .u8 0, .int .u32 0, .int .u32 0, .int .u16 0, .int .u16 0, .int .u8 0] ∧ D = qData f.qkind :=
  ⟨_, _, _, by unfold qData; split <;> rfl, rfl, rfl, rfl⟩
theorem callFunc_q (k : Int) (args : Array Value) (W : World) : (callFunc (qFields k) args).run Tryz.prog W = .ok (.enter (qFields k) args) W := by
  unfold qFields fieldsS
  split
  · split
    · kernel_rfl
    · split
      · kernel_rfl
      · split <;> kernel_rfl
  · kernel_rfl
theorem oneC_int (k : IntKind) (x : Int) : (Value.int k x).oneCell' = true := rfl
theorem oneC_func (f : Fn) (a b : Array Value) : (Value.func f a b).oneCell' = true := rfl
theorem val_cells (f : Facts) : ∃ C : Array Value, f.val = .agg C ∧ C.size = 19 ∧ C.all (·.oneCell') = true := ⟨_, rfl, rfl, by simp [Facts.cells, Key.cells, Value.oneCell']⟩

set_option maxRecDepth 100000 in
set_option maxHeartbeats 4000000 in
theorem rightError_any (f : Facts) (w : World) (hs : SortsAt w) (ht0 : 0 ≤ f.type) (ht1 : f.type < 256) (hc0 : 0 ≤ f.code) :
    Calls Tryz.prog 48 #[f.val] w fun e w' => e = .returned (.tuple #[f.errorPart.val, .bool f.rightError]) ∧ Below w.heap.size w w' := by
  obtain ⟨fl, ty, D, hD, hqv, hqf, hDq⟩ := quote_open f
  clear hDq
  have hcf := callFunc_q f.qkind
  have HQ := Lib.hid (fun W => quoted_any f W)
  have HF := Lib.hid (fun W h => qfields_any f W h)
  have HK := Lib.hid (fun (W : World) (h : SortsAt W) => kindI_any f.type f.code W ht0 ht1 hc0 h)
  obtain ⟨C, hC, hCs, hC1⟩ := val_cells f.qPart
  rw [hqv] at HQ
  rw [hqf, hC] at HF
  have HD := Lib.hid hD
  have HCs := Lib.hid hCs
  have HC1 := Lib.hid hC1
  clear hqv hqf hC hD hCs hC1 ht0 ht1 hc0
  have Hs := Lib.hid hs
  clear hs
  obtain ⟨c1, h1⟩ : ∃ c, (kind2 f.type.toNat f.code.toNat == 0) = c := ⟨_, rfl⟩
  obtain ⟨c2, h2⟩ : ∃ c, (kind1 f.type.toNat f.code.toNat == f.kind) = c := ⟨_, rfl⟩
  obtain ⟨c5, h5⟩ : ∃ c, (f.quoted.proto == qProto f.qkind) = c := ⟨_, rfl⟩
  obtain ⟨c6, h6⟩ : ∃ c, (f.key.sp == 0) = c := ⟨_, rfl⟩
  obtain ⟨c7, h7⟩ : ∃ c, (f.key.dp == 0) = c := ⟨_, rfl⟩
  obtain ⟨c8, h8⟩ : ∃ c, betweenB f.length 28 65507 = c := ⟨_, rfl⟩
  have Hr := Lib.hid (show f.rightError = (c1 && c2 && isQ f.qkind && f.qRight && c5 && c6 && c7 && c8) by unfold Facts.rightError; rw [h1, h2, h5, h6, h7, h8])
  generalize f.rightError = RR at *
  generalize isQ f.qkind = c3 at *
  generalize f.qRight = c4 at *
  generalize qProto f.qkind = qp at *
  generalize qFields f.qkind = qn at *
  generalize kind1 f.type.toNat f.code.toNat = e1 at *
  generalize kind2 f.type.toNat f.code.toNat = e2 at *
  obtain ⟨⟨k0, k1, k2, k3, k4⟩, kind, flags, type, code, seqn, ackn, window, length, ⟨q0, q1, q2, q3, q4⟩, qkind⟩ := f
  dsimp only [Facts.errorPart, Facts.zero, Key.zero, Facts.val, Facts.cells, Key.cells, List.cons_append, List.nil_append]
  dsimp only [Facts.val, Facts.cells, Key.cells, List.cons_append, List.nil_append] at HQ
  try dsimp only at HF
  try dsimp only at HK
  try dsimp only at h1
  try dsimp only at h2
  try dsimp only at h5
  try dsimp only at h6
  try dsimp only at h7
  try dsimp only at h8
  go_enter Tryz.func48, Tryz.ntmps48
  go_upto_region 1 with (fail)
  refine wp_name2 ?_
  intro w1 hb1 hs1 b0 bR
  have Hs1 := Lib.hid (Hs.out.below hb1 (Nat.le_refl _))
  have hc0 := b0.cell
  go_upto_region 2 with (first | (go_at_call 20; refine (HK.out _ Hs1.out).mono ?_; rintro e wk ⟨rfl, rfl⟩) | fail)
  clear hc0
  go_upto_region 3 with (first | ((with_reducible refine look_load ?_); refine wpList_load_row rfl _ _ rfl _ rfl _ _ _ _ b0 Tryz.underlying72 rfl (by kernel_rfl) ?_) | (go_at_call 82; refine (HQ.out _).mono ?_; rintro e w2 ⟨rfl, l2⟩) | ((with_reducible refine look_store ?_); refine wpList_store_new rfl _ _ _ rfl _ _ rfl rfl _ _ rfl (by kernel_rfl) (by simp) (by simp [oneC_int, oneC_func, HD.out]) ?_) | fail)
  try dsimp only [Act.put]
  have b0' := b0.below l2 b0.lt
  have bR' := bR.below l2 bR.lt
  have hb2 := hb1.trans (l2.mono hb1.size)
  have Hs2 := Lib.hid (Hs1.out.below l2 (Nat.le_refl _))
  have hs2 := l2.size
  clear l2 b0 bR Hs1
  refine wp_name1 ?_
  intro w3 hb3 hs3 bq
  have b0 := b0'.below hb3 b0'.lt
  have bR := bR'.below hb3 bR'.lt
  have hb4 := hb2.trans (hb3.mono hb2.size)
  have Hs3 := Lib.hid (Hs2.out.below hb3 (Nat.le_refl _))
  clear b0' bR' hb2 hb3 Hs2 hb1
  have hc0 := b0.cell
  go_upto_region 4 with (first | ((with_reducible refine look_store ?_); refine wpList_store_new rfl _ _ _ rfl _ _ rfl rfl _ _ (by first | (simp only [World.size_alloc] <;> omega) | rfl | omega) (by kernel_rfl) (by simp) (by simp [Value.oneCell']) ?_) | fail)
  clear hc0
  try dsimp only [Act.put]
  refine wp_name1 ?_
  intro w4 hb5 hs5 bx
  rw [hs3] at bx
  have b0' := b0.below hb5 b0.lt
  have bR' := bR.below hb5 bR.lt
  have bq' := bq.below hb5 bq.lt
  have hb6 := hb4.trans (hb5.mono hb4.size)
  have Hs4 := Lib.hid (Hs3.out.below hb5 (Nat.le_refl _))
  clear b0 bR bq hb4 Hs3 hb5
  have hcq := bq'.cell
  have hrq := bq'.range 0 (l := [.int .u8 q0, .int .u32 q1, .int .u32 q2, .int .u16 q3, .int .u16 q4, .int .u8 qkind, .int .u8 fl, .int .u8 ty, .int .u8 0, .int .u32 0, .int .u32 0, .int .i64 0, .int .i64 0, .int .u8 0, .int .u32 0, .int .u32 0, .int .u16 0, .int .u16 0, .int .u8 0]) rfl
  go_upto_region 5 with (first | ((with_reducible refine look_load ?_); refine wpList_load_mid rfl _ _ rfl _ _ rfl _ _ hrq Tryz.underlying72 rfl (by kernel_rfl) ?_) | ((with_reducible refine look_store ?_); refine wpList_store_new rfl _ _ _ rfl _ C rfl rfl _ _ rfl (by rw [HCs.out]; kernel_rfl) (by rw [HCs.out]; rfl) HC1.out ?_) | ((with_reducible refine (HF.out _ Hs4.out).mono ?_); rintro e w5 ⟨rfl, l5⟩) | fail)
  clear hcq hrq
  try dsimp only [Act.put]
  refine wp_name1 ?_
  intro w6 hb7 hs7 bC
  have l6 : Below w4.heap.size w4 w6 := l5.trans (hb7.mono l5.size)
  have b0 := b0'.below l6 b0'.lt
  have bR := bR'.below l6 bR'.lt
  have bq := bq'.below l6 bq'.lt
  have bx2 := bx.below l6 bx.lt
  have hb8 := hb6.trans (l6.mono hb6.size)
  have hSt : St1 w w.heap.size _ (w.heap.size + 1) 72 _ #[.int .u8 k0, .int .u32 k1, .int .u32 k2, .int .u16 k3, .int .u16 k4, .int .u8 kind, .int .u8 0, .int .u8 type, .int .u8 code, .int .u32 0, .int .u32 0, .int .i64 0, .int .i64 length, .int .u8 q0, .int .u32 q1, .int .u32 q2, .int .u16 q3, .int .u16 q4, .int .u8 qkind] 0 w6 := ⟨(((St.nil hb8 hb8.size).cons bx2).cons bq).cons b0, by omega, by simp; omega, bR⟩
  clear b0' bR' bq' bx hb6 hb7 hs7 bC l5 l6 hb8 b0 bR bq bx2 HQ HF HK Hs Hs4 hcf
  cases c1
  · refine wp_region_walk0 (by kernel_rfl) (St1 w w.heap.size _ (w.heap.size + 1) 72 _ #[.int .u8 k0, .int .u32 k1, .int .u32 k2, .int .u16 k3, .int .u16 k4, .int .u8 kind, .int .u8 0, .int .u8 type, .int .u8 code, .int .u32 0, .int .u32 0, .int .i64 0, .int .i64 length, .int .u8 q0, .int .u32 q1, .int .u32 q2, .int .u16 q3, .int .u16 q4, .int .u8 qkind]) [46] GTop [0, 1, 2, 3, 4, 5, 6, 7, 8, 9, 10, 11, 12, 13, 14, 15, 16, 17, 18, 19, 20, 21, 22, 23, 24, 25, 26, 27, 28, 29, 30, 31, 32, 33, 34, 35, 36, 37, 38, 39, 40, 41, 42, 43, 44, 45, 46, 47] (by kernel_rfl) hSt.drew ?_
    repeat (first
      | (apply Walk.store (x := undef) 0 rfl rfl rfl rfl
         case hrun =>
           intro W hE hF
           have hbR := hE.2.2.2
           refine wpList_store_row rfl _ _ _ rfl _ _ rfl rfl _ _ hbR (by kernel_rfl) (by simp) (by simp [Value.oneCell']) ?_
           go_wp2_with fail
           exact TextPost.mk ⟨GTop.mk, hE.put⟩
         case hv => rfl)
      | (apply Walk.det rfl rfl rfl
         case hrun =>
           intro c W hE hF
           have hbx := hE.1.get 2 rfl
           have hc0 := (hE.1.get 0 rfl).cell
           have hcq := (hE.1.get 1 rfl).cell
           first | (refine wpList_load_row rfl 72 _ rfl _ rfl _ _ _ _ hbx Tryz.underlying72 rfl (by kernel_rfl) ?_; go_wp2_with fail) | go_wp2_with (first | (go_at_call 81; refine (between_any _ _ _ _).mono ?_; rintro e wz ⟨rfl, rfl⟩) | fail)
           exact TextPost.mk ⟨GTop.mk, hE⟩
         case hv => rfl))
    refine Walk.done (fun W hE hF => ?_)
    have hbR := hE.2.2.2
    have hbW := hE.1.1
    clear hSt hE hF
    go_wp2_with fail
    refine bodyPost_ret (results_cell_tmp Tryz.results48 _ _ _ _ _ _ _ rfl hbR Tryz.underlying72 rfl (by kernel_rfl)) rfl ⟨?_, hbW⟩
    rw [Hr.out]
    rfl
  cases c2
  · refine wp_region_walk0 (by kernel_rfl) (St1 w w.heap.size _ (w.heap.size + 1) 72 _ #[.int .u8 k0, .int .u32 k1, .int .u32 k2, .int .u16 k3, .int .u16 k4, .int .u8 kind, .int .u8 0, .int .u8 type, .int .u8 code, .int .u32 0, .int .u32 0, .int .i64 0, .int .i64 length, .int .u8 q0, .int .u32 q1, .int .u32 q2, .int .u16 q3, .int .u16 q4, .int .u8 qkind]) [46] GTop [0, 1, 2, 3, 4, 5, 6, 7, 8, 9, 10, 11, 12, 13, 14, 15, 16, 17, 18, 19, 20, 21, 22, 23, 24, 25, 26, 27, 28, 29, 30, 31, 32, 33, 34, 35, 36, 37, 38, 39, 40, 41, 42, 43, 44, 45, 46, 47] (by kernel_rfl) hSt.drew ?_
    repeat (first
      | (apply Walk.store (x := undef) 0 rfl rfl rfl rfl
         case hrun =>
           intro W hE hF
           have hbR := hE.2.2.2
           refine wpList_store_row rfl _ _ _ rfl _ _ rfl rfl _ _ hbR (by kernel_rfl) (by simp) (by simp [Value.oneCell']) ?_
           go_wp2_with fail
           exact TextPost.mk ⟨GTop.mk, hE.put⟩
         case hv => rfl)
      | (apply Walk.det rfl rfl rfl
         case hrun =>
           intro c W hE hF
           have hbx := hE.1.get 2 rfl
           have hc0 := (hE.1.get 0 rfl).cell
           have hcq := (hE.1.get 1 rfl).cell
           first | (refine wpList_load_row rfl 72 _ rfl _ rfl _ _ _ _ hbx Tryz.underlying72 rfl (by kernel_rfl) ?_; go_wp2_with fail) | go_wp2_with (first | (go_at_call 81; refine (between_any _ _ _ _).mono ?_; rintro e wz ⟨rfl, rfl⟩) | fail)
           exact TextPost.mk ⟨GTop.mk, hE⟩
         case hv => rfl))
    refine Walk.done (fun W hE hF => ?_)
    have hbR := hE.2.2.2
    have hbW := hE.1.1
    clear hSt hE hF
    go_wp2_with fail
    refine bodyPost_ret (results_cell_tmp Tryz.results48 _ _ _ _ _ _ _ rfl hbR Tryz.underlying72 rfl (by kernel_rfl)) rfl ⟨?_, hbW⟩
    rw [Hr.out]
    rfl
  cases c3
  · refine wp_region_walk0 (by kernel_rfl) (St1 w w.heap.size _ (w.heap.size + 1) 72 _ #[.int .u8 k0, .int .u32 k1, .int .u32 k2, .int .u16 k3, .int .u16 k4, .int .u8 kind, .int .u8 0, .int .u8 type, .int .u8 code, .int .u32 0, .int .u32 0, .int .i64 0, .int .i64 length, .int .u8 q0, .int .u32 q1, .int .u32 q2, .int .u16 q3, .int .u16 q4, .int .u8 qkind]) [46] GTop [0, 1, 2, 3, 4, 5, 6, 7, 8, 9, 10, 11, 12, 13, 14, 15, 16, 17, 18, 19, 20, 21, 22, 23, 24, 25, 26, 27, 28, 29, 30, 31, 32, 33, 34, 35, 36, 37, 38, 39, 40, 41, 42, 43, 44, 45, 46, 47] (by kernel_rfl) hSt.drew ?_
    repeat (first
      | (apply Walk.store (x := undef) 0 rfl rfl rfl rfl
         case hrun =>
           intro W hE hF
           have hbR := hE.2.2.2
           refine wpList_store_row rfl _ _ _ rfl _ _ rfl rfl _ _ hbR (by kernel_rfl) (by simp) (by simp [Value.oneCell']) ?_
           go_wp2_with fail
           exact TextPost.mk ⟨GTop.mk, hE.put⟩
         case hv => rfl)
      | (apply Walk.det rfl rfl rfl
         case hrun =>
           intro c W hE hF
           have hbx := hE.1.get 2 rfl
           have hc0 := (hE.1.get 0 rfl).cell
           have hcq := (hE.1.get 1 rfl).cell
           first | (refine wpList_load_row rfl 72 _ rfl _ rfl _ _ _ _ hbx Tryz.underlying72 rfl (by kernel_rfl) ?_; go_wp2_with fail) | go_wp2_with (first | (go_at_call 81; refine (between_any _ _ _ _).mono ?_; rintro e wz ⟨rfl, rfl⟩) | fail)
           exact TextPost.mk ⟨GTop.mk, hE⟩
         case hv => rfl))
    refine Walk.done (fun W hE hF => ?_)
    have hbR := hE.2.2.2
    have hbW := hE.1.1
    clear hSt hE hF
    go_wp2_with fail
    refine bodyPost_ret (results_cell_tmp Tryz.results48 _ _ _ _ _ _ _ rfl hbR Tryz.underlying72 rfl (by kernel_rfl)) rfl ⟨?_, hbW⟩
    rw [Hr.out]
    rfl
  cases c4
  · refine wp_region_walk0 (by kernel_rfl) (St1 w w.heap.size _ (w.heap.size + 1) 72 _ #[.int .u8 k0, .int .u32 k1, .int .u32 k2, .int .u16 k3, .int .u16 k4, .int .u8 kind, .int .u8 0, .int .u8 type, .int .u8 code, .int .u32 0, .int .u32 0, .int .i64 0, .int .i64 length, .int .u8 q0, .int .u32 q1, .int .u32 q2, .int .u16 q3, .int .u16 q4, .int .u8 qkind]) [46] GTop [0, 1, 2, 3, 4, 5, 6, 7, 8, 9, 10, 11, 12, 13, 14, 15, 16, 17, 18, 19, 20, 21, 22, 23, 24, 25, 26, 27, 28, 29, 30, 31, 32, 33, 34, 35, 36, 37, 38, 39, 40, 41, 42, 43, 44, 45, 46, 47] (by kernel_rfl) hSt.drew ?_
    repeat (first
      | (apply Walk.store (x := undef) 0 rfl rfl rfl rfl
         case hrun =>
           intro W hE hF
           have hbR := hE.2.2.2
           refine wpList_store_row rfl _ _ _ rfl _ _ rfl rfl _ _ hbR (by kernel_rfl) (by simp) (by simp [Value.oneCell']) ?_
           go_wp2_with fail
           exact TextPost.mk ⟨GTop.mk, hE.put⟩
         case hv => rfl)
      | (apply Walk.det rfl rfl rfl
         case hrun =>
           intro c W hE hF
           have hbx := hE.1.get 2 rfl
           have hc0 := (hE.1.get 0 rfl).cell
           have hcq := (hE.1.get 1 rfl).cell
           first | (refine wpList_load_row rfl 72 _ rfl _ rfl _ _ _ _ hbx Tryz.underlying72 rfl (by kernel_rfl) ?_; go_wp2_with fail) | go_wp2_with (first | (go_at_call 81; refine (between_any _ _ _ _).mono ?_; rintro e wz ⟨rfl, rfl⟩) | fail)
           exact TextPost.mk ⟨GTop.mk, hE⟩
         case hv => rfl))
    refine Walk.done (fun W hE hF => ?_)
    have hbR := hE.2.2.2
    have hbW := hE.1.1
    clear hSt hE hF
    go_wp2_with fail
    refine bodyPost_ret (results_cell_tmp Tryz.results48 _ _ _ _ _ _ _ rfl hbR Tryz.underlying72 rfl (by kernel_rfl)) rfl ⟨?_, hbW⟩
    rw [Hr.out]
    rfl
  cases c5
  · refine wp_region_walk0 (by kernel_rfl) (St1 w w.heap.size _ (w.heap.size + 1) 72 _ #[.int .u8 k0, .int .u32 k1, .int .u32 k2, .int .u16 k3, .int .u16 k4, .int .u8 kind, .int .u8 0, .int .u8 type, .int .u8 code, .int .u32 0, .int .u32 0, .int .i64 0, .int .i64 length, .int .u8 q0, .int .u32 q1, .int .u32 q2, .int .u16 q3, .int .u16 q4, .int .u8 qkind]) [46] GTop [0, 1, 2, 3, 4, 5, 6, 7, 8, 9, 10, 11, 12, 13, 14, 15, 16, 17, 18, 19, 20, 21, 22, 23, 24, 25, 26, 27, 28, 29, 30, 31, 32, 33, 34, 35, 36, 37, 38, 39, 40, 41, 42, 43, 44, 45, 46, 47] (by kernel_rfl) hSt.drew ?_
    repeat (first
      | (apply Walk.store (x := undef) 0 rfl rfl rfl rfl
         case hrun =>
           intro W hE hF
           have hbR := hE.2.2.2
           refine wpList_store_row rfl _ _ _ rfl _ _ rfl rfl _ _ hbR (by kernel_rfl) (by simp) (by simp [Value.oneCell']) ?_
           go_wp2_with fail
           exact TextPost.mk ⟨GTop.mk, hE.put⟩
         case hv => rfl)
      | (apply Walk.det rfl rfl rfl
         case hrun =>
           intro c W hE hF
           have hbx := hE.1.get 2 rfl
           have hc0 := (hE.1.get 0 rfl).cell
           have hcq := (hE.1.get 1 rfl).cell
           first | (refine wpList_load_row rfl 72 _ rfl _ rfl _ _ _ _ hbx Tryz.underlying72 rfl (by kernel_rfl) ?_; go_wp2_with fail) | go_wp2_with (first | (go_at_call 81; refine (between_any _ _ _ _).mono ?_; rintro e wz ⟨rfl, rfl⟩) | fail)
           exact TextPost.mk ⟨GTop.mk, hE⟩
         case hv => rfl))
    refine Walk.done (fun W hE hF => ?_)
    have hbR := hE.2.2.2
    have hbW := hE.1.1
    clear hSt hE hF
    go_wp2_with fail
    refine bodyPost_ret (results_cell_tmp Tryz.results48 _ _ _ _ _ _ _ rfl hbR Tryz.underlying72 rfl (by kernel_rfl)) rfl ⟨?_, hbW⟩
    rw [Hr.out]
    rfl
  cases c6
  · refine wp_region_walk0 (by kernel_rfl) (St1 w w.heap.size _ (w.heap.size + 1) 72 _ #[.int .u8 k0, .int .u32 k1, .int .u32 k2, .int .u16 k3, .int .u16 k4, .int .u8 kind, .int .u8 0, .int .u8 type, .int .u8 code, .int .u32 0, .int .u32 0, .int .i64 0, .int .i64 length, .int .u8 q0, .int .u32 q1, .int .u32 q2, .int .u16 q3, .int .u16 q4, .int .u8 qkind]) [46] GTop [0, 1, 2, 3, 4, 5, 6, 7, 8, 9, 10, 11, 12, 13, 14, 15, 16, 17, 18, 19, 20, 21, 22, 23, 24, 25, 26, 27, 28, 29, 30, 31, 32, 33, 34, 35, 36, 37, 38, 39, 40, 41, 42, 43, 44, 45, 46, 47] (by kernel_rfl) hSt.drew ?_
    repeat (first
      | (apply Walk.store (x := undef) 0 rfl rfl rfl rfl
         case hrun =>
           intro W hE hF
           have hbR := hE.2.2.2
           refine wpList_store_row rfl _ _ _ rfl _ _ rfl rfl _ _ hbR (by kernel_rfl) (by simp) (by simp [Value.oneCell']) ?_
           go_wp2_with fail
           exact TextPost.mk ⟨GTop.mk, hE.put⟩
         case hv => rfl)
      | (apply Walk.det rfl rfl rfl
         case hrun =>
           intro c W hE hF
           have hbx := hE.1.get 2 rfl
           have hc0 := (hE.1.get 0 rfl).cell
           have hcq := (hE.1.get 1 rfl).cell
           first | (refine wpList_load_row rfl 72 _ rfl _ rfl _ _ _ _ hbx Tryz.underlying72 rfl (by kernel_rfl) ?_; go_wp2_with fail) | go_wp2_with (first | (go_at_call 81; refine (between_any _ _ _ _).mono ?_; rintro e wz ⟨rfl, rfl⟩) | fail)
           exact TextPost.mk ⟨GTop.mk, hE⟩
         case hv => rfl))
    refine Walk.done (fun W hE hF => ?_)
    have hbR := hE.2.2.2
    have hbW := hE.1.1
    clear hSt hE hF
    go_wp2_with fail
    refine bodyPost_ret (results_cell_tmp Tryz.results48 _ _ _ _ _ _ _ rfl hbR Tryz.underlying72 rfl (by kernel_rfl)) rfl ⟨?_, hbW⟩
    rw [Hr.out]
    rfl
  cases c7
  · refine wp_region_walk0 (by kernel_rfl) (St1 w w.heap.size _ (w.heap.size + 1) 72 _ #[.int .u8 k0, .int .u32 k1, .int .u32 k2, .int .u16 k3, .int .u16 k4, .int .u8 kind, .int .u8 0, .int .u8 type, .int .u8 code, .int .u32 0, .int .u32 0, .int .i64 0, .int .i64 length, .int .u8 q0, .int .u32 q1, .int .u32 q2, .int .u16 q3, .int .u16 q4, .int .u8 qkind]) [46] GTop [0, 1, 2, 3, 4, 5, 6, 7, 8, 9, 10, 11, 12, 13, 14, 15, 16, 17, 18, 19, 20, 21, 22, 23, 24, 25, 26, 27, 28, 29, 30, 31, 32, 33, 34, 35, 36, 37, 38, 39, 40, 41, 42, 43, 44, 45, 46, 47] (by kernel_rfl) hSt.drew ?_
    repeat (first
      | (apply Walk.store (x := undef) 0 rfl rfl rfl rfl
         case hrun =>
           intro W hE hF
           have hbR := hE.2.2.2
           refine wpList_store_row rfl _ _ _ rfl _ _ rfl rfl _ _ hbR (by kernel_rfl) (by simp) (by simp [Value.oneCell']) ?_
           go_wp2_with fail
           exact TextPost.mk ⟨GTop.mk, hE.put⟩
         case hv => rfl)
      | (apply Walk.det rfl rfl rfl
         case hrun =>
           intro c W hE hF
           have hbx := hE.1.get 2 rfl
           have hc0 := (hE.1.get 0 rfl).cell
           have hcq := (hE.1.get 1 rfl).cell
           first | (refine wpList_load_row rfl 72 _ rfl _ rfl _ _ _ _ hbx Tryz.underlying72 rfl (by kernel_rfl) ?_; go_wp2_with fail) | go_wp2_with (first | (go_at_call 81; refine (between_any _ _ _ _).mono ?_; rintro e wz ⟨rfl, rfl⟩) | fail)
           exact TextPost.mk ⟨GTop.mk, hE⟩
         case hv => rfl))
    refine Walk.done (fun W hE hF => ?_)
    have hbR := hE.2.2.2
    have hbW := hE.1.1
    clear hSt hE hF
    go_wp2_with fail
    refine bodyPost_ret (results_cell_tmp Tryz.results48 _ _ _ _ _ _ _ rfl hbR Tryz.underlying72 rfl (by kernel_rfl)) rfl ⟨?_, hbW⟩
    rw [Hr.out]
    rfl
  cases c8
  · refine wp_region_walk0 (by kernel_rfl) (St1 w w.heap.size _ (w.heap.size + 1) 72 _ #[.int .u8 k0, .int .u32 k1, .int .u32 k2, .int .u16 k3, .int .u16 k4, .int .u8 kind, .int .u8 0, .int .u8 type, .int .u8 code, .int .u32 0, .int .u32 0, .int .i64 0, .int .i64 length, .int .u8 q0, .int .u32 q1, .int .u32 q2, .int .u16 q3, .int .u16 q4, .int .u8 qkind]) [46] GTop [0, 1, 2, 3, 4, 5, 6, 7, 8, 9, 10, 11, 12, 13, 14, 15, 16, 17, 18, 19, 20, 21, 22, 23, 24, 25, 26, 27, 28, 29, 30, 31, 32, 33, 34, 35, 36, 37, 38, 39, 40, 41, 42, 43, 44, 45, 46, 47] (by kernel_rfl) hSt.drew ?_
    repeat (first
      | (apply Walk.store (x := undef) 0 rfl rfl rfl rfl
         case hrun =>
           intro W hE hF
           have hbR := hE.2.2.2
           refine wpList_store_row rfl _ _ _ rfl _ _ rfl rfl _ _ hbR (by kernel_rfl) (by simp) (by simp [Value.oneCell']) ?_
           go_wp2_with fail
           exact TextPost.mk ⟨GTop.mk, hE.put⟩
         case hv => rfl)
      | (apply Walk.det rfl rfl rfl
         case hrun =>
           intro c W hE hF
           have hbx := hE.1.get 2 rfl
           have hc0 := (hE.1.get 0 rfl).cell
           have hcq := (hE.1.get 1 rfl).cell
           first | (refine wpList_load_row rfl 72 _ rfl _ rfl _ _ _ _ hbx Tryz.underlying72 rfl (by kernel_rfl) ?_; go_wp2_with fail) | go_wp2_with (first | (go_at_call 81; refine (between_any _ _ _ _).mono ?_; rintro e wz ⟨rfl, rfl⟩) | fail)
           exact TextPost.mk ⟨GTop.mk, hE⟩
         case hv => rfl))
    refine Walk.done (fun W hE hF => ?_)
    have hbR := hE.2.2.2
    have hbW := hE.1.1
    clear hSt hE hF
    go_wp2_with fail
    refine bodyPost_ret (results_cell_tmp Tryz.results48 _ _ _ _ _ _ _ rfl hbR Tryz.underlying72 rfl (by kernel_rfl)) rfl ⟨?_, hbW⟩
    rw [Hr.out]
    rfl
  · refine wp_region_walk0 (by kernel_rfl) (St1 w w.heap.size _ (w.heap.size + 1) 72 _ #[.int .u8 k0, .int .u32 k1, .int .u32 k2, .int .u16 k3, .int .u16 k4, .int .u8 kind, .int .u8 0, .int .u8 type, .int .u8 code, .int .u32 0, .int .u32 0, .int .i64 0, .int .i64 length, .int .u8 q0, .int .u32 q1, .int .u32 q2, .int .u16 q3, .int .u16 q4, .int .u8 qkind]) [46] GTop [0, 1, 2, 3, 4, 5, 6, 7, 8, 9, 10, 11, 12, 13, 14, 15, 16, 17, 18, 19, 20, 21, 22, 23, 24, 25, 26, 27, 28, 29, 30, 31, 32, 33, 34, 35, 36, 37, 38, 39, 40, 41, 42, 43, 44, 45, 46, 47] (by kernel_rfl) hSt.drew ?_
    repeat (first
      | (apply Walk.store (x := undef) 0 rfl rfl rfl rfl
         case hrun =>
           intro W hE hF
           have hbR := hE.2.2.2
           refine wpList_store_row rfl _ _ _ rfl _ _ rfl rfl _ _ hbR (by kernel_rfl) (by simp) (by simp [Value.oneCell']) ?_
           go_wp2_with fail
           exact TextPost.mk ⟨GTop.mk, hE.put⟩
         case hv => rfl)
      | (apply Walk.det rfl rfl rfl
         case hrun =>
           intro c W hE hF
           have hbx := hE.1.get 2 rfl
           have hc0 := (hE.1.get 0 rfl).cell
           have hcq := (hE.1.get 1 rfl).cell
           first | (refine wpList_load_row rfl 72 _ rfl _ rfl _ _ _ _ hbx Tryz.underlying72 rfl (by kernel_rfl) ?_; go_wp2_with fail) | go_wp2_with (first | (go_at_call 81; refine (between_any _ _ _ _).mono ?_; rintro e wz ⟨rfl, rfl⟩) | fail)
           exact TextPost.mk ⟨GTop.mk, hE⟩
         case hv => rfl))
    refine Walk.done (fun W hE hF => ?_)
    have hbR := hE.2.2.2
    have hbW := hE.1.1
    clear hSt hE hF
    go_wp2_with fail
    refine bodyPost_ret (results_cell_tmp Tryz.results48 _ _ _ _ _ _ _ rfl hbR Tryz.underlying72 rfl (by kernel_rfl)) rfl ⟨?_, hbW⟩
    rw [Hr.out]
    rfl

end Go.Proofs.YtebeekjcepjcnaaGreatDoor
