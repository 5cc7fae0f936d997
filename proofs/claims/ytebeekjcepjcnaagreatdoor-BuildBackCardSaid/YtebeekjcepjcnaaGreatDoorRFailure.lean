/-
  Package build: failure.
-/
import Derived.Test.YtebeekjcepjcnaaGreatDoorRData
namespace Go.Proofs.YtebeekjcepjcnaaGreatDoor
open Go.RowKit

/-- An error's message. -/
def Facts.failL (f : Facts) : List Int := icmpL f.type.toNat f.code.toNat 0 0 (headL (hdrH f.quoted) f.qIn.length ++ f.qIn.take 8 ++ List.replicate (f.length.toNat - 28) 0)

/-- What is known while the head of a quoted packet is cut and 8 bytes of its data are laid behind. -/
def FailE (w0 : World) (t : TypeId) (C : Array Value) (g n cap g6 n6 cap6 : Nat) (qi H : List Int) : Nat → World → Prop
  | 0, W => Below w0.heap.size w0 W ∧ Blk W w0.heap.size t C ∧ Own W w0.heap.size (.slice (some ⟨g, 0, none⟩) n cap) qi ∧ Own W w0.heap.size (.slice (some ⟨g6, 0, none⟩) n6 cap6) (H ++ qi)
  | _ + 1, W => Below w0.heap.size w0 W ∧ Blk W w0.heap.size t C ∧ Own W w0.heap.size (.slice (some ⟨g6, 0, none⟩) 28 cap6) (H ++ qi.take 8)

set_option maxRecDepth 100000 in
set_option maxHeartbeats 4000000 in
theorem failure_any (f : Facts) (w : World) (ho : f.Ok) (hr : f.rightError = true) (hs : SortsAt w) :
    Calls Tryz.prog 49 #[f.val] w fun e w' => ∃ v, e = .returned v ∧ Own w' w.heap.size v f.failL ∧ Below w.heap.size w w' := by
  simp only [Facts.rightError, betweenB, Bool.and_eq_true, decide_eq_true_eq, beq_iff_eq] at hr
  obtain ⟨⟨⟨⟨⟨⟨⟨hk2, z1⟩, hq⟩, hqr⟩, z2⟩, z3⟩, z4⟩, l0, l1⟩ := hr
  have Hk2 := Lib.hid hk2
  clear z1 z2 z3 z4 hk2
  obtain ⟨fl, ty, D, hD, hqv, hqf, hDq⟩ := quote_open f
  unfold qData at hDq
  rw [if_pos hq] at hDq
  have hcf := callFunc_d f.qkind
  have HQ := Lib.hid (fun W => quoted_any f W)
  have HF := Lib.hid (fun W h => qdata_any f W ho hq hqr h)
  have hHd : f.quotedF.key = f.quoted := rfl
  have HH := Lib.hid (fun A dcap dl data W (h1 : data.length = dl) (h2 : dl ≤ 65515) h3 => header_any f.quotedF A dcap dl data W (quotedF_ok ho).key h1 h2 h3)
  have hll := qL_len (quotedF_length f)
  have Hb := Lib.hid (qIn_byt ho)
  have Hl := Lib.hid (qIn_len f)
  rw [hqv] at HQ
  rw [hqf] at HF HH
  rw [hHd] at HH
  have HD := Lib.hid hD
  have Hs := Lib.hid hs
  have t0 := ho.type0
  have t1 := ho.type1
  have c0 := ho.code0
  have c1 := ho.code1
  have HI := Lib.hid (show (if f.qkind = 2 then (f.qL.set 6 0).set 7 0 else f.qL) = f.qIn from rfl)
  obtain ⟨R, hR⟩ : ∃ R, f.failL = R := ⟨_, rfl⟩
  rw [hR]
  unfold Facts.failL at hR
  have HR := Lib.hid hR
  have hO := (quotedF_ok ho).key
  have HO := Lib.hid (show (hdrH f.quoted).Ok from ⟨by simp [hdrH], by simp [hdrH], by simp [hdrH], by simp [hdrH], by simp [hdrH], by simp [hdrH], hO.proto0, hO.proto1, hO.src0, hO.src1, hO.dst0, hO.dst1, Byt.nil⟩)
  clear hO
  clear ho hs hqv hqf hD hHd hq hqr hR
  subst hDq
  generalize f.qIn = qi at *
  generalize f.qL = ql at *
  generalize dataS f.qkind = dn at *
  generalize qFields f.qkind = fn at *
  generalize qProto f.qkind = pr at *
  obtain ⟨⟨k0, k1, k2, k3, k4⟩, kind, flags, type, code, seqn, ackn, window, length, ⟨q0, q1, q2, q3, q4⟩, qkind⟩ := f
  dsimp only at *
  dsimp only [Facts.val, Facts.cells, Key.cells, List.cons_append, List.nil_append]
  dsimp only [Facts.val, Facts.cells, Key.cells, List.cons_append, List.nil_append] at HQ
  go_enter Tryz.func49, Tryz.ntmps49
  go_upto_region 1 with (fail)
  refine wp_name1 ?_
  intro w1 hb1 hs1 b0
  have Hs1 := Lib.hid (Hs.out.below hb1 (Nat.le_refl _))
  go_upto_region 2 with (first | ((with_reducible refine look_load ?_); refine wpList_load_row rfl _ _ rfl _ rfl _ _ _ _ b0 Tryz.underlying72 rfl (by kernel_rfl) ?_) | (go_at_call 82; refine (HQ.out _).mono ?_; rintro e w2 ⟨rfl, l2⟩) | ((with_reducible refine look_store ?_); refine wpList_store_new rfl _ _ _ rfl _ _ rfl rfl _ _ rfl (by kernel_rfl) (by simp) (by simp [oneC_int, oneC_func, HD.out]) ?_) | fail)
  try dsimp only [Act.put]
  have b0' := b0.below l2 b0.lt
  have hb2 := hb1.trans (l2.mono hb1.size)
  have Hs2 := Lib.hid (Hs1.out.below l2 (Nat.le_refl _))
  have hs2 := l2.size
  clear l2 b0 Hs1
  refine wp_name1 ?_
  intro w3 hb3 hs3 bq
  have b0 := b0'.below hb3 b0'.lt
  have hb4 := hb2.trans (hb3.mono hb2.size)
  have Hs3 := Lib.hid (Hs2.out.below hb3 (Nat.le_refl _))
  clear b0' hb2 hb3 Hs2 hb1
  have hcq := bq.cell
  have hrq := bq.range 0 (l := [.int .u8 q0, .int .u32 q1, .int .u32 q2, .int .u16 q3, .int .u16 q4, .int .u8 qkind, .int .u8 fl, .int .u8 ty, .int .u8 0, .int .u32 0, .int .u32 0, .int .i64 0, .int .i64 0, .int .u8 0, .int .u32 0, .int .u32 0, .int .u16 0, .int .u16 0, .int .u8 0]) rfl
  go_upto_region 3 with (first | ((with_reducible refine look_load ?_); refine wpList_load_mid rfl _ _ rfl _ _ rfl _ _ hrq Tryz.underlying72 rfl (by kernel_rfl) ?_) | ((with_reducible refine (HF.out _ Hs3.out).mono ?_); rintro e w4 ⟨v, rfl, own4, l4⟩) | fail)
  clear hcq hrq
  try dsimp only [Act.put]
  obtain ⟨g, cap, rfl, hg0, hg1, hcap, _⟩ := own4.form (by omega)
  have b0' := b0.below l4 b0.lt
  have bq' := bq.below l4 bq.lt
  have hb5 := hb4.trans (l4.mono hb4.size)
  have Hs4 := Lib.hid (Hs3.out.below l4 (Nat.le_refl _))
  have hg2 : w.heap.size ≤ g := Nat.le_trans hb4.size hg0
  have own5 := own4.base_le hb4.size
  have hcq := bq'.cell
  have e6 : (6 : Int) < ql.length := by omega
  have e7 : (7 : Int) < ql.length := by omega
  have HI2 := Lib.hid (show qkind = 2 → (ql.set 6 0).set 7 0 = qi from fun h => by have := HI.out; rwa [if_pos h] at this)
  have HI3 := Lib.hid (show ¬ qkind = 2 → ql = qi from fun h => by have := HI.out; rwa [if_neg h] at this)
  obtain ⟨c, hc⟩ : ∃ c, (qkind == 2) = c := ⟨_, rfl⟩
  cases c
  rotate_left
  · have own6 : Own ((w4.setCell ⟨g, 6, none⟩ (.int .u8 0)).setCell ⟨g, 7, none⟩ (.int .u8 0)) w.heap.size (.slice (some ⟨g, 0, none⟩) ql.length cap) qi := by
      rw [← HI2.out (by simpa using hc)]
      exact (own5.set 6 0).set 7 0
    have hgr := only_setCell (only_setCell (World.grownBy.refl w4 (some g)) (p := ⟨g, 6, none⟩) (.inl rfl) (.int .u8 0)) (p := ⟨g, 7, none⟩) (.inl rfl) (.int .u8 0)
    have hb6 := hb5.trans (below_of_grown hgr hb5.size (fun k hk => by cases hk; exact hg2))
    have b6 := b0'.grown hgr (by simp; have := b0'.lt; omega)
    have q6 := bq'.grown hgr (by simp; have := bq.lt; omega)
    have f6 := own4.free 6
    have f7 := own4.free 7
    have v6 := own4.cell 6 (by omega)
    have v7 := own4.cell 7 (by omega)
    go_upto_region 5 with (fail)
    generalize (w4.setCell ⟨g, 6, none⟩ (.int .u8 0)).setCell ⟨g, 7, none⟩ (.int .u8 0) = W5 at *
    clear f6 f7 v6 v7 hgr own4 own5 l4 b0' bq' hb5 hb4 Hs4 Hs3 hcq b0 bq hc HI2 HI3 HI
    have hrq := q6.range 0 (l := [.int .u8 q0, .int .u32 q1, .int .u32 q2, .int .u16 q3, .int .u16 q4, .int .u8 qkind, .int .u8 fl, .int .u8 ty, .int .u8 0, .int .u32 0, .int .u32 0, .int .i64 0, .int .i64 0, .int .u8 0, .int .u32 0, .int .u32 0, .int .u16 0, .int .u16 0, .int .u8 0]) rfl
    have Hs6 := Lib.hid (Hs.out.below hb6 (Nat.le_refl _))
    have hA := own6.rd
    go_upto_region 6 with (first | ((with_reducible refine look_load ?_); refine wpList_load_mid rfl _ _ rfl _ _ rfl _ _ hrq Tryz.underlying72 rfl (by kernel_rfl) ?_) | (go_at_call 21; refine (HH.out _ _ _ _ _ Hl.out (by omega) hA).mono ?_; rintro e w6 ⟨v, rfl, own7, l6⟩) | fail)
    unfold ipWriteL at own7
    have hHl : (headL (hdrH ⟨q0, q1, q2, q3, q4⟩) qi.length).length = 20 := by rw [headL_len]; rfl
    have HByt := Lib.hid (headL_byt HO.out (by simp [hdrH]) qi.length)
    have hlq := Hl.out
    generalize headL (hdrH ⟨q0, q1, q2, q3, q4⟩) qi.length = H at *
    obtain ⟨g6, cap6, rfl, hg60, hg61, hcap6, _⟩ := own7.form (by simp; omega)
    have hn6 : (H ++ qi).length = 20 + ql.length := by simp; omega
    rw [hn6] at own7 hcap6 ⊢
    have own8 := own7.base_le hb6.size
    have b8 := b6.below l6 b6.lt
    have hb8 := hb6.trans (l6.mono hb6.size)
    have own9 := own6.below l6 (Nat.le_refl _)
    have hgne : g ≠ g6 := by have := (own6.lt (g := g) rfl).2; omega
    clear hrq q6 hA
    have hlt6 : w.heap.size < g6 := Nat.lt_of_lt_of_le b6.lt hg60
    refine wp_region_walk0 (by kernel_rfl) (FailE w 72 _ g ql.length cap g6 (20 + ql.length) cap6 qi H) [9] (fun _ _ => GTop w w) [0, 1, 2, 3, 4, 5, 6, 7, 8, 9, 10] (by kernel_rfl) (show FailE w 72 _ g ql.length cap g6 (20 + ql.length) cap6 qi H 0 _ from ⟨hb8.drew, b8, own9, own8⟩) ?_
    clear HH HQ HF hn6 e6 e7 hg0 hg1 hg2
    have hsb : IntKind.i64.wrap (((20 + ql.length : Nat) : Int) - (ql.length : Int)) = 20 := by rw [IntKind.wrap_i64]; omega
    have hsb2 : IntKind.i64.wrap (20 + (ql.length : Int) - (ql.length : Int)) = 20 := by rw [IntKind.wrap_i64]; omega
    iterate 6
      apply Walk.one rfl rfl rfl
      case hrun =>
        intro c W hE hF
        go_wp2_with fail
        exact TextPost.mk ⟨GTop.mk, hE⟩
      case hv => rfl
    apply Walk.one rfl rfl rfl
    case hrun =>
      intro c W hE hF
      have e20 : (20 : Int) ≤ cap6 := by omega
      go_wp2_with fail
      exact TextPost.mk ⟨GTop.mk, hE⟩
    case hv => rfl
    apply Walk.one rfl rfl rfl
    case hrun =>
      intro c W hE hF
      go_wp2_with fail
      exact TextPost.mk ⟨GTop.mk, hE⟩
    case hv => rfl
    apply Walk.one rfl rfl rfl
    case hrun =>
      intro c W hE hF
      have e8 : (8 : Int) ≤ cap := by omega
      go_wp2_with fail
      exact TextPost.mk ⟨GTop.mk, hE⟩
    case hv => rfl
    apply Walk.store (x := .slice (some ⟨g6, 0, none⟩) 28 cap6) 0 rfl rfl rfl rfl
    case hrun =>
      intro W hE hF
      obtain ⟨hbW, hbB, hoq, hoh⟩ := hE
      have hoh2 := hoh.take_ 20 (by omega)
      have hrq := (hoq.rd.take 8)
      have h8 : (qi.take 8).length = 8 := by simp; omega
      refine app_room rfl _ _ rfl w.heap.size g6 20 cap6 _ rfl hoh2 W.heap.size (some ⟨g, 0, none⟩) 8 cap (qi.take 8) rfl h8.symm hrq (by omega) (by omega) ?_
      intro w7 hown7 hgr7
      rw [h8] at hown7 ⊢
      go_wp2_with fail
      refine TextPost.mk ⟨GTop.mk, hbW.trans (below_of_grown hgr7 hbW.size (fun k hk => by cases hk; omega)), hbB.grown hgr7 (by simp; have := hbB.lt; omega), ?_⟩
      rwa [List.take_left' hHl] at hown7
    case hv => rfl
    apply Walk.one rfl rfl rfl
    case hrun =>
      intro c W hE hF
      go_wp2_with fail
      exact TextPost.mk ⟨GTop.mk, hE⟩
    case hv => rfl
    refine Walk.done (fun W hE hF => ?_)
    obtain ⟨hbW, hbB, hoh⟩ := hE
    have hcB := hbB.cell
    have HsW := Lib.hid (Hs.out.below hbW (Nat.le_refl _))
    have hwz : IntKind.i64.wrap (length - 28) = length - 28 := by rw [IntKind.wrap_i64]; omega
    clear hF
    have hlX : (H ++ qi.take 8).length = 28 := by simp; omega
    go_upto_region 8 with (first | (at_builtin; refine app_zeros rfl _ _ rfl w.heap.size g6 28 cap6 _ rfl hoh (length - 28) (length.toNat - 28) rfl (by omega) (by rw [hlX]; omega) hbW.size ?_; intro v8 w8 hown8 hb8 hgr8 _) | fail)
    have hcB8 := (hbB.grown hgr8 (by simp; omega)).cell
    have hb9 := hbW.trans hb8
    have HsX := Lib.hid (Hs.out.below hb9 (Nat.le_refl _))
    have hl8 : (H ++ qi.take 8 ++ List.replicate (length.toNat - 28) 0).length ≤ 65507 := by rw [List.length_append, hlX, List.length_replicate]; omega
    have hbX : Byt (H ++ qi.take 8 ++ List.replicate (length.toNat - 28) 0) := (HByt.out.append Hb.out).append (Byt.zeros _)
    generalize (H ++ qi.take 8 ++ List.replicate (length.toNat - 28) 0) = X at *
    obtain ⟨A8, c8, rfl, hrd8, _, _⟩ := hown8.open_
    have hty : ((type.toNat : Nat) : Int) = type := by omega
    have hcd : ((code.toNat : Nat) : Int) = code := by omega
    have HW := Lib.hid (icmpWrite_any type.toNat code.toNat 0 0 A8 c8 X w8 (by omega) (by omega) (by omega) (by omega) (by omega) (by omega) HsX.out Hk2.out hl8 hbX hrd8)
    rw [hty, hcd] at HW
    rw [hty, hcd] at HR
    clear hty hcd hlX hHl hl8 hwz
    go_wp2_with (go_at_call 31; refine HW.out.mono ?_; rintro e w9 ⟨v, rfl, hown9, l9⟩)
    go_ret
    rw [HR.out] at hown9
    exact ⟨_, rfl, hown9.base_le hb9.size, hb9.trans (l9.mono hb9.size)⟩
  · have own6 : Own w4 w.heap.size (.slice (some ⟨g, 0, none⟩) ql.length cap) qi := by
      rw [← HI3.out (by simpa using hc)]
      exact own5
    have b6 := b0'
    have q6 := bq'
    have hb6 := hb5
    go_upto_region 5 with (fail)
    generalize w4 = W5 at *
    clear own4 own5 l4 b0' bq' hb5 hb4 Hs4 Hs3 hcq b0 bq hc HI2 HI3 HI
    have hrq := q6.range 0 (l := [.int .u8 q0, .int .u32 q1, .int .u32 q2, .int .u16 q3, .int .u16 q4, .int .u8 qkind, .int .u8 fl, .int .u8 ty, .int .u8 0, .int .u32 0, .int .u32 0, .int .i64 0, .int .i64 0, .int .u8 0, .int .u32 0, .int .u32 0, .int .u16 0, .int .u16 0, .int .u8 0]) rfl
    have Hs6 := Lib.hid (Hs.out.below hb6 (Nat.le_refl _))
    have hA := own6.rd
    go_upto_region 6 with (first | ((with_reducible refine look_load ?_); refine wpList_load_mid rfl _ _ rfl _ _ rfl _ _ hrq Tryz.underlying72 rfl (by kernel_rfl) ?_) | (go_at_call 21; refine (HH.out _ _ _ _ _ Hl.out (by omega) hA).mono ?_; rintro e w6 ⟨v, rfl, own7, l6⟩) | fail)
    unfold ipWriteL at own7
    have hHl : (headL (hdrH ⟨q0, q1, q2, q3, q4⟩) qi.length).length = 20 := by rw [headL_len]; rfl
    have HByt := Lib.hid (headL_byt HO.out (by simp [hdrH]) qi.length)
    have hlq := Hl.out
    generalize headL (hdrH ⟨q0, q1, q2, q3, q4⟩) qi.length = H at *
    obtain ⟨g6, cap6, rfl, hg60, hg61, hcap6, _⟩ := own7.form (by simp; omega)
    have hn6 : (H ++ qi).length = 20 + ql.length := by simp; omega
    rw [hn6] at own7 hcap6 ⊢
    have own8 := own7.base_le hb6.size
    have b8 := b6.below l6 b6.lt
    have hb8 := hb6.trans (l6.mono hb6.size)
    have own9 := own6.below l6 (Nat.le_refl _)
    have hgne : g ≠ g6 := by have := (own6.lt (g := g) rfl).2; omega
    clear hrq q6 hA
    have hlt6 : w.heap.size < g6 := Nat.lt_of_lt_of_le b6.lt hg60
    refine wp_region_walk0 (by kernel_rfl) (FailE w 72 _ g ql.length cap g6 (20 + ql.length) cap6 qi H) [9] (fun _ _ => GTop w w) [0, 1, 2, 3, 4, 5, 6, 7, 8, 9, 10] (by kernel_rfl) (show FailE w 72 _ g ql.length cap g6 (20 + ql.length) cap6 qi H 0 _ from ⟨hb8.drew, b8, own9, own8⟩) ?_
    clear HH HQ HF hn6 e6 e7 hg0 hg1 hg2
    have hsb : IntKind.i64.wrap (((20 + ql.length : Nat) : Int) - (ql.length : Int)) = 20 := by rw [IntKind.wrap_i64]; omega
    have hsb2 : IntKind.i64.wrap (20 + (ql.length : Int) - (ql.length : Int)) = 20 := by rw [IntKind.wrap_i64]; omega
    iterate 6
      apply Walk.one rfl rfl rfl
      case hrun =>
        intro c W hE hF
        go_wp2_with fail
        exact TextPost.mk ⟨GTop.mk, hE⟩
      case hv => rfl
    apply Walk.one rfl rfl rfl
    case hrun =>
      intro c W hE hF
      have e20 : (20 : Int) ≤ cap6 := by omega
      go_wp2_with fail
      exact TextPost.mk ⟨GTop.mk, hE⟩
    case hv => rfl
    apply Walk.one rfl rfl rfl
    case hrun =>
      intro c W hE hF
      go_wp2_with fail
      exact TextPost.mk ⟨GTop.mk, hE⟩
    case hv => rfl
    apply Walk.one rfl rfl rfl
    case hrun =>
      intro c W hE hF
      have e8 : (8 : Int) ≤ cap := by omega
      go_wp2_with fail
      exact TextPost.mk ⟨GTop.mk, hE⟩
    case hv => rfl
    apply Walk.store (x := .slice (some ⟨g6, 0, none⟩) 28 cap6) 0 rfl rfl rfl rfl
    case hrun =>
      intro W hE hF
      obtain ⟨hbW, hbB, hoq, hoh⟩ := hE
      have hoh2 := hoh.take_ 20 (by omega)
      have hrq := (hoq.rd.take 8)
      have h8 : (qi.take 8).length = 8 := by simp; omega
      refine app_room rfl _ _ rfl w.heap.size g6 20 cap6 _ rfl hoh2 W.heap.size (some ⟨g, 0, none⟩) 8 cap (qi.take 8) rfl h8.symm hrq (by omega) (by omega) ?_
      intro w7 hown7 hgr7
      rw [h8] at hown7 ⊢
      go_wp2_with fail
      refine TextPost.mk ⟨GTop.mk, hbW.trans (below_of_grown hgr7 hbW.size (fun k hk => by cases hk; omega)), hbB.grown hgr7 (by simp; have := hbB.lt; omega), ?_⟩
      rwa [List.take_left' hHl] at hown7
    case hv => rfl
    apply Walk.one rfl rfl rfl
    case hrun =>
      intro c W hE hF
      go_wp2_with fail
      exact TextPost.mk ⟨GTop.mk, hE⟩
    case hv => rfl
    refine Walk.done (fun W hE hF => ?_)
    obtain ⟨hbW, hbB, hoh⟩ := hE
    have hcB := hbB.cell
    have HsW := Lib.hid (Hs.out.below hbW (Nat.le_refl _))
    have hwz : IntKind.i64.wrap (length - 28) = length - 28 := by rw [IntKind.wrap_i64]; omega
    clear hF
    have hlX : (H ++ qi.take 8).length = 28 := by simp; omega
    go_upto_region 8 with (first | (at_builtin; refine app_zeros rfl _ _ rfl w.heap.size g6 28 cap6 _ rfl hoh (length - 28) (length.toNat - 28) rfl (by omega) (by rw [hlX]; omega) hbW.size ?_; intro v8 w8 hown8 hb8 hgr8 _) | fail)
    have hcB8 := (hbB.grown hgr8 (by simp; omega)).cell
    have hb9 := hbW.trans hb8
    have HsX := Lib.hid (Hs.out.below hb9 (Nat.le_refl _))
    have hl8 : (H ++ qi.take 8 ++ List.replicate (length.toNat - 28) 0).length ≤ 65507 := by rw [List.length_append, hlX, List.length_replicate]; omega
    have hbX : Byt (H ++ qi.take 8 ++ List.replicate (length.toNat - 28) 0) := (HByt.out.append Hb.out).append (Byt.zeros _)
    generalize (H ++ qi.take 8 ++ List.replicate (length.toNat - 28) 0) = X at *
    obtain ⟨A8, c8, rfl, hrd8, _, _⟩ := hown8.open_
    have hty : ((type.toNat : Nat) : Int) = type := by omega
    have hcd : ((code.toNat : Nat) : Int) = code := by omega
    have HW := Lib.hid (icmpWrite_any type.toNat code.toNat 0 0 A8 c8 X w8 (by omega) (by omega) (by omega) (by omega) (by omega) (by omega) HsX.out Hk2.out hl8 hbX hrd8)
    rw [hty, hcd] at HW
    rw [hty, hcd] at HR
    clear hty hcd hlX hHl hl8 hwz
    go_wp2_with (go_at_call 31; refine HW.out.mono ?_; rintro e w9 ⟨v, rfl, hown9, l9⟩)
    go_ret
    rw [HR.out] at hown9
    exact ⟨_, rfl, hown9.base_le hb9.size, hb9.trans (l9.mono hb9.size)⟩
end Go.Proofs.YtebeekjcepjcnaaGreatDoor
