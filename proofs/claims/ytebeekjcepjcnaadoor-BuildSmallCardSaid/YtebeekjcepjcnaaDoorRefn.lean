/-
  The reference of layer 12: Build of an error's facts.
-/
import Derived.Test.YtebeekjcepjcnaaDoorRefm
namespace Go.Proofs.YtebeekjcepjcnaaDoor
open Go.RowKit Go.Shelf

def sLen : Value → Nat
  | .slice _ n _ => n
  | _ => 0
theorem slice_cap_inj {m : Nat} (x y : Nat × Nat) (h : Value.slice (some ⟨x.1, 0, none⟩) m x.2 = Value.slice (some ⟨y.1, 0, none⟩) m y.2) : x = y := by
  obtain ⟨a, b⟩ := x
  obtain ⟨c, d⟩ := y
  simpa using h
theorem head_take (k : Key) (ql : List Int) : (ipWriteL (hdrH k) ql).take 28 = headL (hdrH k) ql.length ++ ql.take 8 := by
  unfold ipWriteL
  have hl : (headL (hdrH k) ql.length).length = 20 := by rw [headL_len]; rfl
  rw [List.take_append, hl, List.take_of_length_le (by omega)]
theorem rep_snoc (n : Nat) : List.replicate (n + 1) (0 : Int) = List.replicate n 0 ++ [0] := List.replicate_succ'

set_option maxRecDepth 100000 in
set_option maxHeartbeats 4000000 in
theorem rBuild_err (f : Facts) (w : World) (ho : f.Ok) (hr : f.right = true) (h5 : f.kind = 5) :
    Calls Tryd.prog 21 #[f.val] w fun e w' => ∃ v, e = .returned (.tuple #[v, .int .i64 0]) ∧ Own w' w.heap.size v f.buildL ∧ Below w.heap.size w w' := by
  have HR := Lib.hid (fun W => rRight_any f W ho)
  rw [hr] at HR
  have hl := (dataL_len hr).2
  have hd : f.dataL = f.failL := by unfold Facts.dataL; rw [h5]; rfl
  rw [hd] at hl
  have HH := Lib.hid (fun A dcap W h => rWhole_any f.key A dcap _ f.failL W ho.key rfl hl h)
  have HB := Lib.hid (show ipWriteL (hdrH f.key) f.failL = f.buildL by unfold Facts.buildL; rw [hd])
  rw [HB.out] at HH
  have hf := (right_parts hr).2.2
  unfold Facts.fRight at hf
  rw [h5] at hf
  replace hf : f.rightError = true := hf
  simp only [Facts.rightError, betweenB, Bool.and_eq_true, decide_eq_true_eq, beq_iff_eq] at hf
  obtain ⟨⟨⟨⟨⟨⟨⟨hk2, z1⟩, hq⟩, hqr⟩, z2⟩, z3⟩, z4⟩, l0, l1⟩ := hf
  clear z1 z2 z3 z4
  have HC := Lib.hid (fun W => rContent_q f W ho hq hqr)
  have hq8 : 8 ≤ f.qIn.length ∧ f.qIn.length ≤ 20 := by rw [qIn_len]; exact qL_len (quotedF_length f)
  have HQ := Lib.hid (fun A dcap W h => rWhole_any f.quoted A dcap _ f.qIn W ho.quoted rfl (by omega) h)
  have hHl : (headL (hdrH f.quoted) f.qIn.length).length = 20 := by rw [headL_len]; rfl
  have hoQ := ho.quoted
  have HX8 := Lib.hid (show (ipWriteL (hdrH f.quoted) f.qIn).take 28 = headL (hdrH f.quoted) f.qIn.length ++ f.qIn.take 8 from head_take _ _)
  have HXl := Lib.hid (show (ipWriteL (hdrH f.quoted) f.qIn).length = 20 + f.qIn.length by unfold ipWriteL; rw [List.length_append, hHl])
  have HXb := Lib.hid (show Byt (headL (hdrH f.quoted) f.qIn.length ++ f.qIn.take 8) from (headL_byt ⟨by simp [hdrH], by simp [hdrH], by simp [hdrH], by simp [hdrH], by simp [hdrH], by simp [hdrH], hoQ.proto0, hoQ.proto1, hoQ.src0, hoQ.src1, hoQ.dst0, hoQ.dst1, Byt.nil⟩ (by simp [hdrH]) _).append (qIn_byt ho))
  have HX28 := Lib.hid (show (headL (hdrH f.quoted) f.qIn.length ++ f.qIn.take 8).length = 28 by rw [List.length_append, hHl, List.length_take]; omega)
  have HFl := Lib.hid (show f.failL = icmpL f.type.toNat f.code.toNat 0 0 (headL (hdrH f.quoted) f.qIn.length ++ f.qIn.take 8 ++ List.replicate (f.length.toNat - 28) 0) from rfl)
  rw [show ((f.type.toNat : Nat) : Int) = f.type by have := ho.type0; omega, show ((f.code.toNat : Nat) : Int) = f.code by have := ho.code0; omega] at HFl
  obtain ⟨t0, t1⟩ := And.intro ho.type0 ho.type1
  obtain ⟨c0, c1⟩ := And.intro ho.code0 ho.code1
  have HI := Lib.hid (fun D dcap dl data W (a : data.length = dl) (b : dl ≤ 65507) (c : Byt data) h => rIcmpWrite_any f.type f.code 0 D dcap dl data W t0 t1 c0 c1 (by omega) (by omega) hk2 a b c h)
  have hqk : f.qkind = 1 ∨ f.qkind = 2 ∨ f.qkind = 3 ∨ f.qkind = 4 := by simp only [isQ, Bool.and_eq_true, decide_eq_true_eq] at hq; omega
  clear ho hr HB hl hd hq hqr hk2 hHl hoQ t0 t1 c0 c1
  generalize headL (hdrH f.quoted) f.qIn.length ++ f.qIn.take 8 = H28 at *
  generalize ipWriteL (hdrH f.quoted) f.qIn = WL at *
  generalize f.buildL = R at *
  generalize f.failL = FL at *
  generalize f.qIn = qi at *
  obtain ⟨⟨k0, k1, k2, k3, k4⟩, kind, flags, type, code, seqn, ackn, window, length, ⟨q0, q1, q2, q3, q4⟩, qkind⟩ := f
  dsimp only [Facts.quotedF, Facts.zero, Key.zero, Facts.val, Facts.cells, Key.val, Key.cells, List.cons_append, List.nil_append] at HR HC HH HQ
  dsimp only at *
  dsimp only [Facts.val, Facts.cells, Key.val, Key.cells, List.cons_append, List.nil_append]
  subst h5
  obtain ⟨L, rfl⟩ : ∃ n : Nat, length = n := ⟨length.toNat, by omega⟩
  rw [Int.toNat_natCast] at HFl
  have hL28 : 28 ≤ L := by omega
  have hLm : L ≤ 65507 := by omega
  clear l0 l1
  have Hqk := Lib.hid hqk
  have Hq8 := Lib.hid hq8
  clear hqk hq8
  go_enter Tryd.func21, Tryd.ntmps21
  go_upto_region 1 with (fail)
  refine wp_name1 ?_
  intro w1 hb1 hs1 b0
  clear hs1
  go_upto_region 3 with (first | ((with_reducible refine look_load ?_); refine wpList_load_row rfl _ _ rfl _ rfl _ _ _ _ b0 Tryd.underlying27 rfl (by kernel_rfl) ?_) | (go_at_call 44; refine (HR.out _).mono ?_; rintro e w2 ⟨rfl, l2⟩) | fail)
  have b0' := b0.below l2 b0.lt
  have hb2 := hb1.trans (l2.mono hb1.size)
  have hc0 := b0'.cell
  clear b0 l2 hb1 HR
  go_upto_region 6 with (first | ((with_reducible refine look_store ?_); refine wpList_store_new rfl _ _ _ rfl _ _ rfl rfl _ _ rfl (by kernel_rfl) (by simp) (by simp [Value.oneCell']) ?_) | fail)
  clear hc0
  try dsimp only [Act.put]
  refine wp_name1 ?_
  intro w3 hb3 hs3 bq
  clear hs3
  have b0 := b0'.below hb3 b0'.lt
  have hb4 := hb2.trans (hb3.mono hb2.size)
  have hgq : w.heap.size < w2.heap.size := b0'.lt
  clear b0' hb2 hb3
  have hcq := bq.cell
  have hfq := bq.frozen
  have hq8 := Hq8.out
  rcases Hqk.out with rfl | rfl | rfl | rfl
  · go_wp2_with fail
    have bq' := bq.set 6 (.int .u8 16)
    have b0' := b0.far (p := ⟨w2.heap.size, 6, none⟩) (by show w.heap.size ≠ w2.heap.size; omega) (.int .u8 16)
    have hb5 := hb4.setCell (p := ⟨w2.heap.size, 6, none⟩) (by show w.heap.size ≤ w2.heap.size; omega) (.int .u8 16)
    simp only [List.setIfInBounds_toArray, List.set_cons_succ, List.set_cons_zero] at bq'
    generalize w3.setCell ⟨w2.heap.size, 6, none⟩ (.int .u8 16) = w5 at *
    clear bq b0 hb4 hcq hfq
    have hSt := ((St.nil hb5 hb5.size).cons bq').cons b0'
    clear bq' b0' hb5
    refine wp_region_walk0 (by kernel_rfl) (fun _ W => St w w.heap.size _ W) [] Grow [0, 1, 2, 3, 4, 5, 6] (by kernel_rfl) hSt.drew ?_
    have Hqx := Lib.hid (And.intro hL28 (And.intro hLm (And.intro hgq hq8)))
    clear hL28 hLm hgq hq8
    apply Walk.one rfl rfl rfl
    case hrun =>
      intro c W hE hF
      go_wp2_with fail
      exact TextPost.mk ⟨Grow.refl _, hE⟩
    case hv => rfl
    apply Walk.one rfl rfl rfl
    case hrun =>
      intro c W hE hF
      have hrq := (hE.get 0 rfl).range 13 (l := [.int .u8 q0, .int .u32 q1, .int .u32 q2, .int .u16 q3, .int .u16 q4]) rfl
      go_wp2_with (first | ((with_reducible refine look_load ?_); refine wpList_load_mid rfl _ _ rfl _ _ rfl _ _ hrq Tryd.underlying25 rfl (by kernel_rfl) ?_) | fail)
      exact TextPost.mk ⟨Grow.refl _, hE⟩
    case hv => rfl
    apply Walk.one rfl rfl rfl
    case hrun =>
      intro c W hE hF
      have hbp := hE.get 1 rfl
      go_wp2_with (first | ((with_reducible refine look_load ?_); refine wpList_load_row rfl _ _ rfl _ rfl _ _ _ _ hbp Tryd.underlying27 rfl (by kernel_rfl) ?_) | fail)
      exact TextPost.mk ⟨Grow.refl _, hE⟩
    case hv => rfl
    refine Walk.anyOf (fun v => v) (fun _ _ h => h) (fun v W => Own W w.heap.size v qi) (fun _ _ _ h hG => h.keep hG) rfl rfl rfl (by kernel_rfl) (by kernel_rfl) ?_ (fun v => ?_)
    · intro c W hE hF
      go_wp2_with fail
      refine (HC.out W).mono ?_
      rintro e W2 ⟨v, rfl, hown, l⟩
      go_wp2_with fail
      exact ⟨v, rfl, hown.base_le hE.2.1, l, hE.below l⟩
    dsimp only [Act.put]
    simp only [List.setIfInBounds_toArray, List.set_cons_succ, List.set_cons_zero]
    refine Walk.anyOf (fun p : Nat × Nat => .slice (some ⟨p.1, 0, none⟩) (20 + qi.length) p.2) slice_cap_inj (fun p W => Own W (w.heap.size + 1) (.slice (some ⟨p.1, 0, none⟩) (20 + qi.length) p.2) WL ∧ 28 ≤ p.2) (fun _ _ _ h hG => ⟨h.1.keep hG, h.2⟩) rfl rfl rfl (by kernel_rfl) (by kernel_rfl) ?_ (fun p => ?_)
    · intro c W hE hF
      obtain ⟨A, cap, rfl, hrd, _, _⟩ := hF.head.open_
      go_wp2_with fail
      refine (HQ.out A cap W hrd).mono ?_
      rintro e W2 ⟨v, rfl, hown, l⟩
      obtain ⟨g, cap2, rfl, _, _, hcap, _⟩ := hown.form (by rw [HXl.out]; omega)
      rw [HXl.out] at hown hcap ⊢
      go_wp2_with fail
      exact ⟨(g, cap2), rfl, ⟨hown.base_le (hE.get 0 rfl).lt, by have := Hqx.out.2.2.2; show 28 ≤ cap2; omega⟩, l, hE.below l⟩
    obtain ⟨g, cap⟩ := p
    dsimp only [Act.put]
    simp only [List.setIfInBounds_toArray, List.set_cons_succ, List.set_cons_zero]
    apply Walk.one rfl rfl rfl
    case hrun =>
      intro c W hE hF
      have e28 : (28 : Int) ≤ cap := by have := hF.head.2; omega
      go_wp2_with fail
      exact TextPost.mk ⟨Grow.refl _, hE⟩
    case hv => rfl
    apply Walk.one rfl rfl rfl
    case hrun =>
      intro c W hE hF
      go_wp2_with fail
      exact TextPost.mk ⟨Grow.refl _, hE⟩
    case hv => rfl
    obtain ⟨hL28, hLm, hgq, hq8⟩ := Hqx.out
    refine Walk.done (fun W hE hF => ?_)
    have own28 := hF.head.1.take_ 28 (by omega)
    try dsimp only at own28
    rw [HX8.out] at own28
    have hbW := hE.1
    have bW := hE.get 0 rfl
    have Hown := Lib.hid own28
    clear hSt hE hF own28
    go_wp2_with fail
    go_loopw [5] (fun v wr => ∃ (k g cap : Nat), k + 28 ≤ L ∧ v = .slice (some ⟨g, 0, none⟩) (28 + k) cap ∧ Own wr (w.heap.size + 1) (.slice (some ⟨g, 0, none⟩) (28 + k) cap) (H28 ++ List.replicate k 0) ∧ Blk wr w.heap.size 27 #[.int .u8 k0, .int .u32 k1, .int .u32 k2, .int .u16 k3, .int .u16 k4, .int .u8 5, .int .u8 flags, .int .u8 type, .int .u8 code, .int .u32 seqn, .int .u32 ackn, .int .i64 window, .int .i64 (L : Int), .int .u8 q0, .int .u32 q1, .int .u32 q2, .int .u16 q3, .int .u16 q4, .int .u8 1] ∧ Below w.heap.size w wr) (fun v _ => L - sLen v)
    case atStart => exact ⟨0, g, cap, by omega, rfl, by simpa using Hown.out, bW, hbW⟩
    case round =>
      obtain ⟨k, g, cap, hk, rfl, hown, hbx, hbw⟩ := hrel
      have hcx := hbx.cell
      have hl9 : (H28 ++ List.replicate k (0 : Int) ++ [0]).length = 28 + (k + 1) := by rw [List.length_append, List.length_append, HX28.out, List.length_replicate]; rfl
      have hl8 : (H28 ++ List.replicate k (0 : Int)).length = 28 + k := by rw [List.length_append, HX28.out, List.length_replicate]
      have Hl9 := Lib.hid hl9
      have Hl8 := Lib.hid hl8
      clear hl9 hl8
      have hszw := hbw.size
      by_cases hlt : k + 28 < L
      · go_upto_region 12 with (fail)
        go_wp2_with (at_builtin; refine app_own rfl (.tmp 43) (.tmp 44) rfl (w.heap.size + 1) _ (H28 ++ List.replicate k 0) rfl (hown.alloc _) _ _ _ 1 [0] rfl rfl (Rd.new3 rfl rfl) (by rw [Hl8.out]; simp; omega) (by have := hbx.lt; simp; omega) ?_; intro v9 w9 o9 l9 _ _)
        obtain ⟨g9, cap9, rfl, _, _, _, _⟩ := o9.form (by rw [Hl9.out]; omega)
        rw [Hl9.out] at o9 ⊢
        have hbx9 := (hbx.alloc (.cells #[.int .u8 0] 5))
        go_roundw
        case rel => exact ⟨k + 1, g9, cap9, by omega, rfl, by rw [rep_snoc, ← List.append_assoc]; exact o9, hbx9.below l9 (by omega), (hbw.alloc hszw _).trans (l9.mono (by omega))⟩
        case measure => simp [sLen]; omega
      · have hkk : k = L - 28 := by omega
        have HeL := Lib.hid (show 28 + (L - 28) = L by omega)
        subst hkk
        have hXb : Byt (H28 ++ List.replicate (L - 28) (0 : Int)) := HXb.out.append (Byt.zeros _)
        rw [HeL.out] at Hl8 hown ⊢
        clear Hl9 hk hlt
        generalize H28 ++ List.replicate (L - 28) (0 : Int) = X at *
        have rd := hown.rd
        have hXl := Hl8.out
        have HIx := Lib.hid (fun W h => HI.out (some ⟨g, 0, none⟩) cap L X W hXl hLm hXb h)
        rw [← HFl.out] at HIx
        clear hXl
        go_wp2_with fail
        refine (HIx.out _ rd).mono ?_
        rintro e w6 ⟨v6, rfl, o6, l6⟩
        obtain ⟨A6, c6, rfl, rd6, _, _⟩ := o6.open_
        have hbx6 := hbx.below l6 hbx.lt
        have hcx6 := hbx6.cell
        have hb6 := hbw.trans (l6.mono hszw)
        have hs6 := hb6.size
        clear o6 l6 hcx hbx hown rd
        go_wp2_with fail
        refine (HH.out _ _ _ rd6).mono ?_
        rintro e w7 ⟨v7, rfl, o7, l7⟩
        go_wp2_with fail
        go_ret2
        exact ⟨_, rfl, o7.base_le hs6, hb6.trans (l7.mono hs6)⟩
  · go_wp2_with fail
    have bq' := bq
    have b0' := b0
    have hb5 := hb4
    generalize w3 = w5 at *
    clear bq b0 hb4 hcq hfq
    have hSt := ((St.nil hb5 hb5.size).cons bq').cons b0'
    clear bq' b0' hb5
    refine wp_region_walk0 (by kernel_rfl) (fun _ W => St w w.heap.size _ W) [] Grow [0, 1, 2, 3, 4, 5, 6] (by kernel_rfl) hSt.drew ?_
    have Hqx := Lib.hid (And.intro hL28 (And.intro hLm (And.intro hgq hq8)))
    clear hL28 hLm hgq hq8
    apply Walk.one rfl rfl rfl
    case hrun =>
      intro c W hE hF
      go_wp2_with fail
      exact TextPost.mk ⟨Grow.refl _, hE⟩
    case hv => rfl
    apply Walk.one rfl rfl rfl
    case hrun =>
      intro c W hE hF
      have hrq := (hE.get 0 rfl).range 13 (l := [.int .u8 q0, .int .u32 q1, .int .u32 q2, .int .u16 q3, .int .u16 q4]) rfl
      go_wp2_with (first | ((with_reducible refine look_load ?_); refine wpList_load_mid rfl _ _ rfl _ _ rfl _ _ hrq Tryd.underlying25 rfl (by kernel_rfl) ?_) | fail)
      exact TextPost.mk ⟨Grow.refl _, hE⟩
    case hv => rfl
    apply Walk.one rfl rfl rfl
    case hrun =>
      intro c W hE hF
      have hbp := hE.get 1 rfl
      go_wp2_with (first | ((with_reducible refine look_load ?_); refine wpList_load_row rfl _ _ rfl _ rfl _ _ _ _ hbp Tryd.underlying27 rfl (by kernel_rfl) ?_) | fail)
      exact TextPost.mk ⟨Grow.refl _, hE⟩
    case hv => rfl
    refine Walk.anyOf (fun v => v) (fun _ _ h => h) (fun v W => Own W w.heap.size v qi) (fun _ _ _ h hG => h.keep hG) rfl rfl rfl (by kernel_rfl) (by kernel_rfl) ?_ (fun v => ?_)
    · intro c W hE hF
      go_wp2_with fail
      refine (HC.out W).mono ?_
      rintro e W2 ⟨v, rfl, hown, l⟩
      go_wp2_with fail
      exact ⟨v, rfl, hown.base_le hE.2.1, l, hE.below l⟩
    dsimp only [Act.put]
    simp only [List.setIfInBounds_toArray, List.set_cons_succ, List.set_cons_zero]
    refine Walk.anyOf (fun p : Nat × Nat => .slice (some ⟨p.1, 0, none⟩) (20 + qi.length) p.2) slice_cap_inj (fun p W => Own W (w.heap.size + 1) (.slice (some ⟨p.1, 0, none⟩) (20 + qi.length) p.2) WL ∧ 28 ≤ p.2) (fun _ _ _ h hG => ⟨h.1.keep hG, h.2⟩) rfl rfl rfl (by kernel_rfl) (by kernel_rfl) ?_ (fun p => ?_)
    · intro c W hE hF
      obtain ⟨A, cap, rfl, hrd, _, _⟩ := hF.head.open_
      go_wp2_with fail
      refine (HQ.out A cap W hrd).mono ?_
      rintro e W2 ⟨v, rfl, hown, l⟩
      obtain ⟨g, cap2, rfl, _, _, hcap, _⟩ := hown.form (by rw [HXl.out]; omega)
      rw [HXl.out] at hown hcap ⊢
      go_wp2_with fail
      exact ⟨(g, cap2), rfl, ⟨hown.base_le (hE.get 0 rfl).lt, by have := Hqx.out.2.2.2; show 28 ≤ cap2; omega⟩, l, hE.below l⟩
    obtain ⟨g, cap⟩ := p
    dsimp only [Act.put]
    simp only [List.setIfInBounds_toArray, List.set_cons_succ, List.set_cons_zero]
    apply Walk.one rfl rfl rfl
    case hrun =>
      intro c W hE hF
      have e28 : (28 : Int) ≤ cap := by have := hF.head.2; omega
      go_wp2_with fail
      exact TextPost.mk ⟨Grow.refl _, hE⟩
    case hv => rfl
    apply Walk.one rfl rfl rfl
    case hrun =>
      intro c W hE hF
      go_wp2_with fail
      exact TextPost.mk ⟨Grow.refl _, hE⟩
    case hv => rfl
    obtain ⟨hL28, hLm, hgq, hq8⟩ := Hqx.out
    refine Walk.done (fun W hE hF => ?_)
    have own28 := hF.head.1.take_ 28 (by omega)
    try dsimp only at own28
    rw [HX8.out] at own28
    have hbW := hE.1
    have bW := hE.get 0 rfl
    have Hown := Lib.hid own28
    clear hSt hE hF own28
    go_wp2_with fail
    go_loopw [5] (fun v wr => ∃ (k g cap : Nat), k + 28 ≤ L ∧ v = .slice (some ⟨g, 0, none⟩) (28 + k) cap ∧ Own wr (w.heap.size + 1) (.slice (some ⟨g, 0, none⟩) (28 + k) cap) (H28 ++ List.replicate k 0) ∧ Blk wr w.heap.size 27 #[.int .u8 k0, .int .u32 k1, .int .u32 k2, .int .u16 k3, .int .u16 k4, .int .u8 5, .int .u8 flags, .int .u8 type, .int .u8 code, .int .u32 seqn, .int .u32 ackn, .int .i64 window, .int .i64 (L : Int), .int .u8 q0, .int .u32 q1, .int .u32 q2, .int .u16 q3, .int .u16 q4, .int .u8 2] ∧ Below w.heap.size w wr) (fun v _ => L - sLen v)
    case atStart => exact ⟨0, g, cap, by omega, rfl, by simpa using Hown.out, bW, hbW⟩
    case round =>
      obtain ⟨k, g, cap, hk, rfl, hown, hbx, hbw⟩ := hrel
      have hcx := hbx.cell
      have hl9 : (H28 ++ List.replicate k (0 : Int) ++ [0]).length = 28 + (k + 1) := by rw [List.length_append, List.length_append, HX28.out, List.length_replicate]; rfl
      have hl8 : (H28 ++ List.replicate k (0 : Int)).length = 28 + k := by rw [List.length_append, HX28.out, List.length_replicate]
      have Hl9 := Lib.hid hl9
      have Hl8 := Lib.hid hl8
      clear hl9 hl8
      have hszw := hbw.size
      by_cases hlt : k + 28 < L
      · go_upto_region 12 with (fail)
        go_wp2_with (at_builtin; refine app_own rfl (.tmp 43) (.tmp 44) rfl (w.heap.size + 1) _ (H28 ++ List.replicate k 0) rfl (hown.alloc _) _ _ _ 1 [0] rfl rfl (Rd.new3 rfl rfl) (by rw [Hl8.out]; simp; omega) (by have := hbx.lt; simp; omega) ?_; intro v9 w9 o9 l9 _ _)
        obtain ⟨g9, cap9, rfl, _, _, _, _⟩ := o9.form (by rw [Hl9.out]; omega)
        rw [Hl9.out] at o9 ⊢
        have hbx9 := (hbx.alloc (.cells #[.int .u8 0] 5))
        go_roundw
        case rel => exact ⟨k + 1, g9, cap9, by omega, rfl, by rw [rep_snoc, ← List.append_assoc]; exact o9, hbx9.below l9 (by omega), (hbw.alloc hszw _).trans (l9.mono (by omega))⟩
        case measure => simp [sLen]; omega
      · have hkk : k = L - 28 := by omega
        have HeL := Lib.hid (show 28 + (L - 28) = L by omega)
        subst hkk
        have hXb : Byt (H28 ++ List.replicate (L - 28) (0 : Int)) := HXb.out.append (Byt.zeros _)
        rw [HeL.out] at Hl8 hown ⊢
        clear Hl9 hk hlt
        generalize H28 ++ List.replicate (L - 28) (0 : Int) = X at *
        have rd := hown.rd
        have hXl := Hl8.out
        have HIx := Lib.hid (fun W h => HI.out (some ⟨g, 0, none⟩) cap L X W hXl hLm hXb h)
        rw [← HFl.out] at HIx
        clear hXl
        go_wp2_with fail
        refine (HIx.out _ rd).mono ?_
        rintro e w6 ⟨v6, rfl, o6, l6⟩
        obtain ⟨A6, c6, rfl, rd6, _, _⟩ := o6.open_
        have hbx6 := hbx.below l6 hbx.lt
        have hcx6 := hbx6.cell
        have hb6 := hbw.trans (l6.mono hszw)
        have hs6 := hb6.size
        clear o6 l6 hcx hbx hown rd
        go_wp2_with fail
        refine (HH.out _ _ _ rd6).mono ?_
        rintro e w7 ⟨v7, rfl, o7, l7⟩
        go_wp2_with fail
        go_ret2
        exact ⟨_, rfl, o7.base_le hs6, hb6.trans (l7.mono hs6)⟩
  · go_wp2_with fail
    have bq' := bq.set 7 (.int .u8 8)
    have b0' := b0.far (p := ⟨w2.heap.size, 7, none⟩) (by show w.heap.size ≠ w2.heap.size; omega) (.int .u8 8)
    have hb5 := hb4.setCell (p := ⟨w2.heap.size, 7, none⟩) (by show w.heap.size ≤ w2.heap.size; omega) (.int .u8 8)
    simp only [List.setIfInBounds_toArray, List.set_cons_succ, List.set_cons_zero] at bq'
    generalize w3.setCell ⟨w2.heap.size, 7, none⟩ (.int .u8 8) = w5 at *
    clear bq b0 hb4 hcq hfq
    have hSt := ((St.nil hb5 hb5.size).cons bq').cons b0'
    clear bq' b0' hb5
    refine wp_region_walk0 (by kernel_rfl) (fun _ W => St w w.heap.size _ W) [] Grow [0, 1, 2, 3, 4, 5, 6] (by kernel_rfl) hSt.drew ?_
    have Hqx := Lib.hid (And.intro hL28 (And.intro hLm (And.intro hgq hq8)))
    clear hL28 hLm hgq hq8
    apply Walk.one rfl rfl rfl
    case hrun =>
      intro c W hE hF
      go_wp2_with fail
      exact TextPost.mk ⟨Grow.refl _, hE⟩
    case hv => rfl
    apply Walk.one rfl rfl rfl
    case hrun =>
      intro c W hE hF
      have hrq := (hE.get 0 rfl).range 13 (l := [.int .u8 q0, .int .u32 q1, .int .u32 q2, .int .u16 q3, .int .u16 q4]) rfl
      go_wp2_with (first | ((with_reducible refine look_load ?_); refine wpList_load_mid rfl _ _ rfl _ _ rfl _ _ hrq Tryd.underlying25 rfl (by kernel_rfl) ?_) | fail)
      exact TextPost.mk ⟨Grow.refl _, hE⟩
    case hv => rfl
    apply Walk.one rfl rfl rfl
    case hrun =>
      intro c W hE hF
      have hbp := hE.get 1 rfl
      go_wp2_with (first | ((with_reducible refine look_load ?_); refine wpList_load_row rfl _ _ rfl _ rfl _ _ _ _ hbp Tryd.underlying27 rfl (by kernel_rfl) ?_) | fail)
      exact TextPost.mk ⟨Grow.refl _, hE⟩
    case hv => rfl
    refine Walk.anyOf (fun v => v) (fun _ _ h => h) (fun v W => Own W w.heap.size v qi) (fun _ _ _ h hG => h.keep hG) rfl rfl rfl (by kernel_rfl) (by kernel_rfl) ?_ (fun v => ?_)
    · intro c W hE hF
      go_wp2_with fail
      refine (HC.out W).mono ?_
      rintro e W2 ⟨v, rfl, hown, l⟩
      go_wp2_with fail
      exact ⟨v, rfl, hown.base_le hE.2.1, l, hE.below l⟩
    dsimp only [Act.put]
    simp only [List.setIfInBounds_toArray, List.set_cons_succ, List.set_cons_zero]
    refine Walk.anyOf (fun p : Nat × Nat => .slice (some ⟨p.1, 0, none⟩) (20 + qi.length) p.2) slice_cap_inj (fun p W => Own W (w.heap.size + 1) (.slice (some ⟨p.1, 0, none⟩) (20 + qi.length) p.2) WL ∧ 28 ≤ p.2) (fun _ _ _ h hG => ⟨h.1.keep hG, h.2⟩) rfl rfl rfl (by kernel_rfl) (by kernel_rfl) ?_ (fun p => ?_)
    · intro c W hE hF
      obtain ⟨A, cap, rfl, hrd, _, _⟩ := hF.head.open_
      go_wp2_with fail
      refine (HQ.out A cap W hrd).mono ?_
      rintro e W2 ⟨v, rfl, hown, l⟩
      obtain ⟨g, cap2, rfl, _, _, hcap, _⟩ := hown.form (by rw [HXl.out]; omega)
      rw [HXl.out] at hown hcap ⊢
      go_wp2_with fail
      exact ⟨(g, cap2), rfl, ⟨hown.base_le (hE.get 0 rfl).lt, by have := Hqx.out.2.2.2; show 28 ≤ cap2; omega⟩, l, hE.below l⟩
    obtain ⟨g, cap⟩ := p
    dsimp only [Act.put]
    simp only [List.setIfInBounds_toArray, List.set_cons_succ, List.set_cons_zero]
    apply Walk.one rfl rfl rfl
    case hrun =>
      intro c W hE hF
      have e28 : (28 : Int) ≤ cap := by have := hF.head.2; omega
      go_wp2_with fail
      exact TextPost.mk ⟨Grow.refl _, hE⟩
    case hv => rfl
    apply Walk.one rfl rfl rfl
    case hrun =>
      intro c W hE hF
      go_wp2_with fail
      exact TextPost.mk ⟨Grow.refl _, hE⟩
    case hv => rfl
    obtain ⟨hL28, hLm, hgq, hq8⟩ := Hqx.out
    refine Walk.done (fun W hE hF => ?_)
    have own28 := hF.head.1.take_ 28 (by omega)
    try dsimp only at own28
    rw [HX8.out] at own28
    have hbW := hE.1
    have bW := hE.get 0 rfl
    have Hown := Lib.hid own28
    clear hSt hE hF own28
    go_wp2_with fail
    go_loopw [5] (fun v wr => ∃ (k g cap : Nat), k + 28 ≤ L ∧ v = .slice (some ⟨g, 0, none⟩) (28 + k) cap ∧ Own wr (w.heap.size + 1) (.slice (some ⟨g, 0, none⟩) (28 + k) cap) (H28 ++ List.replicate k 0) ∧ Blk wr w.heap.size 27 #[.int .u8 k0, .int .u32 k1, .int .u32 k2, .int .u16 k3, .int .u16 k4, .int .u8 5, .int .u8 flags, .int .u8 type, .int .u8 code, .int .u32 seqn, .int .u32 ackn, .int .i64 window, .int .i64 (L : Int), .int .u8 q0, .int .u32 q1, .int .u32 q2, .int .u16 q3, .int .u16 q4, .int .u8 3] ∧ Below w.heap.size w wr) (fun v _ => L - sLen v)
    case atStart => exact ⟨0, g, cap, by omega, rfl, by simpa using Hown.out, bW, hbW⟩
    case round =>
      obtain ⟨k, g, cap, hk, rfl, hown, hbx, hbw⟩ := hrel
      have hcx := hbx.cell
      have hl9 : (H28 ++ List.replicate k (0 : Int) ++ [0]).length = 28 + (k + 1) := by rw [List.length_append, List.length_append, HX28.out, List.length_replicate]; rfl
      have hl8 : (H28 ++ List.replicate k (0 : Int)).length = 28 + k := by rw [List.length_append, HX28.out, List.length_replicate]
      have Hl9 := Lib.hid hl9
      have Hl8 := Lib.hid hl8
      clear hl9 hl8
      have hszw := hbw.size
      by_cases hlt : k + 28 < L
      · go_upto_region 12 with (fail)
        go_wp2_with (at_builtin; refine app_own rfl (.tmp 43) (.tmp 44) rfl (w.heap.size + 1) _ (H28 ++ List.replicate k 0) rfl (hown.alloc _) _ _ _ 1 [0] rfl rfl (Rd.new3 rfl rfl) (by rw [Hl8.out]; simp; omega) (by have := hbx.lt; simp; omega) ?_; intro v9 w9 o9 l9 _ _)
        obtain ⟨g9, cap9, rfl, _, _, _, _⟩ := o9.form (by rw [Hl9.out]; omega)
        rw [Hl9.out] at o9 ⊢
        have hbx9 := (hbx.alloc (.cells #[.int .u8 0] 5))
        go_roundw
        case rel => exact ⟨k + 1, g9, cap9, by omega, rfl, by rw [rep_snoc, ← List.append_assoc]; exact o9, hbx9.below l9 (by omega), (hbw.alloc hszw _).trans (l9.mono (by omega))⟩
        case measure => simp [sLen]; omega
      · have hkk : k = L - 28 := by omega
        have HeL := Lib.hid (show 28 + (L - 28) = L by omega)
        subst hkk
        have hXb : Byt (H28 ++ List.replicate (L - 28) (0 : Int)) := HXb.out.append (Byt.zeros _)
        rw [HeL.out] at Hl8 hown ⊢
        clear Hl9 hk hlt
        generalize H28 ++ List.replicate (L - 28) (0 : Int) = X at *
        have rd := hown.rd
        have hXl := Hl8.out
        have HIx := Lib.hid (fun W h => HI.out (some ⟨g, 0, none⟩) cap L X W hXl hLm hXb h)
        rw [← HFl.out] at HIx
        clear hXl
        go_wp2_with fail
        refine (HIx.out _ rd).mono ?_
        rintro e w6 ⟨v6, rfl, o6, l6⟩
        obtain ⟨A6, c6, rfl, rd6, _, _⟩ := o6.open_
        have hbx6 := hbx.below l6 hbx.lt
        have hcx6 := hbx6.cell
        have hb6 := hbw.trans (l6.mono hszw)
        have hs6 := hb6.size
        clear o6 l6 hcx hbx hown rd
        go_wp2_with fail
        refine (HH.out _ _ _ rd6).mono ?_
        rintro e w7 ⟨v7, rfl, o7, l7⟩
        go_wp2_with fail
        go_ret2
        exact ⟨_, rfl, o7.base_le hs6, hb6.trans (l7.mono hs6)⟩
  · go_wp2_with fail
    have bq' := bq
    have b0' := b0
    have hb5 := hb4
    generalize w3 = w5 at *
    clear bq b0 hb4 hcq hfq
    have hSt := ((St.nil hb5 hb5.size).cons bq').cons b0'
    clear bq' b0' hb5
    refine wp_region_walk0 (by kernel_rfl) (fun _ W => St w w.heap.size _ W) [] Grow [0, 1, 2, 3, 4, 5, 6] (by kernel_rfl) hSt.drew ?_
    have Hqx := Lib.hid (And.intro hL28 (And.intro hLm (And.intro hgq hq8)))
    clear hL28 hLm hgq hq8
    apply Walk.one rfl rfl rfl
    case hrun =>
      intro c W hE hF
      go_wp2_with fail
      exact TextPost.mk ⟨Grow.refl _, hE⟩
    case hv => rfl
    apply Walk.one rfl rfl rfl
    case hrun =>
      intro c W hE hF
      have hrq := (hE.get 0 rfl).range 13 (l := [.int .u8 q0, .int .u32 q1, .int .u32 q2, .int .u16 q3, .int .u16 q4]) rfl
      go_wp2_with (first | ((with_reducible refine look_load ?_); refine wpList_load_mid rfl _ _ rfl _ _ rfl _ _ hrq Tryd.underlying25 rfl (by kernel_rfl) ?_) | fail)
      exact TextPost.mk ⟨Grow.refl _, hE⟩
    case hv => rfl
    apply Walk.one rfl rfl rfl
    case hrun =>
      intro c W hE hF
      have hbp := hE.get 1 rfl
      go_wp2_with (first | ((with_reducible refine look_load ?_); refine wpList_load_row rfl _ _ rfl _ rfl _ _ _ _ hbp Tryd.underlying27 rfl (by kernel_rfl) ?_) | fail)
      exact TextPost.mk ⟨Grow.refl _, hE⟩
    case hv => rfl
    refine Walk.anyOf (fun v => v) (fun _ _ h => h) (fun v W => Own W w.heap.size v qi) (fun _ _ _ h hG => h.keep hG) rfl rfl rfl (by kernel_rfl) (by kernel_rfl) ?_ (fun v => ?_)
    · intro c W hE hF
      go_wp2_with fail
      refine (HC.out W).mono ?_
      rintro e W2 ⟨v, rfl, hown, l⟩
      go_wp2_with fail
      exact ⟨v, rfl, hown.base_le hE.2.1, l, hE.below l⟩
    dsimp only [Act.put]
    simp only [List.setIfInBounds_toArray, List.set_cons_succ, List.set_cons_zero]
    refine Walk.anyOf (fun p : Nat × Nat => .slice (some ⟨p.1, 0, none⟩) (20 + qi.length) p.2) slice_cap_inj (fun p W => Own W (w.heap.size + 1) (.slice (some ⟨p.1, 0, none⟩) (20 + qi.length) p.2) WL ∧ 28 ≤ p.2) (fun _ _ _ h hG => ⟨h.1.keep hG, h.2⟩) rfl rfl rfl (by kernel_rfl) (by kernel_rfl) ?_ (fun p => ?_)
    · intro c W hE hF
      obtain ⟨A, cap, rfl, hrd, _, _⟩ := hF.head.open_
      go_wp2_with fail
      refine (HQ.out A cap W hrd).mono ?_
      rintro e W2 ⟨v, rfl, hown, l⟩
      obtain ⟨g, cap2, rfl, _, _, hcap, _⟩ := hown.form (by rw [HXl.out]; omega)
      rw [HXl.out] at hown hcap ⊢
      go_wp2_with fail
      exact ⟨(g, cap2), rfl, ⟨hown.base_le (hE.get 0 rfl).lt, by have := Hqx.out.2.2.2; show 28 ≤ cap2; omega⟩, l, hE.below l⟩
    obtain ⟨g, cap⟩ := p
    dsimp only [Act.put]
    simp only [List.setIfInBounds_toArray, List.set_cons_succ, List.set_cons_zero]
    apply Walk.one rfl rfl rfl
    case hrun =>
      intro c W hE hF
      have e28 : (28 : Int) ≤ cap := by have := hF.head.2; omega
      go_wp2_with fail
      exact TextPost.mk ⟨Grow.refl _, hE⟩
    case hv => rfl
    apply Walk.one rfl rfl rfl
    case hrun =>
      intro c W hE hF
      go_wp2_with fail
      exact TextPost.mk ⟨Grow.refl _, hE⟩
    case hv => rfl
    obtain ⟨hL28, hLm, hgq, hq8⟩ := Hqx.out
    refine Walk.done (fun W hE hF => ?_)
    have own28 := hF.head.1.take_ 28 (by omega)
    try dsimp only at own28
    rw [HX8.out] at own28
    have hbW := hE.1
    have bW := hE.get 0 rfl
    have Hown := Lib.hid own28
    clear hSt hE hF own28
    go_wp2_with fail
    go_loopw [5] (fun v wr => ∃ (k g cap : Nat), k + 28 ≤ L ∧ v = .slice (some ⟨g, 0, none⟩) (28 + k) cap ∧ Own wr (w.heap.size + 1) (.slice (some ⟨g, 0, none⟩) (28 + k) cap) (H28 ++ List.replicate k 0) ∧ Blk wr w.heap.size 27 #[.int .u8 k0, .int .u32 k1, .int .u32 k2, .int .u16 k3, .int .u16 k4, .int .u8 5, .int .u8 flags, .int .u8 type, .int .u8 code, .int .u32 seqn, .int .u32 ackn, .int .i64 window, .int .i64 (L : Int), .int .u8 q0, .int .u32 q1, .int .u32 q2, .int .u16 q3, .int .u16 q4, .int .u8 4] ∧ Below w.heap.size w wr) (fun v _ => L - sLen v)
    case atStart => exact ⟨0, g, cap, by omega, rfl, by simpa using Hown.out, bW, hbW⟩
    case round =>
      obtain ⟨k, g, cap, hk, rfl, hown, hbx, hbw⟩ := hrel
      have hcx := hbx.cell
      have hl9 : (H28 ++ List.replicate k (0 : Int) ++ [0]).length = 28 + (k + 1) := by rw [List.length_append, List.length_append, HX28.out, List.length_replicate]; rfl
      have hl8 : (H28 ++ List.replicate k (0 : Int)).length = 28 + k := by rw [List.length_append, HX28.out, List.length_replicate]
      have Hl9 := Lib.hid hl9
      have Hl8 := Lib.hid hl8
      clear hl9 hl8
      have hszw := hbw.size
      by_cases hlt : k + 28 < L
      · go_upto_region 12 with (fail)
        go_wp2_with (at_builtin; refine app_own rfl (.tmp 43) (.tmp 44) rfl (w.heap.size + 1) _ (H28 ++ List.replicate k 0) rfl (hown.alloc _) _ _ _ 1 [0] rfl rfl (Rd.new3 rfl rfl) (by rw [Hl8.out]; simp; omega) (by have := hbx.lt; simp; omega) ?_; intro v9 w9 o9 l9 _ _)
        obtain ⟨g9, cap9, rfl, _, _, _, _⟩ := o9.form (by rw [Hl9.out]; omega)
        rw [Hl9.out] at o9 ⊢
        have hbx9 := (hbx.alloc (.cells #[.int .u8 0] 5))
        go_roundw
        case rel => exact ⟨k + 1, g9, cap9, by omega, rfl, by rw [rep_snoc, ← List.append_assoc]; exact o9, hbx9.below l9 (by omega), (hbw.alloc hszw _).trans (l9.mono (by omega))⟩
        case measure => simp [sLen]; omega
      · have hkk : k = L - 28 := by omega
        have HeL := Lib.hid (show 28 + (L - 28) = L by omega)
        subst hkk
        have hXb : Byt (H28 ++ List.replicate (L - 28) (0 : Int)) := HXb.out.append (Byt.zeros _)
        rw [HeL.out] at Hl8 hown ⊢
        clear Hl9 hk hlt
        generalize H28 ++ List.replicate (L - 28) (0 : Int) = X at *
        have rd := hown.rd
        have hXl := Hl8.out
        have HIx := Lib.hid (fun W h => HI.out (some ⟨g, 0, none⟩) cap L X W hXl hLm hXb h)
        rw [← HFl.out] at HIx
        clear hXl
        go_wp2_with fail
        refine (HIx.out _ rd).mono ?_
        rintro e w6 ⟨v6, rfl, o6, l6⟩
        obtain ⟨A6, c6, rfl, rd6, _, _⟩ := o6.open_
        have hbx6 := hbx.below l6 hbx.lt
        have hcx6 := hbx6.cell
        have hb6 := hbw.trans (l6.mono hszw)
        have hs6 := hb6.size
        clear o6 l6 hcx hbx hown rd
        go_wp2_with fail
        refine (HH.out _ _ _ rd6).mono ?_
        rintro e w7 ⟨v7, rfl, o7, l7⟩
        go_wp2_with fail
        go_ret2
        exact ⟨_, rfl, o7.base_le hs6, hb6.trans (l7.mono hs6)⟩

end Go.Proofs.YtebeekjcepjcnaaDoor
