/-
  bafflekit.SameBytes at equal bytes; the examples of the chapters 11 and 12.
  bafflelaw12.tells: the program and the reference say the same of any facts.
-/
import Derived.Test.YtebeekjcepjcnaaDoorRefq
import Derived.Test.YtebeekjcepjcnaaDoorRefp
import Derived.Test.YtebeekjcepjcnaaDoorRefn
namespace Go.Proofs.YtebeekjcepjcnaaDoor
open Go.RowKit Go.Shelf

def SameE (w0 : World) (p q : Addr) (x : Value) (_ : Nat) (W : World) : Prop := Below w0.heap.size w0 W ∧ W.cell? p = some x ∧ W.cell? q = some x
set_option maxRecDepth 100000 in
set_option maxHeartbeats 1000000 in
theorem same_any (A B : Option Addr) (ca cb n : Nat) (xs : List Int) (w : World) (hn : xs.length = n) (hl : n ≤ 1000000) (hA : Rd w w.heap.size A .u8 xs) (hB : Rd w w.heap.size B .u8 xs) :
    Calls Tryd.prog 22 #[.slice A n ca, .slice B n cb] w fun e w' => e = .returned (.bool true) ∧ Below w.heap.size w w' := by
  have Hn := Lib.hid hn
  clear hn
  go_enter Tryd.func22, Tryd.ntmps22
  go_wp2_with fail
  go_loopw [5] (fun i wr => ∃ k : Nat, k ≤ n ∧ i = .int .i64 k ∧ Below w.heap.size w wr) (fun i _ => n - (intOf i).toNat)
  case atStart => exact ⟨0, by omega, rfl, Below.refl _ _⟩
  case round =>
    obtain ⟨k, hk, rfl, hbw⟩ := hrel
    by_cases hlt : k < n
    · obtain ⟨b1, o1, rfl, hb1, hc1⟩ := hA k (by rw [Hn.out]; exact hlt)
      obtain ⟨b2, o2, rfl, hb2, hc2⟩ := hB k (by rw [Hn.out]; exact hlt)
      have d1 : wr.cell? ⟨b1, o1 + k, none⟩ = some (.int .u8 (xs.getD k 0)) := (hbw.cell (p := ⟨b1, o1 + k, none⟩) hb1).trans hc1
      have d2 : wr.cell? ⟨b2, o2 + k, none⟩ = some (.int .u8 (xs.getD k 0)) := (hbw.cell (p := ⟨b2, o2 + k, none⟩) hb2).trans hc2
      generalize xs.getD k 0 = x at *
      have hE0 : SameE w ⟨b1, o1 + k, none⟩ ⟨b2, o2 + k, none⟩ (.int .u8 x) 0 wr.drew := ⟨hbw.drew, d1, d2⟩
      clear hc1 hc2 hA hB d1 d2 hb1 hb2
      go_wp2_with fail
      refine wp_region_walk0 (by kernel_rfl) (SameE w ⟨b1, o1 + k, none⟩ ⟨b2, o2 + k, none⟩ (.int .u8 x)) [] (fun _ _ => GTop w w) [0, 1, 2, 3, 4, 5, 6, 7, 8] (by kernel_rfl) hE0 ?_
      iterate 9
        apply Walk.one rfl rfl rfl
        case hrun =>
          intro c W hE hF
          have hca := hE.2.1
          have hcb := hE.2.2
          go_wp2_with fail
          exact TextPost.mk ⟨GTop.mk, hE⟩
        case hv => rfl
      refine Walk.done (fun W hE hF => ?_)
      have hbW := hE.1
      clear hE hF hE0
      go_wp2_with fail
      go_roundw
      case rel => exact ⟨k + 1, by omega, by go_num, hbW⟩
      case measure => simp [intOf]; omega
    · obtain rfl : k = n := by omega
      go_wp2_with fail
      go_ret
      exact ⟨rfl, hbw⟩

/-- The facts of the chapter's examples. -/
def exF : Facts := ⟨⟨6, 167772161, 167772162, 1024, 80⟩, 1, 2, 0, 0, 1, 0, 512, 0, Key.zero, 0⟩
set_option maxRecDepth 100000 in
set_option maxHeartbeats 1000000 in
theorem ex12_any (w : World) : Calls Tryd.prog 18 #[] w fun e w' => e = .returned exF.val ∧ Below w.heap.size w w' := by
  go_enter Tryd.func18, Tryd.ntmps18
  go_upto_region 1 with (fail)
  refine wp_name1 ?_
  intro w1 hb1 hs1 bR
  go_wp2_with (first | ((with_reducible refine look_store ?_); refine wpList_store_row rfl _ _ _ rfl _ _ rfl rfl _ _ bR (by kernel_rfl) (by simp) (by simp [Value.oneCell']) ?_) | fail)
  exact bodyPost_ret (results_cell_row Tryd.results18 _ _ _ _ _ _ _ rfl (setRow_heap _ _ _ _ _ _ bR) Tryd.underlying27 rfl (by kernel_rfl)) rfl ⟨rfl, below_setRow hb1 (by omega) _⟩

/-- The packet of the chapter's examples. -/
def exB : List Int := [69, 0, 0, 40, 0, 0, 0, 0, 64, 6, 102, 206, 10, 0, 0, 1, 10, 0, 0, 2, 4, 0, 0, 80, 0, 0, 0, 1, 0, 0, 0, 0, 80, 2, 2, 0, 149, 143, 0, 0]
set_option maxRecDepth 100000 in
set_option maxHeartbeats 1000000 in
theorem ex11_any (w : World) : Calls Tryd.prog 29 #[] w fun e w' => ∃ g, e = .returned (.slice (some ⟨g, 0, none⟩) 40 40) ∧ Own w' w.heap.size (.slice (some ⟨g, 0, none⟩) 40 40) exB ∧ Below w.heap.size w w' := by
  go_enter Tryd.func29, Tryd.ntmps29
  go_wp2_with fail
  go_ret
  exact ⟨_, rfl, own_lit w w.heap.size 40 exB _ rfl rfl (by simp [maxLen]) (Nat.le_refl _), (Below.refl _ _).alloc (Nat.le_refl _) _⟩

end Go.Proofs.YtebeekjcepjcnaaDoor

namespace Go.Proofs.YtebeekjcepjcnaaDoor
open Go.RowKit Go.Shelf

theorem facts_eqB_refl (f : Facts) : f.eqB f = true := Facts.eqB_iff.2 rfl
theorem run_ne_facts (f : Facts) (W : World) : (binOp .neq 27 f.val f.val).run Tryd.prog W = .ok (.bool false) W := by
  have h := run_eq_facts f f W
  rw [facts_eqB_refl] at h
  unfold Facts.val at h ⊢
  rw [run_eql_struct] at h
  rw [run_neq_struct]
  cases hr : (Op.equalIn 10000 27 (.agg f.cells.toArray) (.agg f.cells.toArray)).run Tryd.prog W with
  | ok b w' =>
    rw [hr] at h
    simp only [Result.andThen_ok, Result.ok.injEq, Value.bool.injEq] at h
    obtain ⟨rfl, rfl⟩ := h
    rfl
  | halt x w' =>
    rw [hr] at h
    cases h
theorem buildL_len {f : Facts} (hr : f.right = true) : f.buildL.length ≤ 65535 := by
  have := (dataL_len hr).2
  unfold Facts.buildL
  rw [ipWriteL_len]
  simp only [hdrH, List.length_nil]
  omega
/-- What both make of facts. -/
def Facts.madeL (f : Facts) : List Int := if f.right then f.buildL else []
def Facts.madeE (f : Facts) : Int := if f.right then 0 else 120
theorem made_len (f : Facts) : f.madeL.length ≤ 65535 := by
  unfold Facts.madeL
  split
  · rename_i h; exact buildL_len h
  · simp
theorem build_all (f : Facts) (w : World) (ho : f.Ok) (hs : SortsAt w) : Calls Tryd.prog 20 #[f.val] w fun e w' => ∃ A cap, e = .returned (.tuple #[.slice A f.madeL.length cap, .int .i64 f.madeE]) ∧ Own w' w.heap.size (.slice A f.madeL.length cap) f.madeL ∧ Below w.heap.size w w' := by
  unfold Facts.madeL Facts.madeE
  cases hr : f.right with
  | true =>
    refine (build_yes f w ho hr hs).mono ?_
    rintro e w' ⟨v, rfl, o, l⟩
    obtain ⟨A, cap, rfl, _⟩ := o.open_
    exact ⟨A, cap, rfl, o, l⟩
  | false =>
    refine (build_no f w ho hr hs).mono ?_
    rintro e w' ⟨rfl, l⟩
    exact ⟨none, 0, rfl, Own.nil_ _ _, l⟩
theorem rBuild_all (f : Facts) (w : World) (ho : f.Ok) : Calls Tryd.prog 21 #[f.val] w fun e w' => ∃ A cap, e = .returned (.tuple #[.slice A f.madeL.length cap, .int .i64 f.madeE]) ∧ Own w' w.heap.size (.slice A f.madeL.length cap) f.madeL ∧ Below w.heap.size w w' := by
  unfold Facts.madeL Facts.madeE
  cases hr : f.right with
  | true =>
    have h : Calls Tryd.prog 21 #[f.val] w fun e w' => ∃ v, e = .returned (.tuple #[v, .int .i64 0]) ∧ Own w' w.heap.size v f.buildL ∧ Below w.heap.size w w' := by
      by_cases h5 : f.kind = 5
      · exact rBuild_err f w ho hr h5
      · exact rBuild_plain f w ho hr h5
    refine h.mono ?_
    rintro e w' ⟨v, rfl, o, l⟩
    obtain ⟨A, cap, rfl, _⟩ := o.open_
    exact ⟨A, cap, rfl, o, l⟩
  | false =>
    refine (rBuild_no f w ho hr).mono ?_
    rintro e w' ⟨rfl, l⟩
    exact ⟨none, 0, rfl, Own.nil_ _ _, l⟩

set_option maxRecDepth 100000 in
set_option maxHeartbeats 4000000 in
theorem tells_any (f : Facts) (k c : Nat) (w : World) (ho : f.Ok) (hk : k < 256) (hs : SortsAt w) :
    Calls Tryd.prog 16 #[f.val, .int .u8 k, .int .u8 c] w fun e w' => e = .returned (.bool true) ∧ Below w.heap.size w w' := by
  have HA := Lib.hid (fun W h => answer_all f W ho h)
  have HA2 := Lib.hid (fun W => rAnswer_any f W ho)
  have HEA := Lib.hid (fun W => run_ne_facts f.answerF W)
  obtain ⟨CA, hCA, hCAs, hCA1⟩ := val_cells f.answerF
  rw [hCA] at HA HA2 HEA
  have HCAs := Lib.hid hCAs
  have HCA1 := Lib.hid hCA1
  have HJ := Lib.hid (fun W h => reject_any f k c W ho h hk)
  have HJ2 := Lib.hid (fun W => rReject_any f k c W ho)
  have HEJ := Lib.hid (fun W => run_ne_facts (f.rejectF k c) W)
  obtain ⟨CJ, hCJ, hCJs, hCJ1⟩ := val_cells (f.rejectF k c)
  rw [hCJ] at HJ HJ2 HEJ
  have HCJs := Lib.hid hCJs
  have HCJ1 := Lib.hid hCJ1
  have HR := Lib.hid (fun W h => right_all f W ho h)
  have HR2 := Lib.hid (fun W => rRight_any f W ho)
  have HB := Lib.hid (fun W h => build_all f W ho h)
  have HB2 := Lib.hid (fun W => rBuild_all f W ho)
  have hml := made_len f
  have Hs := Lib.hid hs
  clear hCA hCAs hCA1 hCJ hCJs hCJ1 ho hs hk
  generalize f.answerE = ea at *
  generalize f.rejectE k c = ej at *
  generalize f.madeL = ML at *
  generalize f.madeE = me at *
  generalize f.right = r at *
  obtain ⟨⟨k0, k1, k2, k3, k4⟩, kind, flags, type, code, seqn, ackn, window, length, ⟨q0, q1, q2, q3, q4⟩, qkind⟩ := f
  dsimp only [Facts.val, Facts.cells, Key.cells, List.cons_append, List.nil_append]
  dsimp only [Facts.val, Facts.cells, Key.cells, List.cons_append, List.nil_append] at HA HA2 HJ HJ2 HR HR2 HB HB2
  obtain ⟨bl, hbl⟩ : ∃ b, decide (2000 < length) = b := ⟨_, rfl⟩
  go_enter Tryd.func16, Tryd.ntmps16
  go_upto_region 1 with (fail)
  refine wp_name1 ?_
  intro w1 hb1 hs1 b0
  clear hs1
  have Hs1 := Lib.hid (Hs.out.below hb1 (Nat.le_refl _))
  go_upto_region 2 with (first | ((with_reducible refine look_load ?_); refine wpList_load_row rfl _ _ rfl _ rfl _ _ _ _ b0 Tryd.underlying27 rfl (by kernel_rfl) ?_) | ((go_at_call 33; refine (HA.out _ Hs1.out).mono ?_); rintro e w10 ⟨rfl, l2⟩) | ((with_reducible refine look_store ?_); refine wpList_store_new rfl _ _ _ rfl _ CA rfl rfl _ _ rfl (by rw [HCAs.out]; kernel_rfl) (by rw [HCAs.out]; rfl) HCA1.out ?_) | fail)
  try dsimp only [Act.put]
  refine wp_name1 ?_
  intro w11 hb2 hs2 b7
  clear hs2
  replace b0 := (b0.below l2 b0.lt).below hb2 (Nat.lt_of_lt_of_le b0.lt l2.size)
  replace hb1 := (hb1.trans (l2.mono hb1.size)).trans (hb2.mono (Nat.le_trans hb1.size l2.size))
  replace Hs1 := Lib.hid (Hs.out.below hb1 (Nat.le_refl _))
  clear l2 hb2
  go_upto_region 3 with (first | ((with_reducible refine look_load ?_); refine wpList_load_row rfl _ _ rfl _ rfl _ _ _ _ b0 Tryd.underlying27 rfl (by kernel_rfl) ?_) | ((go_at_call 42; refine (HA2.out _).mono ?_); rintro e w20 ⟨rfl, l2⟩) | ((with_reducible refine look_store ?_); refine wpList_store_new rfl _ _ _ rfl _ CA rfl rfl _ _ rfl (by rw [HCAs.out]; kernel_rfl) (by rw [HCAs.out]; rfl) HCA1.out ?_) | fail)
  try dsimp only [Act.put]
  refine wp_name1 ?_
  intro w21 hb2 hs2 b9
  clear hs2
  replace b0 := (b0.below l2 b0.lt).below hb2 (Nat.lt_of_lt_of_le b0.lt l2.size)
  replace b7 := (b7.below l2 b7.lt).below hb2 (Nat.lt_of_lt_of_le b7.lt l2.size)
  replace hb1 := (hb1.trans (l2.mono hb1.size)).trans (hb2.mono (Nat.le_trans hb1.size l2.size))
  replace Hs1 := Lib.hid (Hs.out.below hb1 (Nat.le_refl _))
  clear l2 hb2
  go_upto_region 4 with (first | ((with_reducible refine look_load ?_); refine wpList_load_row rfl _ _ rfl _ rfl _ _ _ _ b0 Tryd.underlying27 rfl (by kernel_rfl) ?_) | ((go_at_call 35; refine (HJ.out _ Hs1.out).mono ?_); rintro e w30 ⟨rfl, l2⟩) | ((with_reducible refine look_store ?_); refine wpList_store_new rfl _ _ _ rfl _ CJ rfl rfl _ _ rfl (by rw [HCJs.out]; kernel_rfl) (by rw [HCJs.out]; rfl) HCJ1.out ?_) | fail)
  try dsimp only [Act.put]
  refine wp_name1 ?_
  intro w31 hb2 hs2 b11
  clear hs2
  replace b0 := (b0.below l2 b0.lt).below hb2 (Nat.lt_of_lt_of_le b0.lt l2.size)
  replace b7 := (b7.below l2 b7.lt).below hb2 (Nat.lt_of_lt_of_le b7.lt l2.size)
  replace b9 := (b9.below l2 b9.lt).below hb2 (Nat.lt_of_lt_of_le b9.lt l2.size)
  replace hb1 := (hb1.trans (l2.mono hb1.size)).trans (hb2.mono (Nat.le_trans hb1.size l2.size))
  replace Hs1 := Lib.hid (Hs.out.below hb1 (Nat.le_refl _))
  clear l2 hb2
  go_upto_region 5 with (first | ((with_reducible refine look_load ?_); refine wpList_load_row rfl _ _ rfl _ rfl _ _ _ _ b0 Tryd.underlying27 rfl (by kernel_rfl) ?_) | ((go_at_call 43; refine (HJ2.out _).mono ?_); rintro e w40 ⟨rfl, l2⟩) | ((with_reducible refine look_store ?_); refine wpList_store_new rfl _ _ _ rfl _ CJ rfl rfl _ _ rfl (by rw [HCJs.out]; kernel_rfl) (by rw [HCJs.out]; rfl) HCJ1.out ?_) | fail)
  try dsimp only [Act.put]
  refine wp_name1 ?_
  intro w41 hb2 hs2 b13
  clear hs2
  replace b0 := (b0.below l2 b0.lt).below hb2 (Nat.lt_of_lt_of_le b0.lt l2.size)
  replace b7 := (b7.below l2 b7.lt).below hb2 (Nat.lt_of_lt_of_le b7.lt l2.size)
  replace b9 := (b9.below l2 b9.lt).below hb2 (Nat.lt_of_lt_of_le b9.lt l2.size)
  replace b11 := (b11.below l2 b11.lt).below hb2 (Nat.lt_of_lt_of_le b11.lt l2.size)
  replace hb1 := (hb1.trans (l2.mono hb1.size)).trans (hb2.mono (Nat.le_trans hb1.size l2.size))
  replace Hs1 := Lib.hid (Hs.out.below hb1 (Nat.le_refl _))
  clear l2 hb2
  have hSt := (((((St.nil hb1 hb1.size).cons b13).cons b11).cons b9).cons b7).cons b0
  clear b0 b7 b9 b11 b13 hb1 Hs1
  cases r
  all_goals
    refine wp_region_walk0 (by kernel_rfl) (fun _ W => St w w.heap.size _ W) [] Grow [0, 1, 2, 3, 4, 5, 6, 7, 8, 9, 10, 11, 12, 13, 14, 15, 16, 17, 18, 19, 20, 21, 22, 23, 24] (by kernel_rfl) hSt.drew ?_
    apply Walk.one rfl rfl rfl
    case hrun =>
      intro c W hE hF
      have b0 := hE.get 0 rfl
      go_wp2_with (first | ((with_reducible refine look_load ?_); refine wpList_load_g rfl _ _ rfl _ rfl _ _ _ _ b0 Tryd.underlying27 rfl (by kernel_rfl) ?_) | fail)
      exact TextPost.mk ⟨Grow.refl _, hE⟩
    case hv => rfl
    apply Walk.one rfl rfl rfl
    case hrun =>
      intro c W hE hF
      have HsW := Lib.hid (Hs.out.below hE.1 (Nat.le_refl _))
      go_wp2_with (go_at_call 34; refine (HR.out _ HsW.out).mono ?_; rintro e wr ⟨rfl, lr⟩)
      exact TextPost.mk ⟨lr, hE.below lr⟩
    case hv => rfl
    apply Walk.one rfl rfl rfl
    case hrun =>
      intro c W hE hF
      have b0 := hE.get 0 rfl
      go_wp2_with (first | ((with_reducible refine look_load ?_); refine wpList_load_g rfl _ _ rfl _ rfl _ _ _ _ b0 Tryd.underlying27 rfl (by kernel_rfl) ?_) | fail)
      exact TextPost.mk ⟨Grow.refl _, hE⟩
    case hv => rfl
    apply Walk.one rfl rfl rfl
    case hrun =>
      intro c W hE hF
      go_wp2_with (go_at_call 44; refine (HR2.out _).mono ?_; rintro e wr ⟨rfl, lr⟩)
      exact TextPost.mk ⟨lr, hE.below lr⟩
    case hv => rfl
    iterate 21
      apply Walk.one rfl rfl rfl
      case hrun =>
        intro c W hE hF
        have b7 := hE.get 1 rfl
        have b9 := hE.get 2 rfl
        have b11 := hE.get 3 rfl
        have b13 := hE.get 4 rfl
        have hea := HEA.out
        have hej := HEJ.out
        go_wp2_with (first | ((with_reducible refine look_load ?_); refine wpList_load_g rfl _ _ rfl _ rfl _ CA _ _ b7 Tryd.underlying27 rfl (by rw [HCAs.out]; kernel_rfl) ?_) | ((with_reducible refine look_load ?_); refine wpList_load_g rfl _ _ rfl _ rfl _ CA _ _ b9 Tryd.underlying27 rfl (by rw [HCAs.out]; kernel_rfl) ?_) | ((with_reducible refine look_load ?_); refine wpList_load_g rfl _ _ rfl _ rfl _ CJ _ _ b11 Tryd.underlying27 rfl (by rw [HCJs.out]; kernel_rfl) ?_) | ((with_reducible refine look_load ?_); refine wpList_load_g rfl _ _ rfl _ rfl _ CJ _ _ b13 Tryd.underlying27 rfl (by rw [HCJs.out]; kernel_rfl) ?_) | fail)
        exact TextPost.mk ⟨Grow.refl _, hE⟩
      case hv => rfl
    refine Walk.done (fun W hE hF => ?_)
    have b0 := hE.get 0 rfl
    have hbW := hE.1
    clear hSt hE hF HA HA2 HJ HJ2 HEA HEJ HCAs HCA1 HCJs HCJ1 HR
    cases bl
  · have hc0 := b0.cell
    go_upto_region 9 with (fail)
    clear hc0
    have HsX := Lib.hid (Hs.out.below hbW (Nat.le_refl _))
    go_upto_region 10 with (first | ((with_reducible refine look_load ?_); refine wpList_load_g rfl _ _ rfl _ rfl _ _ _ _ b0 Tryd.underlying27 rfl (by kernel_rfl) ?_) | (go_at_call 20; refine (HB.out _ HsX.out).mono ?_; rintro e wy ⟨A, ca, rfl, o1, ly⟩) | fail)
    have b0y := b0.below ly b0.lt
    have hby := hbW.trans (ly.mono hbW.size)
    go_upto_region 11 with (first | ((with_reducible refine look_load ?_); refine wpList_load_g rfl _ _ rfl _ rfl _ _ _ _ b0y Tryd.underlying27 rfl (by kernel_rfl) ?_) | (go_at_call 21; refine (HB2.out _).mono ?_; rintro e wz ⟨B, cb, rfl, o2, lz⟩) | fail)
    have hbz := hby.trans (lz.mono hby.size)
    have o1z := (o1.below lz (Nat.le_refl _)).rd
    have HSm := Lib.hid (same_any A B ca cb ML.length ML wz rfl (by omega) o1z o2.rd)
    go_wp2_with (go_at_call 22; refine HSm.out.mono ?_; rintro e wq ⟨rfl, lq⟩)
    go_ret
    exact ⟨by simp, hbz.trans (lq.mono hbz.size)⟩
  · have hc0 := b0.cell
    go_upto_region 9 with (first | ((with_reducible refine look_load ?_); refine wpList_load_g rfl _ _ rfl _ rfl _ _ _ _ b0 Tryd.underlying27 rfl (by kernel_rfl) ?_) | (go_at_call 44; refine (HR2.out _).mono ?_; rintro e wr ⟨rfl, lr⟩; have hbr := hbW.trans (lr.mono hbW.size); have b0r := b0.below lr b0.lt) | fail)
    clear hc0
    have HsX := Lib.hid (Hs.out.below hbr (Nat.le_refl _))
    go_upto_region 10 with (first | ((with_reducible refine look_load ?_); refine wpList_load_g rfl _ _ rfl _ rfl _ _ _ _ b0r Tryd.underlying27 rfl (by kernel_rfl) ?_) | (go_at_call 20; refine (HB.out _ HsX.out).mono ?_; rintro e wy ⟨A, ca, rfl, o1, ly⟩) | fail)
    have b0y := b0r.below ly b0r.lt
    have hby := hbr.trans (ly.mono hbr.size)
    go_upto_region 11 with (first | ((with_reducible refine look_load ?_); refine wpList_load_g rfl _ _ rfl _ rfl _ _ _ _ b0y Tryd.underlying27 rfl (by kernel_rfl) ?_) | (go_at_call 21; refine (HB2.out _).mono ?_; rintro e wz ⟨B, cb, rfl, o2, lz⟩) | fail)
    have hbz := hby.trans (lz.mono hby.size)
    have o1z := (o1.below lz (Nat.le_refl _)).rd
    have HSm := Lib.hid (same_any A B ca cb ML.length ML wz rfl (by omega) o1z o2.rd)
    go_wp2_with (go_at_call 22; refine HSm.out.mono ?_; rintro e wq ⟨rfl, lq⟩)
    go_ret
    exact ⟨by simp, hbz.trans (lq.mono hbz.size)⟩
  · have hc0 := b0.cell
    go_upto_region 9 with (fail)
    clear hc0
    have HsX := Lib.hid (Hs.out.below hbW (Nat.le_refl _))
    go_upto_region 10 with (first | ((with_reducible refine look_load ?_); refine wpList_load_g rfl _ _ rfl _ rfl _ _ _ _ b0 Tryd.underlying27 rfl (by kernel_rfl) ?_) | (go_at_call 20; refine (HB.out _ HsX.out).mono ?_; rintro e wy ⟨A, ca, rfl, o1, ly⟩) | fail)
    have b0y := b0.below ly b0.lt
    have hby := hbW.trans (ly.mono hbW.size)
    go_upto_region 11 with (first | ((with_reducible refine look_load ?_); refine wpList_load_g rfl _ _ rfl _ rfl _ _ _ _ b0y Tryd.underlying27 rfl (by kernel_rfl) ?_) | (go_at_call 21; refine (HB2.out _).mono ?_; rintro e wz ⟨B, cb, rfl, o2, lz⟩) | fail)
    have hbz := hby.trans (lz.mono hby.size)
    have o1z := (o1.below lz (Nat.le_refl _)).rd
    have HSm := Lib.hid (same_any A B ca cb ML.length ML wz rfl (by omega) o1z o2.rd)
    go_wp2_with (go_at_call 22; refine HSm.out.mono ?_; rintro e wq ⟨rfl, lq⟩)
    go_ret
    exact ⟨by simp, hbz.trans (lq.mono hbz.size)⟩
  · have hc0 := b0.cell
    go_wp2_with (first | ((with_reducible refine look_load ?_); refine wpList_load_g rfl _ _ rfl _ rfl _ _ _ _ b0 Tryd.underlying27 rfl (by kernel_rfl) ?_) | (go_at_call 44; refine (HR2.out _).mono ?_; rintro e wr ⟨rfl, lr⟩; have hbr := hbW.trans (lr.mono hbW.size); have b0r := b0.below lr b0.lt) | fail)
    go_ret
    exact ⟨rfl, hbr⟩

end Go.Proofs.YtebeekjcepjcnaaDoor
