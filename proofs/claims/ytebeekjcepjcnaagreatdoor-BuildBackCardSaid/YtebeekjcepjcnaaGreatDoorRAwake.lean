/-
  bafflelaw12.awake: the examples of the chapter. bafflelaw12.BuildTells: it returns true.
-/
import Derived.Test.YtebeekjcepjcnaaGreatDoorRM11law
namespace Go.Proofs.YtebeekjcepjcnaaGreatDoor
open Go.RowKit Go.Shelf

def exX : Facts := ⟨⟨6, 167772162, 167772161, 80, 1024⟩, 1, 18, 0, 0, 0, 2, 512, 0, ⟨0, 0, 0, 0, 0⟩, 0⟩
def exY : Facts := ⟨⟨1, 167772162, 167772161, 0, 0⟩, 5, 0, 3, 1, 0, 0, 0, 28, ⟨6, 167772161, 167772162, 1024, 80⟩, 1⟩
def exC : List Int := exY.madeL
theorem exF_ok : exF.Ok := ⟨⟨by decide, by decide, by decide, by decide, by decide, by decide, by decide, by decide, by decide, by decide⟩, by decide, by decide, by decide, by decide, by decide, by decide, by decide, by decide, by decide, by decide, by decide, by decide, by decide, by decide, by decide, by decide, ⟨by decide, by decide, by decide, by decide, by decide, by decide, by decide, by decide, by decide, by decide⟩, by decide, by decide⟩
theorem exY_ok : exY.Ok := ⟨⟨by decide, by decide, by decide, by decide, by decide, by decide, by decide, by decide, by decide, by decide⟩, by decide, by decide, by decide, by decide, by decide, by decide, by decide, by decide, by decide, by decide, by decide, by decide, by decide, by decide, by decide, by decide, ⟨by decide, by decide, by decide, by decide, by decide, by decide, by decide, by decide, by decide, by decide⟩, by decide, by decide⟩
theorem exF_made : exF.madeL = exB ∧ exF.madeE = 0 := by decide +kernel
theorem exF_answer : exF.answerF = exX ∧ exF.answerE = 0 := ⟨Facts.eqB_iff.1 (by decide +kernel), by decide +kernel⟩
theorem exF_reject : exF.rejectF 3 1 = exY ∧ exF.rejectE 3 1 = 0 := ⟨Facts.eqB_iff.1 (by decide +kernel), by decide +kernel⟩
theorem exC_len : exC.length = 56 ∧ exY.madeE = 0 ∧ exC.drop 28 = (exB.take 28).set 27 0 := by decide +kernel
def bad0 : Facts := ⟨⟨6, 167772161, 167772161, 1024, 80⟩, 1, 2, 0, 0, 1, 0, 512, 0, ⟨0, 0, 0, 0, 0⟩, 0⟩
theorem bad0_ok : bad0.Ok := ⟨⟨by decide, by decide, by decide, by decide, by decide, by decide, by decide, by decide, by decide, by decide⟩, by decide, by decide, by decide, by decide, by decide, by decide, by decide, by decide, by decide, by decide, by decide, by decide, by decide, by decide, by decide, by decide, ⟨by decide, by decide, by decide, by decide, by decide, by decide, by decide, by decide, by decide, by decide⟩, by decide, by decide⟩
theorem bad0_no : bad0.right = false := by decide +kernel
theorem bad0_any (W : World) (h : SortsAt W) : Calls Tryz.prog 8 #[.agg #[.int .u8 6, .int .u32 167772161, .int .u32 167772161, .int .u16 1024, .int .u16 80, .int .u8 1, .int .u8 2, .int .u8 0, .int .u8 0, .int .u32 1, .int .u32 0, .int .i64 512, .int .i64 0, .int .u8 0, .int .u32 0, .int .u32 0, .int .u16 0, .int .u16 0, .int .u8 0]] W fun e w' => e = .returned (.tuple #[.slice none 0 0, .int .i64 120]) ∧ Below W.heap.size W w' := build_no bad0 W bad0_ok bad0_no h
def bad1 : Facts := ⟨⟨6, 167772161, 167772162, 1024, 80⟩, 1, 0, 0, 0, 1, 0, 512, 0, ⟨0, 0, 0, 0, 0⟩, 0⟩
theorem bad1_ok : bad1.Ok := ⟨⟨by decide, by decide, by decide, by decide, by decide, by decide, by decide, by decide, by decide, by decide⟩, by decide, by decide, by decide, by decide, by decide, by decide, by decide, by decide, by decide, by decide, by decide, by decide, by decide, by decide, by decide, by decide, ⟨by decide, by decide, by decide, by decide, by decide, by decide, by decide, by decide, by decide, by decide⟩, by decide, by decide⟩
theorem bad1_no : bad1.right = false := by decide +kernel
theorem bad1_any (W : World) (h : SortsAt W) : Calls Tryz.prog 8 #[.agg #[.int .u8 6, .int .u32 167772161, .int .u32 167772162, .int .u16 1024, .int .u16 80, .int .u8 1, .int .u8 0, .int .u8 0, .int .u8 0, .int .u32 1, .int .u32 0, .int .i64 512, .int .i64 0, .int .u8 0, .int .u32 0, .int .u32 0, .int .u16 0, .int .u16 0, .int .u8 0]] W fun e w' => e = .returned (.tuple #[.slice none 0 0, .int .i64 120]) ∧ Below W.heap.size W w' := build_no bad1 W bad1_ok bad1_no h
def bad2 : Facts := ⟨⟨6, 167772161, 167772162, 1024, 80⟩, 1, 2, 0, 0, 1, 0, 65536, 0, ⟨0, 0, 0, 0, 0⟩, 0⟩
theorem bad2_ok : bad2.Ok := ⟨⟨by decide, by decide, by decide, by decide, by decide, by decide, by decide, by decide, by decide, by decide⟩, by decide, by decide, by decide, by decide, by decide, by decide, by decide, by decide, by decide, by decide, by decide, by decide, by decide, by decide, by decide, by decide, ⟨by decide, by decide, by decide, by decide, by decide, by decide, by decide, by decide, by decide, by decide⟩, by decide, by decide⟩
theorem bad2_no : bad2.right = false := by decide +kernel
theorem bad2_any (W : World) (h : SortsAt W) : Calls Tryz.prog 8 #[.agg #[.int .u8 6, .int .u32 167772161, .int .u32 167772162, .int .u16 1024, .int .u16 80, .int .u8 1, .int .u8 2, .int .u8 0, .int .u8 0, .int .u32 1, .int .u32 0, .int .i64 65536, .int .i64 0, .int .u8 0, .int .u32 0, .int .u32 0, .int .u16 0, .int .u16 0, .int .u8 0]] W fun e w' => e = .returned (.tuple #[.slice none 0 0, .int .i64 120]) ∧ Below W.heap.size W w' := build_no bad2 W bad2_ok bad2_no h
def bad3 : Facts := ⟨⟨6, 167772161, 167772162, 1024, 80⟩, 1, 2, 8, 0, 1, 0, 512, 0, ⟨0, 0, 0, 0, 0⟩, 0⟩
theorem bad3_ok : bad3.Ok := ⟨⟨by decide, by decide, by decide, by decide, by decide, by decide, by decide, by decide, by decide, by decide⟩, by decide, by decide, by decide, by decide, by decide, by decide, by decide, by decide, by decide, by decide, by decide, by decide, by decide, by decide, by decide, by decide, ⟨by decide, by decide, by decide, by decide, by decide, by decide, by decide, by decide, by decide, by decide⟩, by decide, by decide⟩
theorem bad3_no : bad3.right = false := by decide +kernel
theorem bad3_any (W : World) (h : SortsAt W) : Calls Tryz.prog 8 #[.agg #[.int .u8 6, .int .u32 167772161, .int .u32 167772162, .int .u16 1024, .int .u16 80, .int .u8 1, .int .u8 2, .int .u8 8, .int .u8 0, .int .u32 1, .int .u32 0, .int .i64 512, .int .i64 0, .int .u8 0, .int .u32 0, .int .u32 0, .int .u16 0, .int .u16 0, .int .u8 0]] W fun e w' => e = .returned (.tuple #[.slice none 0 0, .int .i64 120]) ∧ Below W.heap.size W w' := build_no bad3 W bad3_ok bad3_no h

theorem exBuild_any (W : World) (h : SortsAt W) : Calls Tryz.prog 8 #[.agg #[.int .u8 6, .int .u32 167772161, .int .u32 167772162, .int .u16 1024, .int .u16 80, .int .u8 1, .int .u8 2, .int .u8 0, .int .u8 0, .int .u32 1, .int .u32 0, .int .i64 512, .int .i64 0, .int .u8 0, .int .u32 0, .int .u32 0, .int .u16 0, .int .u16 0, .int .u8 0]] W fun e w' => ∃ g cap, e = .returned (.tuple #[.slice (some ⟨g, 0, none⟩) 40 cap, .int .i64 0]) ∧ Own w' W.heap.size (.slice (some ⟨g, 0, none⟩) 40 cap) exB ∧ Below W.heap.size W w' := by
  refine (build_all exF W exF_ok h).mono ?_
  rintro e w' ⟨A, cap, rfl, o, l⟩
  rw [exF_made.1, exF_made.2] at *
  obtain ⟨g, c2, he, _⟩ := o.form (by decide)
  simp only [Value.slice.injEq] at he
  obtain ⟨rfl, _, rfl⟩ := he
  exact ⟨g, cap, rfl, o, l⟩
theorem exBuildY_any (W : World) (h : SortsAt W) : Calls Tryz.prog 8 #[.agg #[.int .u8 1, .int .u32 167772162, .int .u32 167772161, .int .u16 0, .int .u16 0, .int .u8 5, .int .u8 0, .int .u8 3, .int .u8 1, .int .u32 0, .int .u32 0, .int .i64 0, .int .i64 28, .int .u8 6, .int .u32 167772161, .int .u32 167772162, .int .u16 1024, .int .u16 80, .int .u8 1]] W fun e w' => ∃ g cap, e = .returned (.tuple #[.slice (some ⟨g, 0, none⟩) 56 cap, .int .i64 0]) ∧ 56 ≤ cap ∧ Own w' W.heap.size (.slice (some ⟨g, 0, none⟩) 56 cap) exC ∧ Below W.heap.size W w' := by
  refine (build_all exY W exY_ok h).mono ?_
  rintro e w' ⟨A, cap, rfl, o, l⟩
  have hl : exY.madeL.length = 56 := exC_len.1
  obtain ⟨g, c2, he, _, _, hc, _⟩ := o.form (by rw [hl]; decide)
  rw [exC_len.2.1]
  rw [hl] at *
  simp only [Value.slice.injEq] at he
  obtain ⟨rfl, _, rfl⟩ := he
  exact ⟨g, cap, rfl, hc, o, l⟩
theorem exAnswer_any (W : World) (h : SortsAt W) : Calls Tryz.prog 13 #[.agg #[.int .u8 6, .int .u32 167772161, .int .u32 167772162, .int .u16 1024, .int .u16 80, .int .u8 1, .int .u8 2, .int .u8 0, .int .u8 0, .int .u32 1, .int .u32 0, .int .i64 512, .int .i64 0, .int .u8 0, .int .u32 0, .int .u32 0, .int .u16 0, .int .u16 0, .int .u8 0]] W fun e w' => e = .returned (.tuple #[.agg #[.int .u8 6, .int .u32 167772162, .int .u32 167772161, .int .u16 80, .int .u16 1024, .int .u8 1, .int .u8 18, .int .u8 0, .int .u8 0, .int .u32 0, .int .u32 2, .int .i64 512, .int .i64 0, .int .u8 0, .int .u32 0, .int .u32 0, .int .u16 0, .int .u16 0, .int .u8 0], .int .i64 0]) ∧ Below W.heap.size W w' := by
  have := answer_all exF W exF_ok h
  rw [exF_answer.1, exF_answer.2] at this
  exact this
theorem exReject_any (W : World) (h : SortsAt W) : Calls Tryz.prog 7 #[.agg #[.int .u8 6, .int .u32 167772161, .int .u32 167772162, .int .u16 1024, .int .u16 80, .int .u8 1, .int .u8 2, .int .u8 0, .int .u8 0, .int .u32 1, .int .u32 0, .int .i64 512, .int .i64 0, .int .u8 0, .int .u32 0, .int .u32 0, .int .u16 0, .int .u16 0, .int .u8 0], .int .u8 3, .int .u8 1] W fun e w' => e = .returned (.tuple #[.agg #[.int .u8 1, .int .u32 167772162, .int .u32 167772161, .int .u16 0, .int .u16 0, .int .u8 5, .int .u8 0, .int .u8 3, .int .u8 1, .int .u32 0, .int .u32 0, .int .i64 0, .int .i64 28, .int .u8 6, .int .u32 167772161, .int .u32 167772162, .int .u16 1024, .int .u16 80, .int .u8 1], .int .i64 0]) ∧ Below W.heap.size W w' := by
  have := reject_any exF 3 1 W exF_ok h (by decide)
  rw [exF_reject.1, exF_reject.2] at this
  exact this
theorem exF12_any (W : World) : Calls Tryz.prog 12 #[] W fun e w' => e = .returned (.agg #[.int .u8 6, .int .u32 167772161, .int .u32 167772162, .int .u16 1024, .int .u16 80, .int .u8 1, .int .u8 2, .int .u8 0, .int .u8 0, .int .u32 1, .int .u32 0, .int .i64 512, .int .i64 0, .int .u8 0, .int .u32 0, .int .u32 0, .int .u16 0, .int .u16 0, .int .u8 0]) ∧ Below W.heap.size W w' := ex12_any W

set_option maxRecDepth 100000 in
set_option maxHeartbeats 4000000 in
theorem awake_any (w : World) (hs : SortsAt w) : Calls Tryz.prog 5 #[] w fun e w' => e = .returned (.bool true) ∧ Below w.heap.size w w' := by
  have Hs := Lib.hid hs
  clear hs
  go_enter Tryz.func5, Tryz.ntmps5
  have hSt : St w w.heap.size [] w := St.nil (Below.refl _ _) (Nat.le_refl _)
  go_upto_region 2 with (first | (go_at_call 12; refine (exF12_any _).mono ?_; rintro e wm1 ⟨rfl, l2⟩; have HgmX := Lib.hid l2.size) | ((with_reducible refine look_store ?_); refine wpList_store_new rfl _ _ _ rfl _ _ rfl rfl _ _ rfl (by kernel_rfl) (by simp) (by simp [Value.oneCell']) ?_) | fail)
  try dsimp only [Act.put]
  refine wp_name1 ?_
  intro wn hb2 hs2 b1
  clear hs2
  replace hSt := ((hSt.below l2).below hb2).cons b1
  clear l2 hb2 b1
  have HsW := Lib.hid (Hs.out.below hSt.1 (Nat.le_refl _))
  have Hgm := Lib.hid (show w.heap.size ≤ wm1.heap.size from HgmX.out)
  have b1 := hSt.get 0 rfl
  go_upto_region 3 with (first | ((with_reducible refine look_load ?_); refine wpList_load_row rfl _ _ rfl _ rfl _ _ _ _ b1 Tryz.underlying41 rfl (by kernel_rfl) ?_) | (go_at_call 8; refine (exBuild_any _ HsW.out).mono ?_; rintro e wm ⟨gb, cb, rfl, ob, l2⟩) | fail)
  replace hSt := hSt.below l2
  clear b1 l2
  replace HsW := Lib.hid (Hs.out.below hSt.1 (Nat.le_refl _))
  have b1 := hSt.get 0 rfl
  go_upto_region 4 with (first | ((with_reducible refine look_load ?_); refine wpList_load_row rfl _ _ rfl _ rfl _ _ _ _ b1 Tryz.underlying41 rfl (by kernel_rfl) ?_) | (go_at_call 13; refine (exAnswer_any _ HsW.out).mono ?_; rintro e wm ⟨rfl, l2⟩) | ((with_reducible refine look_store ?_); refine wpList_store_new rfl _ _ _ rfl _ _ rfl rfl _ _ rfl (by kernel_rfl) (by simp) (by simp [Value.oneCell']) ?_) | fail)
  try dsimp only [Act.put]
  refine wp_name1 ?_
  intro wn hb2 hs2 b4
  clear hs2
  have hgr := l2.trans (hb2.mono l2.size)
  replace ob := ob.below hgr (Nat.le_refl _)
  replace hSt := ((hSt.below l2).below hb2).cons b4
  clear l2 hb2 b4 b1 hgr
  replace HsW := Lib.hid (Hs.out.below hSt.1 (Nat.le_refl _))
  have b1 := hSt.get 1 rfl
  go_upto_region 5 with (first | ((with_reducible refine look_load ?_); refine wpList_load_row rfl _ _ rfl _ rfl _ _ _ _ b1 Tryz.underlying41 rfl (by kernel_rfl) ?_) | (go_at_call 7; refine (exReject_any _ HsW.out).mono ?_; rintro e wm ⟨rfl, l2⟩) | ((with_reducible refine look_store ?_); refine wpList_store_new rfl _ _ _ rfl _ _ rfl rfl _ _ rfl (by kernel_rfl) (by simp) (by simp [Value.oneCell']) ?_) | fail)
  try dsimp only [Act.put]
  refine wp_name1 ?_
  intro wn hb2 hs2 b6
  clear hs2
  have hgr := l2.trans (hb2.mono l2.size)
  replace ob := ob.below hgr (Nat.le_refl _)
  replace hSt := ((hSt.below l2).below hb2).cons b6
  clear l2 hb2 b6 b1 hgr
  replace HsW := Lib.hid (Hs.out.below hSt.1 (Nat.le_refl _))
  have b6 := hSt.get 0 rfl
  go_upto_region 6 with (first | ((with_reducible refine look_load ?_); refine wpList_load_row rfl _ _ rfl _ rfl _ _ _ _ b6 Tryz.underlying41 rfl (by kernel_rfl) ?_) | (go_at_call 8; refine (exBuildY_any _ HsW.out).mono ?_; rintro e wm ⟨gc, cc, rfl, hcc, oc, l2⟩) | fail)
  replace ob := ob.below l2 (Nat.le_refl _)
  replace oc := oc.base_le hSt.2.1
  replace hSt := hSt.below l2
  clear b6 l2 HsW
  go_upto_region 8 with (first | (go_at_call 15; refine (ex11_any _).mono ?_; rintro e wa ⟨ge, rfl, oe, la⟩; have hob := (ob.below la (Nat.le_refl _)).rd) | (go_at_call 14; refine (same_any _ _ _ _ 40 exB _ rfl (by omega) hob oe.rd).mono ?_; rintro e wb ⟨rfl, lb⟩; have hStb := (hSt.below la).below lb; have hc6 := (hStb.get 0 rfl).cell; have hc4 := (hStb.get 1 rfl).cell; have hc1 := (hStb.get 2 rfl).cell) | fail)
  clear hc6 hc4 hc1
  replace oc := (oc.below la (Nat.le_refl _)).below lb (Nat.le_refl _)
  clear ob oe hob la lb
  clear hSt
  have hszb := hStb.2.1
  go_upto_region 9 with (first | (go_at_call 15; refine (ex11_any _).mono ?_; rintro e we ⟨g2, rfl, oe, le⟩) | (at_builtin; refine app_own rfl (.tmp 90) (.tmp 92) rfl wb.heap.size _ [] rfl ((own_lit' (w := wb) (xs := []) rfl rfl rfl (by simp [maxLen]) (Nat.le_refl _)).below le (Nat.le_refl _)) _ (some ⟨g2, 0, none⟩) 28 40 (exB.take 28) rfl rfl (oe.rd.take 28) (by decide) (by have := le.size; simp at this; omega) ?_; intro v9 w9 o9 l9 _ _) | fail)
  obtain ⟨g9, c9, rfl, hg9, _, hcap9, _⟩ := o9.form (by decide)
  have o9 : Own w9 wb.heap.size (.slice (some ⟨g9, 0, none⟩) 28 c9) (exB.take 28) := o9
  have hHB : Below wb.heap.size wb w9 := (((Below.refl _ _).alloc (Nat.le_refl _) _).trans (le.mono (by simp))).trans l9
  have c27 : w9.cell? ⟨g9, 27, none⟩ = some (.int .u8 ((exB.take 28).getD 27 0)) := o9.cell 27 (by decide)
  have f27 : w9.frozen? ⟨g9, 27, none⟩ = false := o9.free 27
  generalize (exB.take 28).getD 27 0 = z27 at *
  have oq := o9.set 27 0
  have hHC := hHB.setCell (p := ⟨g9, 27, none⟩) (by show wb.heap.size ≤ g9; exact hg9) (.int .u8 0)
  have e9 : (28 : Int) ≤ c9 := by have : (exB.take 28).length = 28 := by decide
                                  have hcap9 : (exB.take 28).length ≤ c9 := hcap9
                                  omega
  clear o9 oe le l9 hHB
  go_upto_region 10 with (fail)
  clear c27 f27 e9
  generalize w9.setCell ⟨g9, 27, none⟩ (.int .u8 0) = wx at *
  have hStx := hStb.below hHC
  have ocx := oc.below hHC (Nat.le_refl _)
  have hrdc := ocx.rd.drop 28 (A' := some ⟨gc, 28, none⟩) (fun _ b off h => by
    simp only [Option.some.injEq, Addr.mk.injEq, and_true] at h
    obtain ⟨rfl, rfl⟩ := h
    rfl)
  rw [exC_len.2.2] at hrdc
  have hrdq := oq.rd
  clear oc ocx oq hHC hStb
  have hcc28 : ¬ (28 : Int) = cc := by omega
  go_upto_region 12 with (first | (go_at_call 14; refine (same_any _ _ _ _ 28 ((exB.take 28).set 27 0) _ (by decide) (by omega) hrdc hrdq).mono ?_; rintro e wy ⟨rfl, ly⟩) | fail)
  have hSty := hStx.below ly
  clear hStx hrdc hrdq ly hcc28 hcc hcap9 hg9
  have hSt1 : St w w.heap.size [(wm1.heap.size, 41, #[.int .u8 6, .int .u32 167772161, .int .u32 167772162, .int .u16 1024, .int .u16 80, .int .u8 1, .int .u8 2, .int .u8 0, .int .u8 0, .int .u32 1, .int .u32 0, .int .i64 512, .int .i64 0, .int .u8 0, .int .u32 0, .int .u32 0, .int .u16 0, .int .u16 0, .int .u8 0])] wy := (St.nil hSty.1 hSty.2.1).cons (hSty.get 2 rfl)
  have hgm : w.heap.size ≤ wm1.heap.size := Hgm.out
  clear hSty
  go_wp2_with fail
  go_loopw [11, 12, 13, 14, 101] (fun _ _ _ _ i wr => ∃ k : Nat, k ≤ 4 ∧ i = .int .i64 k ∧ St w w.heap.size [(wm1.heap.size, 41, #[.int .u8 6, .int .u32 167772161, .int .u32 167772162, .int .u16 1024, .int .u16 80, .int .u8 1, .int .u8 2, .int .u8 0, .int .u8 0, .int .u32 1, .int .u32 0, .int .i64 512, .int .i64 0, .int .u8 0, .int .u32 0, .int .u32 0, .int .u16 0, .int .u16 0, .int .u8 0])] wr) (fun _ _ _ _ i _ => 4 - (intOf i).toNat)
  case atStart => exact ⟨0, by omega, rfl, hSt1⟩
  case round =>
    obtain ⟨k, hk, rfl, hStk⟩ := hrel
    have b1 := hStk.get 0 rfl
    have hszk := hStk.2.1
    have hltk := b1.lt
    rcases (show k = 0 ∨ k = 1 ∨ k = 2 ∨ k = 3 ∨ k = 4 by omega) with rfl | rfl | rfl | rfl | rfl
    · go_upto_region 16 with (first | ((with_reducible refine look_load ?_); refine wpList_load_row rfl _ _ rfl _ rfl _ _ _ _ b1 Tryz.underlying41 rfl (by kernel_rfl) ?_) | ((with_reducible refine look_store ?_); refine wpList_store_new rfl _ _ _ rfl _ _ rfl rfl _ _ rfl (by kernel_rfl) (by simp) (by simp [Value.oneCell']) ?_) | fail)
      try dsimp only [Act.put]
      refine wp_name1 ?_
      intro wn hb2 hs2 bx
      clear hs2
      have hStn := hStk.below hb2
      have hcx := bx.cell
      have hfx := bx.frozen
      go_upto_region 24 with (fail)
      have bx2 : Blk _ _ _ #[.int .u8 6, .int .u32 167772161, .int .u32 167772161, .int .u16 1024, .int .u16 80, .int .u8 1, .int .u8 2, .int .u8 0, .int .u8 0, .int .u32 1, .int .u32 0, .int .i64 512, .int .i64 0, .int .u8 0, .int .u32 0, .int .u32 0, .int .u16 0, .int .u16 0, .int .u8 0] := bx.set 2 (.int .u32 167772161)
      have hSt2 := hStn.setFar (p := ⟨wr.heap.size, 2, none⟩) (by show w.heap.size ≤ wr.heap.size; omega) (by simp; omega) (.int .u32 167772161)
      have HsW := Lib.hid (Hs.out.below hSt2.1 (Nat.le_refl _))
      clear hcx hfx bx hStn hStk b1 hb2
      go_wp2_with (first | ((with_reducible refine look_load ?_); refine wpList_load_row rfl _ _ rfl _ rfl _ _ _ _ bx2 Tryz.underlying41 rfl (by kernel_rfl) ?_) | (go_at_call 8; refine (bad0_any _ HsW.out).mono ?_; rintro e wz ⟨rfl, lz⟩) | fail)
      have hSt3 := hSt2.below lz
      clear hSt2 HsW bx2
      go_roundw
      case rel => exact ⟨1, by omega, rfl, hSt3⟩
      case measure => simp [intOf]
    · go_upto_region 16 with (first | ((with_reducible refine look_load ?_); refine wpList_load_row rfl _ _ rfl _ rfl _ _ _ _ b1 Tryz.underlying41 rfl (by kernel_rfl) ?_) | ((with_reducible refine look_store ?_); refine wpList_store_new rfl _ _ _ rfl _ _ rfl rfl _ _ rfl (by kernel_rfl) (by simp) (by simp [Value.oneCell']) ?_) | fail)
      try dsimp only [Act.put]
      refine wp_name1 ?_
      intro wn hb2 hs2 bx
      clear hs2
      have hStn := hStk.below hb2
      have hcx := bx.cell
      have hfx := bx.frozen
      go_upto_region 24 with (fail)
      have bx2 : Blk _ _ _ #[.int .u8 6, .int .u32 167772161, .int .u32 167772162, .int .u16 1024, .int .u16 80, .int .u8 1, .int .u8 0, .int .u8 0, .int .u8 0, .int .u32 1, .int .u32 0, .int .i64 512, .int .i64 0, .int .u8 0, .int .u32 0, .int .u32 0, .int .u16 0, .int .u16 0, .int .u8 0] := bx.set 6 (.int .u8 0)
      have hSt2 := hStn.setFar (p := ⟨wr.heap.size, 6, none⟩) (by show w.heap.size ≤ wr.heap.size; omega) (by simp; omega) (.int .u8 0)
      have HsW := Lib.hid (Hs.out.below hSt2.1 (Nat.le_refl _))
      clear hcx hfx bx hStn hStk b1 hb2
      go_wp2_with (first | ((with_reducible refine look_load ?_); refine wpList_load_row rfl _ _ rfl _ rfl _ _ _ _ bx2 Tryz.underlying41 rfl (by kernel_rfl) ?_) | (go_at_call 8; refine (bad1_any _ HsW.out).mono ?_; rintro e wz ⟨rfl, lz⟩) | fail)
      have hSt3 := hSt2.below lz
      clear hSt2 HsW bx2
      go_roundw
      case rel => exact ⟨2, by omega, rfl, hSt3⟩
      case measure => simp [intOf]
    · go_upto_region 16 with (first | ((with_reducible refine look_load ?_); refine wpList_load_row rfl _ _ rfl _ rfl _ _ _ _ b1 Tryz.underlying41 rfl (by kernel_rfl) ?_) | ((with_reducible refine look_store ?_); refine wpList_store_new rfl _ _ _ rfl _ _ rfl rfl _ _ rfl (by kernel_rfl) (by simp) (by simp [Value.oneCell']) ?_) | fail)
      try dsimp only [Act.put]
      refine wp_name1 ?_
      intro wn hb2 hs2 bx
      clear hs2
      have hStn := hStk.below hb2
      have hcx := bx.cell
      have hfx := bx.frozen
      go_upto_region 24 with (fail)
      have bx2 : Blk _ _ _ #[.int .u8 6, .int .u32 167772161, .int .u32 167772162, .int .u16 1024, .int .u16 80, .int .u8 1, .int .u8 2, .int .u8 0, .int .u8 0, .int .u32 1, .int .u32 0, .int .i64 65536, .int .i64 0, .int .u8 0, .int .u32 0, .int .u32 0, .int .u16 0, .int .u16 0, .int .u8 0] := bx.set 11 (.int .i64 65536)
      have hSt2 := hStn.setFar (p := ⟨wr.heap.size, 11, none⟩) (by show w.heap.size ≤ wr.heap.size; omega) (by simp; omega) (.int .i64 65536)
      have HsW := Lib.hid (Hs.out.below hSt2.1 (Nat.le_refl _))
      clear hcx hfx bx hStn hStk b1 hb2
      go_wp2_with (first | ((with_reducible refine look_load ?_); refine wpList_load_row rfl _ _ rfl _ rfl _ _ _ _ bx2 Tryz.underlying41 rfl (by kernel_rfl) ?_) | (go_at_call 8; refine (bad2_any _ HsW.out).mono ?_; rintro e wz ⟨rfl, lz⟩) | fail)
      have hSt3 := hSt2.below lz
      clear hSt2 HsW bx2
      go_roundw
      case rel => exact ⟨3, by omega, rfl, hSt3⟩
      case measure => simp [intOf]
    · go_upto_region 16 with (first | ((with_reducible refine look_load ?_); refine wpList_load_row rfl _ _ rfl _ rfl _ _ _ _ b1 Tryz.underlying41 rfl (by kernel_rfl) ?_) | ((with_reducible refine look_store ?_); refine wpList_store_new rfl _ _ _ rfl _ _ rfl rfl _ _ rfl (by kernel_rfl) (by simp) (by simp [Value.oneCell']) ?_) | fail)
      try dsimp only [Act.put]
      refine wp_name1 ?_
      intro wn hb2 hs2 bx
      clear hs2
      have hStn := hStk.below hb2
      have hcx := bx.cell
      have hfx := bx.frozen
      go_upto_region 24 with (fail)
      have bx2 : Blk _ _ _ #[.int .u8 6, .int .u32 167772161, .int .u32 167772162, .int .u16 1024, .int .u16 80, .int .u8 1, .int .u8 2, .int .u8 8, .int .u8 0, .int .u32 1, .int .u32 0, .int .i64 512, .int .i64 0, .int .u8 0, .int .u32 0, .int .u32 0, .int .u16 0, .int .u16 0, .int .u8 0] := bx.set 7 (.int .u8 8)
      have hSt2 := hStn.setFar (p := ⟨wr.heap.size, 7, none⟩) (by show w.heap.size ≤ wr.heap.size; omega) (by simp; omega) (.int .u8 8)
      have HsW := Lib.hid (Hs.out.below hSt2.1 (Nat.le_refl _))
      clear hcx hfx bx hStn hStk b1 hb2
      go_wp2_with (first | ((with_reducible refine look_load ?_); refine wpList_load_row rfl _ _ rfl _ rfl _ _ _ _ bx2 Tryz.underlying41 rfl (by kernel_rfl) ?_) | (go_at_call 8; refine (bad3_any _ HsW.out).mono ?_; rintro e wz ⟨rfl, lz⟩) | fail)
      have hSt3 := hSt2.below lz
      clear hSt2 HsW bx2
      go_roundw
      case rel => exact ⟨4, by omega, rfl, hSt3⟩
      case measure => simp [intOf]
    · go_wp2_with fail
      go_ret
      exact ⟨rfl, hStk.1⟩

end Go.Proofs.YtebeekjcepjcnaaGreatDoor

namespace Go.Proofs.YtebeekjcepjcnaaGreatDoor
open Go.RowKit Go.Shelf

end Go.Proofs.YtebeekjcepjcnaaGreatDoor
