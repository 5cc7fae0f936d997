/-
  The reference of udp: at, Read; of icmp: at.
-/
import Derived.Test.YtebeekjcepjcnaaDoorProg
import Derived.WalkKit
import Derived.WalkSpells
import Derived.WalkLawsBesides
import Derived.WalkSmall
import Derived.Lib.Hide
import Derived.Deep.AppendLies
import Derived.Maps.AppendAt
import Derived.Laws.AppendOwnNone
import Derived.Laws.CopyOwn
import Derived.OneCell
import Derived.Lib.SliceRun
import Derived.RangeFuncNested
import Derived.RangeFuncBound
import Derived.RangeFuncCalls
import Derived.RangeFuncLeaves
import Derived.Shelf.Abstract
import Derived.OwnWalkIn
import Derived.TacticsInMore
import Derived.LoopNIn
import Derived.LoopIn
import Derived.Orders
import Derived.RegionTactic
import Derived.Still
import Derived.Deep.MidRow
import Derived.Deep.DeepCutAuto
import Derived.Lib.AppendZeros
import Derived.BigRegion
import Derived.ChangeAlike
import Derived.Deep.RegionLaw
import Derived.Deep.RegionHeld3
import Derived.MapKept
import Derived.Test.YtebeekjcepjcnaaDoorSBase
import Derived.Test.YtebeekjcepjcnaaDoorSMem
import Derived.Test.YtebeekjcepjcnaaDoorSCsum
import Derived.Test.YtebeekjcepjcnaaDoorSSum
import Derived.Test.YtebeekjcepjcnaaDoorSRegion
import Derived.Test.YtebeekjcepjcnaaDoorSWalk
import Derived.Test.YtebeekjcepjcnaaDoorSStep
import Derived.Test.YtebeekjcepjcnaaDoorSStepb
import Derived.Test.YtebeekjcepjcnaaDoorSRefa
import Derived.Test.YtebeekjcepjcnaaDoorSConcat
import Derived.Test.YtebeekjcepjcnaaDoorSPkt
import Derived.Test.YtebeekjcepjcnaaDoorSRopts
import Derived.Test.YtebeekjcepjcnaaDoorSRnum
import Derived.Test.YtebeekjcepjcnaaDoorSTcpw
import Derived.Test.YtebeekjcepjcnaaDoorSIcmpr
import Derived.Test.YtebeekjcepjcnaaDoorSIprd
import Derived.Test.YtebeekjcepjcnaaDoorSIpre
import Derived.Test.YtebeekjcepjcnaaDoorSTcprd
import Derived.Test.YtebeekjcepjcnaaDoorSUdprd
namespace Go.Proofs.YtebeekjcepjcnaaDoor
open Go.RowKit
set_option maxRecDepth 100000 in
set_option maxHeartbeats 1000000 in
theorem rAt9_any (b off cap n k : Nat) (xs : List Int) (w : World) (hn : xs.length = n) (hk : k + 2 ≤ n) (hl : n ≤ 1000000) (hb : Byt xs) (hr : Rd w w.heap.size (some ⟨b, off, none⟩) .u8 xs) :
    Calls Tryd.prog 168 #[.slice (some ⟨b, off, none⟩) n cap, .int .i64 k] w fun e w' => e = .returned (.int .i64 (w16At xs k)) ∧ Below w.heap.size w w' := by
  obtain ⟨b2, off2, e, hbl, hc⟩ := hr.at0 (by omega)
  obtain ⟨rfl, rfl⟩ : b = b2 ∧ off = off2 := by simp at e; exact e
  have c0 := hc k (by omega)
  have c1 := hc (k + 1) (by omega)
  obtain ⟨x0, x1⟩ := hb.at_ k
  obtain ⟨y0, y1⟩ := hb.at_ (k + 1)
  have Ho := Lib.hid (show xs.getD k 0 * 256 + xs.getD (k + 1) 0 = w16At xs k by unfold w16At; omega)
  have i0 : (k : Int) < n := by omega
  have i1 : (k : Int) + 1 < n := by omega
  clear hr hc hn hk e
  generalize w16At xs k = R at *
  generalize xs.getD k 0 = x at *
  generalize xs.getD (k + 1) 0 = y at *
  go_enter Tryd.func168, Tryd.ntmps168
  go_wp2_with fail
  refine wp_region_walk0 (by kernel_rfl) (fun _ W => St w w.heap.size [] W) [] Grow [0, 1, 2, 3, 4, 5, 6, 7, 8, 9, 10, 11, 12, 13] (by kernel_rfl) (St.nil (Below.refl _ w) (Nat.le_refl _)).drew ?_
  iterate 14
    apply Walk.one rfl rfl rfl
    case hrun =>
      intro c W hE hF
      have d0 := (hE.1.cell (p := ⟨b, off + k, none⟩) hbl).trans c0
      have d1 := (hE.1.cell (p := ⟨b, off + (k + 1), none⟩) hbl).trans c1
      go_wp2_with fail
      exact TextPost.mk ⟨Grow.refl _, hE⟩
    case hv => rfl
  refine Walk.done (fun W hE hF => ?_)
  have hbW := hE.1
  clear hE hF
  go_wp2_with fail
  go_ret
  exact ⟨by rw [← Ho.out]; rfl, hbW⟩
set_option maxRecDepth 100000 in
set_option maxHeartbeats 1000000 in
theorem rAt10_any (b off cap n k : Nat) (xs : List Int) (w : World) (hn : xs.length = n) (hk : k + 2 ≤ n) (hl : n ≤ 1000000) (hb : Byt xs) (hr : Rd w w.heap.size (some ⟨b, off, none⟩) .u8 xs) :
    Calls Tryd.prog 169 #[.slice (some ⟨b, off, none⟩) n cap, .int .i64 k] w fun e w' => e = .returned (.int .i64 (w16At xs k)) ∧ Below w.heap.size w w' := by
  obtain ⟨b2, off2, e, hbl, hc⟩ := hr.at0 (by omega)
  obtain ⟨rfl, rfl⟩ : b = b2 ∧ off = off2 := by simp at e; exact e
  have c0 := hc k (by omega)
  have c1 := hc (k + 1) (by omega)
  obtain ⟨x0, x1⟩ := hb.at_ k
  obtain ⟨y0, y1⟩ := hb.at_ (k + 1)
  have Ho := Lib.hid (show xs.getD k 0 * 256 + xs.getD (k + 1) 0 = w16At xs k by unfold w16At; omega)
  have i0 : (k : Int) < n := by omega
  have i1 : (k : Int) + 1 < n := by omega
  clear hr hc hn hk e
  generalize w16At xs k = R at *
  generalize xs.getD k 0 = x at *
  generalize xs.getD (k + 1) 0 = y at *
  go_enter Tryd.func169, Tryd.ntmps169
  go_wp2_with fail
  refine wp_region_walk0 (by kernel_rfl) (fun _ W => St w w.heap.size [] W) [] Grow [0, 1, 2, 3, 4, 5, 6, 7, 8, 9, 10, 11, 12, 13] (by kernel_rfl) (St.nil (Below.refl _ w) (Nat.le_refl _)).drew ?_
  iterate 14
    apply Walk.one rfl rfl rfl
    case hrun =>
      intro c W hE hF
      have d0 := (hE.1.cell (p := ⟨b, off + k, none⟩) hbl).trans c0
      have d1 := (hE.1.cell (p := ⟨b, off + (k + 1), none⟩) hbl).trans c1
      go_wp2_with fail
      exact TextPost.mk ⟨Grow.refl _, hE⟩
    case hv => rfl
  refine Walk.done (fun W hE hF => ?_)
  have hbW := hE.1
  clear hE hF
  go_wp2_with fail
  go_ret
  exact ⟨by rw [← Ho.out]; rfl, hbW⟩
theorem udpN_gt (a b c : Int) (h : 0 ≤ c) : (#[.int .u16 a, .int .u16 b, .bool (decide (0 < c))] : Array Value) = udpN a b c := by
  unfold udpN
  rw [show decide (0 < c) = (c != 0) by rw [Bool.eq_iff_iff]; simp; omega]
set_option maxRecDepth 100000 in
set_option maxHeartbeats 4000000 in
theorem r09Read_any (A : Option Addr) (cap n : Nat) (xs : List Int) (w : World) (hn : xs.length = n) (hl : n ≤ 1000000) (hb : Byt xs) (hr : Rd w w.heap.size A .u8 xs) :
    Calls Tryd.prog 140 #[.slice A n cap] w (UdpOut w xs) := by
  by_cases h8 : n < 8
  · have HE := Lib.hid (show udpE xs = 90 by unfold udpE; rw [if_pos (by omega)])
    have g1 : (n : Int) < 8 := by omega
    go_enter Tryd.func140, Tryd.ntmps140
    go_wp2_with (first | ((with_reducible refine look_store ?_); refine wpList_store_new rfl _ _ _ rfl _ _ rfl rfl _ _ rfl (by kernel_rfl) (by simp) (by simp [Value.oneCell']) ?_) | fail)
    refine bodyPost_ret (results_cell_tmp2 Tryd.results140 _ _ _ _ _ _ _ rfl (Blk.new _ _ _) Tryd.underlying149 rfl (by kernel_rfl)) rfl ⟨?_, (Below.refl _ _).alloc (Nat.le_refl _) _⟩
    rw [HE.out]; rfl
  have HE := Lib.hid (show udpE xs = (if w16At xs 4 < 8 ∨ (n : Int) < w16At xs 4 then 91 else if w16At xs 2 = 0 then 92 else 0) by unfold udpE; rw [if_neg (by omega), hn])
  obtain ⟨b, off, rfl, hbl, hc⟩ := hr.at0 (by omega)
  have g1 : ¬ (n : Int) < 8 := by omega
  go_enter Tryd.func140, Tryd.ntmps140
  go_upto_region 1 with (first | ((with_reducible refine look_store ?_); refine wpList_store_new rfl _ _ _ rfl _ _ rfl rfl _ _ rfl (by kernel_rfl) (by simp) (by simp [Value.oneCell']) ?_) | fail)
  refine wp_name1 ?_
  intro w1 hb1 hs1 br
  have hz1 : w.heap.size ≤ w1.heap.size := by omega
  have hbk := Below.refl w1.heap.size w1
  have H0 : Hid (∀ W, Below w1.heap.size w1 W → Calls Tryd.prog 168 #[.slice (some ⟨b, off, none⟩) n cap, .int .i64 0] W fun e w' => e = .returned (.int .i64 (w16At xs 0)) ∧ Below w1.heap.size w1 w') := Lib.hid fun W h => (rAt9_any b off cap n 0 xs W hn (by omega) hl hb ((hr.below (hb1.trans (h.mono hz1)) (Nat.le_refl _)).more (Nat.le_trans hz1 h.size))).mono fun e w' q => ⟨q.1, h.trans (q.2.mono h.size)⟩
  obtain ⟨p0, q0⟩ := w16At_bd hb 0
  have H2 : Hid (∀ W, Below w1.heap.size w1 W → Calls Tryd.prog 168 #[.slice (some ⟨b, off, none⟩) n cap, .int .i64 2] W fun e w' => e = .returned (.int .i64 (w16At xs 2)) ∧ Below w1.heap.size w1 w') := Lib.hid fun W h => (rAt9_any b off cap n 2 xs W hn (by omega) hl hb ((hr.below (hb1.trans (h.mono hz1)) (Nat.le_refl _)).more (Nat.le_trans hz1 h.size))).mono fun e w' q => ⟨q.1, h.trans (q.2.mono h.size)⟩
  obtain ⟨p2, q2⟩ := w16At_bd hb 2
  have H4 : Hid (∀ W, Below w1.heap.size w1 W → Calls Tryd.prog 168 #[.slice (some ⟨b, off, none⟩) n cap, .int .i64 4] W fun e w' => e = .returned (.int .i64 (w16At xs 4)) ∧ Below w1.heap.size w1 w') := Lib.hid fun W h => (rAt9_any b off cap n 4 xs W hn (by omega) hl hb ((hr.below (hb1.trans (h.mono hz1)) (Nat.le_refl _)).more (Nat.le_trans hz1 h.size))).mono fun e w' q => ⟨q.1, h.trans (q.2.mono h.size)⟩
  obtain ⟨p4, q4⟩ := w16At_bd hb 4
  have H6 : Hid (∀ W, Below w1.heap.size w1 W → Calls Tryd.prog 168 #[.slice (some ⟨b, off, none⟩) n cap, .int .i64 6] W fun e w' => e = .returned (.int .i64 (w16At xs 6)) ∧ Below w1.heap.size w1 w') := Lib.hid fun W h => (rAt9_any b off cap n 6 xs W hn (by omega) hl hb ((hr.below (hb1.trans (h.mono hz1)) (Nat.le_refl _)).more (Nat.le_trans hz1 h.size))).mono fun e w' q => ⟨q.1, h.trans (q.2.mono h.size)⟩
  obtain ⟨p6, q6⟩ := w16At_bd hb 6
  have HU := Lib.hid (show ∀ e W, UdpOut w xs e W ↔ e = .returned (.tuple #[.agg (if udpE xs = 0 then udpN (w16At xs 0) (w16At xs 2) (w16At xs 6) else #[.int .u16 0, .int .u16 0, .bool false]), .int .i64 (if udpE xs = 0 then w16At xs 4 else 0), .int .i64 (udpE xs)]) ∧ Below w.heap.size w W from fun _ _ => Iff.rfl)
  have HE0 := Lib.hid (fun (E : Int) (h : udpE xs = E) (h0 : E ≠ 0) e W => (HU.out e W).trans (by rw [h, if_neg h0, if_neg h0]))
  have HE1 := Lib.hid (fun (h : udpE xs = 0) e W => (HU.out e W).trans (by rw [h, if_pos rfl, if_pos rfl, ← udpN_gt _ _ _ p6]))
  clear hr hb hc hn HU
  generalize udpE xs = EE at *
  generalize w16At xs 0 = a0 at *
  generalize w16At xs 2 = a2 at *
  generalize w16At xs 4 = a4 at *
  generalize w16At xs 6 = a6 at *
  have m0 : a0 % 65536 = a0 := by omega
  have m2 : a2 % 65536 = a2 := by omega
  by_cases q1 : a4 < 8
  · have e1 : decide (a4 < 8) = true := decide_eq_true q1
    go_wp2_with (first | ((with_reducible refine (H4.out _ (by assumption)).mono ?_); rintro e wk ⟨rfl, hbk⟩) | ((with_reducible refine (H2.out _ (by assumption)).mono ?_); rintro e wk ⟨rfl, hbk⟩) | ((with_reducible refine (H0.out _ (by assumption)).mono ?_); rintro e wk ⟨rfl, hbk⟩) | ((with_reducible refine (H6.out _ (by assumption)).mono ?_); rintro e wk ⟨rfl, hbk⟩) | (have br2 := br.below hbk br.lt; ((with_reducible refine look_store ?_); refine wpList_store_row rfl _ _ _ rfl _ _ rfl rfl _ _ br2 (by kernel_rfl) (by simp) (by simp [Value.oneCell']) ?_)) | fail)
    have br2 := br.below hbk br.lt
    have hbW := hb1.trans (hbk.mono hz1)
    refine bodyPost_ret (results_cell_tmp2 Tryd.results140 _ _ _ _ _ _ _ rfl (setRow_heap _ _ _ _ _ _ br2) Tryd.underlying149 rfl (by kernel_rfl)) rfl ?_
    exact ((HE0.out 91 (HE.out.trans (by rw [if_pos (.inl q1)])) (by decide) _ _).2 ⟨rfl, below_setRow hbW (Nat.le_refl _) _⟩)
  have e1 : decide (a4 < 8) = false := decide_eq_false q1
  by_cases q2 : (n : Int) < a4
  · have e2 : decide ((n : Int) < a4) = true := decide_eq_true q2
    go_wp2_with (first | ((with_reducible refine (H4.out _ (by assumption)).mono ?_); rintro e wk ⟨rfl, hbk⟩) | ((with_reducible refine (H2.out _ (by assumption)).mono ?_); rintro e wk ⟨rfl, hbk⟩) | ((with_reducible refine (H0.out _ (by assumption)).mono ?_); rintro e wk ⟨rfl, hbk⟩) | ((with_reducible refine (H6.out _ (by assumption)).mono ?_); rintro e wk ⟨rfl, hbk⟩) | (have br2 := br.below hbk br.lt; ((with_reducible refine look_store ?_); refine wpList_store_row rfl _ _ _ rfl _ _ rfl rfl _ _ br2 (by kernel_rfl) (by simp) (by simp [Value.oneCell']) ?_)) | fail)
    have br2 := br.below hbk br.lt
    have hbW := hb1.trans (hbk.mono hz1)
    refine bodyPost_ret (results_cell_tmp2 Tryd.results140 _ _ _ _ _ _ _ rfl (setRow_heap _ _ _ _ _ _ br2) Tryd.underlying149 rfl (by kernel_rfl)) rfl ?_
    exact ((HE0.out 91 (HE.out.trans (by rw [if_pos (.inr q2)])) (by decide) _ _).2 ⟨rfl, below_setRow hbW (Nat.le_refl _) _⟩)
  have e2 : decide ((n : Int) < a4) = false := decide_eq_false q2
  by_cases q3 : a2 = 0
  · have e3 : (a2 == 0) = true := by simpa using q3
    go_wp2_with (first | ((with_reducible refine (H4.out _ (by assumption)).mono ?_); rintro e wk ⟨rfl, hbk⟩) | ((with_reducible refine (H2.out _ (by assumption)).mono ?_); rintro e wk ⟨rfl, hbk⟩) | ((with_reducible refine (H0.out _ (by assumption)).mono ?_); rintro e wk ⟨rfl, hbk⟩) | ((with_reducible refine (H6.out _ (by assumption)).mono ?_); rintro e wk ⟨rfl, hbk⟩) | (have br2 := br.below hbk br.lt; ((with_reducible refine look_store ?_); refine wpList_store_row rfl _ _ _ rfl _ _ rfl rfl _ _ br2 (by kernel_rfl) (by simp) (by simp [Value.oneCell']) ?_)) | fail)
    have br2 := br.below hbk br.lt
    have hbW := hb1.trans (hbk.mono hz1)
    refine bodyPost_ret (results_cell_tmp2 Tryd.results140 _ _ _ _ _ _ _ rfl (setRow_heap _ _ _ _ _ _ br2) Tryd.underlying149 rfl (by kernel_rfl)) rfl ?_
    exact ((HE0.out 92 (HE.out.trans (by rw [if_neg (by omega), if_pos q3])) (by decide) _ _).2 ⟨rfl, below_setRow hbW (Nat.le_refl _) _⟩)
  have e3 : (a2 == 0) = false := by simpa using q3
  go_wp2_with (first | ((with_reducible refine (H4.out _ (by assumption)).mono ?_); rintro e wk ⟨rfl, hbk⟩) | ((with_reducible refine (H2.out _ (by assumption)).mono ?_); rintro e wk ⟨rfl, hbk⟩) | ((with_reducible refine (H0.out _ (by assumption)).mono ?_); rintro e wk ⟨rfl, hbk⟩) | ((with_reducible refine (H6.out _ (by assumption)).mono ?_); rintro e wk ⟨rfl, hbk⟩) | (have br2 := br.below hbk br.lt; ((with_reducible refine look_store ?_); refine wpList_store_row rfl _ _ _ rfl _ _ rfl rfl _ _ br2 (by kernel_rfl) (by simp) (by simp [Value.oneCell']) ?_)) | fail)
  have br2 := br.below hbk br.lt
  have hbW := hb1.trans (hbk.mono hz1)
  refine bodyPost_ret (results_cell_tmp2 Tryd.results140 _ _ _ _ _ _ _ rfl (setRow_heap _ _ _ _ _ _ br2) Tryd.underlying149 rfl (by kernel_rfl)) rfl ?_
  exact ((HE1.out (HE.out.trans (by rw [if_neg (by omega), if_neg q3])) _ _).2 ⟨rfl, below_setRow hbW (Nat.le_refl _) _⟩)
end Go.Proofs.YtebeekjcepjcnaaDoor
