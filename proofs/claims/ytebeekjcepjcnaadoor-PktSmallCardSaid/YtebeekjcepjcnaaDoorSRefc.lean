/-
  The reference of layer 5: Right and Write at a header without options.
  The reference of layer 10: codes, Kind, Write.
  The reference of icmp: Read.
-/
import Derived.Test.YtebeekjcepjcnaaDoorProg
import Derived.WalkKit
import Derived.WalkSpells
import Derived.WalkLawsBesides
import Derived.WalkSmall
import Derived.Lib.Hide
import Derived.Deep.AppendLies
import Derived.Maps.AppendAt
import Derived.Laws.AppendOwnNone
import Derived.Laws.CopyOwn
import Derived.OneCell
import Derived.Lib.SliceRun
import Derived.RangeFuncNested
import Derived.RangeFuncBound
import Derived.RangeFuncCalls
import Derived.RangeFuncLeaves
import Derived.Shelf.Abstract
import Derived.OwnWalkIn
import Derived.TacticsInMore
import Derived.LoopNIn
import Derived.LoopIn
import Derived.Orders
import Derived.RegionTactic
import Derived.Still
import Derived.Deep.MidRow
import Derived.Deep.DeepCutAuto
import Derived.Lib.AppendZeros
import Derived.Deep.RegionLaw
import Derived.Deep.RegionHeld3
import Derived.BigRegion
import Derived.ChangeAlike
import Derived.MapKept
import Derived.Test.YtebeekjcepjcnaaDoorSBase
import Derived.Test.YtebeekjcepjcnaaDoorSMem
import Derived.Test.YtebeekjcepjcnaaDoorSCsum
import Derived.Test.YtebeekjcepjcnaaDoorSSum
import Derived.Test.YtebeekjcepjcnaaDoorSRegion
import Derived.Test.YtebeekjcepjcnaaDoorSWalk
import Derived.Test.YtebeekjcepjcnaaDoorSStep
import Derived.Test.YtebeekjcepjcnaaDoorSStepb
import Derived.Test.YtebeekjcepjcnaaDoorSRefa
import Derived.Test.YtebeekjcepjcnaaDoorSConcat
import Derived.Test.YtebeekjcepjcnaaDoorSPkt
import Derived.Test.YtebeekjcepjcnaaDoorSRopts
import Derived.Test.YtebeekjcepjcnaaDoorSRnum
import Derived.Test.YtebeekjcepjcnaaDoorSTcpw
import Derived.Test.YtebeekjcepjcnaaDoorSIcmpr
import Derived.Test.YtebeekjcepjcnaaDoorSIprd
import Derived.Test.YtebeekjcepjcnaaDoorSIpre
import Derived.Test.YtebeekjcepjcnaaDoorSTcprd
import Derived.Test.YtebeekjcepjcnaaDoorSUdprd
import Derived.Test.YtebeekjcepjcnaaDoorSEq
import Derived.Test.YtebeekjcepjcnaaDoorSRat
namespace Go.Proofs.YtebeekjcepjcnaaDoor
open Go.RowKit Go.Shelf

/-- A chain of appends onto a row of the call's own, beside one block that is only read. -/
structure Ch (w0 : World) (t : TypeId) (cs : Array Value) (W : World) (v : Value) (L : List Int) : Prop where
  below : Below w0.heap.size w0 W
  size : w0.heap.size + 1 ≤ W.heap.size
  blk : Blk W w0.heap.size t cs
  own : Own W (w0.heap.size + 1) v L
section
variable {w0 W W' : World} {t : TypeId} {cs : Array Value} {v v' : Value} {L L' : List Int}
theorem Ch.call (h : Ch w0 t cs W v L) (l : Below W.heap.size W W') : Ch w0 t cs W' v L :=
  ⟨h.below.trans (l.mono h.below.size), Nat.le_trans h.size l.size, h.blk.below l h.blk.lt, h.own.below l (Nat.le_refl _)⟩
theorem Ch.start {cs' : Array Value} {n : Nat} (h : Below w0.heap.size w0 W) (hb : Blk W w0.heap.size t cs) (hcs : cs' = (U8 L).toArray) (hn : L.length = n) (hm : n ≤ maxLen) :
    Ch w0 t cs (W.alloc (.cells cs' 5)) (.slice (some ⟨W.heap.size, 0, none⟩) n n) L :=
  ⟨h.alloc h.size _, by have := hb.lt; simp; omega, hb.alloc _, own_lit W _ n L cs' hcs hn hm hb.lt⟩
end

end Go.Proofs.YtebeekjcepjcnaaDoor
namespace Go.Proofs.YtebeekjcepjcnaaDoor
open Go.RowKit Go.Shelf

theorem codes_none {t : Nat} (h : t ≠ 0 ∧ t ≠ 3 ∧ t ≠ 4 ∧ t ≠ 5 ∧ t ≠ 8 ∧ t ≠ 11 ∧ t ≠ 12 ∧ t ≠ 13 ∧ t ≠ 14 ∧ t ≠ 17 ∧ t ≠ 18) : kindN t = 0 ∧ codesN t = 0 := by
  rcases Nat.lt_or_ge t 19 with hl | hl
  · have : ∀ x : Fin 19, (x.val ≠ 0 ∧ x.val ≠ 3 ∧ x.val ≠ 4 ∧ x.val ≠ 5 ∧ x.val ≠ 8 ∧ x.val ≠ 11 ∧ x.val ≠ 12 ∧ x.val ≠ 13 ∧ x.val ≠ 14 ∧ x.val ≠ 17 ∧ x.val ≠ 18) → kindN x.val = 0 ∧ codesN x.val = 0 := by decide
    exact this ⟨t, hl⟩ h
  · refine ⟨kindN_big hl, ?_⟩
    unfold codesN
    rw [List.getD_eq_getElem?_getD, List.getElem?_eq_none (by simpa using hl)]
    rfl
set_option maxHeartbeats 1000000 in
theorem rCodes_any (t : Nat) (w : World) : Calls Tryd.prog 123 #[.int .u8 t] w fun e w' => e = .returned (.tuple #[.int .u8 (codesN t), .int .u8 (kindN t)]) ∧ w = w' := by
  rcases (show t = 0 ∨ t = 3 ∨ t = 4 ∨ t = 5 ∨ t = 8 ∨ t = 11 ∨ t = 12 ∨ t = 13 ∨ t = 14 ∨ t = 17 ∨ t = 18 ∨ (t ≠ 0 ∧ t ≠ 3 ∧ t ≠ 4 ∧ t ≠ 5 ∧ t ≠ 8 ∧ t ≠ 11 ∧ t ≠ 12 ∧ t ≠ 13 ∧ t ≠ 14 ∧ t ≠ 17 ∧ t ≠ 18) by omega) with rfl | rfl | rfl | rfl | rfl | rfl | rfl | rfl | rfl | rfl | rfl | hn
  case inr.inr.inr.inr.inr.inr.inr.inr.inr.inr.inr =>
    obtain ⟨e1, e2⟩ := codes_none hn
    rw [e1, e2]
    obtain ⟨n0, n3, n4, n5, n8, n11, n12, n13, n14, n17, n18⟩ := hn
    have b0 : ((t : Int) == 0) = false := by simp; omega
    have b3 : ((t : Int) == 3) = false := by simp; omega
    have b4 : ((t : Int) == 4) = false := by simp; omega
    have b5 : ((t : Int) == 5) = false := by simp; omega
    have b8 : ((t : Int) == 8) = false := by simp; omega
    have b11 : ((t : Int) == 11) = false := by simp; omega
    have b12 : ((t : Int) == 12) = false := by simp; omega
    have b13 : ((t : Int) == 13) = false := by simp; omega
    have b14 : ((t : Int) == 14) = false := by simp; omega
    have b17 : ((t : Int) == 17) = false := by simp; omega
    have b18 : ((t : Int) == 18) = false := by simp; omega
    clear n0 n3 n4 n5 n8 n11 n12 n13 n14 n17 n18 e1 e2
    go_enter Tryd.func123, Tryd.ntmps123
    go_wp2_with fail
    go_ret2
    exact ⟨rfl, rfl⟩
  all_goals
    go_enter Tryd.func123, Tryd.ntmps123
    go_wp2_with fail
    go_ret2
    exact ⟨rfl, rfl⟩

set_option maxHeartbeats 1000000 in
theorem rKind_any (t c : Nat) (w : World) : Calls Tryd.prog 75 #[.int .u8 t, .int .u8 c] w fun e w' => e = .returned (.tuple #[.int .u8 (kind1 t c), .int .i64 (kind2 t c)]) ∧ w = w' := by
  have HC := Lib.hid (fun W => rCodes_any t W)
  by_cases h0 : kindN t = 0
  · have Hk := Lib.hid (show kind1 t c = 0 ∧ kind2 t c = 101 from ⟨if_pos h0, if_pos h0⟩)
    rw [Hk.out.1, Hk.out.2]
    have b : (kindN t == 0) = true := by simpa using h0
    clear h0
    generalize kindN t = K at *
    generalize codesN t = C at *
    go_enter Tryd.func75, Tryd.ntmps75
    go_wp2_with (go_at_call 123; refine (HC.out _).mono ?_; rintro e w' ⟨rfl, rfl⟩)
    go_ret2
    exact ⟨rfl, rfl⟩
  · have b : (kindN t == 0) = false := by simpa using h0
    by_cases h1 : codesN t < (c : Int)
    · have Hk := Lib.hid (show kind1 t c = 0 ∧ kind2 t c = 102 from ⟨by unfold kind1; rw [if_neg h0, if_pos h1], by unfold kind2; rw [if_neg h0, if_pos h1]⟩)
      rw [Hk.out.1, Hk.out.2]
      have b1 : decide (codesN t < (c : Int)) = true := by simpa using h1
      clear h0 h1
      generalize kindN t = K at *
      generalize codesN t = C at *
      go_enter Tryd.func75, Tryd.ntmps75
      go_wp2_with (go_at_call 123; refine (HC.out _).mono ?_; rintro e w' ⟨rfl, rfl⟩)
      go_ret2
      exact ⟨rfl, rfl⟩
    · have Hk := Lib.hid (show kind1 t c = kindN t ∧ kind2 t c = 0 from ⟨by unfold kind1; rw [if_neg h0, if_neg h1], by unfold kind2; rw [if_neg h0, if_neg h1]⟩)
      rw [Hk.out.1, Hk.out.2]
      have b1 : decide (codesN t < (c : Int)) = false := by simpa using h1
      clear h0 h1
      generalize kindN t = K at *
      generalize codesN t = C at *
      go_enter Tryd.func75, Tryd.ntmps75
      go_wp2_with (go_at_call 123; refine (HC.out _).mono ?_; rintro e w' ⟨rfl, rfl⟩)
      go_ret2
      exact ⟨rfl, rfl⟩
theorem rKindI_any (t c : Int) (w : World) (h0 : 0 ≤ t) (g0 : 0 ≤ c) : Calls Tryd.prog 75 #[.int .u8 t, .int .u8 c] w fun e w' => e = .returned (.tuple #[.int .u8 (kind1 t.toNat c.toNat), .int .i64 (kind2 t.toNat c.toNat)]) ∧ w = w' := by
  obtain ⟨n, rfl⟩ : ∃ n : Nat, t = n := ⟨t.toNat, by omega⟩
  obtain ⟨m, rfl⟩ : ∃ n : Nat, c = n := ⟨c.toNat, by omega⟩
  rw [Int.toNat_natCast, Int.toNat_natCast]
  exact rKind_any n m w

end Go.Proofs.YtebeekjcepjcnaaDoor
namespace Go.Proofs.YtebeekjcepjcnaaDoor
open Go.RowKit
set_option maxRecDepth 100000 in
set_option maxHeartbeats 4000000 in
theorem r10Read_any (A : Option Addr) (cap n : Nat) (xs : List Int) (w : World) (hn : xs.length = n) (hl : n ≤ 1000000) (hb : Byt xs) (hr : Rd w w.heap.size A .u8 xs) :
    Calls Tryd.prog 141 #[.slice A n cap] w fun e w' => e = .returned (.tuple #[.agg (if icmpE xs = 0 then msgN xs else msgZ), .int .i64 (icmpE xs)]) ∧ Below w.heap.size w w' := by
  by_cases h8 : n < 8
  · have hE : icmpE xs = 100 := by unfold icmpE; rw [if_pos (by omega)]
    rw [hE, if_neg (by decide)]
    have g1 : (n : Int) < 8 := by omega
    clear hE
    unfold msgZ
    go_enter Tryd.func141, Tryd.ntmps141
    go_upto_region 1 with (first | ((with_reducible refine look_store ?_); refine wpList_store_new rfl _ _ _ rfl _ _ rfl rfl _ _ rfl (by kernel_rfl) (by simp) (by simp [Value.oneCell']) ?_) | fail)
    refine wp_name1 ?_
    intro w1 hb1 hs1 br
    go_wp2_with (first | ((with_reducible refine look_store ?_); refine wpList_store_row rfl _ _ _ rfl _ _ rfl rfl _ _ br (by kernel_rfl) (by simp) (by simp [Value.oneCell']) ?_) | fail)
    exact bodyPost_ret (results_cell_tmp Tryd.results141 _ _ _ _ _ _ _ rfl (setRow_heap _ _ _ _ _ _ br) Tryd.underlying101 rfl (by kernel_rfl)) rfl ⟨rfl, below_setRow hb1 (Nat.le_refl _) _⟩
  have HE := Lib.hid (show icmpE xs = kind2 (xs.getD 0 0).toNat (xs.getD 1 0).toNat by unfold icmpE; rw [if_neg (by omega)])
  obtain ⟨b, off, rfl, hbl, hc⟩ := hr.at0 (by omega)
  have c0 := hc 0 (by omega)
  have c1 := hc 1 (by omega)
  rw [Nat.add_zero] at c0
  obtain ⟨x0, x1⟩ := hb.at_ 0
  obtain ⟨y0, y1⟩ := hb.at_ 1
  have g1 : ¬ (n : Int) < 8 := by omega
  have HK := Lib.hid (fun (W : World) => rKindI_any (xs.getD 0 0) (xs.getD 1 0) W x0 y0)
  have H4 : Hid (∀ W, Below w.heap.size w W → Calls Tryd.prog 169 #[.slice (some ⟨b, off, none⟩) n cap, .int .i64 4] W fun e w' => e = .returned (.int .i64 (w16At xs 4)) ∧ Below W.heap.size W w') := Lib.hid fun W h => rAt10_any b off cap n 4 xs W hn (by omega) hl hb (hr.belows h (Nat.le_refl _))
  have H6 : Hid (∀ W, Below w.heap.size w W → Calls Tryd.prog 169 #[.slice (some ⟨b, off, none⟩) n cap, .int .i64 6] W fun e w' => e = .returned (.int .i64 (w16At xs 6)) ∧ Below W.heap.size W w') := Lib.hid fun W h => rAt10_any b off cap n 6 xs W hn (by omega) hl hb (hr.belows h (Nat.le_refl _))
  obtain ⟨p4, q4⟩ := w16At_bd hb 4
  obtain ⟨p6, q6⟩ := w16At_bd hb 6
  have HM := Lib.hid (show msgN xs = #[.int .u8 (xs.getD 0 0), .int .u8 (xs.getD 1 0), .int .u16 (w16At xs 4), .int .u16 (w16At xs 6)] from rfl)
  clear hr hb hc hn
  have i0 : (0 : Int) < n := by omega
  have i1 : (1 : Int) < n := by omega
  generalize icmpE xs = EE at *
  generalize msgN xs = MM at *
  generalize w16At xs 4 = a4 at *
  generalize w16At xs 6 = a6 at *
  generalize kind1 (xs.getD 0 0).toNat (xs.getD 1 0).toNat = e1 at *
  generalize kind2 (xs.getD 0 0).toNat (xs.getD 1 0).toNat = e2 at *
  generalize xs.getD 0 0 = x at *
  generalize xs.getD 1 0 = y at *
  have m4 : a4 % 65536 = a4 := by omega
  have m6 : a6 % 65536 = a6 := by omega
  go_enter Tryd.func141, Tryd.ntmps141
  go_upto_region 1 with (first | ((with_reducible refine look_store ?_); refine wpList_store_new rfl _ _ _ rfl _ _ rfl rfl _ _ rfl (by kernel_rfl) (by simp) (by simp [Value.oneCell']) ?_) | fail)
  refine wp_name1 ?_
  intro w1 hb1 hs1 br
  have hSt := (St.nil hb1 hb1.size).cons br
  have hz1 : w.heap.size < w1.heap.size := br.lt
  clear hs1 br
  go_wp2_with fail
  refine wp_region_walk0 (by kernel_rfl) (fun _ W => St w w.heap.size _ W) [] Grow [0, 1, 2, 3, 4, 5, 6, 7, 8, 9, 10, 11] (by kernel_rfl) hSt.drew ?_
  iterate 12
    apply Walk.one rfl rfl rfl
    case hrun =>
      intro c W hE hF
      have d0 := (hE.1.cell (p := ⟨b, off, none⟩) hbl).trans c0
      have d1 := (hE.1.cell (p := ⟨b, off + 1, none⟩) hbl).trans c1
      go_wp2_with (first | (go_at_call 75; refine (HK.out _).mono ?_; rintro e wk ⟨rfl, rfl⟩) | fail)
      exact TextPost.mk ⟨Grow.refl _, hE⟩
    case hv => rfl
  refine Walk.done (fun W hE hF => ?_)
  have br := hE.get 0 rfl
  have hbW := hE.1
  clear hE hF hSt
  by_cases h0 : e2 = 0
  case neg =>
    have he2 : (e2 != 0) = true := by simpa using h0
    have HX := Lib.hid (HE.out ▸ h0)
    go_wp2_with (first | ((with_reducible refine look_store ?_); refine wpList_store_row rfl _ _ _ rfl _ _ rfl rfl _ _ br (by kernel_rfl) (by simp) (by simp [Value.oneCell']) ?_) | fail)
    exact bodyPost_ret (results_cell_tmp Tryd.results141 _ _ _ _ _ _ _ rfl (setRow_heap _ _ _ _ _ _ br) Tryd.underlying101 rfl (by kernel_rfl)) rfl ⟨by first | rfl | (rw [HE.out]; rfl) | (rw [HE.out, if_neg h0]; rfl), below_setRow hbW (Nat.le_refl _) _⟩
  subst h0
  go_wp2_with fail
  have hS1 : St1 w w.heap.size [] w.heap.size 101 #[.int .u8 0, .int .u8 0, .int .u16 0, .int .u16 0] #[.int .u8 x, .int .u8 y, .int .u16 a4, .int .u16 a6] 0 W := ⟨St.nil hbW hbW.size, Nat.le_refl _, by simp, br⟩
  clear br hbW
  refine wp_region_walk0 (by kernel_rfl) (St1 w w.heap.size _ w.heap.size 101 _ #[.int .u8 x, .int .u8 y, .int .u16 a4, .int .u16 a6]) [13] GTop [0, 1, 2, 3, 4, 5, 6, 7, 8, 9, 10, 11, 12, 13, 14] (by kernel_rfl) hS1.drew ?_
  iterate 13
    apply Walk.one rfl rfl rfl
    case hrun =>
      intro c W hE hF
      have hb1 := hE.1.1
      have d0 := (hb1.cell (p := ⟨b, off, none⟩) hbl).trans c0
      have d1 := (hb1.cell (p := ⟨b, off + 1, none⟩) hbl).trans c1
      go_wp2_with (first | ((with_reducible refine (H4.out _ hb1).mono ?_); rintro e wk ⟨rfl, lk⟩) | ((with_reducible refine (H6.out _ hb1).mono ?_); rintro e wk ⟨rfl, lk⟩) | fail)
      first
        | exact TextPost.mk ⟨GTop.mk, hE⟩
        | exact TextPost.mk ⟨GTop.mk, hE.below lk⟩
    case hv => rfl
  apply Walk.keep 0 rfl rfl rfl rfl
  case hrun =>
    intro W2 hE hF
    have hbR := hE.2.2.2
    rw [if_pos rfl] at hbR
    go_wp2_with (first | ((with_reducible refine look_store ?_); refine wpList_store_row rfl _ _ _ rfl _ _ rfl rfl _ _ hbR (by kernel_rfl) (by simp) (by simp [Value.oneCell']) ?_) | fail)
    exact TextPost.mk ⟨GTop.mk, hE.put⟩
  case hv => rfl
  apply Walk.one rfl rfl rfl
  case hrun =>
    intro c W hE hF
    go_wp2_with fail
    exact TextPost.mk ⟨GTop.mk, hE⟩
  case hv => rfl
  refine Walk.done (fun W hE hF => ?_)
  have hbR := hE.2.2.2
  have hbW := hE.1.1
  clear hE hF hS1
  go_wp2_with fail
  exact bodyPost_ret (results_cell_tmp Tryd.results141 _ _ _ _ _ _ _ rfl hbR Tryd.underlying101 rfl (by kernel_rfl)) rfl ⟨by first | rfl | (rw [HM.out]; rfl) | (rw [HE.out, if_pos rfl, HM.out]; rfl), hbW⟩
end Go.Proofs.YtebeekjcepjcnaaDoor
