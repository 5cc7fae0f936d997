/-
  The reference of tcp: Read.
-/
import Derived.Test.YtebeekjcepjcnaaDoorProg
import Derived.WalkKit
import Derived.WalkSpells
import Derived.WalkLawsBesides
import Derived.WalkSmall
import Derived.Lib.Hide
import Derived.Deep.AppendLies
import Derived.Maps.AppendAt
import Derived.Laws.AppendOwnNone
import Derived.Laws.CopyOwn
import Derived.OneCell
import Derived.Lib.SliceRun
import Derived.RangeFuncNested
import Derived.RangeFuncBound
import Derived.RangeFuncCalls
import Derived.RangeFuncLeaves
import Derived.Shelf.Abstract
import Derived.OwnWalkIn
import Derived.TacticsInMore
import Derived.LoopNIn
import Derived.LoopIn
import Derived.Orders
import Derived.RegionTactic
import Derived.Still
import Derived.Deep.MidRow
import Derived.Deep.DeepCutAuto
import Derived.Lib.AppendZeros
import Derived.BigRegion
import Derived.ChangeAlike
import Derived.Deep.RegionLaw
import Derived.Deep.RegionHeld3
import Derived.MapKept
import Derived.Test.YtebeekjcepjcnaaDoorSBase
import Derived.Test.YtebeekjcepjcnaaDoorSMem
import Derived.Test.YtebeekjcepjcnaaDoorSCsum
import Derived.Test.YtebeekjcepjcnaaDoorSSum
import Derived.Test.YtebeekjcepjcnaaDoorSRegion
import Derived.Test.YtebeekjcepjcnaaDoorSWalk
import Derived.Test.YtebeekjcepjcnaaDoorSStep
import Derived.Test.YtebeekjcepjcnaaDoorSStepb
import Derived.Test.YtebeekjcepjcnaaDoorSRefa
import Derived.Test.YtebeekjcepjcnaaDoorSConcat
import Derived.Test.YtebeekjcepjcnaaDoorSPkt
import Derived.Test.YtebeekjcepjcnaaDoorSRopts
import Derived.Test.YtebeekjcepjcnaaDoorSRnum
import Derived.Test.YtebeekjcepjcnaaDoorSTcpw
import Derived.Test.YtebeekjcepjcnaaDoorSIcmpr
import Derived.Test.YtebeekjcepjcnaaDoorSIprd
import Derived.Test.YtebeekjcepjcnaaDoorSIpre
import Derived.Test.YtebeekjcepjcnaaDoorSTcprd
import Derived.Test.YtebeekjcepjcnaaDoorSUdprd
import Derived.Test.YtebeekjcepjcnaaDoorSRat
import Derived.Test.YtebeekjcepjcnaaDoorSRefc
import Derived.Test.YtebeekjcepjcnaaDoorSRefe
namespace Go.Proofs.YtebeekjcepjcnaaDoor
open Go.RowKit
set_option maxRecDepth 100000 in
set_option maxHeartbeats 8000000 in
theorem r08Read_any (A : Option Addr) (cap n : Nat) (xs : List Int) (w : World) (hn : xs.length = n) (hcap : n ≤ cap) (hl : n ≤ 1000000) (hb : Byt xs) (hr : Rd w w.heap.size A .u8 xs) :
    Calls Tryd.prog 139 #[.slice A n cap] w (TcpOut w xs) := by
  by_cases h20 : n < 20
  · have HE := Lib.hid (show tcpE xs = 80 by unfold tcpE; rw [if_pos (by omega)])
    have g1 : (n : Int) < 20 := by omega
    go_enter Tryd.func139, Tryd.ntmps139
    go_upto_region 1 with (first | ((with_reducible refine look_store ?_); refine wpList_store_new rfl _ _ _ rfl _ _ rfl rfl _ _ rfl (by kernel_rfl) (by simp) (by simp [Value.oneCell']) ?_) | fail)
    refine wp_name1 ?_
    intro w1 hb1 hs1 br
    go_wp2_with (first | ((with_reducible refine look_store ?_); refine wpList_store_row rfl _ _ _ rfl _ _ rfl rfl _ _ br (by kernel_rfl) (by simp) (by simp [Value.oneCell']) ?_) | fail)
    refine bodyPost_ret (results_cell_tmp2 Tryd.results139 _ _ _ _ _ _ _ rfl (setRow_heap _ _ _ _ _ _ br) Tryd.underlying146 rfl (by kernel_rfl)) rfl ⟨.int .i64 0, rfl, ?_, below_setRow hb1 (Nat.le_refl _) _⟩
    rw [HE.out]; rfl
  obtain ⟨b, off, rfl, hbl, hc⟩ := hr.at0 (by omega)
  have c12 := hc 12 (by omega)
  have c13 := hc 13 (by omega)
  have N0 : Hid (∀ W, Below w.heap.size w W → Calls Tryd.prog 167 #[.slice (some ⟨b, off, none⟩) 2 cap] W fun e w' => e = .returned (.int .i64 (w16At xs 0)) ∧ W = w') := Lib.hid fun W h => rNum2t_any b off n 0 xs W _ hn (by omega) hb (hr.belows h (Nat.le_refl _))
  obtain ⟨u0, t0⟩ := w16At_bd hb 0
  have N2 : Hid (∀ W, Below w.heap.size w W → Calls Tryd.prog 167 #[.slice (some ⟨b, off + 2, none⟩) 2 (cap - 2)] W fun e w' => e = .returned (.int .i64 (w16At xs 2)) ∧ W = w') := Lib.hid fun W h => rNum2t_any b off n 2 xs W _ hn (by omega) hb (hr.belows h (Nat.le_refl _))
  obtain ⟨u2, t2⟩ := w16At_bd hb 2
  have N4 : Hid (∀ W, Below w.heap.size w W → Calls Tryd.prog 167 #[.slice (some ⟨b, off + 4, none⟩) 4 (cap - 4)] W fun e w' => e = .returned (.int .i64 (l32At xs 4)) ∧ W = w') := Lib.hid fun W h => rNum4t_any b off n 4 xs W _ hn (by omega) hb (hr.belows h (Nat.le_refl _))
  obtain ⟨u4, t4⟩ := l32At_bd hb 4
  have N8 : Hid (∀ W, Below w.heap.size w W → Calls Tryd.prog 167 #[.slice (some ⟨b, off + 8, none⟩) 4 (cap - 8)] W fun e w' => e = .returned (.int .i64 (l32At xs 8)) ∧ W = w') := Lib.hid fun W h => rNum4t_any b off n 8 xs W _ hn (by omega) hb (hr.belows h (Nat.le_refl _))
  obtain ⟨u8, t8⟩ := l32At_bd hb 8
  have N14 : Hid (∀ W, Below w.heap.size w W → Calls Tryd.prog 167 #[.slice (some ⟨b, off + 14, none⟩) 2 (cap - 14)] W fun e w' => e = .returned (.int .i64 (w16At xs 14)) ∧ W = w') := Lib.hid fun W h => rNum2t_any b off n 14 xs W _ hn (by omega) hb (hr.belows h (Nat.le_refl _))
  obtain ⟨u14, t14⟩ := w16At_bd hb 14
  have N18 : Hid (∀ W, Below w.heap.size w W → Calls Tryd.prog 167 #[.slice (some ⟨b, off + 18, none⟩) 2 (cap - 18)] W fun e w' => e = .returned (.int .i64 (w16At xs 18)) ∧ W = w') := Lib.hid fun W h => rNum2t_any b off n 18 xs W _ hn (by omega) hb (hr.belows h (Nat.le_refl _))
  obtain ⟨u18, t18⟩ := w16At_bd hb 18
  obtain ⟨x0, x1⟩ := hb.at_ 12
  obtain ⟨y0, y1⟩ := hb.at_ 13
  have HE := Lib.hid (show tcpE xs = (if tcpSize xs < 20 ∨ (n : Int) < tcpSize xs then 81 else if xs.getD 12 0 % 16 ≠ 0 ∨ saneB (xs.getD 13 0).toNat = false then 82 else if w16At xs 0 = 0 ∨ w16At xs 2 = 0 then 83 else 0) by
    unfold tcpE; rw [if_neg (by omega), hn])
  have HSz := Lib.hid (show tcpSize xs = 4 * (xs.getD 12 0 / 16) from rfl)
  have HSa := Lib.hid (fun (W : World) => show Calls Tryd.prog 78 #[.int .u8 (xs.getD 13 0)] W fun e w' => e = .returned (.bool (saneB (xs.getD 13 0).toNat)) ∧ W = w' by
    have h := rSane_any (xs.getD 13 0).toNat W (by omega)
    rwa [Int.toNat_of_nonneg y0] at h)
  have HR := Lib.hid hr
  have HNx := Lib.hid hn
  have HTN := Lib.hid (show ∀ v, tcpN xs v = #[.int .u16 (w16At xs 0), .int .u16 (w16At xs 2), .int .u32 (l32At xs 4), .int .u32 (l32At xs 8), .int .u8 (xs.getD 13 0), .int .u16 (w16At xs 14), .int .u16 (w16At xs 18), v] from fun v => rfl)
  have g1 : ¬ (n : Int) < 20 := by omega
  have k2 : ¬ cap = 2 := by omega
  have k4 : ¬ cap = 4 := by omega
  have k8 : ¬ cap = 8 := by omega
  have k14 : ¬ cap = 14 := by omega
  have k18 : ¬ cap = 18 := by omega
  have icap : (n : Int) ≤ cap := by omega
  have n20 : (20 : Int) ≤ n := by omega
  have n12 : (12 : Int) < n := by omega
  have n13 : (13 : Int) < n := by omega
  clear hr hb hn hc
  generalize saneB (xs.getD 13 0).toNat = SA at *
  generalize w16At xs 0 = p0 at *
  generalize w16At xs 2 = p2 at *
  generalize l32At xs 4 = s4 at *
  generalize l32At xs 8 = s8 at *
  generalize w16At xs 14 = p14 at *
  generalize w16At xs 18 = p18 at *
  generalize xs.getD 12 0 = x at *
  generalize xs.getD 13 0 = y at *
  have m0 : p0 % 65536 = p0 := by omega
  have m2 : p2 % 65536 = p2 := by omega
  have m4 : s4 % 4294967296 = s4 := by omega
  have m8 : s8 % 4294967296 = s8 := by omega
  have m14 : p14 % 65536 = p14 := by omega
  have m18 : p18 % 65536 = p18 := by omega
  go_enter Tryd.func139, Tryd.ntmps139
  go_upto_region 1 with (first | ((with_reducible refine look_store ?_); refine wpList_store_new rfl _ _ _ rfl _ _ rfl rfl _ _ rfl (by kernel_rfl) (by simp) (by simp [Value.oneCell']) ?_) | fail)
  refine wp_name1 ?_
  intro w1 hb1 hs1 br
  have d12 := (hb1.cell (p := ⟨b, off + 12, none⟩) hbl).trans c12
  have d13 := (hb1.cell (p := ⟨b, off + 13, none⟩) hbl).trans c13
  have Hs1 := Lib.hid hs1
  clear hs1
  by_cases q1 : x / 16 * 4 < 20
  · have e1 : decide (x / 16 * 4 < 20) = true := by simpa using q1
    have hE : tcpE xs = 81 := by rw [HE.out, HSz.out, if_pos (.inl (by omega))]
    have HE2 := Lib.hid hE
    clear hE
    go_wp2_with (first | ((with_reducible refine look_store ?_); refine wpList_store_row rfl _ _ _ rfl _ _ rfl rfl _ _ br (by kernel_rfl) (by simp) (by simp [Value.oneCell']) ?_) | fail)
    refine bodyPost_ret (results_cell_tmp2 Tryd.results139 _ _ _ _ _ _ _ rfl (setRow_heap _ _ _ _ _ _ br) Tryd.underlying146 rfl (by kernel_rfl)) rfl ⟨.int .i64 0, rfl, ?_, below_setRow hb1 (Nat.le_refl _) _⟩
    rw [HE2.out]; rfl
  have e1 : decide (x / 16 * 4 < 20) = false := by simpa using q1
  by_cases q2 : (n : Int) < x / 16 * 4
  · have e2 : decide ((n : Int) < x / 16 * 4) = true := by simpa using q2
    have hE : tcpE xs = 81 := by rw [HE.out, HSz.out, if_pos (.inr (by omega))]
    have HE2 := Lib.hid hE
    clear hE
    go_wp2_with (first | ((with_reducible refine look_store ?_); refine wpList_store_row rfl _ _ _ rfl _ _ rfl rfl _ _ br (by kernel_rfl) (by simp) (by simp [Value.oneCell']) ?_) | fail)
    refine bodyPost_ret (results_cell_tmp2 Tryd.results139 _ _ _ _ _ _ _ rfl (setRow_heap _ _ _ _ _ _ br) Tryd.underlying146 rfl (by kernel_rfl)) rfl ⟨.int .i64 0, rfl, ?_, below_setRow hb1 (Nat.le_refl _) _⟩
    rw [HE2.out]; rfl
  have e2 : decide ((n : Int) < x / 16 * 4) = false := by simpa using q2
  by_cases q3 : x % 16 = 0
  case neg =>
    have e3 : (x % 16 != 0) = true := by simpa using q3
    have hE : tcpE xs = 82 := by rw [HE.out, HSz.out, if_neg (by omega), if_pos (.inl q3)]
    have HE2 := Lib.hid hE
    clear hE
    go_wp2_with (first | ((with_reducible refine look_store ?_); refine wpList_store_row rfl _ _ _ rfl _ _ rfl rfl _ _ br (by kernel_rfl) (by simp) (by simp [Value.oneCell']) ?_) | fail)
    refine bodyPost_ret (results_cell_tmp2 Tryd.results139 _ _ _ _ _ _ _ rfl (setRow_heap _ _ _ _ _ _ br) Tryd.underlying146 rfl (by kernel_rfl)) rfl ⟨.int .i64 0, rfl, ?_, below_setRow hb1 (Nat.le_refl _) _⟩
    rw [HE2.out]; rfl
  have e3 : (x % 16 != 0) = false := by simpa using q3
  go_wp2_with fail
  refine (HSa.out _).mono ?_
  rintro e wk ⟨rfl, rfl⟩
  cases SA
  case false =>
    have hE : tcpE xs = 82 := by rw [HE.out, HSz.out, if_neg (by omega), if_pos (.inr rfl)]
    have HE2 := Lib.hid hE
    clear hE
    go_wp2_with (first | ((with_reducible refine look_store ?_); refine wpList_store_row rfl _ _ _ rfl _ _ rfl rfl _ _ br (by kernel_rfl) (by simp) (by simp [Value.oneCell']) ?_) | fail)
    refine bodyPost_ret (results_cell_tmp2 Tryd.results139 _ _ _ _ _ _ _ rfl (setRow_heap _ _ _ _ _ _ br) Tryd.underlying146 rfl (by kernel_rfl)) rfl ⟨.int .i64 0, rfl, ?_, below_setRow hb1 (Nat.le_refl _) _⟩
    rw [HE2.out]; rfl
  have HE3 := Lib.hid (show tcpE xs = if p0 = 0 ∨ p2 = 0 then 83 else 0 by rw [HE.out, HSz.out, if_neg (by omega), if_neg (by simp [q3])])
  have HSz2 := Lib.hid (show tcpSize xs = x / 16 * 4 by rw [HSz.out]; omega)
  go_wp2_with fail
  have hSt := (St.nil hb1 hb1.size).cons br
  have hsz1 : w.heap.size < w1.heap.size := br.lt
  clear br HE HSz
  refine wp_region_walk (by kernel_rfl) (fun _ W => St w w.heap.size [(w.heap.size, 146, #[.int .u16 0, .int .u16 0, .int .u32 0, .int .u32 0, .int .u8 0, .int .u16 0, .int .u16 0, .slice none 0 0])] W ∧ w1.heap.size ≤ W.heap.size) [] (Late w1.heap.size 146 #[.int .u16 0, .int .u16 0, .int .u32 0, .int .u32 0, .int .u8 0, .int .u16 0, .int .u16 0, .slice none 0 0] #[.int .u16 p0, .int .u16 p2, .int .u32 s4, .int .u32 s8, .int .u8 y, .int .u16 p14, .int .u16 p18, .slice none 0 0])
    [28] (fun _ => LateB w1.heap.size 146 #[.int .u16 0, .int .u16 0, .int .u32 0, .int .u32 0, .int .u8 0, .int .u16 0, .int .u16 0, .slice none 0 0] #[.int .u16 p0, .int .u16 p2, .int .u32 s4, .int .u32 s8, .int .u8 y, .int .u16 p14, .int .u16 p18, .slice none 0 0]) [0, 1, 2, 3, 4, 5, 6, 7, 8, 9, 10, 11, 12, 13, 14, 15, 16, 17, 18, 19, 20, 21, 22, 23, 24, 25, 26, 27, 28, 29] (by kernel_rfl) ?hfree ⟨hSt.drew, Nat.le_refl _⟩ ?hwalk
  case hfree =>
    intro k hk
    obtain rfl : k = 28 := by simpa using hk
    refine ⟨rfl, LateB.keep, fun o ho a c W hE => ?_⟩
    simp at ho
    subst ho
    go_wp2_with fail
    exact ⟨_, rfl, ⟨W.heap.size, rfl, hE.2, .inl (Blk.new _ _ _)⟩, Late.grown ((Below.refl _ _).alloc (Nat.le_refl _) _) hE.2, hE.1.alloc _, by simp; have := hE.2; omega⟩
  iterate 28
    apply Walk.one rfl rfl rfl
    case hrun =>
      intro c W hE hF
      have hb1 := hE.1.1
      have d13 := (hb1.cell (p := ⟨b, off + 13, none⟩) hbl).trans c13
      go_wp2_with (first | ((with_reducible refine (N0.out _ hb1).mono ?_); rintro e wk ⟨rfl, rfl⟩) | ((with_reducible refine (N2.out _ hb1).mono ?_); rintro e wk ⟨rfl, rfl⟩) | ((with_reducible refine (N4.out _ hb1).mono ?_); rintro e wk ⟨rfl, rfl⟩) | ((with_reducible refine (N8.out _ hb1).mono ?_); rintro e wk ⟨rfl, rfl⟩) | ((with_reducible refine (N14.out _ hb1).mono ?_); rintro e wk ⟨rfl, rfl⟩) | ((with_reducible refine (N18.out _ hb1).mono ?_); rintro e wk ⟨rfl, rfl⟩) | fail)
      exact TextPost.mk ⟨Late.refl _, hE⟩
    case hv => rfl
  refine Walk.freeOp LateB.keep rfl rfl (by kernel_rfl) ?_ (fun u6 => ?_)
  · intro a c W hE
    go_wp2_with fail
    exact ⟨_, rfl, ⟨W.heap.size, rfl, hE.2, .inl (Blk.new _ _ _)⟩, Late.grown ((Below.refl _ _).alloc (Nat.le_refl _) _) hE.2, hE.1.alloc _, by simp; have := hE.2; omega⟩
  dsimp only [Act.put]
  simp only [List.setIfInBounds_toArray, List.set_cons_succ, List.set_cons_zero]
  refine Walk.whatever (fun _ W => LateN w1.heap.size 146 #[.int .u16 p0, .int .u16 p2, .int .u32 s4, .int .u32 s8, .int .u8 y, .int .u16 p14, .int .u16 p18, .slice none 0 0] u6 W) (fun _ => LateN.keep u6) rfl rfl rfl (by kernel_rfl) ?_ (fun uu => ?_)
  · intro c W hE hF
    obtain ⟨g, rfl, hg0, hg | hg⟩ := hF.head
    all_goals
      refine wpList_store_row rfl _ _ _ rfl g #[.int .u16 p0, .int .u16 p2, .int .u32 s4, .int .u32 s8, .int .u8 y, .int .u16 p14, .int .u16 p18, .slice none 0 0] rfl rfl _ _ hg (by kernel_rfl) (by simp) (by simp [Value.oneCell']) ?_
      go_wp2_with fail
      refine ⟨undef, rfl, ⟨g, rfl, hg0, setRow_heap _ _ _ _ _ _ hg⟩, ?_, hE.1.rowFar (by omega) (by simp; omega) _, by simpa using hE.2⟩
    · exact Late.store hg (by omega)
    · exact Late.again hg (by omega)
  dsimp only [Act.put]
  refine Walk.done (fun W hE hF => ?_)
  obtain ⟨gh, rfl, hgh, hh⟩ := hF.head
  have br := hE.1.get 0 rfl
  have hbW := hE.1.1
  have h0 := hh.cell 0
  have h1 := hh.cell 1
  have h7 := hh.cell 7
  clear hE hF hSt
  by_cases q4 : p0 = 0
  · subst q4
    have HE2 := Lib.hid (HE3.out.trans (if_pos (.inl rfl)))
    go_wp2_with (first | ((with_reducible refine look_store ?_); refine wpList_store_row rfl _ _ _ rfl _ _ rfl rfl _ _ br (by kernel_rfl) (by simp) (by simp [Value.oneCell']) ?_) | fail)
    refine bodyPost_ret (results_cell_tmp2 Tryd.results139 _ _ _ _ _ _ _ rfl (setRow_heap _ _ _ _ _ _ br) Tryd.underlying146 rfl (by kernel_rfl)) rfl ⟨.int .i64 0, rfl, ?_, below_setRow hbW (Nat.le_refl _) _⟩
    rw [HE2.out]; rfl
  have e4 : (p0 == 0) = false := by simpa using q4
  by_cases q5 : p2 = 0
  · subst q5
    have HE2 := Lib.hid (HE3.out.trans (if_pos (.inr rfl)))
    go_wp2_with (first | ((with_reducible refine look_store ?_); refine wpList_store_row rfl _ _ _ rfl _ _ rfl rfl _ _ br (by kernel_rfl) (by simp) (by simp [Value.oneCell']) ?_) | fail)
    refine bodyPost_ret (results_cell_tmp2 Tryd.results139 _ _ _ _ _ _ _ rfl (setRow_heap _ _ _ _ _ _ br) Tryd.underlying146 rfl (by kernel_rfl)) rfl ⟨.int .i64 0, rfl, ?_, below_setRow hbW (Nat.le_refl _) _⟩
    rw [HE2.out]; rfl
  have e5 : (p2 == 0) = false := by simpa using q5
  have HE2 := Lib.hid (HE3.out.trans (if_neg (by simp [q4, q5])))
  generalize x / 16 * 4 = SI at *
  obtain ⟨S, rfl⟩ : ∃ S : Nat, SI = S := ⟨SI.toNat, by omega⟩
  have Hyl : Hid (((xs.take S).drop 20).length = S - 20) := Lib.hid (by rw [List.length_drop, List.length_take, HNx.out]; omega)
  have HRd1 : Hid (Rd W W.heap.size (some ⟨b, off + 20, none⟩) .u8 ((xs.take S).drop 20)) := Lib.hid (((HR.out.take _).word 20).belows hbW (Nat.le_refl _))
  have hs20 : (20 : Int) ≤ S := by omega
  have hsn : (S : Int) ≤ n := by omega
  have HRe : Hid (cap = 20 → ∀ W A', Rd W W.heap.size A' .u8 ((xs.take S).drop 20)) := Lib.hid fun hc W A' => by
    rw [List.eq_nil_of_length_eq_zero (l := (xs.take S).drop 20) (by have := Hyl.out; omega)]; exact Rd.nil
  clear q4 q5
  generalize (xs.take S).drop 20 = ys at *
  by_cases hk : cap = 20
  · subst hk
    have HRd := Lib.hid (HRe.out rfl W.drew (some ⟨b, off, none⟩))
    have hsc : (S : Int) ≤ 20 := by omega
    go_wp2_with fail
    go_region_law (refine step_app_own rfl _ _ rfl W.heap.size (.slice none 0 0) [] rfl (Own.nil_ _ _) _ (some ⟨b, off, none⟩) (S - 20) (20 - 20) ys rfl Hyl.out.symm HRd.out (by have := Hyl.out; simp; omega) (Nat.le_refl _) ?_; intro v' w3 o3 l3 g3 a3; obtain ⟨pp, rfl⟩ := o3.shape (m := S - 20) (by simpa using Hyl.out); have b3 := hh.drew.grown g3 (by simp [Value.ownBlock]); have c3 := b3.cell 7; have f3 := b3.frozen 7)
    have hh7 : Blk (w3.setCell ⟨gh, 7, none⟩ (.slice pp.1 (S - 20) pp.2)) gh 146 #[.int .u16 p0, .int .u16 p2, .int .u32 s4, .int .u32 s8, .int .u8 y, .int .u16 p14, .int .u16 p18, .slice pp.1 (S - 20) pp.2] := b3.set 7 _
    have br7 := (br.drew.grown g3 (by simp [Value.ownBlock])).far (p := ⟨gh, 7, none⟩) (by show w.heap.size ≠ gh; omega) (.slice pp.1 (S - 20) pp.2)
    have hb7 := Lib.hid ((hbW.drew.trans (l3.mono hbW.size)).setCell (p := ⟨gh, 7, none⟩) (by show w.heap.size ≤ gh; omega) (.slice pp.1 (S - 20) pp.2))
    clear c3 h0 h1 h7
    go_wp2_with (first | ((with_reducible refine look_load ?_); refine wpList_load_row rfl _ _ rfl _ rfl _ _ _ _ hh7 Tryd.underlying146 rfl (by kernel_rfl) ?_) | ((with_reducible refine look_store ?_); refine wpList_store_row rfl _ _ _ rfl _ _ rfl rfl _ _ br7 (by kernel_rfl) (by simp) (by simp [Value.oneCell']) ?_) | fail)
    refine bodyPost_ret (results_cell_tmp2 Tryd.results139 _ _ _ _ _ _ _ rfl (setRow_heap _ _ _ _ _ _ br7) Tryd.underlying146 rfl (by kernel_rfl)) rfl ⟨.slice pp.1 (S - 20) pp.2, rfl, ?_, below_setRow hb7.out (Nat.le_refl _) _⟩
    rw [HE2.out, if_pos rfl, if_pos rfl, HTN.out, HSz2.out]; rfl
  · have hsc : (S : Int) ≤ cap := by omega
    have HRd : Hid (Rd W.drew W.drew.heap.size (some ⟨b, off + 20, none⟩) .u8 ys) := HRd1
    go_wp2_with fail
    go_region_law (refine step_app_own rfl _ _ rfl W.heap.size (.slice none 0 0) [] rfl (Own.nil_ _ _) _ (some ⟨b, off + 20, none⟩) (S - 20) (cap - 20) ys rfl Hyl.out.symm HRd.out (by have := Hyl.out; simp; omega) (Nat.le_refl _) ?_; intro v' w3 o3 l3 g3 a3; obtain ⟨pp, rfl⟩ := o3.shape (m := S - 20) (by simpa using Hyl.out); have b3 := hh.drew.grown g3 (by simp [Value.ownBlock]); have c3 := b3.cell 7; have f3 := b3.frozen 7)
    have hh7 : Blk (w3.setCell ⟨gh, 7, none⟩ (.slice pp.1 (S - 20) pp.2)) gh 146 #[.int .u16 p0, .int .u16 p2, .int .u32 s4, .int .u32 s8, .int .u8 y, .int .u16 p14, .int .u16 p18, .slice pp.1 (S - 20) pp.2] := b3.set 7 _
    have br7 := (br.drew.grown g3 (by simp [Value.ownBlock])).far (p := ⟨gh, 7, none⟩) (by show w.heap.size ≠ gh; omega) (.slice pp.1 (S - 20) pp.2)
    have hb7 := Lib.hid ((hbW.drew.trans (l3.mono hbW.size)).setCell (p := ⟨gh, 7, none⟩) (by show w.heap.size ≤ gh; omega) (.slice pp.1 (S - 20) pp.2))
    clear c3 h0 h1 h7
    go_wp2_with (first | ((with_reducible refine look_load ?_); refine wpList_load_row rfl _ _ rfl _ rfl _ _ _ _ hh7 Tryd.underlying146 rfl (by kernel_rfl) ?_) | ((with_reducible refine look_store ?_); refine wpList_store_row rfl _ _ _ rfl _ _ rfl rfl _ _ br7 (by kernel_rfl) (by simp) (by simp [Value.oneCell']) ?_) | fail)
    refine bodyPost_ret (results_cell_tmp2 Tryd.results139 _ _ _ _ _ _ _ rfl (setRow_heap _ _ _ _ _ _ br7) Tryd.underlying146 rfl (by kernel_rfl)) rfl ⟨.slice pp.1 (S - 20) pp.2, rfl, ?_, below_setRow hb7.out (Nat.le_refl _) _⟩
    rw [HE2.out, if_pos rfl, if_pos rfl, HTN.out, HSz2.out]; rfl
end Go.Proofs.YtebeekjcepjcnaaDoor
