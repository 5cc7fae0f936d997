/-
  The reference of package opts: Right.
-/
import Derived.Test.YtebeekjcepjcnaaDoorProg
import Derived.WalkKit
import Derived.WalkSpells
import Derived.WalkLawsBesides
import Derived.WalkSmall
import Derived.Lib.Hide
import Derived.Deep.AppendLies
import Derived.Maps.AppendAt
import Derived.Laws.AppendOwnNone
import Derived.Laws.CopyOwn
import Derived.OneCell
import Derived.Lib.SliceRun
import Derived.RangeFuncNested
import Derived.RangeFuncBound
import Derived.RangeFuncCalls
import Derived.RangeFuncLeaves
import Derived.Shelf.Abstract
import Derived.OwnWalkIn
import Derived.TacticsInMore
import Derived.LoopNIn
import Derived.LoopIn
import Derived.Orders
import Derived.RegionTactic
import Derived.Still
import Derived.Deep.MidRow
import Derived.Deep.DeepCutAuto
import Derived.Lib.AppendZeros
import Derived.BigRegion
import Derived.ChangeAlike
import Derived.Deep.RegionLaw
import Derived.Deep.RegionHeld3
import Derived.MapKept
import Derived.RegionIn
import Derived.Test.YtebeekjcepjcnaaDoorSBase
import Derived.Test.YtebeekjcepjcnaaDoorSMem
import Derived.Test.YtebeekjcepjcnaaDoorSCsum
import Derived.Test.YtebeekjcepjcnaaDoorSSum
import Derived.Test.YtebeekjcepjcnaaDoorSRegion
import Derived.Test.YtebeekjcepjcnaaDoorSWalk
import Derived.Test.YtebeekjcepjcnaaDoorSStep
import Derived.Test.YtebeekjcepjcnaaDoorSStepb
import Derived.Test.YtebeekjcepjcnaaDoorSRefa
import Derived.Test.YtebeekjcepjcnaaDoorSConcat
import Derived.Test.YtebeekjcepjcnaaDoorSPkt
import Derived.Test.YtebeekjcepjcnaaDoorSRopts
import Derived.Test.YtebeekjcepjcnaaDoorSRnum
import Derived.Test.YtebeekjcepjcnaaDoorSTcpw
import Derived.Test.YtebeekjcepjcnaaDoorSIcmpr
import Derived.Test.YtebeekjcepjcnaaDoorSIprd
import Derived.Test.YtebeekjcepjcnaaDoorSIpre
import Derived.Test.YtebeekjcepjcnaaDoorSIpread
import Derived.Test.YtebeekjcepjcnaaDoorSOptsa
import Derived.Test.YtebeekjcepjcnaaDoorSOptsb
import Derived.Test.YtebeekjcepjcnaaDoorSRange
import Derived.Test.YtebeekjcepjcnaaDoorSOptsc
import Derived.Test.YtebeekjcepjcnaaDoorSOptsd
import Derived.Test.YtebeekjcepjcnaaDoorSRopt6
namespace Go.Proofs.YtebeekjcepjcnaaDoor
open Go.RowKit
theorem addr_point (d : List Int) (n : Nat) (x : Int) (hn : d.length = n) (hx : d.getD 0 0 = x) (h1 : n % 4 = 1) : addrB d = pointB x 4 ((n - 1) / 4) 4 := by
  unfold addrB
  rw [pointB_iff _ _ _ _ (by decide), hn, hx, Bool.eq_iff_iff]
  simp only [Bool.and_eq_true, beq_iff_eq, decide_eq_true_eq]
  omega
theorem addr_no (d : List Int) (n : Nat) (hn : d.length = n) (h1 : n % 4 ≠ 1) : addrB d = false := by
  unfold addrB
  rw [hn, show (n % 4 == 1) = false by simpa using h1]
  rfl
theorem stamp_less (d : List Int) (n : Nat) (hn : d.length = n) (h : n < 2) : stampB d = false := by unfold stampB; rw [if_pos (by omega)]
theorem stamp_flag (d : List Int) (n : Nat) (f : Int) (hn : d.length = n) (hf : d.getD 1 0 % 16 = f) (h : ¬ n < 2) (h2 : 3 < f ∨ f = 2) : stampB d = false := by unfold stampB; rw [if_neg (by omega), hf, if_pos h2]
theorem stamp_point (d : List Int) (n : Nat) (x f s : Int) (hn : d.length = n) (hx : d.getD 0 0 = x) (hf : d.getD 1 0 % 16 = f) (h : ¬ n < 2) (h2 : (f = 0 ∧ s = 4) ∨ (f = 1 ∧ s = 8) ∨ (f = 3 ∧ s = 8)) (hm : ((n : Int) - 2) % s = 0) : stampB d = pointB x 5 ((n - 2) / s.toNat) s := by
  have hs : stampS f = s := by rcases h2 with ⟨rfl, rfl⟩ | ⟨rfl, rfl⟩ | ⟨rfl, rfl⟩ <;> rfl
  unfold stampB
  rw [if_neg (by omega), hf, if_neg (by omega), hs, hx, hn, pointB_iff _ _ _ _ (by omega), Bool.eq_iff_iff]
  simp only [Bool.and_eq_true, beq_iff_eq, decide_eq_true_eq]
  rcases h2 with ⟨_, rfl⟩ | ⟨_, rfl⟩ | ⟨_, rfl⟩ <;> simp only [Int.reduceToNat] <;> omega
theorem stamp_rem (d : List Int) (n : Nat) (f s : Int) (hn : d.length = n) (hf : d.getD 1 0 % 16 = f) (h : ¬ n < 2) (h2 : (f = 0 ∧ s = 4) ∨ (f = 1 ∧ s = 8) ∨ (f = 3 ∧ s = 8)) (hm : ¬ ((n : Int) - 2) % s = 0) : stampB d = false := by
  have hs : stampS f = s := by rcases h2 with ⟨rfl, rfl⟩ | ⟨rfl, rfl⟩ | ⟨rfl, rfl⟩ <;> rfl
  unfold stampB
  rw [if_neg (by omega), hf, if_neg (by omega), hs, hn, show (((n : Int) - 2) % s == 0) = false by simpa using hm]
  rfl
set_option maxRecDepth 100000 in
set_option maxHeartbeats 4000000 in
theorem rOptRight_any (k : Int) (A : Option Addr) (cap n : Nat) (d : List Int) (w : World) (hn : d.length = n) (hl : n ≤ 38) (hk0 : k ≠ 0) (hk1 : k ≠ 1) (hB : Byt d) (hr : Rd w w.heap.size A .u8 d) :
    Calls Tryd.prog 165 #[.agg #[.int .u8 k, .slice A n cap]] w fun e w' => e = .returned (.bool (optRight k d)) ∧ Below w.heap.size w w' := by
  have HR : optRight k d = shapeB k d := by unfold optRight; rw [if_neg (by omega), decide_eq_true (by omega), Bool.and_true]
  rw [HR]
  clear HR
  have e0 : (k == 0) = false := by simpa using hk0
  have e1 : (k == 1) = false := by simpa using hk1
  have g38 : decide (38 < (n : Int)) = false := by simp; omega
  have hA := (Below.refl w.heap.size w).alloc (Nat.le_refl _) (.cells #[.int .u8 k, .slice A n cap] 247)
  have HRt := Lib.hid (fun W => rRoutes_any k W)
  by_cases h148 : k = 148
  · subst h148
    have HX := Lib.hid (show shapeB 148 d = ((n : Int) == 2) by unfold shapeB; rw [if_neg (by decide), if_pos rfl, hn, Bool.eq_iff_iff]; simp; omega)
    rw [HX.out]
    clear HX
    go_enter Tryd.func165, Tryd.ntmps165
    go_wp2_with fail
    go_ret
    exact ⟨rfl, hA⟩
  have e148 : (k == 148) = false := by simpa using h148
  by_cases hrt : k = 7 ∨ k = 131 ∨ k = 137
  · have HX := Lib.hid (show shapeB k d = addrB d by unfold shapeB; rw [if_pos hrt])
    have hrb : routesB k = true := by unfold routesB; simpa [or_assoc] using hrt
    rw [hrb] at HRt
    rw [HX.out]
    clear HX hrb hrt
    by_cases hm : n % 4 = 1
    case neg =>
      rw [addr_no d n hn hm]
      by_cases hn0 : n = 0
      · subst hn0
        go_enter Tryd.func165, Tryd.ntmps165
        go_wp2_with fail
        refine (HRt.out _).mono ?_
        rintro e w2 ⟨rfl, rfl⟩
        go_wp2_with fail
        go_ret
        exact ⟨rfl, hA⟩
      · have b0 : decide (0 < (n : Int)) = true := by simp; omega
        have b1 : (((n : Int) - 1) % 4 == 0) = false := by simp; omega
        clear hm
        go_enter Tryd.func165, Tryd.ntmps165
        go_wp2_with fail
        refine (HRt.out _).mono ?_
        rintro e w2 ⟨rfl, rfl⟩
        go_wp2_with fail
        go_ret
        exact ⟨rfl, hA⟩
    rw [addr_point d n _ hn rfl hm]
    obtain ⟨b, off, rfl, hbl, hc⟩ := hr.at0 (by omega)
    have c0 := hc 0 (by omega)
    rw [Nat.add_zero] at c0
    obtain ⟨x0, x1⟩ := hB.at_ 0
    have HP := Lib.hid (fun W => rPointer_any (d.getD 0 0) 4 4 ((n - 1) / 4) W (by omega) (by omega) (by omega) (.inl rfl))
    have hq : (((n - 1) / 4 : Nat) : Int) = ((n : Int) - 1) / 4 := by omega
    rw [hq] at HP
    generalize pointB (d.getD 0 0) 4 ((n - 1) / 4) 4 = R at *
    generalize d.getD 0 0 = x at *
    have b0 : decide (0 < (n : Int)) = true := by simp; omega
    have b1 : (((n : Int) - 1) % 4 == 0) = true := by simp; omega
    have i0 : (0 : Int) < n := by omega
    clear hr hc hB hn
    go_enter Tryd.func165, Tryd.ntmps165
    go_wp2_with fail
    refine (HRt.out _).mono ?_
    rintro e w2 ⟨rfl, rfl⟩
    have d0 : (w.alloc (.cells #[.int .u8 k, .slice (some ⟨b, off, none⟩) n cap] 247)).cell? ⟨b, off, none⟩ = some (.int .u8 x) := (World.cell?_alloc_lt _ _ _ hbl).trans c0
    go_wp2_with fail
    refine (HP.out _).mono ?_
    rintro e w2 ⟨rfl, rfl⟩
    go_wp2_with fail
    go_ret
    exact ⟨rfl, hA⟩
  have hrb : routesB k = false := by
    unfold routesB
    rw [show (k == 7) = false by simp; omega, show (k == 131) = false by simp; omega, show (k == 137) = false by simp; omega]
    rfl
  rw [hrb] at HRt
  by_cases h68 : k = 68
  case neg =>
    have HX := Lib.hid (show shapeB k d = true by unfold shapeB; rw [if_neg hrt, if_neg h148, if_neg h68])
    have e68 : (k == 68) = false := by simpa using h68
    rw [HX.out]
    clear HX hrt h68 h148 hk0 hk1
    go_enter Tryd.func165, Tryd.ntmps165
    go_wp2_with fail
    refine (HRt.out _).mono ?_
    rintro e w2 ⟨rfl, rfl⟩
    go_wp2_with fail
    go_ret
    exact ⟨rfl, hA⟩
  subst h68
  rw [show shapeB 68 d = stampB d by unfold shapeB; rw [if_neg (by decide), if_neg (by decide), if_pos rfl]]
  clear hrt hrb
  by_cases h2 : n < 2
  · rw [stamp_less d n hn h2]
    have b2 : decide ((n : Int) < 2) = true := by simp; omega
    go_enter Tryd.func165, Tryd.ntmps165
    go_wp2_with fail
    refine (HRt.out _).mono ?_
    rintro e w2 ⟨rfl, rfl⟩
    go_wp2_with fail
    go_ret
    exact ⟨rfl, hA⟩
  have b2 : decide ((n : Int) < 2) = false := by simp; omega
  obtain ⟨b, off, rfl, hbl, hc⟩ := hr.at0 (by omega)
  have c0 := hc 0 (by omega)
  have c1 := hc 1 (by omega)
  rw [Nat.add_zero] at c0
  obtain ⟨x0, x1⟩ := hB.at_ 0
  obtain ⟨y0, y1⟩ := hB.at_ 1
  have i0 : (0 : Int) < n := by omega
  have i1 : (1 : Int) < n := by omega
  have d0 := (World.cell?_alloc_lt w (.cells #[.int .u8 68, .slice (some ⟨b, off, none⟩) n cap] 247) ⟨b, off, none⟩ hbl).trans c0
  have d1 := (World.cell?_alloc_lt w (.cells #[.int .u8 68, .slice (some ⟨b, off, none⟩) n cap] 247) ⟨b, off + 1, none⟩ hbl).trans c1
  rcases (show d.getD 1 0 % 16 = 0 ∨ d.getD 1 0 % 16 = 1 ∨ d.getD 1 0 % 16 = 3 ∨ (3 < d.getD 1 0 % 16 ∨ d.getD 1 0 % 16 = 2) by omega) with hf | hf | hf | hf
  · by_cases hm : ((n : Int) - 2) % 4 = 0
    · rw [stamp_point d n _ 0 4 hn rfl hf h2 (.inl ⟨rfl, rfl⟩) hm]
      have HP := Lib.hid (fun W => rPointer_any (d.getD 0 0) 5 4 ((n - 2) / 4) W (by omega) (by omega) (by omega) (.inl rfl))
      have hq : (((n - 2) / 4 : Nat) : Int) = ((n : Int) - 2) / 4 := by omega
      rw [hq] at HP
      simp only [Int.reduceToNat]
      generalize pointB (d.getD 0 0) 5 ((n - 2) / 4) 4 = R at *
      generalize d.getD 0 0 = x at *
      generalize d.getD 1 0 = y at *
      have b1 : (((n : Int) - 2) % 4 == 0) = true := by simpa using hm
      clear hr hc hB hn hm c0 c1
      go_enter Tryd.func165, Tryd.ntmps165
      go_wp2_with fail
      refine (HRt.out _).mono ?_
      rintro e w2 ⟨rfl, rfl⟩
      go_wp2_with fail
      refine (HP.out _).mono ?_
      rintro e w2 ⟨rfl, rfl⟩
      go_wp2_with fail
      go_ret
      exact ⟨rfl, hA⟩
    · rw [stamp_rem d n 0 4 hn hf h2 (.inl ⟨rfl, rfl⟩) hm]
      generalize d.getD 0 0 = x at *
      generalize d.getD 1 0 = y at *
      have b1 : (((n : Int) - 2) % 4 == 0) = false := by simpa using hm
      clear hr hc hB hn hm c0 c1
      go_enter Tryd.func165, Tryd.ntmps165
      go_wp2_with fail
      refine (HRt.out _).mono ?_
      rintro e w2 ⟨rfl, rfl⟩
      go_wp2_with fail
      go_ret
      exact ⟨rfl, hA⟩
  · by_cases hm : ((n : Int) - 2) % 8 = 0
    · rw [stamp_point d n _ 1 8 hn rfl hf h2 (.inr (.inl ⟨rfl, rfl⟩)) hm]
      have HP := Lib.hid (fun W => rPointer_any (d.getD 0 0) 5 8 ((n - 2) / 8) W (by omega) (by omega) (by omega) (.inr rfl))
      have hq : (((n - 2) / 8 : Nat) : Int) = ((n : Int) - 2) / 8 := by omega
      rw [hq] at HP
      simp only [Int.reduceToNat]
      generalize pointB (d.getD 0 0) 5 ((n - 2) / 8) 8 = R at *
      generalize d.getD 0 0 = x at *
      generalize d.getD 1 0 = y at *
      have b1 : (((n : Int) - 2) % 8 == 0) = true := by simpa using hm
      clear hr hc hB hn hm c0 c1
      go_enter Tryd.func165, Tryd.ntmps165
      go_wp2_with fail
      refine (HRt.out _).mono ?_
      rintro e w2 ⟨rfl, rfl⟩
      go_wp2_with fail
      refine (HP.out _).mono ?_
      rintro e w2 ⟨rfl, rfl⟩
      go_wp2_with fail
      go_ret
      exact ⟨rfl, hA⟩
    · rw [stamp_rem d n 1 8 hn hf h2 (.inr (.inl ⟨rfl, rfl⟩)) hm]
      generalize d.getD 0 0 = x at *
      generalize d.getD 1 0 = y at *
      have b1 : (((n : Int) - 2) % 8 == 0) = false := by simpa using hm
      clear hr hc hB hn hm c0 c1
      go_enter Tryd.func165, Tryd.ntmps165
      go_wp2_with fail
      refine (HRt.out _).mono ?_
      rintro e w2 ⟨rfl, rfl⟩
      go_wp2_with fail
      go_ret
      exact ⟨rfl, hA⟩
  · by_cases hm : ((n : Int) - 2) % 8 = 0
    · rw [stamp_point d n _ 3 8 hn rfl hf h2 (.inr (.inr ⟨rfl, rfl⟩)) hm]
      have HP := Lib.hid (fun W => rPointer_any (d.getD 0 0) 5 8 ((n - 2) / 8) W (by omega) (by omega) (by omega) (.inr rfl))
      have hq : (((n - 2) / 8 : Nat) : Int) = ((n : Int) - 2) / 8 := by omega
      rw [hq] at HP
      simp only [Int.reduceToNat]
      generalize pointB (d.getD 0 0) 5 ((n - 2) / 8) 8 = R at *
      generalize d.getD 0 0 = x at *
      generalize d.getD 1 0 = y at *
      have b1 : (((n : Int) - 2) % 8 == 0) = true := by simpa using hm
      clear hr hc hB hn hm c0 c1
      go_enter Tryd.func165, Tryd.ntmps165
      go_wp2_with fail
      refine (HRt.out _).mono ?_
      rintro e w2 ⟨rfl, rfl⟩
      go_wp2_with fail
      refine (HP.out _).mono ?_
      rintro e w2 ⟨rfl, rfl⟩
      go_wp2_with fail
      go_ret
      exact ⟨rfl, hA⟩
    · rw [stamp_rem d n 3 8 hn hf h2 (.inr (.inr ⟨rfl, rfl⟩)) hm]
      generalize d.getD 0 0 = x at *
      generalize d.getD 1 0 = y at *
      have b1 : (((n : Int) - 2) % 8 == 0) = false := by simpa using hm
      clear hr hc hB hn hm c0 c1
      go_enter Tryd.func165, Tryd.ntmps165
      go_wp2_with fail
      refine (HRt.out _).mono ?_
      rintro e w2 ⟨rfl, rfl⟩
      go_wp2_with fail
      go_ret
      exact ⟨rfl, hA⟩
  · rw [stamp_flag d n _ hn rfl h2 hf]
    generalize d.getD 0 0 = x at *
    generalize d.getD 1 0 = y at *
    have f0 : (y % 16 == 0) = false := by simp; omega
    have f1 : (y % 16 == 1) = false := by simp; omega
    have f3 : (y % 16 == 3) = false := by simp; omega
    clear hr hc hB hn hf c0 c1
    go_enter Tryd.func165, Tryd.ntmps165
    go_wp2_with fail
    refine (HRt.out _).mono ?_
    rintro e w2 ⟨rfl, rfl⟩
    go_wp2_with fail
    go_ret
    exact ⟨rfl, hA⟩
end Go.Proofs.YtebeekjcepjcnaaDoor
