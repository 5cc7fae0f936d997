/-
  Package opts: the greatest of some bytes; Routed.
-/
import Derived.WalkKit
import Derived.WalkSpells
import Derived.WalkLawsBesides
import Derived.WalkSmall
import Derived.Lib.Hide
import Derived.Deep.AppendLies
import Derived.Maps.AppendAt
import Derived.Laws.AppendOwnNone
import Derived.Laws.CopyOwn
import Derived.OneCell
import Derived.Test.YtebeekjcepjcnaaDoorProg
import Derived.Lib.SliceRun
import Derived.RangeFuncNested
import Derived.RangeFuncBound
import Derived.RangeFuncCalls
import Derived.RangeFuncLeaves
import Derived.Shelf.Abstract
import Derived.OwnWalkIn
import Derived.TacticsInMore
import Derived.LoopNIn
import Derived.LoopIn
import Derived.Lib.AppendZeros
import Derived.BigRegion
import Derived.ChangeAlike
import Derived.Deep.RegionLaw
import Derived.Deep.DeepCutAuto
import Derived.Orders
import Derived.RegionTactic
import Derived.Still
import Derived.Deep.MidRow
import Derived.Deep.RegionHeld3
import Derived.MapKept
import Derived.Test.YtebeekjcepjcnaaDoorSBase
import Derived.Test.YtebeekjcepjcnaaDoorSMem
import Derived.Test.YtebeekjcepjcnaaDoorSCsum
import Derived.Test.YtebeekjcepjcnaaDoorSSum
import Derived.Test.YtebeekjcepjcnaaDoorSRegion
import Derived.Test.YtebeekjcepjcnaaDoorSWalk
import Derived.Test.YtebeekjcepjcnaaDoorSStep
import Derived.Test.YtebeekjcepjcnaaDoorSStepb
import Derived.Test.YtebeekjcepjcnaaDoorSConcat
import Derived.Test.YtebeekjcepjcnaaDoorSPkt
import Derived.Test.YtebeekjcepjcnaaDoorSTcpw
import Derived.Test.YtebeekjcepjcnaaDoorSIcmpr
import Derived.Test.YtebeekjcepjcnaaDoorSIprd
import Derived.Test.YtebeekjcepjcnaaDoorSIpre
import Derived.Test.YtebeekjcepjcnaaDoorSIpread
import Derived.Test.YtebeekjcepjcnaaDoorSOptsa
namespace Go.Proofs.YtebeekjcepjcnaaDoor
open Go.RowKit
def maxL (l : List Int) : Int := l.foldl max 0
theorem maxL_snoc (l : List Int) (x : Int) : maxL (l ++ [x]) = max (maxL l) x := by simp [maxL]
theorem foldl_max_any (l : List Int) : ∀ s, decide (0 < l.foldl max s) = (decide (0 < s) || l.any fun x => decide (0 < x)) := by
  induction l with
  | nil => intro s; rw [List.foldl_nil, List.any_nil, Bool.or_false]
  | cons x l ih =>
    intro s
    rw [List.foldl_cons, ih, List.any_cons, ← Bool.or_assoc]
    congr 1
    rw [Bool.eq_iff_iff]; simp; omega
theorem maxL_any (l : List Int) : decide (0 < maxL l) = l.any fun x => decide (0 < x) := by
  rw [maxL, foldl_max_any]; simp
set_option maxHeartbeats 1000000 in
theorem slMax_any (A : Option Addr) (cap n : Nat) (d : List Int) (w : World) (hn : d.length = n) (h0 : 0 < n) (hl : n ≤ 1000000) (hB : Byt d) (hr : Rd w w.heap.size A .u8 d) :
    Calls Tryd.prog 171 #[.slice A n cap] w fun e w' => e = .returned (.int .u8 (maxL d)) ∧ w = w' := by
  obtain ⟨b, off, rfl, hbl, hc⟩ := hr.at0 (by omega)
  have c0 := hc 0 (by omega)
  rw [Nat.add_zero] at c0
  have Hm1 := Lib.hid (show maxL (d.take 1) = d.getD 0 0 by
    rw [take_succ_getD d 0 (by omega)]; simp [maxL]; have := (hB.at_ 0).1; rw [List.getD_eq_getElem?_getD] at this; omega)
  have Hc := Lib.hid hc
  have Hn := Lib.hid hn
  have HB := Lib.hid hB
  clear hc hn hB hr
  have gi : (0 : Int) < n := by omega
  have g1 : decide ((n : Int) < 1) = false := by simp; omega
  go_enter Tryd.func171, Tryd.ntmps171
  go_wp2
  go_loop [3, 4] (fun v i => ∃ k : Nat, 1 ≤ k ∧ k ≤ n ∧ i = .int .i64 k ∧ v = .int .u8 (maxL (d.take k))) (fun _ i => n - (intOf i).toNat)
  case atStart => exact ⟨1, by omega, by omega, rfl, by rw [Hm1.out, List.getD_eq_getElem?_getD]⟩
  case round =>
    obtain ⟨k, hk1, hk, rfl, rfl⟩ := hrel
    by_cases hlt : k < n
    · have hcell := Hc.out k (by rw [Hn.out]; exact hlt)
      have Hs := Lib.hid ((congrArg maxL (take_succ_getD d k (by rw [Hn.out]; exact hlt))).trans (maxL_snoc _ _))
      generalize maxL (d.take k) = M at *
      generalize d.getD k 0 = x at *
      have hi2 : (k : Int) < n := by omega
      go_wp2
      go_round
      case rel => exact ⟨k + 1, by omega, by omega, by go_num, by rw [Hs.out]; congr 1; omega⟩
      case measure => simp [intOf]; omega
    · obtain rfl : k = n := by omega
      have Hw := Lib.hid (show maxL (d.take k) = maxL d by rw [← Hn.out, List.take_length])
      rw [Hw.out]
      go_wp2
      go_ret
      exact ⟨rfl, rfl⟩

/-! ### A slice of options: of each its kind is known -/
def OptsAt (W : World) (B : Nat) (A : Option Addr) (ks : List Int) : Prop :=
  ∀ j, j < ks.length → ∃ b off v, A = some ⟨b, off, none⟩ ∧ b < B ∧ v.oneCell' = true ∧ W.cell? ⟨b, off + j * 2, none⟩ = some (.int .u8 (ks.getD j 0)) ∧ W.cell? ⟨b, off + j * 2 + 1, none⟩ = some v
theorem OptsAt.below {W W' : World} {B C : Nat} {A : Option Addr} {ks : List Int} (h : OptsAt W B A ks) (hb : Below C W W') (hC : B ≤ C) : OptsAt W' B A ks := fun j hj => by
  obtain ⟨b, off, v, e, hB, h1, h2, h3⟩ := h j hj
  exact ⟨b, off, v, e, hB, h1, (hb.cell (p := ⟨b, off + j * 2, none⟩) (by show b < C; omega)).trans h2, (hb.cell (p := ⟨b, off + j * 2 + 1, none⟩) (by show b < C; omega)).trans h3⟩
set_option maxHeartbeats 400000 in
theorem routed1_any (k : Int) (v : Value) (w : World) : Calls Tryd.prog 146 #[.agg #[.int .u8 k, v]] w fun e w' => e = .returned (.bool (optGroup k == 3)) ∧ Below w.heap.size w w' := by
  have Hg := Lib.hid (show (optGroup k == 3) = ((optGroup k : Int) == 3) by rw [Bool.eq_iff_iff]; simp; omega)
  rw [Hg.out]
  clear Hg
  have HG := Lib.hid (fun W => optGroup_any k W)
  generalize (optGroup k : Int) = g at *
  go_enter Tryd.func146, Tryd.ntmps146
  go_wp2_with fail
  refine (HG.out _).mono ?_
  rintro e w1 ⟨rfl, rfl⟩
  go_wp2_with fail
  go_ret
  exact ⟨rfl, (Below.refl _ _).alloc (Nat.le_refl _) _⟩
def RoutedAt (w : World) (n : Nat) (ks : List Int) (i : Value) (W : World) : Prop := ∃ k : Nat, k ≤ n ∧ i = .int .i64 k ∧ routedB (ks.take k) = false ∧ Below w.heap.size w W
def SomeIdx (w : World) (B : Bool) (e : Ending) (w' : World) : Prop := ∃ r : Int, e = .returned (.int .i64 r) ∧ -1 ≤ r ∧ r ≤ 1000000 ∧ decide (0 ≤ r) = B ∧ Below w.heap.size w w'
theorem routed_snoc (l : List Int) (x : Int) : routedB (l ++ [x]) = (routedB l || optGroup x == 3) := by simp [routedB]
set_option maxRecDepth 100000 in
set_option maxHeartbeats 1000000 in
theorem indexFunc_any (A : Option Addr) (cap n : Nat) (ks : List Int) (w : World) (hn : ks.length = n) (hl : n ≤ 1000000) (hr : OptsAt w w.heap.size A ks) :
    Calls Tryd.prog 172 #[.slice A n cap, .func (.func 146) #[] #[]] w (SomeIdx w (routedB ks)) := by
  have HR := Lib.hid hr
  have Hn := Lib.hid hn
  clear hr hn
  go_enter Tryd.func172, Tryd.ntmps172
  go_wp2
  go_loopw [8] (RoutedAt w n ks) (fun i _ => n - (intOf i).toNat)
  case atStart => exact ⟨0, by omega, rfl, rfl, Below.refl _ _⟩
  case round =>
    obtain ⟨k, hk, rfl, hN, hbl⟩ := hrel
    have HN := Lib.hid hN
    have HB := Lib.hid hbl
    have hz := hbl.size
    clear hN hbl
    by_cases hlt : k < n
    · obtain ⟨b, off, v, rfl, hbb, hv, c0, c1⟩ := HR.out.below HB.out (Nat.le_refl _) k (by rw [Hn.out]; exact hlt)
      have Hs := Lib.hid ((congrArg routedB (take_succ_getD ks k (by rw [Hn.out]; exact hlt))).trans (routed_snoc _ _))
      have HX := Lib.hid (fun W => routed1_any (ks.getD k 0) v W)
      have Hall := Lib.hid (show (optGroup (ks.getD k 0) == 3) = true → routedB ks = true from fun h => by
        unfold routedB
        rw [List.any_eq_true]
        refine ⟨ks.getD k 0, ?_, h⟩
        rw [List.getD_eq_getElem?_getD, List.getElem?_eq_getElem (by rw [Hn.out]; exact hlt)]
        exact List.getElem_mem _)
      rw [HN.out, Bool.false_or] at Hs
      generalize ks.getD k 0 = x at *
      have hi2 : (k : Int) < n := by omega
      rcases hx : (optGroup x == 3) with _ | _
      · rw [hx] at HX Hs
        go_wp2_with fail
        refine (HX.out _).mono ?_
        rintro e w2 ⟨rfl, l2⟩
        have HB2 := Lib.hid (HB.out.trans (l2.mono hz))
        clear c0 c1 l2
        go_wp2_with fail
        go_roundw
        case rel => exact ⟨k + 1, by omega, by go_num, Hs.out, HB2.out⟩
        case measure => simp [intOf]; omega
      · have Hall2 := Lib.hid (Hall.out hx)
        rw [hx] at HX
        go_wp2_with fail
        refine (HX.out _).mono ?_
        rintro e w2 ⟨rfl, l2⟩
        have HB2 := Lib.hid (HB.out.trans (l2.mono hz))
        clear c0 c1 l2
        go_wp2_with fail
        go_ret
        exact ⟨k, rfl, by omega, by omega, by rw [Hall2.out]; simp, HB2.out⟩
    · obtain rfl : k = n := by omega
      have Hw := Lib.hid (show routedB ks = false by have := HN.out; rwa [← Hn.out, List.take_length] at this)
      go_wp2_with fail
      go_ret
      exact ⟨-1, rfl, by omega, by omega, by rw [Hw.out]; rfl, HB.out⟩

set_option maxHeartbeats 400000 in
theorem containsFunc_any (A : Option Addr) (cap n : Nat) (ks : List Int) (w : World) (hn : ks.length = n) (hl : n ≤ 1000000) (hr : OptsAt w w.heap.size A ks) :
    Calls Tryd.prog 145 #[.slice A n cap, .func (.func 146) #[] #[]] w fun e w' => e = .returned (.bool (routedB ks)) ∧ Below w.heap.size w w' := by
  have H := Lib.hid (indexFunc_any A cap n ks w hn hl hr)
  clear hr hn
  go_enter Tryd.func145, Tryd.ntmps145
  go_wp2_with fail
  refine H.out.mono ?_
  rintro e w' ⟨r, rfl, h0, h1, hB, l⟩
  have HBx := Lib.hid hB
  clear hB
  go_wp2_with fail
  go_ret
  exact ⟨by rw [← HBx.out]; rfl, l⟩
set_option maxHeartbeats 400000 in
theorem routed_any (A : Option Addr) (cap n : Nat) (ks : List Int) (w : World) (hn : ks.length = n) (hl : n ≤ 1000000) (hr : OptsAt w w.heap.size A ks) :
    Calls Tryd.prog 108 #[.slice A n cap] w fun e w' => e = .returned (.bool (routedB ks)) ∧ Below w.heap.size w w' := by
  have H := Lib.hid (containsFunc_any A cap n ks w hn hl hr)
  clear hr hn
  go_enter Tryd.func108, Tryd.ntmps108
  go_wp2_with fail
  refine H.out.mono ?_
  rintro e w' ⟨rfl, l⟩
  go_wp2_with fail
  go_ret
  exact ⟨rfl, l⟩
end Go.Proofs.YtebeekjcepjcnaaDoor
