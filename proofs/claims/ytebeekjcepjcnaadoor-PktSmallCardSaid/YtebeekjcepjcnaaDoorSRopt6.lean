/-
  The reference of package opts: routes, pointer, excludes, excluded, Routed.
-/
import Derived.Test.YtebeekjcepjcnaaDoorProg
import Derived.WalkKit
import Derived.WalkSpells
import Derived.WalkLawsBesides
import Derived.WalkSmall
import Derived.Lib.Hide
import Derived.Deep.AppendLies
import Derived.Maps.AppendAt
import Derived.Laws.AppendOwnNone
import Derived.Laws.CopyOwn
import Derived.OneCell
import Derived.Lib.SliceRun
import Derived.RangeFuncNested
import Derived.RangeFuncBound
import Derived.RangeFuncCalls
import Derived.RangeFuncLeaves
import Derived.Shelf.Abstract
import Derived.OwnWalkIn
import Derived.TacticsInMore
import Derived.LoopNIn
import Derived.LoopIn
import Derived.Orders
import Derived.RegionTactic
import Derived.Still
import Derived.Deep.MidRow
import Derived.Deep.DeepCutAuto
import Derived.Lib.AppendZeros
import Derived.BigRegion
import Derived.ChangeAlike
import Derived.Deep.RegionLaw
import Derived.Deep.RegionHeld3
import Derived.MapKept
import Derived.RegionIn
import Derived.Test.YtebeekjcepjcnaaDoorSBase
import Derived.Test.YtebeekjcepjcnaaDoorSMem
import Derived.Test.YtebeekjcepjcnaaDoorSCsum
import Derived.Test.YtebeekjcepjcnaaDoorSSum
import Derived.Test.YtebeekjcepjcnaaDoorSRegion
import Derived.Test.YtebeekjcepjcnaaDoorSWalk
import Derived.Test.YtebeekjcepjcnaaDoorSStep
import Derived.Test.YtebeekjcepjcnaaDoorSStepb
import Derived.Test.YtebeekjcepjcnaaDoorSRefa
import Derived.Test.YtebeekjcepjcnaaDoorSConcat
import Derived.Test.YtebeekjcepjcnaaDoorSPkt
import Derived.Test.YtebeekjcepjcnaaDoorSRopts
import Derived.Test.YtebeekjcepjcnaaDoorSRnum
import Derived.Test.YtebeekjcepjcnaaDoorSTcpw
import Derived.Test.YtebeekjcepjcnaaDoorSIcmpr
import Derived.Test.YtebeekjcepjcnaaDoorSIprd
import Derived.Test.YtebeekjcepjcnaaDoorSIpre
import Derived.Test.YtebeekjcepjcnaaDoorSIpread
import Derived.Test.YtebeekjcepjcnaaDoorSOptsa
import Derived.Test.YtebeekjcepjcnaaDoorSOptsb
import Derived.Test.YtebeekjcepjcnaaDoorSRange
import Derived.Test.YtebeekjcepjcnaaDoorSOptsc
import Derived.Test.YtebeekjcepjcnaaDoorSOptsd
namespace Go.Proofs.YtebeekjcepjcnaaDoor
open Go.RowKit
def routesB (k : Int) : Bool := k == 7 || k == 131 || k == 137
set_option maxHeartbeats 400000 in
theorem rRoutes_any (k : Int) (w : World) : Calls Tryd.prog 178 #[.int .u8 k] w fun e w' => e = .returned (.bool (routesB k)) ∧ w = w' := by
  unfold routesB
  cases h7 : k == 7
  case true =>
    go_enter Tryd.func178, Tryd.ntmps178
    go_wp2
    go_ret
    exact ⟨rfl, rfl⟩
  case false =>
    cases h131 : k == 131
    case true =>
      go_enter Tryd.func178, Tryd.ntmps178
      go_wp2
      go_ret
      exact ⟨rfl, rfl⟩
    case false =>
      cases h137 : k == 137
      all_goals
        go_enter Tryd.func178, Tryd.ntmps178
        go_wp2
        go_ret
        exact ⟨rfl, rfl⟩
theorem pointB_none {p f s : Int} {many : Nat} (h : ∀ j : Nat, j < many + 1 → (p == f + j * s) = false) : pointB p f many s = false := by
  unfold pointB
  rw [List.any_eq_false]
  intro j hj
  rw [List.mem_range] at hj
  rw [h j hj]
  decide
theorem pointB_some {p f s : Int} {many k : Nat} (hk : k < many + 1) (h : (p == f + k * s) = true) : pointB p f many s = true := by
  unfold pointB
  rw [List.any_eq_true]
  exact ⟨k, List.mem_range.2 hk, h⟩
set_option maxHeartbeats 1000000 in
theorem rPointer_any (p f s : Int) (many : Nat) (w : World) (hf0 : 0 ≤ f) (hf1 : f < 100) (hm : many ≤ 1000) (hs : s = 4 ∨ s = 8) :
    Calls Tryd.prog 179 #[.int .i64 p, .int .i64 f, .int .i64 many, .int .i64 s] w fun e w' => e = .returned (.bool (pointB p f many s)) ∧ w = w' := by
  have HN := Lib.hid (fun h => pointB_none (p := p) (f := f) (s := s) (many := many) h)
  have HS := Lib.hid (fun k hk h => pointB_some (p := p) (f := f) (s := s) (many := many) (k := k) hk h)
  generalize pointB p f many s = R at *
  rcases hs with rfl | rfl
  · go_enter Tryd.func179, Tryd.ntmps179
    go_wp2
    go_loop [9] (fun i => ∃ k : Nat, k ≤ many + 1 ∧ i = .int .i64 k ∧ Hid (∀ j : Nat, j < k → (p == f + j * 4) = false)) (fun i => many + 1 - (intOf i).toNat)
    case atStart => exact ⟨0, by omega, rfl, Lib.hid (fun j hj => by omega)⟩
    case round =>
      obtain ⟨k, hk, rfl, hJ⟩ := hrel
      by_cases hlt : k < many + 1
      · rcases hx : (p == f + (k : Int) * 4) with _ | _
        · have HJ2 := Lib.hid (show ∀ j : Nat, j < k + 1 → (p == f + j * 4) = false from fun j hj => by
            rcases Nat.lt_or_ge j k with h | h
            · exact hJ.out j h
            · rw [show j = k by omega]; exact hx)
          clear hJ
          go_wp2
          go_round
          case rel => exact ⟨k + 1, by omega, by go_num, HJ2⟩
          case measure => simp [intOf]; omega
        · have HR := Lib.hid (HS.out k hlt hx)
          go_wp2_with fail
          go_ret
          exact ⟨by rw [HR.out]; rfl, rfl⟩
      · obtain rfl : k = many + 1 := by omega
        have HR := Lib.hid (HN.out hJ.out)
        go_wp2_with fail
        go_ret
        exact ⟨by rw [HR.out]; rfl, rfl⟩
  · go_enter Tryd.func179, Tryd.ntmps179
    go_wp2
    go_loop [9] (fun i => ∃ k : Nat, k ≤ many + 1 ∧ i = .int .i64 k ∧ Hid (∀ j : Nat, j < k → (p == f + j * 8) = false)) (fun i => many + 1 - (intOf i).toNat)
    case atStart => exact ⟨0, by omega, rfl, Lib.hid (fun j hj => by omega)⟩
    case round =>
      obtain ⟨k, hk, rfl, hJ⟩ := hrel
      by_cases hlt : k < many + 1
      · rcases hx : (p == f + (k : Int) * 8) with _ | _
        · have HJ2 := Lib.hid (show ∀ j : Nat, j < k + 1 → (p == f + j * 8) = false from fun j hj => by
            rcases Nat.lt_or_ge j k with h | h
            · exact hJ.out j h
            · rw [show j = k by omega]; exact hx)
          clear hJ
          go_wp2
          go_round
          case rel => exact ⟨k + 1, by omega, by go_num, HJ2⟩
          case measure => simp [intOf]; omega
        · have HR := Lib.hid (HS.out k hlt hx)
          go_wp2_with fail
          go_ret
          exact ⟨by rw [HR.out]; rfl, rfl⟩
      · obtain rfl : k = many + 1 := by omega
        have HR := Lib.hid (HN.out hJ.out)
        go_wp2_with fail
        go_ret
        exact ⟨by rw [HR.out]; rfl, rfl⟩
set_option maxHeartbeats 1000000 in
theorem rExcludes_any (a k : Int) (w : World) : Calls Tryd.prog 180 #[.int .u8 a, .int .u8 k] w fun e w' => e = .returned (.bool (exclI a k)) ∧ w = w' := by
  unfold exclI
  by_cases h7 : a = 7
  · subst h7
    rw [if_pos (.inl rfl)]
    go_enter Tryd.func180, Tryd.ntmps180
    go_wp2
    go_ret
    exact ⟨rfl, rfl⟩
  by_cases h68 : a = 68
  · subst h68
    rw [if_pos (.inr rfl)]
    go_enter Tryd.func180, Tryd.ntmps180
    go_wp2
    go_ret
    exact ⟨rfl, rfl⟩
  rw [if_neg (by omega)]
  have e7 : (a == 7) = false := by simpa using h7
  have e68 : (a == 68) = false := by simpa using h68
  clear h7 h68
  cases h131 : a == 131 <;> cases h137 : a == 137 <;> cases k131 : k == 131 <;> cases k137 : k == 137
  all_goals
    go_enter Tryd.func180, Tryd.ntmps180
    go_wp2
    go_ret
    exact ⟨rfl, rfl⟩
section
variable {W : World} {B : Nat} {A : Option Addr} {ks : List Int}
theorem OptsAt.at_ (h : OptsAt W B A ks) (k : Nat) (hk : k < ks.length) : ∃ b off, A = some ⟨b, off, none⟩ ∧ b < B ∧ W.cell? ⟨b, off + k * 2, none⟩ = some (.int .u8 (ks.getD k 0)) := by
  obtain ⟨b, off, v, e, hb, _, hc, _⟩ := h k hk
  exact ⟨b, off, e, hb, hc⟩
end
theorem any_snoc {α : Type} (p : α → Bool) (l : List α) (x : α) : (l ++ [x]).any p = (l.any p || p x) := by simp
theorem any_take {ks : List Int} {p : Int → Bool} {k : Nat} (hk : k < ks.length) (h : p (ks.getD k 0) = true) : ks.any p = true := by
  rw [List.any_eq_true]
  refine ⟨ks.getD k 0, ?_, h⟩
  rw [List.getD_eq_getElem?_getD, List.getElem?_eq_getElem hk]
  exact List.getElem_mem _
set_option maxRecDepth 100000 in
set_option maxHeartbeats 1000000 in
theorem rExcluded_any (A : Option Addr) (cap n : Nat) (ks : List Int) (K : Int) (w : World) (hn : ks.length = n) (hl : n ≤ 1000000) (hr : OptsAt w w.heap.size A ks) :
    Calls Tryd.prog 166 #[.slice A n cap, .int .u8 K] w fun e w' => e = .returned (.bool (exclB ks K)) ∧ w = w' := by
  have HR := Lib.hid hr
  have Hn := Lib.hid hn
  have HB := Lib.hid (exclB_any ks K)
  clear hr hn
  generalize exclB ks K = R at *
  go_enter Tryd.func166, Tryd.ntmps166
  go_wp2
  go_loop [5] (fun i => ∃ k : Nat, k ≤ n ∧ i = .int .i64 k ∧ Hid (((ks.take k).any fun a => exclI a K) = false)) (fun i => n - (intOf i).toNat)
  case atStart => exact ⟨0, by omega, rfl, Lib.hid rfl⟩
  case round =>
    obtain ⟨k, hk, rfl, hJ⟩ := hrel
    by_cases hlt : k < n
    · obtain ⟨b, off, rfl, hbb, c0⟩ := HR.out.at_ k (by rw [Hn.out]; exact hlt)
      have Hs := Lib.hid ((congrArg (fun l => l.any fun a => exclI a K) (take_succ_getD ks k (by rw [Hn.out]; exact hlt))).trans (any_snoc _ _ _))
      have Ht := Lib.hid (fun h => any_take (ks := ks) (p := fun a => exclI a K) (k := k) (by rw [Hn.out]; exact hlt) h)
      rw [hJ.out, Bool.false_or] at Hs
      have HX := Lib.hid (fun W => rExcludes_any (ks.getD k 0) K W)
      have hi2 : (k : Int) < n := by omega
      generalize ks.getD k 0 = x at *
      rcases hx : exclI x K with _ | _
      · rw [hx] at HX Hs
        clear hJ
        go_wp2_with fail
        refine (HX.out _).mono ?_
        rintro e w2 ⟨rfl, rfl⟩
        go_wp2_with fail
        go_round
        case rel => exact ⟨k + 1, by omega, by go_num, Hs⟩
        case measure => simp [intOf]; omega
      · have HR2 := Lib.hid (HB.out.trans (Ht.out hx))
        rw [hx] at HX
        go_wp2_with fail
        refine (HX.out _).mono ?_
        rintro e w2 ⟨rfl, rfl⟩
        go_wp2_with fail
        go_ret
        exact ⟨by rw [HR2.out]; rfl, rfl⟩
    · obtain rfl : k = n := by omega
      have HR2 := Lib.hid (show R = false by have := hJ.out; rw [← Hn.out, List.take_length] at this; exact HB.out.trans this)
      go_wp2_with fail
      go_ret
      exact ⟨by rw [HR2.out]; rfl, rfl⟩
theorem group3 (k : Int) : (optGroup k == 3) = (k == 131 || k == 137) := by
  unfold optGroup
  by_cases h7 : k = 7
  · subst h7; decide
  by_cases h68 : k = 68
  · subst h68; decide
  by_cases h131 : k = 131
  · subst h131; decide
  by_cases h137 : k = 137
  · subst h137; decide
  simp [h7, h68, h131, h137]
set_option maxRecDepth 100000 in
set_option maxHeartbeats 1000000 in
theorem rRouted_any (A : Option Addr) (cap n : Nat) (ks : List Int) (w : World) (hn : ks.length = n) (hl : n ≤ 1000000) (hr : OptsAt w w.heap.size A ks) :
    Calls Tryd.prog 137 #[.slice A n cap] w fun e w' => e = .returned (.bool (routedB ks)) ∧ w = w' := by
  have HR := Lib.hid hr
  have Hn := Lib.hid hn
  have HB := Lib.hid (show routedB ks = ks.any fun k => (k == 131 || k == 137) by unfold routedB; congr 1; funext k; exact group3 k)
  clear hr hn
  generalize routedB ks = R at *
  go_enter Tryd.func137, Tryd.ntmps137
  go_wp2
  go_loop [3] (fun i => ∃ k : Nat, k ≤ n ∧ i = .int .i64 k ∧ Hid (((ks.take k).any fun k => (k == 131 || k == 137)) = false)) (fun i => n - (intOf i).toNat)
  case atStart => exact ⟨0, by omega, rfl, Lib.hid rfl⟩
  case round =>
    obtain ⟨k, hk, rfl, hJ⟩ := hrel
    by_cases hlt : k < n
    · obtain ⟨b, off, rfl, hbb, c0⟩ := HR.out.at_ k (by rw [Hn.out]; exact hlt)
      have Hs := Lib.hid ((congrArg (fun l => l.any fun k : Int => (k == 131 || k == 137)) (take_succ_getD ks k (by rw [Hn.out]; exact hlt))).trans (any_snoc _ _ _))
      have Ht := Lib.hid (fun h => any_take (ks := ks) (p := fun k => (k == 131 || k == 137)) (k := k) (by rw [Hn.out]; exact hlt) h)
      rw [hJ.out, Bool.false_or] at Hs
      have hi2 : (k : Int) < n := by omega
      generalize ks.getD k 0 = x at *
      cases h131 : x == 131
      case true =>
        have HR2 := Lib.hid (HB.out.trans (Ht.out (by rw [h131]; rfl)))
        go_wp2_with fail
        go_ret
        exact ⟨by rw [HR2.out]; rfl, rfl⟩
      case false =>
        cases h137 : x == 137
        case true =>
          have HR2 := Lib.hid (HB.out.trans (Ht.out (by rw [h137]; simp)))
          go_wp2_with fail
          go_ret
          exact ⟨by rw [HR2.out]; rfl, rfl⟩
        case false =>
          have Hs2 := Lib.hid (Hs.out.trans (by rw [h131, h137, Bool.or_false]))
          clear hJ Hs
          go_wp2_with fail
          go_round
          case rel => exact ⟨k + 1, by omega, by go_num, Hs2⟩
          case measure => simp [intOf]; omega
    · obtain rfl : k = n := by omega
      have HR2 := Lib.hid (show R = false by have := hJ.out; rw [← Hn.out, List.take_length] at this; exact HB.out.trans this)
      go_wp2_with fail
      go_ret
      exact ⟨by rw [HR2.out]; rfl, rfl⟩
end Go.Proofs.YtebeekjcepjcnaaDoor
