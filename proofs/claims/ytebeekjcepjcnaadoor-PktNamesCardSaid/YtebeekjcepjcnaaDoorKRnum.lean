/-
  The reference: numbers out of bytes.
-/
import Derived.Test.YtebeekjcepjcnaaDoorProg
import Derived.WalkKit
import Derived.WalkSpells
import Derived.WalkLawsBesides
import Derived.WalkSmall
import Derived.Lib.Hide
import Derived.Deep.AppendLies
import Derived.Maps.AppendAt
import Derived.Laws.AppendOwnNone
import Derived.Laws.CopyOwn
import Derived.OneCell
import Derived.Lib.SliceRun
import Derived.RangeFuncNested
import Derived.RangeFuncBound
import Derived.RangeFuncCalls
import Derived.RangeFuncLeaves
import Derived.Shelf.Abstract
import Derived.OwnWalkIn
import Derived.TacticsInMore
import Derived.LoopNIn
import Derived.LoopIn
import Derived.Orders
import Derived.RegionTactic
import Derived.Still
import Derived.Deep.MidRow
import Derived.Deep.DeepCutAuto
import Derived.Lib.AppendZeros
import Derived.BigRegion
import Derived.ChangeAlike
import Derived.Deep.RegionLaw
import Derived.Test.YtebeekjcepjcnaaDoorKBase
import Derived.Test.YtebeekjcepjcnaaDoorKWalk
import Derived.Test.YtebeekjcepjcnaaDoorKMem
import Derived.Test.YtebeekjcepjcnaaDoorKSum
import Derived.Test.YtebeekjcepjcnaaDoorKMaps
import Derived.Test.YtebeekjcepjcnaaDoorKEq
import Derived.Test.YtebeekjcepjcnaaDoorKPkt
import Derived.Test.YtebeekjcepjcnaaDoorKRopts
namespace Go.Proofs.YtebeekjcepjcnaaDoor
open Go.RowKit
def numK (d : List Int) : Nat → Int
  | 0 => 0
  | k + 1 => 256 * numK d k + d.getD k 0
theorem numK_bd {d : List Int} (h : Byt d) (k : Nat) (hk : k ≤ 4) : 0 ≤ numK d k ∧ numK d k < 4294967296 := by
  have h0 := h.at_ 0
  have h1 := h.at_ 1
  have h2 := h.at_ 2
  have h3 := h.at_ 3
  rcases (show k = 0 ∨ k = 1 ∨ k = 2 ∨ k = 3 ∨ k = 4 by omega) with rfl | rfl | rfl | rfl | rfl
  all_goals
    simp only [numK]
    omega
theorem numK_2 (xs : List Int) (k : Nat) (_h : k + 2 ≤ xs.length) : numK ((xs.drop k).take 2) 2 = w16At xs k := by
  simp [numK, w16At, List.getD_eq_getElem?_getD]
theorem numK_4 (xs : List Int) (k : Nat) (_h : k + 4 ≤ xs.length) : numK ((xs.drop k).take 4) 4 = l32At xs k := by
  simp [numK, l32At, w16At, List.getD_eq_getElem?_getD, Nat.add_assoc]
  omega
set_option maxHeartbeats 1000000 in
theorem rNumber5_any (A : Option Addr) (cap n : Nat) (d : List Int) (w : World) (hn : d.length = n) (hl : n ≤ 4) (hb : Byt d) (hr : Rd w w.heap.size A .u8 d) :
    Calls Tryd.prog 134 #[.slice A n cap] w fun e w' => e = .returned (.int .i64 (numK d n)) ∧ w = w' := by
  have Hb := Lib.hid hb
  clear hb
  go_enter Tryd.func134, Tryd.ntmps134
  go_wp2
  go_loop [3, 4] (fun s i => ∃ k : Nat, k ≤ n ∧ i = .int .i64 k ∧ s = .int .i64 (numK d k)) (fun _ i => n - (intOf i).toNat)
  case atStart => exact ⟨0, by omega, rfl, rfl⟩
  case round =>
    obtain ⟨k, hk, rfl, rfl⟩ := hrel
    have hbd := numK_bd Hb.out k (by omega)
    by_cases hlt : k < n
    · obtain ⟨b, off, rfl, _, hcell⟩ := hr k (by omega)
      have hx := Hb.out.at_ k
      have Hn := Lib.hid (show numK d (k + 1) = 256 * numK d k + d.getD k 0 from rfl)
      generalize numK d k = S at *
      generalize d.getD k 0 = x at *
      go_wp2
      go_round
      case rel => exact ⟨k + 1, by omega, by go_num, by rw [Hn.out]⟩
      case measure => simp [intOf]; omega
    · obtain rfl : k = n := by omega
      go_wp2_with fail
      go_ret
      exact ⟨rfl, rfl⟩
set_option maxHeartbeats 1000000 in
theorem rNumber8_any (A : Option Addr) (cap n : Nat) (d : List Int) (w : World) (hn : d.length = n) (hl : n ≤ 4) (hb : Byt d) (hr : Rd w w.heap.size A .u8 d) :
    Calls Tryd.prog 167 #[.slice A n cap] w fun e w' => e = .returned (.int .i64 (numK d n)) ∧ w = w' := by
  have Hb := Lib.hid hb
  clear hb
  go_enter Tryd.func167, Tryd.ntmps167
  go_wp2
  go_loop [3, 4] (fun s i => ∃ k : Nat, k ≤ n ∧ i = .int .i64 k ∧ s = .int .i64 (numK d k)) (fun _ i => n - (intOf i).toNat)
  case atStart => exact ⟨0, by omega, rfl, rfl⟩
  case round =>
    obtain ⟨k, hk, rfl, rfl⟩ := hrel
    have hbd := numK_bd Hb.out k (by omega)
    by_cases hlt : k < n
    · obtain ⟨b, off, rfl, _, hcell⟩ := hr k (by omega)
      have hx := Hb.out.at_ k
      have Hn := Lib.hid (show numK d (k + 1) = 256 * numK d k + d.getD k 0 from rfl)
      generalize numK d k = S at *
      generalize d.getD k 0 = x at *
      go_wp2
      go_round
      case rel => exact ⟨k + 1, by omega, by go_num, by rw [Hn.out]⟩
      case measure => simp [intOf]; omega
    · obtain rfl : k = n := by omega
      go_wp2_with fail
      go_ret
      exact ⟨rfl, rfl⟩
/-- The number of two bytes, of four, at an index of some bytes. -/
theorem rNum2_any (b off n k : Nat) (xs : List Int) (w : World) (c : Nat) (hn : xs.length = n) (hk : k + 2 ≤ n) (hB : Byt xs) (hr : Rd w w.heap.size (some ⟨b, off, none⟩) .u8 xs) :
    Calls Tryd.prog 134 #[.slice (some ⟨b, off + k, none⟩) 2 c] w fun e w' => e = .returned (.int .i64 (w16At xs k)) ∧ w = w' := by
  have h := rNumber5_any (some ⟨b, off + k, none⟩) c 2 ((xs.drop k).take 2) w (by simp; omega) (by omega) ((hB.drop k).take 2) ((hr.drop k fun _ b2 o2 h => by
    simp only [Option.some.injEq, Addr.mk.injEq] at h
    obtain ⟨rfl, rfl, _⟩ := h
    rfl).take 2)
  rwa [numK_2 _ _ (by omega)] at h
theorem rNum4_any (b off n k : Nat) (xs : List Int) (w : World) (c : Nat) (hn : xs.length = n) (hk : k + 4 ≤ n) (hB : Byt xs) (hr : Rd w w.heap.size (some ⟨b, off, none⟩) .u8 xs) :
    Calls Tryd.prog 134 #[.slice (some ⟨b, off + k, none⟩) 4 c] w fun e w' => e = .returned (.int .i64 (l32At xs k)) ∧ w = w' := by
  have h := rNumber5_any (some ⟨b, off + k, none⟩) c 4 ((xs.drop k).take 4) w (by simp; omega) (by omega) ((hB.drop k).take 4) ((hr.drop k fun _ b2 o2 h => by
    simp only [Option.some.injEq, Addr.mk.injEq] at h
    obtain ⟨rfl, rfl, _⟩ := h
    rfl).take 4)
  rwa [numK_4 _ _ (by omega)] at h
theorem rNum2t_any (b off n k : Nat) (xs : List Int) (w : World) (c : Nat) (hn : xs.length = n) (hk : k + 2 ≤ n) (hB : Byt xs) (hr : Rd w w.heap.size (some ⟨b, off, none⟩) .u8 xs) :
    Calls Tryd.prog 167 #[.slice (some ⟨b, off + k, none⟩) 2 c] w fun e w' => e = .returned (.int .i64 (w16At xs k)) ∧ w = w' := by
  have h := rNumber8_any (some ⟨b, off + k, none⟩) c 2 ((xs.drop k).take 2) w (by simp; omega) (by omega) ((hB.drop k).take 2) ((hr.drop k fun _ b2 o2 h => by
    simp only [Option.some.injEq, Addr.mk.injEq] at h
    obtain ⟨rfl, rfl, _⟩ := h
    rfl).take 2)
  rwa [numK_2 _ _ (by omega)] at h
theorem rNum4t_any (b off n k : Nat) (xs : List Int) (w : World) (c : Nat) (hn : xs.length = n) (hk : k + 4 ≤ n) (hB : Byt xs) (hr : Rd w w.heap.size (some ⟨b, off, none⟩) .u8 xs) :
    Calls Tryd.prog 167 #[.slice (some ⟨b, off + k, none⟩) 4 c] w fun e w' => e = .returned (.int .i64 (l32At xs k)) ∧ w = w' := by
  have h := rNumber8_any (some ⟨b, off + k, none⟩) c 4 ((xs.drop k).take 4) w (by simp; omega) (by omega) ((hB.drop k).take 4) ((hr.drop k fun _ b2 o2 h => by
    simp only [Option.some.injEq, Addr.mk.injEq] at h
    obtain ⟨rfl, rfl, _⟩ := h
    rfl).take 4)
  rwa [numK_4 _ _ (by omega)] at h
end Go.Proofs.YtebeekjcepjcnaaDoor
