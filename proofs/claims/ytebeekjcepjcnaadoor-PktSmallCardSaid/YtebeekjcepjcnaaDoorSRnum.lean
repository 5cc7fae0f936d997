/-
  The reference: numbers out of bytes.
  pkt.Name and pkt.Reason, over the table of names as it is laid.
-/
import Derived.Test.YtebeekjcepjcnaaDoorProg
import Derived.WalkKit
import Derived.WalkSpells
import Derived.WalkLawsBesides
import Derived.WalkSmall
import Derived.Lib.Hide
import Derived.Deep.AppendLies
import Derived.Maps.AppendAt
import Derived.Laws.AppendOwnNone
import Derived.Laws.CopyOwn
import Derived.OneCell
import Derived.Lib.SliceRun
import Derived.RangeFuncNested
import Derived.RangeFuncBound
import Derived.RangeFuncCalls
import Derived.RangeFuncLeaves
import Derived.Shelf.Abstract
import Derived.OwnWalkIn
import Derived.TacticsInMore
import Derived.LoopNIn
import Derived.LoopIn
import Derived.Orders
import Derived.RegionTactic
import Derived.Still
import Derived.Deep.MidRow
import Derived.Deep.DeepCutAuto
import Derived.Lib.AppendZeros
import Derived.BigRegion
import Derived.ChangeAlike
import Derived.Deep.RegionLaw
import Derived.Test.YtebeekjcepjcnaaDoorSBase
import Derived.Test.YtebeekjcepjcnaaDoorSMem
import Derived.Test.YtebeekjcepjcnaaDoorSCsum
import Derived.Test.YtebeekjcepjcnaaDoorSSum
import Derived.Test.YtebeekjcepjcnaaDoorSRegion
import Derived.Test.YtebeekjcepjcnaaDoorSWalk
import Derived.Test.YtebeekjcepjcnaaDoorSStep
import Derived.Test.YtebeekjcepjcnaaDoorSStepb
import Derived.Test.YtebeekjcepjcnaaDoorSRefa
import Derived.Test.YtebeekjcepjcnaaDoorSConcat
import Derived.Test.YtebeekjcepjcnaaDoorSPkt
import Derived.Test.YtebeekjcepjcnaaDoorSRopts
namespace Go.Proofs.YtebeekjcepjcnaaDoor
open Go.RowKit
def numK (d : List Int) : Nat → Int
  | 0 => 0
  | k + 1 => 256 * numK d k + d.getD k 0
theorem numK_bd {d : List Int} (h : Byt d) (k : Nat) (hk : k ≤ 4) : 0 ≤ numK d k ∧ numK d k < 4294967296 := by
  have h0 := h.at_ 0
  have h1 := h.at_ 1
  have h2 := h.at_ 2
  have h3 := h.at_ 3
  rcases (show k = 0 ∨ k = 1 ∨ k = 2 ∨ k = 3 ∨ k = 4 by omega) with rfl | rfl | rfl | rfl | rfl
  all_goals
    simp only [numK]
    omega
theorem numK_2 (xs : List Int) (k : Nat) (_h : k + 2 ≤ xs.length) : numK ((xs.drop k).take 2) 2 = w16At xs k := by
  simp [numK, w16At, List.getD_eq_getElem?_getD]
theorem numK_4 (xs : List Int) (k : Nat) (_h : k + 4 ≤ xs.length) : numK ((xs.drop k).take 4) 4 = l32At xs k := by
  simp [numK, l32At, w16At, List.getD_eq_getElem?_getD, Nat.add_assoc]
  omega
set_option maxHeartbeats 1000000 in
theorem rNumber5_any (A : Option Addr) (cap n : Nat) (d : List Int) (w : World) (hn : d.length = n) (hl : n ≤ 4) (hb : Byt d) (hr : Rd w w.heap.size A .u8 d) :
    Calls Tryd.prog 134 #[.slice A n cap] w fun e w' => e = .returned (.int .i64 (numK d n)) ∧ w = w' := by
  have Hb := Lib.hid hb
  clear hb
  go_enter Tryd.func134, Tryd.ntmps134
  go_wp2
  go_loop [3, 4] (fun s i => ∃ k : Nat, k ≤ n ∧ i = .int .i64 k ∧ s = .int .i64 (numK d k)) (fun _ i => n - (intOf i).toNat)
  case atStart => exact ⟨0, by omega, rfl, rfl⟩
  case round =>
    obtain ⟨k, hk, rfl, rfl⟩ := hrel
    have hbd := numK_bd Hb.out k (by omega)
    by_cases hlt : k < n
    · obtain ⟨b, off, rfl, _, hcell⟩ := hr k (by omega)
      have hx := Hb.out.at_ k
      have Hn := Lib.hid (show numK d (k + 1) = 256 * numK d k + d.getD k 0 from rfl)
      generalize numK d k = S at *
      generalize d.getD k 0 = x at *
      go_wp2
      go_round
      case rel => exact ⟨k + 1, by omega, by go_num, by rw [Hn.out]⟩
      case measure => simp [intOf]; omega
    · obtain rfl : k = n := by omega
      go_wp2_with fail
      go_ret
      exact ⟨rfl, rfl⟩
set_option maxHeartbeats 1000000 in
theorem rNumber8_any (A : Option Addr) (cap n : Nat) (d : List Int) (w : World) (hn : d.length = n) (hl : n ≤ 4) (hb : Byt d) (hr : Rd w w.heap.size A .u8 d) :
    Calls Tryd.prog 167 #[.slice A n cap] w fun e w' => e = .returned (.int .i64 (numK d n)) ∧ w = w' := by
  have Hb := Lib.hid hb
  clear hb
  go_enter Tryd.func167, Tryd.ntmps167
  go_wp2
  go_loop [3, 4] (fun s i => ∃ k : Nat, k ≤ n ∧ i = .int .i64 k ∧ s = .int .i64 (numK d k)) (fun _ i => n - (intOf i).toNat)
  case atStart => exact ⟨0, by omega, rfl, rfl⟩
  case round =>
    obtain ⟨k, hk, rfl, rfl⟩ := hrel
    have hbd := numK_bd Hb.out k (by omega)
    by_cases hlt : k < n
    · obtain ⟨b, off, rfl, _, hcell⟩ := hr k (by omega)
      have hx := Hb.out.at_ k
      have Hn := Lib.hid (show numK d (k + 1) = 256 * numK d k + d.getD k 0 from rfl)
      generalize numK d k = S at *
      generalize d.getD k 0 = x at *
      go_wp2
      go_round
      case rel => exact ⟨k + 1, by omega, by go_num, by rw [Hn.out]⟩
      case measure => simp [intOf]; omega
    · obtain rfl : k = n := by omega
      go_wp2_with fail
      go_ret
      exact ⟨rfl, rfl⟩
/-- The number of two bytes, of four, at an index of some bytes. -/
theorem rNum2_any (b off n k : Nat) (xs : List Int) (w : World) (c : Nat) (hn : xs.length = n) (hk : k + 2 ≤ n) (hB : Byt xs) (hr : Rd w w.heap.size (some ⟨b, off, none⟩) .u8 xs) :
    Calls Tryd.prog 134 #[.slice (some ⟨b, off + k, none⟩) 2 c] w fun e w' => e = .returned (.int .i64 (w16At xs k)) ∧ w = w' := by
  have h := rNumber5_any (some ⟨b, off + k, none⟩) c 2 ((xs.drop k).take 2) w (by simp; omega) (by omega) ((hB.drop k).take 2) ((hr.drop k fun _ b2 o2 h => by
    simp only [Option.some.injEq, Addr.mk.injEq] at h
    obtain ⟨rfl, rfl, _⟩ := h
    rfl).take 2)
  rwa [numK_2 _ _ (by omega)] at h
theorem rNum4_any (b off n k : Nat) (xs : List Int) (w : World) (c : Nat) (hn : xs.length = n) (hk : k + 4 ≤ n) (hB : Byt xs) (hr : Rd w w.heap.size (some ⟨b, off, none⟩) .u8 xs) :
    Calls Tryd.prog 134 #[.slice (some ⟨b, off + k, none⟩) 4 c] w fun e w' => e = .returned (.int .i64 (l32At xs k)) ∧ w = w' := by
  have h := rNumber5_any (some ⟨b, off + k, none⟩) c 4 ((xs.drop k).take 4) w (by simp; omega) (by omega) ((hB.drop k).take 4) ((hr.drop k fun _ b2 o2 h => by
    simp only [Option.some.injEq, Addr.mk.injEq] at h
    obtain ⟨rfl, rfl, _⟩ := h
    rfl).take 4)
  rwa [numK_4 _ _ (by omega)] at h
theorem rNum2t_any (b off n k : Nat) (xs : List Int) (w : World) (c : Nat) (hn : xs.length = n) (hk : k + 2 ≤ n) (hB : Byt xs) (hr : Rd w w.heap.size (some ⟨b, off, none⟩) .u8 xs) :
    Calls Tryd.prog 167 #[.slice (some ⟨b, off + k, none⟩) 2 c] w fun e w' => e = .returned (.int .i64 (w16At xs k)) ∧ w = w' := by
  have h := rNumber8_any (some ⟨b, off + k, none⟩) c 2 ((xs.drop k).take 2) w (by simp; omega) (by omega) ((hB.drop k).take 2) ((hr.drop k fun _ b2 o2 h => by
    simp only [Option.some.injEq, Addr.mk.injEq] at h
    obtain ⟨rfl, rfl, _⟩ := h
    rfl).take 2)
  rwa [numK_2 _ _ (by omega)] at h
theorem rNum4t_any (b off n k : Nat) (xs : List Int) (w : World) (c : Nat) (hn : xs.length = n) (hk : k + 4 ≤ n) (hB : Byt xs) (hr : Rd w w.heap.size (some ⟨b, off, none⟩) .u8 xs) :
    Calls Tryd.prog 167 #[.slice (some ⟨b, off + k, none⟩) 4 c] w fun e w' => e = .returned (.int .i64 (l32At xs k)) ∧ w = w' := by
  have h := rNumber8_any (some ⟨b, off + k, none⟩) c 4 ((xs.drop k).take 4) w (by simp; omega) (by omega) ((hB.drop k).take 4) ((hr.drop k fun _ b2 o2 h => by
    simp only [Option.some.injEq, Addr.mk.injEq] at h
    obtain ⟨rfl, rfl, _⟩ := h
    rfl).take 4)
  rwa [numK_4 _ _ (by omega)] at h
end Go.Proofs.YtebeekjcepjcnaaDoor
namespace Go.Proofs.YtebeekjcepjcnaaDoor
open Go.RowKit
def nmL : List ByteArray := [⟨#[]⟩, ⟨#[115, 104, 111, 114, 116]⟩, ⟨#[118, 101, 114, 115, 105, 111, 110]⟩, ⟨#[104, 101, 97, 100, 101, 114]⟩, ⟨#[116, 111, 116, 97, 108]⟩, ⟨#[115, 117, 109]⟩, ⟨#[114, 101, 115, 101, 114, 118, 101, 100]⟩, ⟨#[111, 102, 102, 115, 101, 116]⟩, ⟨#[102, 114, 97, 103, 109, 101, 110, 116]⟩, ⟨#[111, 112, 116, 105, 111, 110, 115]⟩, ⟨#[114, 111, 117, 116, 101]⟩, ⟨#[116, 116, 108]⟩, ⟨#[97, 100, 100, 114, 101, 115, 115]⟩, ⟨#[112, 114, 111, 116, 111, 99, 111, 108]⟩, ⟨#[108, 101, 110, 103, 116, 104]⟩, ⟨#[102, 108, 97, 103, 115]⟩, ⟨#[112, 111, 114, 116]⟩, ⟨#[116, 121, 112, 101]⟩, ⟨#[113, 117, 111, 116, 101]⟩, ⟨#[110, 101, 115, 116, 101, 100]⟩, ⟨#[102, 108, 111, 119]⟩, ⟨#[114, 101, 108, 97, 116, 101, 100]⟩, ⟨#[110, 101, 119]⟩, ⟨#[114, 117, 108, 101]⟩, ⟨#[110, 111, 114, 117, 108, 101]⟩, ⟨#[110, 111, 116, 111, 112, 101, 110]⟩, ⟨#[115, 116, 97, 116, 101]⟩, ⟨#[115, 111, 117, 114, 99, 101]⟩, ⟨#[114, 97, 116, 101]⟩, ⟨#[102, 117, 108, 108]⟩, ⟨#[110, 111, 110, 101]⟩]
def nm (k : Nat) : ByteArray := nmL.getD k ⟨#[]⟩
def NamesAt (w : World) : Prop := ∀ k, k < 31 → w.cell? ⟨0, k, none⟩ = some (.string (nm k))
theorem NamesAt.lt {w : World} (h : NamesAt w) : 0 < w.heap.size := World.lt_of_cell (h 0 (by omega))
theorem NamesAt.below {w w' : World} {C : Nat} (h : NamesAt w) (hb : Below C w w') (hC : w.heap.size ≤ C) : NamesAt w' := fun k hk => (hb.cell (p := ⟨0, k, none⟩) (by have := h.lt; show 0 < C; omega)).trans (h k hk)
def nameS (r : Nat) : ByteArray := if r = 0 ∨ 31 ≤ r then ⟨#[]⟩ else nm r
def nameE (r : Nat) : Int := if r = 0 ∨ 31 ≤ r then 6 else 0
set_option maxHeartbeats 1000000 in
theorem name_any (r : Nat) (w : World) (hr : r < 256) (h : NamesAt w) : Calls Tryd.prog 25 #[.int .u8 r] w fun e w' => e = .returned (.tuple #[.string (nameS r), .int .i64 (nameE r)]) ∧ w = w' := by
  by_cases h0 : r = 0
  · subst h0
    go_enter Tryd.func25, Tryd.ntmps25
    go_wp2_with fail
    go_ret2
    exact ⟨rfl, rfl⟩
  have e0 : ((r : Int) == 0) = false := by simp; omega
  by_cases h1 : 31 ≤ r
  · have e1 : decide ((31 : Int) ≤ r) = true := by simp; omega
    have e2 : (31 ≤ r) = True := by simp [h1]
    have HS := Lib.hid (show nameS r = ⟨#[]⟩ ∧ nameE r = 6 from ⟨if_pos (.inr h1), if_pos (.inr h1)⟩)
    rw [HS.out.1, HS.out.2]
    go_enter Tryd.func25, Tryd.ntmps25
    go_wp2_with fail
    go_ret2
    exact ⟨rfl, rfl⟩
  have e1 : decide ((31 : Int) ≤ r) = false := by simp; omega
  have HS := Lib.hid (show nameS r = nm r ∧ nameE r = 0 from ⟨if_neg (by omega), if_neg (by omega)⟩)
  rw [HS.out.1, HS.out.2]
  have hc := h r (by omega)
  have hi : (r : Int) < 31 := by omega
  clear h
  generalize nm r = S at *
  go_enter Tryd.func25, Tryd.ntmps25
  go_wp2_with fail
  go_ret2
  exact ⟨rfl, rfl⟩
def reasonP1 (T : ByteArray) : Nat → Nat → Option Nat
  | _, 0 => none
  | k, n + 1 => if (nm (k + 1)).toList == T.toList then some k else reasonP1 T (k + 1) n
def reasonR (T : ByteArray) : Int × Int := match reasonP1 T 0 30 with
  | some k => ((k : Int) + 1, 0)
  | none => (0, 6)
theorem reasonP1_none (T : ByteArray) : ∀ n k, (∀ j, j < n → ((nm (k + j + 1)).toList == T.toList) = false) → reasonP1 T k n = none
  | 0, _, _ => rfl
  | n + 1, k, h => by
    unfold reasonP1
    rw [if_neg (by rw [h 0 (by omega)]; decide)]
    exact reasonP1_none T n (k + 1) fun j hj => by
      have := h (j + 1) (by omega)
      rwa [show k + (j + 1) + 1 = k + 1 + j + 1 by omega] at this
theorem reasonP1_some (T : ByteArray) : ∀ n k m, m < n → (∀ j, j < m → ((nm (k + j + 1)).toList == T.toList) = false) → ((nm (k + m + 1)).toList == T.toList) = true → reasonP1 T k n = some (k + m)
  | 0, _, _, h, _, _ => by omega
  | n + 1, k, m, hm, h, ht => by
    unfold reasonP1
    rcases m with _ | m
    · rw [if_pos ht]; rfl
    · rw [if_neg (by rw [h 0 (by omega)]; decide)]
      have := reasonP1_some T n (k + 1) m (by omega) (fun j hj => by
        have := h (j + 1) (by omega)
        rwa [show k + (j + 1) + 1 = k + 1 + j + 1 by omega] at this) (by rwa [show k + 1 + m + 1 = k + (m + 1) + 1 by omega])
      rw [this]; congr 1; omega
set_option maxRecDepth 100000 in
set_option maxHeartbeats 2000000 in
theorem reason_any (T : ByteArray) (w : World) (h : NamesAt w) : Calls Tryd.prog 27 #[.string T] w fun e w' => e = .returned (.tuple #[.int .u8 (reasonR T).1, .int .i64 (reasonR T).2]) ∧ w = w' := by
  have H := Lib.hid h
  have HN := Lib.hid (fun h => reasonP1_none T 30 0 h)
  have HS := Lib.hid (fun m hm h ht => reasonP1_some T 30 0 m hm h ht)
  have HR0 := Lib.hid (show reasonP1 T 0 30 = none → reasonR T = (0, 6) from fun h => by unfold reasonR; rw [h])
  have HR1 := Lib.hid (show ∀ k, reasonP1 T 0 30 = some k → reasonR T = ((k : Int) + 1, 0) from fun k h => by unfold reasonR; rw [h])
  clear h
  generalize reasonR T = R at *
  go_enter Tryd.func27, Tryd.ntmps27
  go_wp2_with fail
  go_loop [4, 5, 8] (fun _ _ i => ∃ k : Nat, k ≤ 30 ∧ i = .int .i64 k ∧ Hid (∀ j, j < k → ((nm (0 + j + 1)).toList == T.toList) = false)) (fun _ _ i => 30 - (intOf i).toNat)
  case atStart => exact ⟨0, by omega, rfl, Lib.hid fun j hj => by omega⟩
  case round =>
    obtain ⟨k, hk, rfl, hJ⟩ := hrel
    by_cases hlt : k < 30
    · have hc := H.out (k + 1) (by omega)
      rw [Nat.add_comm k 1] at hc
      have hi : (k : Int) < 30 := by omega
      have HJn := Lib.hid (fun (h : ((nm (0 + k + 1)).toList == T.toList) = false) => show ∀ j, j < k + 1 → ((nm (0 + j + 1)).toList == T.toList) = false from fun j hj => by
        rcases Nat.lt_or_ge j k with h1 | h1
        · exact hJ.out j h1
        · rw [show j = k by omega]; exact h)
      have HJs := Lib.hid (fun (h : ((nm (0 + k + 1)).toList == T.toList) = true) => HR1.out _ (HS.out k hlt hJ.out h))
      rw [show 0 + k + 1 = 1 + k by omega] at HJn HJs
      rw [Nat.zero_add] at HJs
      clear hJ
      generalize nm (1 + k) = S at *
      rcases hS : (S.toList == T.toList) with _ | _
      · have HJ2 := Lib.hid (HJn.out hS)
        go_wp2_with fail
        go_round
        case rel => exact ⟨k + 1, by omega, by go_num, HJ2⟩
        case measure => simp [intOf]; omega
      · have HX := Lib.hid (HJs.out hS)
        have hm : ((k : Int) + 1) % 256 = (k : Int) + 1 := by omega
        go_wp2_with fail
        go_ret2
        exact ⟨by rw [HX.out]; rfl, rfl⟩
    · obtain rfl : k = 30 := by omega
      have HX := Lib.hid (HR0.out (HN.out hJ.out))
      go_wp2_with fail
      go_ret2
      exact ⟨by rw [HX.out]; rfl, rfl⟩
end Go.Proofs.YtebeekjcepjcnaaDoor
