/-
  The reference of layer 2, checksums by remainders: it computes what the program computes. The reference's numbers as bytes: layers 5 and 8.
-/
import Derived.Test.YtebeekjcepjcnaaDoorProg
import Derived.WalkKit
import Derived.WalkSpells
import Derived.WalkLawsBesides
import Derived.WalkSmall
import Derived.Lib.Hide
import Derived.Deep.AppendLies
import Derived.Maps.AppendAt
import Derived.Laws.AppendOwnNone
import Derived.Laws.CopyOwn
import Derived.OneCell
import Derived.Lib.SliceRun
import Derived.RangeFuncNested
import Derived.RangeFuncBound
import Derived.RangeFuncCalls
import Derived.RangeFuncLeaves
import Derived.Shelf.Abstract
import Derived.OwnWalkIn
import Derived.TacticsInMore
import Derived.LoopNIn
import Derived.LoopIn
import Derived.Orders
import Derived.RegionTactic
import Derived.Still
import Derived.Deep.MidRow
import Derived.Deep.DeepCutAuto
import Derived.Test.YtebeekjcepjcnaaDoorSBase
import Derived.Test.YtebeekjcepjcnaaDoorSMem
import Derived.Test.YtebeekjcepjcnaaDoorSCsum
import Derived.Test.YtebeekjcepjcnaaDoorSSum
import Derived.Test.YtebeekjcepjcnaaDoorSRegion
import Derived.Test.YtebeekjcepjcnaaDoorSWalk
import Derived.Test.YtebeekjcepjcnaaDoorSStep
import Derived.Test.YtebeekjcepjcnaaDoorSStepb
namespace Go.Proofs.YtebeekjcepjcnaaDoor
open Go.RowKit Go.Shelf

set_option maxHeartbeats 400000 in
theorem rFold_any (s : Int) (w : World) (h0 : 0 ≤ s) (h1 : s ≤ 1000000000000) : Calls Tryd.prog 164 #[.int .i64 s] w fun e w' => e = .returned (.int .i64 (foldF s)) ∧ w = w' := by
  by_cases h : s = 0
  · subst h
    go_enter Tryd.func164, Tryd.ntmps164
    go_wp2_with fail
    go_ret
    exact ⟨rfl, rfl⟩
  · have hb : (s == 0) = false := by simpa using h
    have Hr := Lib.hid (show foldF s = 1 + (s - 1) % 65535 from if_neg h)
    rw [Hr.out]
    have hs1 : 1 ≤ s := by omega
    clear h h0
    go_enter Tryd.func164, Tryd.ntmps164
    go_wp2_with fail
    go_ret
    exact ⟨rfl, rfl⟩

set_option maxHeartbeats 1000000 in
theorem rSum_any (A : Option Addr) (cap : Nat) (bs : List Int) (w : World) (hb : Byt bs) (hl : bs.length ≤ 1000000) (hr : Rd w w.heap.size A .u8 bs) :
    Calls Tryd.prog 135 #[.slice A bs.length cap] w fun e w' => e = .returned (.int .i64 (sumB bs)) ∧ w = w' := by
  have Hb := Lib.hid hb
  have Hs := Lib.hid (sumB_foldF hb)
  clear hb
  go_enter Tryd.func135, Tryd.ntmps135
  go_wp2
  go_loop [3, 4] (fun s i => ∃ k : Nat, k ≤ bs.length ∧ i = .int .i64 k ∧ s = .int .i64 (byteSum bs k)) (fun _ i => bs.length - (intOf i).toNat)
  case atStart => exact ⟨0, by omega, rfl, rfl⟩
  case round =>
    obtain ⟨k, hk, rfl, rfl⟩ := hrel
    have hbd := byteSum_bd Hb.out k
    by_cases hlt : k < bs.length
    · obtain ⟨b, off, rfl, _, hcell⟩ := hr k hlt
      have hx := Hb.out.at_ k
      have Hn := Lib.hid (show byteSum bs (k + 1) = byteSum bs k + (if k % 2 = 0 then 256 * bs.getD k 0 else bs.getD k 0) from rfl)
      generalize byteSum bs k = S at *
      generalize bs.getD k 0 = x at *
      rcases Nat.mod_two_eq_zero_or_one k with hm | hm
      · have Hn2 := Lib.hid (Hn.out.trans (by rw [if_pos hm]))
        have hb2 : (((k : Int) % 2) == 0) = true := by simp; omega
        clear hm
        go_wp2
        go_round
        case rel => exact ⟨k + 1, by omega, by go_num, by rw [Hn2.out]⟩
        case measure => simp [intOf]; omega
      · have Hn2 := Lib.hid (Hn.out.trans (by rw [if_neg (by omega)]))
        have hb2 : (((k : Int) % 2) == 0) = false := by simp; omega
        clear hm
        go_wp2
        go_round
        case rel => exact ⟨k + 1, by omega, by go_num, by rw [Hn2.out]⟩
        case measure => simp [intOf]; omega
    · obtain rfl : k = bs.length := by omega
      generalize byteSum bs bs.length = S at *
      go_wp2_with fail
      refine (rFold_any S _ hbd.1 (by omega)).mono ?_
      rintro e w' ⟨rfl, rfl⟩
      go_wp2_with fail
      go_ret
      exact ⟨by rw [Hs.out]; rfl, rfl⟩

set_option maxHeartbeats 400000 in
theorem rOf_any (A : Option Addr) (cap : Nat) (bs : List Int) (w : World) (hb : Byt bs) (hl : bs.length ≤ 1000000) (hr : Rd w w.heap.size A .u8 bs) :
    Calls Tryd.prog 96 #[.slice A bs.length cap] w fun e w' => e = .returned (.int .i64 (ofB bs)) ∧ w = w' := by
  have Hs := Lib.hid (rSum_any A cap bs w hb hl hr)
  have hbd := sumB_bd hb
  unfold ofB
  generalize sumB bs = S at *
  go_enter Tryd.func96, Tryd.ntmps96
  go_wp2_with fail
  refine Hs.out.mono ?_
  rintro e w1 ⟨rfl, rfl⟩
  go_wp2_with fail
  go_ret
  exact ⟨rfl, rfl⟩

/-- A slice that a literal lays. -/
theorem own_lit (w : World) (base n : Nat) (xs : List Int) (cs : Array Value) (hcs : cs = (U8 xs).toArray) (hn : xs.length = n) (hm : n ≤ maxLen) (hbase : base ≤ w.heap.size) :
    Own (w.alloc (.cells cs 5)) base (.slice (some ⟨w.heap.size, 0, none⟩) n n) xs := by
  subst hcs; subst hn
  exact ⟨by simp [U8], .inr ⟨w.heap.size, xs.length, _, rfl, hbase, heap_alloc_new w _, Nat.le_refl _, hm, by simp [U8], by rw [Nat.mul_one]; exact List.take_of_length_le (by simp [U8])⟩⟩

set_option maxRecDepth 100000 in
set_option maxHeartbeats 1000000 in
theorem rFix_any (A : Option Addr) (cap : Nat) (bs : List Int) (at_ : Nat) (w : World) (hb : Byt bs) (hl : bs.length ≤ 1000000) (hr : Rd w w.heap.size A .u8 bs) (hev : at_ % 2 = 0) (hat : at_ + 2 ≤ bs.length) :
    Calls Tryd.prog 53 #[.slice A bs.length cap, .int .i64 at_] w fun e w' => ∃ v, e = .returned (.tuple #[v, .int .i64 0]) ∧ Own w' w.heap.size v (fixL bs at_) ∧ Below w.heap.size w w' := by
  have h1 : decide ((at_ : Int) < 0) = false := by simp
  have h2 : (((at_ : Int) % 2) == 1) = false := by simp; omega
  have h3 : decide ((bs.length : Int) ≤ (at_ : Int)) = false := by simp; omega
  have h4 : decide ((bs.length : Int) < (at_ : Int) + 2) = false := by simp; omega
  clear hev
  go_enter Tryd.func53, Tryd.ntmps53
  go_upto_region 3 with (fail)
  go_upto_region 4 with (at_builtin; refine app_own rfl (.tmp 28) (.tmp 29) rfl w.heap.size _ [] rfl (own_lit w w.heap.size 0 [] _ rfl rfl (by simp [maxLen]) (Nat.le_refl _)) _ A _ cap bs rfl rfl (hr.alloc (Nat.le_refl _) _) (by simp; omega) (by simp) ?_; intro v1 w1 hown hbw _ _)
  have hsz := hbw.size
  obtain ⟨g, cap', rfl, hg0, hg1, _, _⟩ := hown.form (by simp; omega)
  rw [List.nil_append] at hown ⊢
  have c0 : w1.cell? ⟨g, at_, none⟩ = some (.int .u8 (bs.getD at_ 0)) := hown.cell at_ (by omega)
  have c1 : w1.cell? ⟨g, at_ + 1, none⟩ = some (.int .u8 (bs.getD (at_ + 1) 0)) := hown.cell (at_ + 1) (by omega)
  have f0 : w1.frozen? ⟨g, at_, none⟩ = false := hown.free at_
  have f1 : w1.frozen? ⟨g, at_ + 1, none⟩ = false := hown.free (at_ + 1)
  have hz := (hown.set at_ 0).set (at_ + 1) 0
  have Hz : Hid (Own _ _ _ (zeroAt bs at_)) := Lib.hid hz
  clear hz
  have hbz := zeroAt_byt hb at_
  have hob := ofB_bd hbz
  have Hlz := Lib.hid (zeroAt_len bs at_)
  generalize bs.getD at_ 0 = x0 at *
  generalize bs.getD (at_ + 1) 0 = x1 at *
  go_wp2_with fail
  have hof := rOf_any (some ⟨g, 0, none⟩) cap' (zeroAt bs at_) _ hbz (by rw [Hlz.out]; exact hl) Hz.out.rd
  rw [Hlz.out] at hof
  refine hof.mono ?_
  rintro e w2 ⟨rfl, rfl⟩
  have hbz' : Below g w1 ((w1.setCell ⟨g, at_, none⟩ (.int .u8 0)).setCell ⟨g, at_ + 1, none⟩ (.int .u8 0)) := ((Below.refl _ _).setCell (p := ⟨g, at_, none⟩) (Nat.le_refl _) _).setCell (p := ⟨g, at_ + 1, none⟩) (Nat.le_refl _) _
  have hoz := Hz.out
  generalize ((w1.setCell ⟨g, at_, none⟩ (.int .u8 0)).setCell ⟨g, at_ + 1, none⟩ (.int .u8 0)) = w2 at *
  have c2 : w2.cell? ⟨g, at_, none⟩ = some (.int .u8 ((zeroAt bs at_).getD at_ 0)) := hoz.cell at_ (by rw [Hlz.out]; omega)
  have c3 : w2.cell? ⟨g, at_ + 1, none⟩ = some (.int .u8 ((zeroAt bs at_).getD (at_ + 1) 0)) := hoz.cell (at_ + 1) (by rw [Hlz.out]; omega)
  have f2 : w2.frozen? ⟨g, at_, none⟩ = false := hoz.free at_
  have f3 : w2.frozen? ⟨g, at_ + 1, none⟩ = false := hoz.free (at_ + 1)
  generalize (zeroAt bs at_).getD at_ 0 = x2 at *
  generalize (zeroAt bs at_).getD (at_ + 1) 0 = x3 at *
  have hwr := IntKind.wrap_u8 (ofB (zeroAt bs at_))
  have Hfin := Lib.hid ((hoz.set at_ (ofB (zeroAt bs at_) / 256)).set (at_ + 1) (ofB (zeroAt bs at_) % 256))
  have Hbw := Lib.hid (show Below w.heap.size w w2 from (((Below.refl _ _).alloc (Nat.le_refl _) _).trans hbw).trans (hbz'.mono hg0))
  clear hbz' c0 c1 f0 f1 hbw hoz Hz
  go_wp2_with fail
  go_ret2
  exact ⟨_, rfl, Hfin.out, (Hbw.out.setCell (p := ⟨g, at_, none⟩) hg0 _).setCell (p := ⟨g, at_ + 1, none⟩) hg0 _⟩

end Go.Proofs.YtebeekjcepjcnaaDoor

namespace Go.Proofs.YtebeekjcepjcnaaDoor
open Go.RowKit Go.Shelf

end Go.Proofs.YtebeekjcepjcnaaDoor
