/-
  csum.Fix, where the place is right.
-/
import Derived.Test.YtebeekjcepjcnaaDoorSum
namespace Go.Proofs.YtebeekjcepjcnaaDoor
open Go.RowKit Go.Shelf

def zeroAt (bs : List Int) (at_ : Nat) : List Int := (bs.set at_ 0).set (at_ + 1) 0
def putSum (bs : List Int) (at_ : Nat) (c : Int) : List Int := (bs.set at_ (c / 256)).set (at_ + 1) (c % 256)
def fixL (bs : List Int) (at_ : Nat) : List Int := putSum (zeroAt bs at_) at_ (ofB (zeroAt bs at_))
theorem zeroAt_len (bs : List Int) (k : Nat) : (zeroAt bs k).length = bs.length := by simp [zeroAt]
theorem putSum_len (bs : List Int) (k : Nat) (c : Int) : (putSum bs k c).length = bs.length := by simp [putSum]
theorem fixL_len (bs : List Int) (k : Nat) : (fixL bs k).length = bs.length := by simp [fixL, putSum_len, zeroAt_len]
theorem zeroAt_byt {bs : List Int} (h : Byt bs) (k : Nat) : Byt (zeroAt bs k) := (h.set k (by omega) (by omega)).set _ (by omega) (by omega)
theorem putSum_byt {bs : List Int} (h : Byt bs) (k : Nat) {c : Int} (h0 : 0 ≤ c) (h1 : c ≤ 65535) : Byt (putSum bs k c) := (h.set k (by omega) (by omega)).set _ (by omega) (by omega)
theorem fixL_byt {bs : List Int} (h : Byt bs) (k : Nat) : Byt (fixL bs k) := by
  have hb := ofB_bd (zeroAt_byt h k)
  exact putSum_byt (zeroAt_byt h k) k hb.1 hb.2

set_option maxHeartbeats 400000 in
theorem fix_any (A : Option Addr) (cap : Nat) (bs : List Int) (at_ : Nat) (w : World) (hb : Byt bs) (hl : bs.length ≤ 1000000) (hr : Rd w w.heap.size A .u8 bs) (hev : at_ % 2 = 0) (hat : at_ + 2 ≤ bs.length) :
    Calls Tryd.prog 37 #[.slice A bs.length cap, .int .i64 at_] w fun e w' => ∃ v, e = .returned (.tuple #[v, .int .i64 0]) ∧ Own w' w.heap.size v (fixL bs at_) ∧ Below w.heap.size w w' := by
  have h1 : decide ((at_ : Int) < 0) = false := by simp
  have h2 : (((at_ : Int) % 2) == 1) = false := by simp; omega
  have h3 : decide ((bs.length : Int) - 2 < (at_ : Int)) = false := by simp; omega
  go_enter Tryd.func37, Tryd.ntmps37
  go_wp2_with fail
  refine (clone_any _ _ _ _ hr hl).mono ?_
  rintro e w1 ⟨v, rfl, hown, hbw⟩
  obtain ⟨g, cap', rfl, hg0, hg1, _, _⟩ := hown.form (by omega)
  have c0 : w1.cell? ⟨g, at_, none⟩ = some (.int .u8 (bs.getD at_ 0)) := hown.cell at_ (by omega)
  have c1 : w1.cell? ⟨g, at_ + 1, none⟩ = some (.int .u8 (bs.getD (at_ + 1) 0)) := hown.cell (at_ + 1) (by omega)
  have f0 : w1.frozen? ⟨g, at_, none⟩ = false := hown.free at_
  have f1 : w1.frozen? ⟨g, at_ + 1, none⟩ = false := hown.free (at_ + 1)
  have hz := (hown.set at_ 0).set (at_ + 1) 0
  have Hz : Hid (Own _ _ _ (zeroAt bs at_)) := Lib.hid hz
  clear hz
  have hbz := zeroAt_byt hb at_
  have hob := ofB_bd hbz
  have Hlz := Lib.hid (zeroAt_len bs at_)
  generalize bs.getD at_ 0 = x0 at *
  generalize bs.getD (at_ + 1) 0 = x1 at *
  go_wp2_with fail
  have hof := of_any (some ⟨g, 0, none⟩) cap' (zeroAt bs at_) _ hbz (by rw [Hlz.out]; exact hl) Hz.out.rd
  rw [Hlz.out] at hof
  refine hof.mono ?_
  rintro e w2 ⟨rfl, hbw2⟩
  have hbz' : Below g w1 ((w1.setCell ⟨g, at_, none⟩ (.int .u8 0)).setCell ⟨g, at_ + 1, none⟩ (.int .u8 0)) := ((Below.refl _ _).setCell (p := ⟨g, at_, none⟩) (Nat.le_refl _) _).setCell (p := ⟨g, at_ + 1, none⟩) (Nat.le_refl _) _
  generalize ((w1.setCell ⟨g, at_, none⟩ (.int .u8 0)).setCell ⟨g, at_ + 1, none⟩ (.int .u8 0)) = wz at *
  have hoz := Hz.out.below hbw2 (Nat.le_refl _)
  have c2 : w2.cell? ⟨g, at_, none⟩ = some (.int .u8 ((zeroAt bs at_).getD at_ 0)) := hoz.cell at_ (by rw [Hlz.out]; omega)
  have c3 : w2.cell? ⟨g, at_ + 1, none⟩ = some (.int .u8 ((zeroAt bs at_).getD (at_ + 1) 0)) := hoz.cell (at_ + 1) (by rw [Hlz.out]; omega)
  have f2 : w2.frozen? ⟨g, at_, none⟩ = false := hoz.free at_
  have f3 : w2.frozen? ⟨g, at_ + 1, none⟩ = false := hoz.free (at_ + 1)
  generalize (zeroAt bs at_).getD at_ 0 = x2 at *
  generalize (zeroAt bs at_).getD (at_ + 1) 0 = x3 at *
  have hwr := IntKind.wrap_u8 (ofB (zeroAt bs at_))
  have Hfin := Lib.hid ((hoz.set at_ (ofB (zeroAt bs at_) / 256)).set (at_ + 1) (ofB (zeroAt bs at_) % 256))
  have Hbw := Lib.hid (show Below w.heap.size w w2 from (hbw.trans (hbz'.mono hg0)).trans (hbw2.mono (by have := hbz'.size; have := hbw.size; omega)))
  clear hbz' c0 c1 f0 f1 hbw hbw2 hoz Hz
  go_wp2_with fail
  go_ret2
  exact ⟨_, rfl, Hfin.out, (Hbw.out.setCell (p := ⟨g, at_, none⟩) hg0 _).setCell (p := ⟨g, at_ + 1, none⟩) hg0 _⟩

end Go.Proofs.YtebeekjcepjcnaaDoor
