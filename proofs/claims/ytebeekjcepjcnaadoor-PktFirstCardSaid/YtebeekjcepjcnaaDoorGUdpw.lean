/-
  udp.Write, at a header that is right.
-/
import Derived.Test.YtebeekjcepjcnaaDoorProg
import Derived.WalkKit
import Derived.WalkSpells
import Derived.WalkLawsBesides
import Derived.WalkSmall
import Derived.Lib.Hide
import Derived.Deep.AppendLies
import Derived.Maps.AppendAt
import Derived.Laws.AppendOwnNone
import Derived.Laws.CopyOwn
import Derived.OneCell
import Derived.Lib.SliceRun
import Derived.RangeFuncNested
import Derived.RangeFuncBound
import Derived.RangeFuncCalls
import Derived.RangeFuncLeaves
import Derived.Shelf.Abstract
import Derived.OwnWalkIn
import Derived.TacticsInMore
import Derived.LoopNIn
import Derived.LoopIn
import Derived.Test.YtebeekjcepjcnaaDoorGBase
import Derived.Test.YtebeekjcepjcnaaDoorGBits
import Derived.Test.YtebeekjcepjcnaaDoorGCsum
import Derived.Test.YtebeekjcepjcnaaDoorGSum
namespace Go.Proofs.YtebeekjcepjcnaaDoor
open Go.RowKit Go.Shelf

def udpS (sp dp n : Int) : Nat → List Int
  | 0 => [0, 0, 0, 0, 0, 0, 0, 0]
  | 1 => [sp / 256, sp % 256, 0, 0, 0, 0, 0, 0]
  | 2 => [sp / 256, sp % 256, dp / 256, dp % 256, 0, 0, 0, 0]
  | _ => [sp / 256, sp % 256, dp / 256, dp % 256, n / 256, n % 256, 0, 0]
theorem udpS_len (sp dp n : Int) (k : Nat) : (udpS sp dp n k).length = 8 := by unfold udpS; split <;> rfl
def udp0 (sp dp : Int) (data : List Int) : List Int := udpS sp dp (8 + (data.length : Int)) 4 ++ data
def udpSum (src dst : Int) (T : List Int) : Int := neverB (overB (pseudoL src dst 17 T.length) T)
def udpL (sp dp : Int) (checked : Bool) (src dst : Int) (data : List Int) : List Int :=
  if checked then ((udp0 sp dp data).set 6 (udpSum src dst (udp0 sp dp data) / 256)).set 7 (udpSum src dst (udp0 sp dp data) % 256) else udp0 sp dp data
theorem udp0_len (sp dp : Int) (data : List Int) : (udp0 sp dp data).length = 8 + data.length := by simp [udp0, udpS_len]
theorem udp0_byt {sp dp : Int} {data : List Int} (p0 : 0 ≤ sp) (p1 : sp < 65536) (q0 : 0 ≤ dp) (q1 : dp < 65536) (hl : data.length ≤ 65507) (h : Byt data) : Byt (udp0 sp dp data) := by
  unfold udp0
  refine Byt.append ?_ h
  show Byt [sp / 256, sp % 256, dp / 256, dp % 256, _, _, 0, 0]
  exact .cons (by omega) (by omega) (.cons (by omega) (by omega) (.cons (by omega) (by omega) (.cons (by omega) (by omega) (.cons (by omega) (by omega) (.cons (by omega) (by omega) (.cons (by omega) (by omega) (.cons (by omega) (by omega) .nil)))))))

set_option maxRecDepth 100000 in
set_option maxHeartbeats 2000000 in
theorem udpWrite_any (sp dp : Int) (chk : Bool) (src dst : Int) (D : Option Addr) (dcap dl : Nat) (data : List Int) (w : World)
    (p0 : 0 ≤ sp) (p1 : sp < 65536) (q0 : 0 < dp) (q1 : dp < 65536) (hdl : data.length = dl) (hd : dl ≤ 65507)
    (x0 : 0 ≤ src) (x1 : src < 4294967296) (y0 : 0 ≤ dst) (y1 : dst < 4294967296) (hdb : Byt data) (hrD : Rd w w.heap.size D .u8 data) :
    Calls Tryd.prog 118 #[.agg #[.int .u16 sp, .int .u16 dp, .bool chk], .int .u32 src, .int .u32 dst, .slice D dl dcap] w fun e w' => ∃ v, e = .returned (.tuple #[v, .int .i64 0]) ∧ Own w' w.heap.size v (udpL sp dp chk src dst data) ∧ Below w.heap.size w w' := by
  have b1 : (dp == 0) = false := by simp; omega
  have b2 : decide (65515 < 8 + (dl : Int)) = false := by simp; omega
  have hw1 := IntKind.wrap_u8 sp
  have hw2 := IntKind.wrap_u8 dp
  have hw3 := IntKind.wrap_u8 (8 + (dl : Int))
  have i0 : ∀ w, (Instr.index 236 (.agg #[.int .u16 sp, .int .u16 dp, .int .u16 (8 + (dl : Int)), .int .u16 0]) (.int .i64 0)).run Tryd.prog w = .ok (.int .u16 sp) w := fun _ => by kernel_rfl
  have i1 : ∀ w, (Instr.index 236 (.agg #[.int .u16 sp, .int .u16 dp, .int .u16 (8 + (dl : Int)), .int .u16 0]) (.int .i64 1)).run Tryd.prog w = .ok (.int .u16 dp) w := fun _ => by kernel_rfl
  have i2 : ∀ w, (Instr.index 236 (.agg #[.int .u16 sp, .int .u16 dp, .int .u16 (8 + (dl : Int)), .int .u16 0]) (.int .i64 2)).run Tryd.prog w = .ok (.int .u16 (8 + (dl : Int))) w := fun _ => by kernel_rfl
  have i3 : ∀ w, (Instr.index 236 (.agg #[.int .u16 sp, .int .u16 dp, .int .u16 (8 + (dl : Int)), .int .u16 0]) (.int .i64 3)).run Tryd.prog w = .ok (.int .u16 0) w := fun _ => by kernel_rfl
  have Hdl := Lib.hid hdl
  have H0 := Lib.hid (show udpS sp dp (8 + (dl : Int)) 4 ++ data = udp0 sp dp data by unfold udp0; rw [hdl])
  clear hdl
  go_enter Tryd.func118, Tryd.ntmps118
  go_wp2_with (at_make; refine make_own rfl _ _ rfl w.heap.size _ _ _ _ 8 (8 + dl) rfl rfl (by simp) (by simp) (by omega) (by omega) (by simp) ?_; intro w2 hown2 hbw2 hlt2; have bx := (Blk.new w 168 #[.int .u16 sp, .int .u16 dp, .bool chk]).below hbw2 (by simp); have hcx := bx.cell)
  have hbw : Below w.heap.size w w2 := ((Below.refl _ _).alloc (Nat.le_refl _) _).trans (hbw2.mono (by simp))
  simp only [World.size_alloc] at hown2
  have Hown2 := Lib.hid hown2
  have Hbx := Lib.hid bx
  have Hbw := Lib.hid hbw
  clear hown2 bx hbw hbw2 hcx
  go_loopw [12, 13, 36] (fun _ _ i wr => ∃ k : Nat, k ≤ 4 ∧ i = .int .i64 k ∧ Own wr w.heap.size (.slice (some ⟨w.heap.size + 1, 0, none⟩) 8 (8 + dl)) (udpS sp dp (8 + (dl : Int)) k) ∧ Below (w.heap.size + 1) w2 wr) (fun _ _ i _ => 4 - (intOf i).toNat)
  case atStart => exact ⟨0, by omega, rfl, Hown2.out, Below.refl _ _⟩
  case round =>
    obtain ⟨k, hk, rfl, hown, hbk⟩ := hrel
    rcases (show k = 0 ∨ k = 1 ∨ k = 2 ∨ k = 3 ∨ k = 4 by omega) with rfl | rfl | rfl | rfl | rfl
    · have c0 : wr.cell? ⟨w.heap.size + 1, 0, none⟩ = some (.int .u8 0) := hown.cell 0 (by rw [udpS_len]; omega)
      have c1 : wr.cell? ⟨w.heap.size + 1, 1, none⟩ = some (.int .u8 0) := hown.cell 1 (by rw [udpS_len]; omega)
      have fz := hown.free
      have Ho := Lib.hid ((hown.set 0 (sp / 256)).set 1 (sp % 256))
      clear hown
      go_wp2_with fail
      go_roundw
      case rel => exact ⟨1, by omega, rfl, Ho.out, (hbk.setCell (p := ⟨w.heap.size + 1, 0, none⟩) (Nat.le_refl _) _).setCell (p := ⟨w.heap.size + 1, 1, none⟩) (Nat.le_refl _) _⟩
      case measure => simp [intOf]
    · have c0 : wr.cell? ⟨w.heap.size + 1, 2, none⟩ = some (.int .u8 0) := hown.cell 2 (by rw [udpS_len]; omega)
      have c1 : wr.cell? ⟨w.heap.size + 1, 3, none⟩ = some (.int .u8 0) := hown.cell 3 (by rw [udpS_len]; omega)
      have fz := hown.free
      have Ho := Lib.hid ((hown.set 2 (dp / 256)).set 3 (dp % 256))
      clear hown
      go_wp2_with fail
      go_roundw
      case rel => exact ⟨2, by omega, rfl, Ho.out, (hbk.setCell (p := ⟨w.heap.size + 1, 2, none⟩) (Nat.le_refl _) _).setCell (p := ⟨w.heap.size + 1, 3, none⟩) (Nat.le_refl _) _⟩
      case measure => simp [intOf]
    · have c0 : wr.cell? ⟨w.heap.size + 1, 4, none⟩ = some (.int .u8 0) := hown.cell 4 (by rw [udpS_len]; omega)
      have c1 : wr.cell? ⟨w.heap.size + 1, 5, none⟩ = some (.int .u8 0) := hown.cell 5 (by rw [udpS_len]; omega)
      have fz := hown.free
      have Ho := Lib.hid ((hown.set 4 ((8 + (dl : Int)) / 256)).set 5 ((8 + (dl : Int)) % 256))
      clear hown
      go_wp2_with fail
      go_roundw
      case rel => exact ⟨3, by omega, rfl, Ho.out, (hbk.setCell (p := ⟨w.heap.size + 1, 4, none⟩) (Nat.le_refl _) _).setCell (p := ⟨w.heap.size + 1, 5, none⟩) (Nat.le_refl _) _⟩
      case measure => simp [intOf]
    · have c0 : wr.cell? ⟨w.heap.size + 1, 6, none⟩ = some (.int .u8 0) := hown.cell 6 (by rw [udpS_len]; omega)
      have c1 : wr.cell? ⟨w.heap.size + 1, 7, none⟩ = some (.int .u8 0) := hown.cell 7 (by rw [udpS_len]; omega)
      have fz := hown.free
      have Ho := Lib.hid ((hown.set 6 0).set 7 0)
      clear hown
      go_wp2_with fail
      go_roundw
      case rel => exact ⟨4, by omega, rfl, Ho.out, (hbk.setCell (p := ⟨w.heap.size + 1, 6, none⟩) (Nat.le_refl _) _).setCell (p := ⟨w.heap.size + 1, 7, none⟩) (Nat.le_refl _) _⟩
      case measure => simp [intOf]
    · have bxr := Hbx.out.below hbk (by omega)
      have hcx := bxr.cell
      have hbr : Below w.heap.size w wr := Hbw.out.trans (hbk.mono (by omega))
      have hrDr : Rd wr w.heap.size D .u8 data := hrD.below hbr (Nat.le_refl _)
      have Hdl' := Lib.hid Hdl.out.symm
      have hszr := hbr.size
      clear hrD hbk
      have hTb := udp0_byt p0 p1 (by omega) q1 (by rw [Hdl.out]; omega) hdb
      have HTl := Lib.hid (show (udp0 sp dp data).length = 8 + dl by rw [udp0_len, Hdl.out])
      have HTf := Lib.hid (show udpL sp dp true src dst data = ((udp0 sp dp data).set 6 (neverB (overB (pseudoL src dst 17 (8 + (dl : Int))) (udp0 sp dp data)) / 256)).set 7 (neverB (overB (pseudoL src dst 17 (8 + (dl : Int))) (udp0 sp dp data)) % 256) by
        unfold udpL udpSum; rw [if_pos rfl, HTl.out, show (((8 + dl : Nat) : Int)) = 8 + (dl : Int) by omega])
      have HTf0 := Lib.hid (show udpL sp dp false src dst data = udp0 sp dp data from rfl)
      generalize udp0 sp dp data = T at *
      cases chk
      · go_wp2_with (at_builtin; refine app_own rfl (.tmp 55) (.tmp 56) rfl w.heap.size _ (udpS sp dp (8 + (dl : Int)) 4) rfl hown _ D _ dcap data rfl Hdl'.out hrDr (by rw [udpS_len, Hdl.out]; omega) hszr ?_; intro v3 w3 o3 l3 g3 _; rw [H0.out] at o3; have bx3 := bxr.grown g3 (by simp [Value.ownBlock, Act.eval]); have hcx3 := bx3.cell; clear hcx)
        go_ret2
        exact ⟨_, rfl, by rw [HTf0.out]; exact o3, hbr.trans l3⟩
      · go_wp2_with (at_builtin; refine app_own rfl (.tmp 55) (.tmp 56) rfl w.heap.size _ (udpS sp dp (8 + (dl : Int)) 4) rfl hown _ D _ dcap data rfl Hdl'.out hrDr (by rw [udpS_len, Hdl.out]; omega) hszr ?_; intro v3 w3 o3 l3 g3 _; rw [H0.out] at o3; have bx3 := bxr.grown g3 (by simp [Value.ownBlock, Act.eval]); have hcx3 := bx3.cell; clear hcx)
        have hps : 0 ≤ pseudoL src dst 17 (8 + (dl : Int)) ∧ pseudoL src dst 17 (8 + (dl : Int)) ≤ 65535 := joinL_bd (l := [src / 65536, src % 65536, dst / 65536, dst % 65536, 17, 8 + (dl : Int)]) (by intro y hy; simp at hy; rcases hy with rfl | rfl | rfl | rfl | rfl | rfl <;> omega)
        refine (pseudo_any src dst 17 (8 + (dl : Int)) w3 x0 x1 y0 y1 (by omega) (by omega) (by omega) (by omega)).mono ?_
        rintro e w4 ⟨rfl, l4⟩
        generalize pseudoL src dst 17 (8 + (dl : Int)) = ps at *
        have o4 := o3.below l4 (Nat.le_refl _)
        obtain ⟨g, c, hv, hg0, hg1, _, _⟩ := o4.form (by rw [HTl.out]; omega)
        rw [HTl.out] at hv
        subst hv
        have hov := overB_bd hTb hps.1 (by omega)
        have hov2 := over_any ps (some ⟨g, 0, none⟩) c T w4 hps.1 (by omega) hTb (by rw [HTl.out]; omega) o4.rd
        rw [HTl.out] at hov2
        have Ho3 := Lib.hid o3
        have Hl3 := Lib.hid l3
        clear o3 l3 g3 bx3 hcx3 bxr
        go_wp2_with fail
        refine hov2.mono ?_
        rintro e w5 ⟨rfl, l5⟩
        go_wp2_with fail
        refine (never_any _ _).mono ?_
        rintro e w6 ⟨rfl, rfl⟩
        have hn : 0 ≤ neverB (overB ps T) ∧ neverB (overB ps T) ≤ 65535 := by unfold neverB; split <;> omega
        generalize neverB (overB ps T) = nv at *
        have o5 := o4.below l5 (Nat.le_refl _)
        have c6 : w5.cell? ⟨g, 6, none⟩ = some (.int .u8 (T.getD 6 0)) := o5.cell 6 (by rw [HTl.out]; omega)
        have c7 : w5.cell? ⟨g, 7, none⟩ = some (.int .u8 (T.getD 7 0)) := o5.cell 7 (by rw [HTl.out]; omega)
        have fz := o5.free
        have Ho := Lib.hid ((o5.set 6 (nv / 256)).set 7 (nv % 256))
        have hwn := IntKind.wrap_u8 nv
        have hb3 := hbr.trans Hl3.out
        have hb5 : Below w.heap.size w w5 := (hb3.trans (l4.mono hb3.size)).trans (l5.mono (by have := hb3.size; have := l4.size; omega))
        generalize T.getD 6 0 = z6 at *
        generalize T.getD 7 0 = z7 at *
        clear o4 o5 l4 l5 hov2 hb3
        go_wp2_with fail
        go_ret2
        exact ⟨_, rfl, by rw [HTf.out]; exact Ho.out, (hb5.setCell (p := ⟨g, 6, none⟩) hg0 _).setCell (p := ⟨g, 7, none⟩) hg0 _⟩

end Go.Proofs.YtebeekjcepjcnaaDoor
