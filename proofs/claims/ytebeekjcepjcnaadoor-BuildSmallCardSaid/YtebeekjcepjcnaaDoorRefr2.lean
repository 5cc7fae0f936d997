/-
  The reference of layer 12: Right, facts of one kind.
-/
import Derived.Test.YtebeekjcepjcnaaDoorReff
namespace Go.Proofs.YtebeekjcepjcnaaDoor
open Go.RowKit Go.Shelf

set_option maxRecDepth 100000 in
set_option maxHeartbeats 4000000 in
theorem rRight_2 (k0 k1 k2 k3 k4  flags type code seqn ackn window length q0 q1 q2 q3 q4 qkind x1 x2 : Int) (R u1 u2 e l a1 a2 a3 a4 c1 c2 c3 d1 d2 l2 : Bool) (w : World)
    (HU1 : ∀ W, Calls Tryd.prog 76 #[.int .u32 k1] W fun e w' => e = .returned (.bool u1) ∧ W = w') (HU2 : ∀ W, Calls Tryd.prog 76 #[.int .u32 k2] W fun e w' => e = .returned (.bool u2) ∧ W = w')
    (he : (k1 == k2) = e) (hl : decide (length < 0) = l)
    (ha1 : (flags != 0) = a1) (ha2 : (seqn != 0) = a2) (ha3 : (ackn != 0) = a3) (ha4 : (window != 0) = a4)
    (hc1 : (qkind != 0) = c1) (HN : ∀ W, (binOp .neq 25 (.agg #[.int .u8 q0, .int .u32 q1, .int .u32 q2, .int .u16 q3, .int .u16 q4]) (.agg #[.int .u8 0, .int .u32 0, .int .u32 0, .int .u16 0, .int .u16 0])).run Tryd.prog W = .ok (.bool c2) W)
    (HS : ∀ W, Calls Tryd.prog 77 #[.agg #[.int .u8 k0, .int .u32 k1, .int .u32 k2, .int .u16 k3, .int .u16 k4], .int .u8 2] W fun e w' => e = .returned (.bool c3) ∧ Below W.heap.size W w')
    (hd1 : (type != 0) = d1) (hd2 : (code != 0) = d2)
    (HK : ∀ W, Calls Tryd.prog 75 #[.int .u8 type, .int .u8 code] W fun e w' => e = .returned (.tuple #[.int .u8 x1, .int .i64 x2]) ∧ W = w')
    (hl2 : decide (length ≤ 65507) = l2)
    (HR : R = (u1 && u2 && !e && !l && !a1 && !a2 && !a3 && !a4 && !c1 && !c2 && c3 && !d1 && !d2 && l2)) :
    Calls Tryd.prog 44 #[.agg #[.int .u8 k0, .int .u32 k1, .int .u32 k2, .int .u16 k3, .int .u16 k4, .int .u8 2, .int .u8 flags, .int .u8 type, .int .u8 code, .int .u32 seqn, .int .u32 ackn, .int .i64 window, .int .i64 length, .int .u8 q0, .int .u32 q1, .int .u32 q2, .int .u16 q3, .int .u16 q4, .int .u8 qkind]] w fun e w' => e = .returned (.bool R) ∧ Below w.heap.size w w' := by
  replace HR := Lib.hid HR
  replace HU1 := Lib.hid HU1
  replace HU2 := Lib.hid HU2
  replace HS := Lib.hid HS
  replace HK := Lib.hid HK
  go_enter Tryd.func44, Tryd.ntmps44
  go_upto_region 1 with (fail)
  refine wp_name1 ?_
  intro w1 hb1 hs1 b0
  have hc0 := b0.cell
  cases u1
  · go_wp2_with (first | (go_at_call 76; first | (refine (HU1.out _).mono ?_; rintro e wz ⟨rfl, rfl⟩) | (refine (HU2.out _).mono ?_; rintro e wz ⟨rfl, rfl⟩)) | fail)
    go_ret
    exact ⟨by rw [HR.out]; rfl, by first | exact hb1 | exact hb1.trans (lz.mono hb1.size)⟩
  cases u2
  · go_wp2_with (first | (go_at_call 76; first | (refine (HU1.out _).mono ?_; rintro e wz ⟨rfl, rfl⟩) | (refine (HU2.out _).mono ?_; rintro e wz ⟨rfl, rfl⟩)) | fail)
    go_ret
    exact ⟨by rw [HR.out]; rfl, by first | exact hb1 | exact hb1.trans (lz.mono hb1.size)⟩
  cases e
  rotate_left
  · go_wp2_with (first | (go_at_call 76; first | (refine (HU1.out _).mono ?_; rintro e wz ⟨rfl, rfl⟩) | (refine (HU2.out _).mono ?_; rintro e wz ⟨rfl, rfl⟩)) | fail)
    go_ret
    exact ⟨by rw [HR.out]; rfl, by first | exact hb1 | exact hb1.trans (lz.mono hb1.size)⟩
  cases l
  rotate_left
  · go_wp2_with (first | (go_at_call 76; first | (refine (HU1.out _).mono ?_; rintro e wz ⟨rfl, rfl⟩) | (refine (HU2.out _).mono ?_; rintro e wz ⟨rfl, rfl⟩)) | fail)
    go_ret
    exact ⟨by rw [HR.out]; rfl, by first | exact hb1 | exact hb1.trans (lz.mono hb1.size)⟩
  go_upto_region 3 with (first | (go_at_call 76; first | (refine (HU1.out _).mono ?_; rintro e wz ⟨rfl, rfl⟩) | (refine (HU2.out _).mono ?_; rintro e wz ⟨rfl, rfl⟩)) | fail)
  cases a1
  rotate_left
  · go_wp2_with (first | (go_at_call 76; first | (refine (HU1.out _).mono ?_; rintro e wz ⟨rfl, rfl⟩) | (refine (HU2.out _).mono ?_; rintro e wz ⟨rfl, rfl⟩)) | fail)
    go_ret
    exact ⟨by rw [HR.out]; rfl, by first | exact hb1 | exact hb1.trans (lz.mono hb1.size)⟩
  cases a2
  rotate_left
  · go_wp2_with (first | (go_at_call 76; first | (refine (HU1.out _).mono ?_; rintro e wz ⟨rfl, rfl⟩) | (refine (HU2.out _).mono ?_; rintro e wz ⟨rfl, rfl⟩)) | fail)
    go_ret
    exact ⟨by rw [HR.out]; rfl, by first | exact hb1 | exact hb1.trans (lz.mono hb1.size)⟩
  cases a3
  rotate_left
  · go_wp2_with (first | (go_at_call 76; first | (refine (HU1.out _).mono ?_; rintro e wz ⟨rfl, rfl⟩) | (refine (HU2.out _).mono ?_; rintro e wz ⟨rfl, rfl⟩)) | fail)
    go_ret
    exact ⟨by rw [HR.out]; rfl, by first | exact hb1 | exact hb1.trans (lz.mono hb1.size)⟩
  cases a4
  rotate_left
  · go_wp2_with (first | (go_at_call 76; first | (refine (HU1.out _).mono ?_; rintro e wz ⟨rfl, rfl⟩) | (refine (HU2.out _).mono ?_; rintro e wz ⟨rfl, rfl⟩)) | fail)
    go_ret
    exact ⟨by rw [HR.out]; rfl, by first | exact hb1 | exact hb1.trans (lz.mono hb1.size)⟩
  go_upto_region 5 with (first | (go_at_call 76; first | (refine (HU1.out _).mono ?_; rintro e wz ⟨rfl, rfl⟩) | (refine (HU2.out _).mono ?_; rintro e wz ⟨rfl, rfl⟩)) | fail)
  cases c1
  rotate_left
  · go_wp2_with (first | (go_at_call 77; refine (HS.out _).mono ?_; rintro e wz ⟨rfl, lz⟩; have hcz := (b0.below lz b0.lt).cell) | fail)
    go_ret
    exact ⟨by rw [HR.out]; rfl, by first | exact hb1 | exact hb1.trans (lz.mono hb1.size)⟩
  cases c2
  rotate_left
  · go_wp2_with (first | (go_at_call 77; refine (HS.out _).mono ?_; rintro e wz ⟨rfl, lz⟩; have hcz := (b0.below lz b0.lt).cell) | fail)
    go_ret
    exact ⟨by rw [HR.out]; rfl, by first | exact hb1 | exact hb1.trans (lz.mono hb1.size)⟩
  cases c3
  · go_wp2_with (first | (go_at_call 77; refine (HS.out _).mono ?_; rintro e wz ⟨rfl, lz⟩; have hcz := (b0.below lz b0.lt).cell) | fail)
    go_ret
    exact ⟨by rw [HR.out]; rfl, by first | exact hb1 | exact hb1.trans (lz.mono hb1.size)⟩
  cases d1
  rotate_left
  · go_wp2_with (first | (go_at_call 77; refine (HS.out _).mono ?_; rintro e wz ⟨rfl, lz⟩; have hcz := (b0.below lz b0.lt).cell) | fail)
    go_ret
    exact ⟨by rw [HR.out]; rfl, by first | exact hb1 | exact hb1.trans (lz.mono hb1.size)⟩
  cases d2
  rotate_left
  · go_wp2_with (first | (go_at_call 77; refine (HS.out _).mono ?_; rintro e wz ⟨rfl, lz⟩; have hcz := (b0.below lz b0.lt).cell) | fail)
    go_ret
    exact ⟨by rw [HR.out]; rfl, by first | exact hb1 | exact hb1.trans (lz.mono hb1.size)⟩
  go_wp2_with (first | (go_at_call 77; refine (HS.out _).mono ?_; rintro e wz ⟨rfl, lz⟩; have hcz := (b0.below lz b0.lt).cell) | (go_at_call 75; refine (HK.out _).mono ?_; rintro e wz2 ⟨rfl, rfl⟩) | fail)
  go_ret
  exact ⟨by rw [HR.out]; rfl, by first | exact hb1 | exact hb1.trans (lz.mono hb1.size)⟩

end Go.Proofs.YtebeekjcepjcnaaDoor
