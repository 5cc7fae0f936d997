/-
  The reference of layer 12: Answer, facts that are not right.
  The reference of layer 12: Answer, a datagram.
  The reference of layer 12: Answer, what has no answer.
  The reference of layer 12: Answer, a segment with RST.
  The reference of layer 12: Answer, a segment.
  The reference of layer 12: Answer, a query.
  The reference of layer 12: Answer, whatever the facts: what the program answers.
-/
import Derived.Test.YtebeekjcepjcnaaDoorRefm
import Derived.Test.YtebeekjcepjcnaaDoorAnswerb
import Derived.Test.YtebeekjcepjcnaaDoorBuildb
namespace Go.Proofs.YtebeekjcepjcnaaDoor
open Go.RowKit Go.Shelf

set_option maxRecDepth 100000 in
set_option maxHeartbeats 4000000 in
theorem rAnswer_no (k0 k1 k2 k3 k4 kind flags type code seqn ackn window length q0 q1 q2 q3 q4 qkind : Int) (w : World)
    (HR : ∀ W, Calls Tryd.prog 44 #[.agg #[.int .u8 k0, .int .u32 k1, .int .u32 k2, .int .u16 k3, .int .u16 k4, .int .u8 kind, .int .u8 flags, .int .u8 type, .int .u8 code, .int .u32 seqn, .int .u32 ackn, .int .i64 window, .int .i64 length, .int .u8 q0, .int .u32 q1, .int .u32 q2, .int .u16 q3, .int .u16 q4, .int .u8 qkind]] W fun e w' => e = .returned (.bool false) ∧ Below W.heap.size W w') :
    Calls Tryd.prog 42 #[.agg #[.int .u8 k0, .int .u32 k1, .int .u32 k2, .int .u16 k3, .int .u16 k4, .int .u8 kind, .int .u8 flags, .int .u8 type, .int .u8 code, .int .u32 seqn, .int .u32 ackn, .int .i64 window, .int .i64 length, .int .u8 q0, .int .u32 q1, .int .u32 q2, .int .u16 q3, .int .u16 q4, .int .u8 qkind]] w fun e w' => e = .returned (.tuple #[.agg #[.int .u8 0, .int .u32 0, .int .u32 0, .int .u16 0, .int .u16 0, .int .u8 0, .int .u8 0, .int .u8 0, .int .u8 0, .int .u32 0, .int .u32 0, .int .i64 0, .int .i64 0, .int .u8 0, .int .u32 0, .int .u32 0, .int .u16 0, .int .u16 0, .int .u8 0], .int .i64 120]) ∧ Below w.heap.size w w' := by
  replace HR := Lib.hid HR
  go_enter Tryd.func42, Tryd.ntmps42
  go_upto_region 1 with (fail)
  refine wp_name2 ?_
  intro w1 hb1 hs1 b0 bR
  clear hs1
  go_upto_region 2 with (first | ((with_reducible refine look_load ?_); refine wpList_load_row rfl _ _ rfl _ rfl _ _ _ _ b0 Tryd.underlying27 rfl (by kernel_rfl) ?_) | (go_at_call 44; refine (HR.out _).mono ?_; rintro e w2 ⟨rfl, l2⟩) | fail)
  have bR' := bR.below l2 bR.lt
  have hb2 := hb1.trans (l2.mono hb1.size)
  clear b0 bR l2 hb1
  go_wp2_with (first | ((with_reducible refine look_store ?_); refine wpList_store_row rfl _ _ _ rfl _ _ rfl rfl _ _ bR' (by kernel_rfl) (by simp) (by simp [Value.oneCell']) ?_) | fail)
  exact bodyPost_ret (results_cell_tmp Tryd.results42 _ _ _ _ _ _ _ rfl (setRow_heap _ _ _ _ _ _ bR') Tryd.underlying27 rfl (by kernel_rfl)) rfl ⟨rfl, below_setRow hb2 (by omega) _⟩

end Go.Proofs.YtebeekjcepjcnaaDoor

namespace Go.Proofs.YtebeekjcepjcnaaDoor
open Go.RowKit Go.Shelf

set_option maxRecDepth 100000 in
set_option maxHeartbeats 4000000 in
theorem rAnswer_udp (k0 k1 k2 k3 k4 flags type code seqn ackn window length q0 q1 q2 q3 q4 qkind : Int) (w : World)
    (HR : ∀ W, Calls Tryd.prog 44 #[.agg #[.int .u8 k0, .int .u32 k1, .int .u32 k2, .int .u16 k3, .int .u16 k4, .int .u8 2, .int .u8 flags, .int .u8 type, .int .u8 code, .int .u32 seqn, .int .u32 ackn, .int .i64 window, .int .i64 length, .int .u8 q0, .int .u32 q1, .int .u32 q2, .int .u16 q3, .int .u16 q4, .int .u8 qkind]] W fun e w' => e = .returned (.bool true) ∧ Below W.heap.size W w') :
    Calls Tryd.prog 42 #[.agg #[.int .u8 k0, .int .u32 k1, .int .u32 k2, .int .u16 k3, .int .u16 k4, .int .u8 2, .int .u8 flags, .int .u8 type, .int .u8 code, .int .u32 seqn, .int .u32 ackn, .int .i64 window, .int .i64 length, .int .u8 q0, .int .u32 q1, .int .u32 q2, .int .u16 q3, .int .u16 q4, .int .u8 qkind]] w fun e w' => e = .returned (.tuple #[.agg #[.int .u8 k0, .int .u32 k2, .int .u32 k1, .int .u16 k4, .int .u16 k3, .int .u8 2, .int .u8 0, .int .u8 0, .int .u8 0, .int .u32 0, .int .u32 0, .int .i64 0, .int .i64 length, .int .u8 0, .int .u32 0, .int .u32 0, .int .u16 0, .int .u16 0, .int .u8 0], .int .i64 0]) ∧ Below w.heap.size w w' := by
  replace HR := Lib.hid HR
  go_enter Tryd.func42, Tryd.ntmps42
  go_upto_region 1 with (fail)
  refine wp_name2 ?_
  intro w1 hb1 hs1 b0 bR
  clear hs1
  go_upto_region 3 with (first | ((with_reducible refine look_load ?_); refine wpList_load_row rfl _ _ rfl _ rfl _ _ _ _ b0 Tryd.underlying27 rfl (by kernel_rfl) ?_) | (go_at_call 44; refine (HR.out _).mono ?_; rintro e w2 ⟨rfl, l2⟩) | fail)
  have bR' := bR.below l2 bR.lt
  have hb2 := hb1.trans (l2.mono hb1.size)
  have b0' := b0.below l2 b0.lt
  clear b0 bR l2 hb1
  have hc0 := b0'.cell
  go_upto_region 4 with (first | ((with_reducible refine look_store ?_); refine wpList_store_new rfl _ _ _ rfl _ _ rfl rfl _ _ rfl (by kernel_rfl) (by simp) (by simp [Value.oneCell']) ?_) | fail)
  clear hc0
  try dsimp only [Act.put]
  refine wp_name1 ?_
  intro w3 hb3 hs3 bx0
  have b0z := b0'.below hb3 b0'.lt
  have bRz := bR'.below hb3 bR'.lt
  have hb4 := hb2.trans (hb3.mono hb2.size)
  have hlR := bR'.lt
  clear hs3 b0' bR' hb2 hb3
  have hc0 := b0z.cell
  have hcx := bx0.cell
  have hfx := bx0.frozen
  go_wp2_with fail
  have bx : Blk _ _ _ #[.int .u8 k0, .int .u32 0, .int .u32 0, .int .u16 0, .int .u16 0, .int .u8 2, .int .u8 0, .int .u8 0, .int .u8 0, .int .u32 0, .int .u32 0, .int .i64 0, .int .i64 length, .int .u8 0, .int .u32 0, .int .u32 0, .int .u16 0, .int .u16 0, .int .u8 0] := bx0.set 0 (.int .u8 k0)
  have b0 := b0z.far (p := ⟨w2.heap.size, 0, none⟩) (by show w.heap.size ≠ w2.heap.size; omega) (.int .u8 k0)
  have bR := bRz.far (p := ⟨w2.heap.size, 0, none⟩) (by show w.heap.size + 1 ≠ w2.heap.size; omega) (.int .u8 k0)
  have hb5 := hb4.setCell (p := ⟨w2.heap.size, 0, none⟩) (by show w.heap.size ≤ w2.heap.size; omega) (.int .u8 k0)
  clear hc0 hcx hfx b0z bRz hb4 bx0
  generalize w3.setCell ⟨w2.heap.size, 0, none⟩ (.int .u8 k0) = w4 at *
  have hSt : StN w w.heap.size _ w2.heap.size 27 (fun st => if st = 0 then #[.int .u8 k0, .int .u32 0, .int .u32 0, .int .u16 0, .int .u16 0, .int .u8 2, .int .u8 0, .int .u8 0, .int .u8 0, .int .u32 0, .int .u32 0, .int .i64 0, .int .i64 length, .int .u8 0, .int .u32 0, .int .u32 0, .int .u16 0, .int .u16 0, .int .u8 0] else if st = 1 then #[.int .u8 k0, .int .u32 k2, .int .u32 0, .int .u16 0, .int .u16 0, .int .u8 2, .int .u8 0, .int .u8 0, .int .u8 0, .int .u32 0, .int .u32 0, .int .i64 0, .int .i64 length, .int .u8 0, .int .u32 0, .int .u32 0, .int .u16 0, .int .u16 0, .int .u8 0] else #[.int .u8 k0, .int .u32 k2, .int .u32 k1, .int .u16 0, .int .u16 0, .int .u8 2, .int .u8 0, .int .u8 0, .int .u8 0, .int .u32 0, .int .u32 0, .int .i64 0, .int .i64 length, .int .u8 0, .int .u32 0, .int .u32 0, .int .u16 0, .int .u16 0, .int .u8 0]) 0 w4 := ⟨((St.nil hb5 hb5.size).cons bR).cons b0, by omega, by simp; omega, bx⟩
  clear b0 bR bx hb5
  refine wp_region_walk0 (by kernel_rfl) (StN w w.heap.size _ w2.heap.size 27 (fun st => if st = 0 then #[.int .u8 k0, .int .u32 0, .int .u32 0, .int .u16 0, .int .u16 0, .int .u8 2, .int .u8 0, .int .u8 0, .int .u8 0, .int .u32 0, .int .u32 0, .int .i64 0, .int .i64 length, .int .u8 0, .int .u32 0, .int .u32 0, .int .u16 0, .int .u16 0, .int .u8 0] else if st = 1 then #[.int .u8 k0, .int .u32 k2, .int .u32 0, .int .u16 0, .int .u16 0, .int .u8 2, .int .u8 0, .int .u8 0, .int .u8 0, .int .u32 0, .int .u32 0, .int .i64 0, .int .i64 length, .int .u8 0, .int .u32 0, .int .u32 0, .int .u16 0, .int .u16 0, .int .u8 0] else #[.int .u8 k0, .int .u32 k2, .int .u32 k1, .int .u16 0, .int .u16 0, .int .u8 2, .int .u8 0, .int .u8 0, .int .u8 0, .int .u32 0, .int .u32 0, .int .i64 0, .int .i64 length, .int .u8 0, .int .u32 0, .int .u32 0, .int .u16 0, .int .u16 0, .int .u8 0])) [8, 11] GTop [0, 1, 2, 3, 4, 5, 6, 7, 9, 10, 8, 11] (by kernel_rfl) hSt.drew ?_
  iterate 10
    apply Walk.one rfl rfl rfl
    case hrun =>
      intro c W hE hF
      have hc0 := (hE.1.get 0 rfl).cell
      go_wp2_with fail
      exact TextPost.mk ⟨GTop.mk, hE⟩
    case hv => rfl
  apply Walk.keep 0 rfl rfl rfl rfl
  case hrun =>
    intro W hE hF
    have hcx := hE.2.2.2.cell
    have hfx := hE.2.2.2.frozen
    go_wp2_with fail
    exact TextPost.mk ⟨GTop.mk, hE.set 1 (.int .u32 k2) rfl⟩
  case hv => rfl
  apply Walk.keep 1 rfl rfl rfl rfl
  case hrun =>
    intro W hE hF
    have hcx := hE.2.2.2.cell
    have hfx := hE.2.2.2.frozen
    go_wp2_with fail
    exact TextPost.mk ⟨GTop.mk, hE.set 2 (.int .u32 k1) rfl⟩
  case hv => rfl
  refine Walk.done (fun w5 hE hF => ?_)
  have b0 := hE.1.get 0 rfl
  have bR := hE.1.get 1 rfl
  have bx : Blk w5 w2.heap.size 27 #[.int .u8 k0, .int .u32 k2, .int .u32 k1, .int .u16 0, .int .u16 0, .int .u8 2, .int .u8 0, .int .u8 0, .int .u8 0, .int .u32 0, .int .u32 0, .int .i64 0, .int .i64 length, .int .u8 0, .int .u32 0, .int .u32 0, .int .u16 0, .int .u16 0, .int .u8 0] := hE.2.2.2
  have hb5 := hE.1.1
  clear hSt hE hF
  go_wp2_with fail
  have hSt : StN w w.heap.size _ w2.heap.size 27 (fun st => if st = 0 then #[.int .u8 k0, .int .u32 k2, .int .u32 k1, .int .u16 0, .int .u16 0, .int .u8 2, .int .u8 0, .int .u8 0, .int .u8 0, .int .u32 0, .int .u32 0, .int .i64 0, .int .i64 length, .int .u8 0, .int .u32 0, .int .u32 0, .int .u16 0, .int .u16 0, .int .u8 0] else if st = 1 then #[.int .u8 k0, .int .u32 k2, .int .u32 k1, .int .u16 k4, .int .u16 0, .int .u8 2, .int .u8 0, .int .u8 0, .int .u8 0, .int .u32 0, .int .u32 0, .int .i64 0, .int .i64 length, .int .u8 0, .int .u32 0, .int .u32 0, .int .u16 0, .int .u16 0, .int .u8 0] else #[.int .u8 k0, .int .u32 k2, .int .u32 k1, .int .u16 k4, .int .u16 k3, .int .u8 2, .int .u8 0, .int .u8 0, .int .u8 0, .int .u32 0, .int .u32 0, .int .i64 0, .int .i64 length, .int .u8 0, .int .u32 0, .int .u32 0, .int .u16 0, .int .u16 0, .int .u8 0]) 0 w5 := ⟨((St.nil hb5 hb5.size).cons bR).cons b0, by omega, by simp; omega, bx⟩
  clear b0 bR bx hb5
  refine wp_region_walk0 (by kernel_rfl) (StN w w.heap.size _ w2.heap.size 27 (fun st => if st = 0 then #[.int .u8 k0, .int .u32 k2, .int .u32 k1, .int .u16 0, .int .u16 0, .int .u8 2, .int .u8 0, .int .u8 0, .int .u8 0, .int .u32 0, .int .u32 0, .int .i64 0, .int .i64 length, .int .u8 0, .int .u32 0, .int .u32 0, .int .u16 0, .int .u16 0, .int .u8 0] else if st = 1 then #[.int .u8 k0, .int .u32 k2, .int .u32 k1, .int .u16 k4, .int .u16 0, .int .u8 2, .int .u8 0, .int .u8 0, .int .u8 0, .int .u32 0, .int .u32 0, .int .i64 0, .int .i64 length, .int .u8 0, .int .u32 0, .int .u32 0, .int .u16 0, .int .u16 0, .int .u8 0] else #[.int .u8 k0, .int .u32 k2, .int .u32 k1, .int .u16 k4, .int .u16 k3, .int .u8 2, .int .u8 0, .int .u8 0, .int .u8 0, .int .u32 0, .int .u32 0, .int .i64 0, .int .i64 length, .int .u8 0, .int .u32 0, .int .u32 0, .int .u16 0, .int .u16 0, .int .u8 0])) [8, 11] GTop [0, 1, 2, 3, 4, 5, 6, 7, 9, 10, 8, 11] (by kernel_rfl) hSt.drew ?_
  iterate 10
    apply Walk.one rfl rfl rfl
    case hrun =>
      intro c W hE hF
      have hc0 := (hE.1.get 0 rfl).cell
      go_wp2_with fail
      exact TextPost.mk ⟨GTop.mk, hE⟩
    case hv => rfl
  apply Walk.keep 0 rfl rfl rfl rfl
  case hrun =>
    intro W hE hF
    have hcx := hE.2.2.2.cell
    have hfx := hE.2.2.2.frozen
    go_wp2_with fail
    exact TextPost.mk ⟨GTop.mk, hE.set 3 (.int .u16 k4) rfl⟩
  case hv => rfl
  apply Walk.keep 1 rfl rfl rfl rfl
  case hrun =>
    intro W hE hF
    have hcx := hE.2.2.2.cell
    have hfx := hE.2.2.2.frozen
    go_wp2_with fail
    exact TextPost.mk ⟨GTop.mk, hE.set 4 (.int .u16 k3) rfl⟩
  case hv => rfl
  refine Walk.done (fun w6 hE hF => ?_)
  have b0 := hE.1.get 0 rfl
  have bR := hE.1.get 1 rfl
  have bx : Blk w6 w2.heap.size 27 #[.int .u8 k0, .int .u32 k2, .int .u32 k1, .int .u16 k4, .int .u16 k3, .int .u8 2, .int .u8 0, .int .u8 0, .int .u8 0, .int .u32 0, .int .u32 0, .int .i64 0, .int .i64 length, .int .u8 0, .int .u32 0, .int .u32 0, .int .u16 0, .int .u16 0, .int .u8 0] := hE.2.2.2
  have hb5 := hE.1.1
  clear hSt hE hF
  have hc0 := b0.cell
  go_wp2_with (first | ((with_reducible refine look_load ?_); refine wpList_load_row rfl _ _ rfl _ rfl _ _ _ _ bx Tryd.underlying27 rfl (by kernel_rfl) ?_) | ((with_reducible refine look_store ?_); refine wpList_store_row rfl _ _ _ rfl _ _ rfl rfl _ _ bR (by kernel_rfl) (by simp) (by simp [Value.oneCell']) ?_) | fail)
  exact bodyPost_ret (results_cell_tmp Tryd.results42 _ _ _ _ _ _ _ rfl (setRow_heap _ _ _ _ _ _ bR) Tryd.underlying27 rfl (by kernel_rfl)) rfl ⟨rfl, below_setRow hb5 (by omega) _⟩

end Go.Proofs.YtebeekjcepjcnaaDoor

namespace Go.Proofs.YtebeekjcepjcnaaDoor
open Go.RowKit Go.Shelf

set_option maxRecDepth 100000 in
set_option maxHeartbeats 4000000 in
theorem rAnswer_none (k0 k1 k2 k3 k4 kind flags type code seqn ackn window length q0 q1 q2 q3 q4 qkind : Int) (w : World) (h2 : (kind == 2) = false) (h3 : (kind == 3) = false) (h1 : (kind == 1) = false)
    (HR : ∀ W, Calls Tryd.prog 44 #[.agg #[.int .u8 k0, .int .u32 k1, .int .u32 k2, .int .u16 k3, .int .u16 k4, .int .u8 kind, .int .u8 flags, .int .u8 type, .int .u8 code, .int .u32 seqn, .int .u32 ackn, .int .i64 window, .int .i64 length, .int .u8 q0, .int .u32 q1, .int .u32 q2, .int .u16 q3, .int .u16 q4, .int .u8 qkind]] W fun e w' => e = .returned (.bool true) ∧ Below W.heap.size W w') :
    Calls Tryd.prog 42 #[.agg #[.int .u8 k0, .int .u32 k1, .int .u32 k2, .int .u16 k3, .int .u16 k4, .int .u8 kind, .int .u8 flags, .int .u8 type, .int .u8 code, .int .u32 seqn, .int .u32 ackn, .int .i64 window, .int .i64 length, .int .u8 q0, .int .u32 q1, .int .u32 q2, .int .u16 q3, .int .u16 q4, .int .u8 qkind]] w fun e w' => e = .returned (.tuple #[.agg #[.int .u8 0, .int .u32 0, .int .u32 0, .int .u16 0, .int .u16 0, .int .u8 0, .int .u8 0, .int .u8 0, .int .u8 0, .int .u32 0, .int .u32 0, .int .i64 0, .int .i64 0, .int .u8 0, .int .u32 0, .int .u32 0, .int .u16 0, .int .u16 0, .int .u8 0], .int .i64 6]) ∧ Below w.heap.size w w' := by
  replace HR := Lib.hid HR
  go_enter Tryd.func42, Tryd.ntmps42
  go_upto_region 1 with (fail)
  refine wp_name2 ?_
  intro w1 hb1 hs1 b0 bR
  clear hs1
  go_upto_region 3 with (first | ((with_reducible refine look_load ?_); refine wpList_load_row rfl _ _ rfl _ rfl _ _ _ _ b0 Tryd.underlying27 rfl (by kernel_rfl) ?_) | (go_at_call 44; refine (HR.out _).mono ?_; rintro e w2 ⟨rfl, l2⟩) | fail)
  have bR' := bR.below l2 bR.lt
  have hb2 := hb1.trans (l2.mono hb1.size)
  have b0' := b0.below l2 b0.lt
  clear b0 bR l2 hb1
  have hc0 := b0'.cell
  go_upto_region 4 with (first | ((with_reducible refine look_store ?_); refine wpList_store_new rfl _ _ _ rfl _ _ rfl rfl _ _ rfl (by kernel_rfl) (by simp) (by simp [Value.oneCell']) ?_) | fail)
  clear hc0
  try dsimp only [Act.put]
  refine wp_name1 ?_
  intro w3 hb3 hs3 bx0
  have b0z := b0'.below hb3 b0'.lt
  have bRz := bR'.below hb3 bR'.lt
  have hb4 := hb2.trans (hb3.mono hb2.size)
  have hlR := bR'.lt
  clear hs3 b0' bR' hb2 hb3
  have hc0 := b0z.cell
  have hcx := bx0.cell
  have hfx := bx0.frozen
  go_wp2_with fail
  have bx : Blk _ _ _ #[.int .u8 k0, .int .u32 0, .int .u32 0, .int .u16 0, .int .u16 0, .int .u8 kind, .int .u8 0, .int .u8 0, .int .u8 0, .int .u32 0, .int .u32 0, .int .i64 0, .int .i64 length, .int .u8 0, .int .u32 0, .int .u32 0, .int .u16 0, .int .u16 0, .int .u8 0] := bx0.set 0 (.int .u8 k0)
  have b0 := b0z.far (p := ⟨w2.heap.size, 0, none⟩) (by show w.heap.size ≠ w2.heap.size; omega) (.int .u8 k0)
  have bR := bRz.far (p := ⟨w2.heap.size, 0, none⟩) (by show w.heap.size + 1 ≠ w2.heap.size; omega) (.int .u8 k0)
  have hb5 := hb4.setCell (p := ⟨w2.heap.size, 0, none⟩) (by show w.heap.size ≤ w2.heap.size; omega) (.int .u8 k0)
  clear hc0 hcx hfx b0z bRz hb4 bx0
  generalize w3.setCell ⟨w2.heap.size, 0, none⟩ (.int .u8 k0) = w4 at *
  have hSt : StN w w.heap.size _ w2.heap.size 27 (fun st => if st = 0 then #[.int .u8 k0, .int .u32 0, .int .u32 0, .int .u16 0, .int .u16 0, .int .u8 kind, .int .u8 0, .int .u8 0, .int .u8 0, .int .u32 0, .int .u32 0, .int .i64 0, .int .i64 length, .int .u8 0, .int .u32 0, .int .u32 0, .int .u16 0, .int .u16 0, .int .u8 0] else if st = 1 then #[.int .u8 k0, .int .u32 k2, .int .u32 0, .int .u16 0, .int .u16 0, .int .u8 kind, .int .u8 0, .int .u8 0, .int .u8 0, .int .u32 0, .int .u32 0, .int .i64 0, .int .i64 length, .int .u8 0, .int .u32 0, .int .u32 0, .int .u16 0, .int .u16 0, .int .u8 0] else #[.int .u8 k0, .int .u32 k2, .int .u32 k1, .int .u16 0, .int .u16 0, .int .u8 kind, .int .u8 0, .int .u8 0, .int .u8 0, .int .u32 0, .int .u32 0, .int .i64 0, .int .i64 length, .int .u8 0, .int .u32 0, .int .u32 0, .int .u16 0, .int .u16 0, .int .u8 0]) 0 w4 := ⟨((St.nil hb5 hb5.size).cons bR).cons b0, by omega, by simp; omega, bx⟩
  clear b0 bR bx hb5
  refine wp_region_walk0 (by kernel_rfl) (StN w w.heap.size _ w2.heap.size 27 (fun st => if st = 0 then #[.int .u8 k0, .int .u32 0, .int .u32 0, .int .u16 0, .int .u16 0, .int .u8 kind, .int .u8 0, .int .u8 0, .int .u8 0, .int .u32 0, .int .u32 0, .int .i64 0, .int .i64 length, .int .u8 0, .int .u32 0, .int .u32 0, .int .u16 0, .int .u16 0, .int .u8 0] else if st = 1 then #[.int .u8 k0, .int .u32 k2, .int .u32 0, .int .u16 0, .int .u16 0, .int .u8 kind, .int .u8 0, .int .u8 0, .int .u8 0, .int .u32 0, .int .u32 0, .int .i64 0, .int .i64 length, .int .u8 0, .int .u32 0, .int .u32 0, .int .u16 0, .int .u16 0, .int .u8 0] else #[.int .u8 k0, .int .u32 k2, .int .u32 k1, .int .u16 0, .int .u16 0, .int .u8 kind, .int .u8 0, .int .u8 0, .int .u8 0, .int .u32 0, .int .u32 0, .int .i64 0, .int .i64 length, .int .u8 0, .int .u32 0, .int .u32 0, .int .u16 0, .int .u16 0, .int .u8 0])) [8, 11] GTop [0, 1, 2, 3, 4, 5, 6, 7, 9, 10, 8, 11] (by kernel_rfl) hSt.drew ?_
  iterate 10
    apply Walk.one rfl rfl rfl
    case hrun =>
      intro c W hE hF
      have hc0 := (hE.1.get 0 rfl).cell
      go_wp2_with fail
      exact TextPost.mk ⟨GTop.mk, hE⟩
    case hv => rfl
  apply Walk.keep 0 rfl rfl rfl rfl
  case hrun =>
    intro W hE hF
    have hcx := hE.2.2.2.cell
    have hfx := hE.2.2.2.frozen
    go_wp2_with fail
    exact TextPost.mk ⟨GTop.mk, hE.set 1 (.int .u32 k2) rfl⟩
  case hv => rfl
  apply Walk.keep 1 rfl rfl rfl rfl
  case hrun =>
    intro W hE hF
    have hcx := hE.2.2.2.cell
    have hfx := hE.2.2.2.frozen
    go_wp2_with fail
    exact TextPost.mk ⟨GTop.mk, hE.set 2 (.int .u32 k1) rfl⟩
  case hv => rfl
  refine Walk.done (fun w5 hE hF => ?_)
  have b0 := hE.1.get 0 rfl
  have bR := hE.1.get 1 rfl
  have bx : Blk w5 w2.heap.size 27 #[.int .u8 k0, .int .u32 k2, .int .u32 k1, .int .u16 0, .int .u16 0, .int .u8 kind, .int .u8 0, .int .u8 0, .int .u8 0, .int .u32 0, .int .u32 0, .int .i64 0, .int .i64 length, .int .u8 0, .int .u32 0, .int .u32 0, .int .u16 0, .int .u16 0, .int .u8 0] := hE.2.2.2
  have hb5 := hE.1.1
  clear hSt hE hF
  go_wp2_with fail
  have hSt : StN w w.heap.size _ w2.heap.size 27 (fun st => if st = 0 then #[.int .u8 k0, .int .u32 k2, .int .u32 k1, .int .u16 0, .int .u16 0, .int .u8 kind, .int .u8 0, .int .u8 0, .int .u8 0, .int .u32 0, .int .u32 0, .int .i64 0, .int .i64 length, .int .u8 0, .int .u32 0, .int .u32 0, .int .u16 0, .int .u16 0, .int .u8 0] else if st = 1 then #[.int .u8 k0, .int .u32 k2, .int .u32 k1, .int .u16 k4, .int .u16 0, .int .u8 kind, .int .u8 0, .int .u8 0, .int .u8 0, .int .u32 0, .int .u32 0, .int .i64 0, .int .i64 length, .int .u8 0, .int .u32 0, .int .u32 0, .int .u16 0, .int .u16 0, .int .u8 0] else #[.int .u8 k0, .int .u32 k2, .int .u32 k1, .int .u16 k4, .int .u16 k3, .int .u8 kind, .int .u8 0, .int .u8 0, .int .u8 0, .int .u32 0, .int .u32 0, .int .i64 0, .int .i64 length, .int .u8 0, .int .u32 0, .int .u32 0, .int .u16 0, .int .u16 0, .int .u8 0]) 0 w5 := ⟨((St.nil hb5 hb5.size).cons bR).cons b0, by omega, by simp; omega, bx⟩
  clear b0 bR bx hb5
  refine wp_region_walk0 (by kernel_rfl) (StN w w.heap.size _ w2.heap.size 27 (fun st => if st = 0 then #[.int .u8 k0, .int .u32 k2, .int .u32 k1, .int .u16 0, .int .u16 0, .int .u8 kind, .int .u8 0, .int .u8 0, .int .u8 0, .int .u32 0, .int .u32 0, .int .i64 0, .int .i64 length, .int .u8 0, .int .u32 0, .int .u32 0, .int .u16 0, .int .u16 0, .int .u8 0] else if st = 1 then #[.int .u8 k0, .int .u32 k2, .int .u32 k1, .int .u16 k4, .int .u16 0, .int .u8 kind, .int .u8 0, .int .u8 0, .int .u8 0, .int .u32 0, .int .u32 0, .int .i64 0, .int .i64 length, .int .u8 0, .int .u32 0, .int .u32 0, .int .u16 0, .int .u16 0, .int .u8 0] else #[.int .u8 k0, .int .u32 k2, .int .u32 k1, .int .u16 k4, .int .u16 k3, .int .u8 kind, .int .u8 0, .int .u8 0, .int .u8 0, .int .u32 0, .int .u32 0, .int .i64 0, .int .i64 length, .int .u8 0, .int .u32 0, .int .u32 0, .int .u16 0, .int .u16 0, .int .u8 0])) [8, 11] GTop [0, 1, 2, 3, 4, 5, 6, 7, 9, 10, 8, 11] (by kernel_rfl) hSt.drew ?_
  iterate 10
    apply Walk.one rfl rfl rfl
    case hrun =>
      intro c W hE hF
      have hc0 := (hE.1.get 0 rfl).cell
      go_wp2_with fail
      exact TextPost.mk ⟨GTop.mk, hE⟩
    case hv => rfl
  apply Walk.keep 0 rfl rfl rfl rfl
  case hrun =>
    intro W hE hF
    have hcx := hE.2.2.2.cell
    have hfx := hE.2.2.2.frozen
    go_wp2_with fail
    exact TextPost.mk ⟨GTop.mk, hE.set 3 (.int .u16 k4) rfl⟩
  case hv => rfl
  apply Walk.keep 1 rfl rfl rfl rfl
  case hrun =>
    intro W hE hF
    have hcx := hE.2.2.2.cell
    have hfx := hE.2.2.2.frozen
    go_wp2_with fail
    exact TextPost.mk ⟨GTop.mk, hE.set 4 (.int .u16 k3) rfl⟩
  case hv => rfl
  refine Walk.done (fun w6 hE hF => ?_)
  have b0 := hE.1.get 0 rfl
  have bR := hE.1.get 1 rfl
  have bx : Blk w6 w2.heap.size 27 #[.int .u8 k0, .int .u32 k2, .int .u32 k1, .int .u16 k4, .int .u16 k3, .int .u8 kind, .int .u8 0, .int .u8 0, .int .u8 0, .int .u32 0, .int .u32 0, .int .i64 0, .int .i64 length, .int .u8 0, .int .u32 0, .int .u32 0, .int .u16 0, .int .u16 0, .int .u8 0] := hE.2.2.2
  have hb5 := hE.1.1
  clear hSt hE hF
  have hc0 := b0.cell
  go_wp2_with (first | ((with_reducible refine look_store ?_); refine wpList_store_row rfl _ _ _ rfl _ _ rfl rfl _ _ bR (by kernel_rfl) (by simp) (by simp [Value.oneCell']) ?_) | fail)
  exact bodyPost_ret (results_cell_tmp Tryd.results42 _ _ _ _ _ _ _ rfl (setRow_heap _ _ _ _ _ _ bR) Tryd.underlying27 rfl (by kernel_rfl)) rfl ⟨rfl, below_setRow hb5 (by omega) _⟩

end Go.Proofs.YtebeekjcepjcnaaDoor

namespace Go.Proofs.YtebeekjcepjcnaaDoor
open Go.RowKit Go.Shelf

set_option maxRecDepth 100000 in
set_option maxHeartbeats 4000000 in
theorem rAnswer_rst (k0 k1 k2 k3 k4 type code seqn ackn window length q0 q1 q2 q3 q4 qkind : Int) (fl : Nat) (w : World) (h4 : ((fl : Int) / 4 % 2 == 1) = true) (_hf : fl < 256)
    (HR : ∀ W, Calls Tryd.prog 44 #[.agg #[.int .u8 k0, .int .u32 k1, .int .u32 k2, .int .u16 k3, .int .u16 k4, .int .u8 1, .int .u8 fl, .int .u8 type, .int .u8 code, .int .u32 seqn, .int .u32 ackn, .int .i64 window, .int .i64 length, .int .u8 q0, .int .u32 q1, .int .u32 q2, .int .u16 q3, .int .u16 q4, .int .u8 qkind]] W fun e w' => e = .returned (.bool true) ∧ Below W.heap.size W w') :
    Calls Tryd.prog 42 #[.agg #[.int .u8 k0, .int .u32 k1, .int .u32 k2, .int .u16 k3, .int .u16 k4, .int .u8 1, .int .u8 fl, .int .u8 type, .int .u8 code, .int .u32 seqn, .int .u32 ackn, .int .i64 window, .int .i64 length, .int .u8 q0, .int .u32 q1, .int .u32 q2, .int .u16 q3, .int .u16 q4, .int .u8 qkind]] w fun e w' => e = .returned (.tuple #[.agg #[.int .u8 0, .int .u32 0, .int .u32 0, .int .u16 0, .int .u16 0, .int .u8 0, .int .u8 0, .int .u8 0, .int .u8 0, .int .u32 0, .int .u32 0, .int .i64 0, .int .i64 0, .int .u8 0, .int .u32 0, .int .u32 0, .int .u16 0, .int .u16 0, .int .u8 0], .int .i64 6]) ∧ Below w.heap.size w w' := by
  replace HR := Lib.hid HR
  go_enter Tryd.func42, Tryd.ntmps42
  go_upto_region 1 with (fail)
  refine wp_name2 ?_
  intro w1 hb1 hs1 b0 bR
  clear hs1
  go_upto_region 3 with (first | ((with_reducible refine look_load ?_); refine wpList_load_row rfl _ _ rfl _ rfl _ _ _ _ b0 Tryd.underlying27 rfl (by kernel_rfl) ?_) | (go_at_call 44; refine (HR.out _).mono ?_; rintro e w2 ⟨rfl, l2⟩) | fail)
  have bR' := bR.below l2 bR.lt
  have hb2 := hb1.trans (l2.mono hb1.size)
  have b0' := b0.below l2 b0.lt
  clear b0 bR l2 hb1
  have hc0 := b0'.cell
  go_upto_region 4 with (first | ((with_reducible refine look_store ?_); refine wpList_store_new rfl _ _ _ rfl _ _ rfl rfl _ _ rfl (by kernel_rfl) (by simp) (by simp [Value.oneCell']) ?_) | fail)
  clear hc0
  try dsimp only [Act.put]
  refine wp_name1 ?_
  intro w3 hb3 hs3 bx0
  have b0z := b0'.below hb3 b0'.lt
  have bRz := bR'.below hb3 bR'.lt
  have hb4 := hb2.trans (hb3.mono hb2.size)
  have hlR := bR'.lt
  clear hs3 b0' bR' hb2 hb3
  have hc0 := b0z.cell
  have hcx := bx0.cell
  have hfx := bx0.frozen
  go_wp2_with fail
  have bx : Blk _ _ _ #[.int .u8 k0, .int .u32 0, .int .u32 0, .int .u16 0, .int .u16 0, .int .u8 1, .int .u8 0, .int .u8 0, .int .u8 0, .int .u32 0, .int .u32 0, .int .i64 0, .int .i64 length, .int .u8 0, .int .u32 0, .int .u32 0, .int .u16 0, .int .u16 0, .int .u8 0] := bx0.set 0 (.int .u8 k0)
  have b0 := b0z.far (p := ⟨w2.heap.size, 0, none⟩) (by show w.heap.size ≠ w2.heap.size; omega) (.int .u8 k0)
  have bR := bRz.far (p := ⟨w2.heap.size, 0, none⟩) (by show w.heap.size + 1 ≠ w2.heap.size; omega) (.int .u8 k0)
  have hb5 := hb4.setCell (p := ⟨w2.heap.size, 0, none⟩) (by show w.heap.size ≤ w2.heap.size; omega) (.int .u8 k0)
  clear hc0 hcx hfx b0z bRz hb4 bx0
  generalize w3.setCell ⟨w2.heap.size, 0, none⟩ (.int .u8 k0) = w4 at *
  have hSt : StN w w.heap.size _ w2.heap.size 27 (fun st => if st = 0 then #[.int .u8 k0, .int .u32 0, .int .u32 0, .int .u16 0, .int .u16 0, .int .u8 1, .int .u8 0, .int .u8 0, .int .u8 0, .int .u32 0, .int .u32 0, .int .i64 0, .int .i64 length, .int .u8 0, .int .u32 0, .int .u32 0, .int .u16 0, .int .u16 0, .int .u8 0] else if st = 1 then #[.int .u8 k0, .int .u32 k2, .int .u32 0, .int .u16 0, .int .u16 0, .int .u8 1, .int .u8 0, .int .u8 0, .int .u8 0, .int .u32 0, .int .u32 0, .int .i64 0, .int .i64 length, .int .u8 0, .int .u32 0, .int .u32 0, .int .u16 0, .int .u16 0, .int .u8 0] else #[.int .u8 k0, .int .u32 k2, .int .u32 k1, .int .u16 0, .int .u16 0, .int .u8 1, .int .u8 0, .int .u8 0, .int .u8 0, .int .u32 0, .int .u32 0, .int .i64 0, .int .i64 length, .int .u8 0, .int .u32 0, .int .u32 0, .int .u16 0, .int .u16 0, .int .u8 0]) 0 w4 := ⟨((St.nil hb5 hb5.size).cons bR).cons b0, by omega, by simp; omega, bx⟩
  clear b0 bR bx hb5
  refine wp_region_walk0 (by kernel_rfl) (StN w w.heap.size _ w2.heap.size 27 (fun st => if st = 0 then #[.int .u8 k0, .int .u32 0, .int .u32 0, .int .u16 0, .int .u16 0, .int .u8 1, .int .u8 0, .int .u8 0, .int .u8 0, .int .u32 0, .int .u32 0, .int .i64 0, .int .i64 length, .int .u8 0, .int .u32 0, .int .u32 0, .int .u16 0, .int .u16 0, .int .u8 0] else if st = 1 then #[.int .u8 k0, .int .u32 k2, .int .u32 0, .int .u16 0, .int .u16 0, .int .u8 1, .int .u8 0, .int .u8 0, .int .u8 0, .int .u32 0, .int .u32 0, .int .i64 0, .int .i64 length, .int .u8 0, .int .u32 0, .int .u32 0, .int .u16 0, .int .u16 0, .int .u8 0] else #[.int .u8 k0, .int .u32 k2, .int .u32 k1, .int .u16 0, .int .u16 0, .int .u8 1, .int .u8 0, .int .u8 0, .int .u8 0, .int .u32 0, .int .u32 0, .int .i64 0, .int .i64 length, .int .u8 0, .int .u32 0, .int .u32 0, .int .u16 0, .int .u16 0, .int .u8 0])) [8, 11] GTop [0, 1, 2, 3, 4, 5, 6, 7, 9, 10, 8, 11] (by kernel_rfl) hSt.drew ?_
  iterate 10
    apply Walk.one rfl rfl rfl
    case hrun =>
      intro c W hE hF
      have hc0 := (hE.1.get 0 rfl).cell
      go_wp2_with fail
      exact TextPost.mk ⟨GTop.mk, hE⟩
    case hv => rfl
  apply Walk.keep 0 rfl rfl rfl rfl
  case hrun =>
    intro W hE hF
    have hcx := hE.2.2.2.cell
    have hfx := hE.2.2.2.frozen
    go_wp2_with fail
    exact TextPost.mk ⟨GTop.mk, hE.set 1 (.int .u32 k2) rfl⟩
  case hv => rfl
  apply Walk.keep 1 rfl rfl rfl rfl
  case hrun =>
    intro W hE hF
    have hcx := hE.2.2.2.cell
    have hfx := hE.2.2.2.frozen
    go_wp2_with fail
    exact TextPost.mk ⟨GTop.mk, hE.set 2 (.int .u32 k1) rfl⟩
  case hv => rfl
  refine Walk.done (fun w5 hE hF => ?_)
  have b0 := hE.1.get 0 rfl
  have bR := hE.1.get 1 rfl
  have bx : Blk w5 w2.heap.size 27 #[.int .u8 k0, .int .u32 k2, .int .u32 k1, .int .u16 0, .int .u16 0, .int .u8 1, .int .u8 0, .int .u8 0, .int .u8 0, .int .u32 0, .int .u32 0, .int .i64 0, .int .i64 length, .int .u8 0, .int .u32 0, .int .u32 0, .int .u16 0, .int .u16 0, .int .u8 0] := hE.2.2.2
  have hb5 := hE.1.1
  clear hSt hE hF
  go_wp2_with fail
  have hSt : StN w w.heap.size _ w2.heap.size 27 (fun st => if st = 0 then #[.int .u8 k0, .int .u32 k2, .int .u32 k1, .int .u16 0, .int .u16 0, .int .u8 1, .int .u8 0, .int .u8 0, .int .u8 0, .int .u32 0, .int .u32 0, .int .i64 0, .int .i64 length, .int .u8 0, .int .u32 0, .int .u32 0, .int .u16 0, .int .u16 0, .int .u8 0] else if st = 1 then #[.int .u8 k0, .int .u32 k2, .int .u32 k1, .int .u16 k4, .int .u16 0, .int .u8 1, .int .u8 0, .int .u8 0, .int .u8 0, .int .u32 0, .int .u32 0, .int .i64 0, .int .i64 length, .int .u8 0, .int .u32 0, .int .u32 0, .int .u16 0, .int .u16 0, .int .u8 0] else #[.int .u8 k0, .int .u32 k2, .int .u32 k1, .int .u16 k4, .int .u16 k3, .int .u8 1, .int .u8 0, .int .u8 0, .int .u8 0, .int .u32 0, .int .u32 0, .int .i64 0, .int .i64 length, .int .u8 0, .int .u32 0, .int .u32 0, .int .u16 0, .int .u16 0, .int .u8 0]) 0 w5 := ⟨((St.nil hb5 hb5.size).cons bR).cons b0, by omega, by simp; omega, bx⟩
  clear b0 bR bx hb5
  refine wp_region_walk0 (by kernel_rfl) (StN w w.heap.size _ w2.heap.size 27 (fun st => if st = 0 then #[.int .u8 k0, .int .u32 k2, .int .u32 k1, .int .u16 0, .int .u16 0, .int .u8 1, .int .u8 0, .int .u8 0, .int .u8 0, .int .u32 0, .int .u32 0, .int .i64 0, .int .i64 length, .int .u8 0, .int .u32 0, .int .u32 0, .int .u16 0, .int .u16 0, .int .u8 0] else if st = 1 then #[.int .u8 k0, .int .u32 k2, .int .u32 k1, .int .u16 k4, .int .u16 0, .int .u8 1, .int .u8 0, .int .u8 0, .int .u8 0, .int .u32 0, .int .u32 0, .int .i64 0, .int .i64 length, .int .u8 0, .int .u32 0, .int .u32 0, .int .u16 0, .int .u16 0, .int .u8 0] else #[.int .u8 k0, .int .u32 k2, .int .u32 k1, .int .u16 k4, .int .u16 k3, .int .u8 1, .int .u8 0, .int .u8 0, .int .u8 0, .int .u32 0, .int .u32 0, .int .i64 0, .int .i64 length, .int .u8 0, .int .u32 0, .int .u32 0, .int .u16 0, .int .u16 0, .int .u8 0])) [8, 11] GTop [0, 1, 2, 3, 4, 5, 6, 7, 9, 10, 8, 11] (by kernel_rfl) hSt.drew ?_
  iterate 10
    apply Walk.one rfl rfl rfl
    case hrun =>
      intro c W hE hF
      have hc0 := (hE.1.get 0 rfl).cell
      go_wp2_with fail
      exact TextPost.mk ⟨GTop.mk, hE⟩
    case hv => rfl
  apply Walk.keep 0 rfl rfl rfl rfl
  case hrun =>
    intro W hE hF
    have hcx := hE.2.2.2.cell
    have hfx := hE.2.2.2.frozen
    go_wp2_with fail
    exact TextPost.mk ⟨GTop.mk, hE.set 3 (.int .u16 k4) rfl⟩
  case hv => rfl
  apply Walk.keep 1 rfl rfl rfl rfl
  case hrun =>
    intro W hE hF
    have hcx := hE.2.2.2.cell
    have hfx := hE.2.2.2.frozen
    go_wp2_with fail
    exact TextPost.mk ⟨GTop.mk, hE.set 4 (.int .u16 k3) rfl⟩
  case hv => rfl
  refine Walk.done (fun w6 hE hF => ?_)
  have b0 := hE.1.get 0 rfl
  have bR := hE.1.get 1 rfl
  have bx : Blk w6 w2.heap.size 27 #[.int .u8 k0, .int .u32 k2, .int .u32 k1, .int .u16 k4, .int .u16 k3, .int .u8 1, .int .u8 0, .int .u8 0, .int .u8 0, .int .u32 0, .int .u32 0, .int .i64 0, .int .i64 length, .int .u8 0, .int .u32 0, .int .u32 0, .int .u16 0, .int .u16 0, .int .u8 0] := hE.2.2.2
  have hb5 := hE.1.1
  clear hSt hE hF
  have hc0 := b0.cell
  go_wp2_with (first | ((with_reducible refine look_store ?_); refine wpList_store_row rfl _ _ _ rfl _ _ rfl rfl _ _ bR (by kernel_rfl) (by simp) (by simp [Value.oneCell']) ?_) | fail)
  exact bodyPost_ret (results_cell_tmp Tryd.results42 _ _ _ _ _ _ _ rfl (setRow_heap _ _ _ _ _ _ bR) Tryd.underlying27 rfl (by kernel_rfl)) rfl ⟨rfl, below_setRow hb5 (by omega) _⟩

end Go.Proofs.YtebeekjcepjcnaaDoor

namespace Go.Proofs.YtebeekjcepjcnaaDoor
open Go.RowKit Go.Shelf

set_option maxRecDepth 100000 in
set_option maxHeartbeats 4000000 in
theorem rAnswer_tcp (k0 k1 k2 k3 k4 type code seqn ackn window length q0 q1 q2 q3 q4 qkind ak : Int) (fl : Nat) (op1 op2 : Bool) (w : World) (h4 : ((fl : Int) / 4 % 2 == 1) = false) (ho1 : ((fl : Int) / 2 % 2 == 1) = op1) (ho2 : ((fl : Int) / 16 % 2 == 0) = op2) (hfl : fl < 256) (hl0 : 0 ≤ length) (hl1 : length ≤ 65535) (hq0 : 0 ≤ seqn) (hq1 : seqn < 4294967296) (hak : (seqn + (length + ((fl / 2 % 2 : Nat) : Int) + ((fl % 2 : Nat) : Int))) % 4294967296 = ak)
    (HR : ∀ W, Calls Tryd.prog 44 #[.agg #[.int .u8 k0, .int .u32 k1, .int .u32 k2, .int .u16 k3, .int .u16 k4, .int .u8 1, .int .u8 fl, .int .u8 type, .int .u8 code, .int .u32 seqn, .int .u32 ackn, .int .i64 window, .int .i64 length, .int .u8 q0, .int .u32 q1, .int .u32 q2, .int .u16 q3, .int .u16 q4, .int .u8 qkind]] W fun e w' => e = .returned (.bool true) ∧ Below W.heap.size W w') :
    Calls Tryd.prog 42 #[.agg #[.int .u8 k0, .int .u32 k1, .int .u32 k2, .int .u16 k3, .int .u16 k4, .int .u8 1, .int .u8 fl, .int .u8 type, .int .u8 code, .int .u32 seqn, .int .u32 ackn, .int .i64 window, .int .i64 length, .int .u8 q0, .int .u32 q1, .int .u32 q2, .int .u16 q3, .int .u16 q4, .int .u8 qkind]] w fun e w' => e = .returned (.tuple #[.agg #[.int .u8 k0, .int .u32 k2, .int .u32 k1, .int .u16 k4, .int .u16 k3, .int .u8 1, .int .u8 (if op1 && op2 then 18 else 16), .int .u8 0, .int .u8 0, .int .u32 ackn, .int .u32 ak, .int .i64 window, .int .i64 0, .int .u8 0, .int .u32 0, .int .u32 0, .int .u16 0, .int .u16 0, .int .u8 0], .int .i64 0]) ∧ Below w.heap.size w w' := by
  replace HR := Lib.hid HR
  have HX := Lib.hid (fun W => rExtent_any fl length W hfl hl0 hl1)
  have hx0 : 0 ≤ length + ((fl / 2 % 2 : Nat) : Int) + ((fl % 2 : Nat) : Int) ∧ length + ((fl / 2 % 2 : Nat) : Int) + ((fl % 2 : Nat) : Int) < 4294967296 := by omega
  generalize length + ((fl / 2 % 2 : Nat) : Int) + ((fl % 2 : Nat) : Int) = ex at *
  obtain ⟨x0, x1⟩ := hx0
  have Hak := Lib.hid (show (seqn + ex) % 4294967296 = ak from hak)
  clear hak hl0 hl1 hfl
  go_enter Tryd.func42, Tryd.ntmps42
  go_upto_region 1 with (fail)
  refine wp_name2 ?_
  intro w1 hb1 hs1 b0 bR
  clear hs1
  go_upto_region 3 with (first | ((with_reducible refine look_load ?_); refine wpList_load_row rfl _ _ rfl _ rfl _ _ _ _ b0 Tryd.underlying27 rfl (by kernel_rfl) ?_) | (go_at_call 44; refine (HR.out _).mono ?_; rintro e w2 ⟨rfl, l2⟩) | fail)
  have bR' := bR.below l2 bR.lt
  have hb2 := hb1.trans (l2.mono hb1.size)
  have b0' := b0.below l2 b0.lt
  clear b0 bR l2 hb1
  have hc0 := b0'.cell
  go_upto_region 4 with (first | ((with_reducible refine look_store ?_); refine wpList_store_new rfl _ _ _ rfl _ _ rfl rfl _ _ rfl (by kernel_rfl) (by simp) (by simp [Value.oneCell']) ?_) | fail)
  clear hc0
  try dsimp only [Act.put]
  refine wp_name1 ?_
  intro w3 hb3 hs3 bx0
  have b0z := b0'.below hb3 b0'.lt
  have bRz := bR'.below hb3 bR'.lt
  have hb4 := hb2.trans (hb3.mono hb2.size)
  have hlR := bR'.lt
  clear hs3 b0' bR' hb2 hb3
  have hc0 := b0z.cell
  have hcx := bx0.cell
  have hfx := bx0.frozen
  go_wp2_with fail
  have bx : Blk _ _ _ #[.int .u8 k0, .int .u32 0, .int .u32 0, .int .u16 0, .int .u16 0, .int .u8 1, .int .u8 0, .int .u8 0, .int .u8 0, .int .u32 0, .int .u32 0, .int .i64 0, .int .i64 length, .int .u8 0, .int .u32 0, .int .u32 0, .int .u16 0, .int .u16 0, .int .u8 0] := bx0.set 0 (.int .u8 k0)
  have b0 := b0z.far (p := ⟨w2.heap.size, 0, none⟩) (by show w.heap.size ≠ w2.heap.size; omega) (.int .u8 k0)
  have bR := bRz.far (p := ⟨w2.heap.size, 0, none⟩) (by show w.heap.size + 1 ≠ w2.heap.size; omega) (.int .u8 k0)
  have hb5 := hb4.setCell (p := ⟨w2.heap.size, 0, none⟩) (by show w.heap.size ≤ w2.heap.size; omega) (.int .u8 k0)
  clear hc0 hcx hfx b0z bRz hb4 bx0
  generalize w3.setCell ⟨w2.heap.size, 0, none⟩ (.int .u8 k0) = w4 at *
  have hSt : StN w w.heap.size _ w2.heap.size 27 (fun st => if st = 0 then #[.int .u8 k0, .int .u32 0, .int .u32 0, .int .u16 0, .int .u16 0, .int .u8 1, .int .u8 0, .int .u8 0, .int .u8 0, .int .u32 0, .int .u32 0, .int .i64 0, .int .i64 length, .int .u8 0, .int .u32 0, .int .u32 0, .int .u16 0, .int .u16 0, .int .u8 0] else if st = 1 then #[.int .u8 k0, .int .u32 k2, .int .u32 0, .int .u16 0, .int .u16 0, .int .u8 1, .int .u8 0, .int .u8 0, .int .u8 0, .int .u32 0, .int .u32 0, .int .i64 0, .int .i64 length, .int .u8 0, .int .u32 0, .int .u32 0, .int .u16 0, .int .u16 0, .int .u8 0] else #[.int .u8 k0, .int .u32 k2, .int .u32 k1, .int .u16 0, .int .u16 0, .int .u8 1, .int .u8 0, .int .u8 0, .int .u8 0, .int .u32 0, .int .u32 0, .int .i64 0, .int .i64 length, .int .u8 0, .int .u32 0, .int .u32 0, .int .u16 0, .int .u16 0, .int .u8 0]) 0 w4 := ⟨((St.nil hb5 hb5.size).cons bR).cons b0, by omega, by simp; omega, bx⟩
  clear b0 bR bx hb5
  refine wp_region_walk0 (by kernel_rfl) (StN w w.heap.size _ w2.heap.size 27 (fun st => if st = 0 then #[.int .u8 k0, .int .u32 0, .int .u32 0, .int .u16 0, .int .u16 0, .int .u8 1, .int .u8 0, .int .u8 0, .int .u8 0, .int .u32 0, .int .u32 0, .int .i64 0, .int .i64 length, .int .u8 0, .int .u32 0, .int .u32 0, .int .u16 0, .int .u16 0, .int .u8 0] else if st = 1 then #[.int .u8 k0, .int .u32 k2, .int .u32 0, .int .u16 0, .int .u16 0, .int .u8 1, .int .u8 0, .int .u8 0, .int .u8 0, .int .u32 0, .int .u32 0, .int .i64 0, .int .i64 length, .int .u8 0, .int .u32 0, .int .u32 0, .int .u16 0, .int .u16 0, .int .u8 0] else #[.int .u8 k0, .int .u32 k2, .int .u32 k1, .int .u16 0, .int .u16 0, .int .u8 1, .int .u8 0, .int .u8 0, .int .u8 0, .int .u32 0, .int .u32 0, .int .i64 0, .int .i64 length, .int .u8 0, .int .u32 0, .int .u32 0, .int .u16 0, .int .u16 0, .int .u8 0])) [8, 11] GTop [0, 1, 2, 3, 4, 5, 6, 7, 9, 10, 8, 11] (by kernel_rfl) hSt.drew ?_
  iterate 10
    apply Walk.one rfl rfl rfl
    case hrun =>
      intro c W hE hF
      have hc0 := (hE.1.get 0 rfl).cell
      go_wp2_with fail
      exact TextPost.mk ⟨GTop.mk, hE⟩
    case hv => rfl
  apply Walk.keep 0 rfl rfl rfl rfl
  case hrun =>
    intro W hE hF
    have hcx := hE.2.2.2.cell
    have hfx := hE.2.2.2.frozen
    go_wp2_with fail
    exact TextPost.mk ⟨GTop.mk, hE.set 1 (.int .u32 k2) rfl⟩
  case hv => rfl
  apply Walk.keep 1 rfl rfl rfl rfl
  case hrun =>
    intro W hE hF
    have hcx := hE.2.2.2.cell
    have hfx := hE.2.2.2.frozen
    go_wp2_with fail
    exact TextPost.mk ⟨GTop.mk, hE.set 2 (.int .u32 k1) rfl⟩
  case hv => rfl
  refine Walk.done (fun w5 hE hF => ?_)
  have b0 := hE.1.get 0 rfl
  have bR := hE.1.get 1 rfl
  have bx : Blk w5 w2.heap.size 27 #[.int .u8 k0, .int .u32 k2, .int .u32 k1, .int .u16 0, .int .u16 0, .int .u8 1, .int .u8 0, .int .u8 0, .int .u8 0, .int .u32 0, .int .u32 0, .int .i64 0, .int .i64 length, .int .u8 0, .int .u32 0, .int .u32 0, .int .u16 0, .int .u16 0, .int .u8 0] := hE.2.2.2
  have hb5 := hE.1.1
  clear hSt hE hF
  go_wp2_with fail
  have hSt : StN w w.heap.size _ w2.heap.size 27 (fun st => if st = 0 then #[.int .u8 k0, .int .u32 k2, .int .u32 k1, .int .u16 0, .int .u16 0, .int .u8 1, .int .u8 0, .int .u8 0, .int .u8 0, .int .u32 0, .int .u32 0, .int .i64 0, .int .i64 length, .int .u8 0, .int .u32 0, .int .u32 0, .int .u16 0, .int .u16 0, .int .u8 0] else if st = 1 then #[.int .u8 k0, .int .u32 k2, .int .u32 k1, .int .u16 k4, .int .u16 0, .int .u8 1, .int .u8 0, .int .u8 0, .int .u8 0, .int .u32 0, .int .u32 0, .int .i64 0, .int .i64 length, .int .u8 0, .int .u32 0, .int .u32 0, .int .u16 0, .int .u16 0, .int .u8 0] else #[.int .u8 k0, .int .u32 k2, .int .u32 k1, .int .u16 k4, .int .u16 k3, .int .u8 1, .int .u8 0, .int .u8 0, .int .u8 0, .int .u32 0, .int .u32 0, .int .i64 0, .int .i64 length, .int .u8 0, .int .u32 0, .int .u32 0, .int .u16 0, .int .u16 0, .int .u8 0]) 0 w5 := ⟨((St.nil hb5 hb5.size).cons bR).cons b0, by omega, by simp; omega, bx⟩
  clear b0 bR bx hb5
  refine wp_region_walk0 (by kernel_rfl) (StN w w.heap.size _ w2.heap.size 27 (fun st => if st = 0 then #[.int .u8 k0, .int .u32 k2, .int .u32 k1, .int .u16 0, .int .u16 0, .int .u8 1, .int .u8 0, .int .u8 0, .int .u8 0, .int .u32 0, .int .u32 0, .int .i64 0, .int .i64 length, .int .u8 0, .int .u32 0, .int .u32 0, .int .u16 0, .int .u16 0, .int .u8 0] else if st = 1 then #[.int .u8 k0, .int .u32 k2, .int .u32 k1, .int .u16 k4, .int .u16 0, .int .u8 1, .int .u8 0, .int .u8 0, .int .u8 0, .int .u32 0, .int .u32 0, .int .i64 0, .int .i64 length, .int .u8 0, .int .u32 0, .int .u32 0, .int .u16 0, .int .u16 0, .int .u8 0] else #[.int .u8 k0, .int .u32 k2, .int .u32 k1, .int .u16 k4, .int .u16 k3, .int .u8 1, .int .u8 0, .int .u8 0, .int .u8 0, .int .u32 0, .int .u32 0, .int .i64 0, .int .i64 length, .int .u8 0, .int .u32 0, .int .u32 0, .int .u16 0, .int .u16 0, .int .u8 0])) [8, 11] GTop [0, 1, 2, 3, 4, 5, 6, 7, 9, 10, 8, 11] (by kernel_rfl) hSt.drew ?_
  iterate 10
    apply Walk.one rfl rfl rfl
    case hrun =>
      intro c W hE hF
      have hc0 := (hE.1.get 0 rfl).cell
      go_wp2_with fail
      exact TextPost.mk ⟨GTop.mk, hE⟩
    case hv => rfl
  apply Walk.keep 0 rfl rfl rfl rfl
  case hrun =>
    intro W hE hF
    have hcx := hE.2.2.2.cell
    have hfx := hE.2.2.2.frozen
    go_wp2_with fail
    exact TextPost.mk ⟨GTop.mk, hE.set 3 (.int .u16 k4) rfl⟩
  case hv => rfl
  apply Walk.keep 1 rfl rfl rfl rfl
  case hrun =>
    intro W hE hF
    have hcx := hE.2.2.2.cell
    have hfx := hE.2.2.2.frozen
    go_wp2_with fail
    exact TextPost.mk ⟨GTop.mk, hE.set 4 (.int .u16 k3) rfl⟩
  case hv => rfl
  refine Walk.done (fun w6 hE hF => ?_)
  have b0 := hE.1.get 0 rfl
  have bR := hE.1.get 1 rfl
  have bx : Blk w6 w2.heap.size 27 #[.int .u8 k0, .int .u32 k2, .int .u32 k1, .int .u16 k4, .int .u16 k3, .int .u8 1, .int .u8 0, .int .u8 0, .int .u8 0, .int .u32 0, .int .u32 0, .int .i64 0, .int .i64 length, .int .u8 0, .int .u32 0, .int .u32 0, .int .u16 0, .int .u16 0, .int .u8 0] := hE.2.2.2
  have hb5 := hE.1.1
  clear hSt hE hF
  have hc0 := b0.cell
  go_wp2_with fail
  clear hc0 h4
  generalize (fl : Int) / 4 % 256 % 2 = z1 at *
  generalize (fl : Int) / 4 % 256 = z2 at *
  have hSt : StN w w.heap.size _ w2.heap.size 27 (fun st => if st = 0 then #[.int .u8 k0, .int .u32 k2, .int .u32 k1, .int .u16 k4, .int .u16 k3, .int .u8 1, .int .u8 0, .int .u8 0, .int .u8 0, .int .u32 0, .int .u32 0, .int .i64 0, .int .i64 length, .int .u8 0, .int .u32 0, .int .u32 0, .int .u16 0, .int .u16 0, .int .u8 0] else if st = 1 then #[.int .u8 k0, .int .u32 k2, .int .u32 k1, .int .u16 k4, .int .u16 k3, .int .u8 1, .int .u8 0, .int .u8 0, .int .u8 0, .int .u32 ackn, .int .u32 0, .int .i64 0, .int .i64 length, .int .u8 0, .int .u32 0, .int .u32 0, .int .u16 0, .int .u16 0, .int .u8 0] else if st = 2 then #[.int .u8 k0, .int .u32 k2, .int .u32 k1, .int .u16 k4, .int .u16 k3, .int .u8 1, .int .u8 0, .int .u8 0, .int .u8 0, .int .u32 ackn, .int .u32 ((seqn + ex) % 4294967296), .int .i64 0, .int .i64 length, .int .u8 0, .int .u32 0, .int .u32 0, .int .u16 0, .int .u16 0, .int .u8 0] else if st = 3 then #[.int .u8 k0, .int .u32 k2, .int .u32 k1, .int .u16 k4, .int .u16 k3, .int .u8 1, .int .u8 0, .int .u8 0, .int .u8 0, .int .u32 ackn, .int .u32 ((seqn + ex) % 4294967296), .int .i64 window, .int .i64 length, .int .u8 0, .int .u32 0, .int .u32 0, .int .u16 0, .int .u16 0, .int .u8 0] else #[.int .u8 k0, .int .u32 k2, .int .u32 k1, .int .u16 k4, .int .u16 k3, .int .u8 1, .int .u8 0, .int .u8 0, .int .u8 0, .int .u32 ackn, .int .u32 ((seqn + ex) % 4294967296), .int .i64 window, .int .i64 0, .int .u8 0, .int .u32 0, .int .u32 0, .int .u16 0, .int .u16 0, .int .u8 0]) 0 w6 := ⟨((St.nil hb5 hb5.size).cons bR).cons b0, by omega, by simp; omega, bx⟩
  clear b0 bR bx hb5
  refine wp_region_walk0 (by kernel_rfl) (StN w w.heap.size _ w2.heap.size 27 (fun st => if st = 0 then #[.int .u8 k0, .int .u32 k2, .int .u32 k1, .int .u16 k4, .int .u16 k3, .int .u8 1, .int .u8 0, .int .u8 0, .int .u8 0, .int .u32 0, .int .u32 0, .int .i64 0, .int .i64 length, .int .u8 0, .int .u32 0, .int .u32 0, .int .u16 0, .int .u16 0, .int .u8 0] else if st = 1 then #[.int .u8 k0, .int .u32 k2, .int .u32 k1, .int .u16 k4, .int .u16 k3, .int .u8 1, .int .u8 0, .int .u8 0, .int .u8 0, .int .u32 ackn, .int .u32 0, .int .i64 0, .int .i64 length, .int .u8 0, .int .u32 0, .int .u32 0, .int .u16 0, .int .u16 0, .int .u8 0] else if st = 2 then #[.int .u8 k0, .int .u32 k2, .int .u32 k1, .int .u16 k4, .int .u16 k3, .int .u8 1, .int .u8 0, .int .u8 0, .int .u8 0, .int .u32 ackn, .int .u32 ((seqn + ex) % 4294967296), .int .i64 0, .int .i64 length, .int .u8 0, .int .u32 0, .int .u32 0, .int .u16 0, .int .u16 0, .int .u8 0] else if st = 3 then #[.int .u8 k0, .int .u32 k2, .int .u32 k1, .int .u16 k4, .int .u16 k3, .int .u8 1, .int .u8 0, .int .u8 0, .int .u8 0, .int .u32 ackn, .int .u32 ((seqn + ex) % 4294967296), .int .i64 window, .int .i64 length, .int .u8 0, .int .u32 0, .int .u32 0, .int .u16 0, .int .u16 0, .int .u8 0] else #[.int .u8 k0, .int .u32 k2, .int .u32 k1, .int .u16 k4, .int .u16 k3, .int .u8 1, .int .u8 0, .int .u8 0, .int .u8 0, .int .u32 ackn, .int .u32 ((seqn + ex) % 4294967296), .int .i64 window, .int .i64 0, .int .u8 0, .int .u32 0, .int .u32 0, .int .u16 0, .int .u16 0, .int .u8 0])) [16, 18, 20, 22] GTop [0, 1, 2, 3, 4, 5, 6, 7, 8, 9, 10, 11, 12, 13, 14, 15, 17, 19, 21, 16, 18, 20, 22] (by kernel_rfl) hSt.drew ?_
  iterate 19
    apply Walk.one rfl rfl rfl
    case hrun =>
      intro c W hE hF
      have hc0 := (hE.1.get 0 rfl).cell
      go_wp2_with (first | (go_at_call 74; refine (HX.out _).mono ?_; rintro e wz ⟨rfl, rfl⟩) | fail)
      exact TextPost.mk ⟨GTop.mk, hE⟩
    case hv => rfl
  apply Walk.keep 0 rfl rfl rfl rfl
  case hrun =>
    intro W hE hF
    have hcx := hE.2.2.2.cell
    have hfx := hE.2.2.2.frozen
    go_wp2_with fail
    exact TextPost.mk ⟨GTop.mk, hE.set 9 (.int .u32 ackn) rfl⟩
  case hv => rfl
  apply Walk.keep 1 rfl rfl rfl rfl
  case hrun =>
    intro W hE hF
    have hcx := hE.2.2.2.cell
    have hfx := hE.2.2.2.frozen
    go_wp2_with fail
    exact TextPost.mk ⟨GTop.mk, hE.set 10 (.int .u32 ((seqn + ex) % 4294967296)) rfl⟩
  case hv => rfl
  apply Walk.keep 2 rfl rfl rfl rfl
  case hrun =>
    intro W hE hF
    have hcx := hE.2.2.2.cell
    have hfx := hE.2.2.2.frozen
    go_wp2_with fail
    exact TextPost.mk ⟨GTop.mk, hE.set 11 (.int .i64 window) rfl⟩
  case hv => rfl
  apply Walk.keep 3 rfl rfl rfl rfl
  case hrun =>
    intro W hE hF
    have hcx := hE.2.2.2.cell
    have hfx := hE.2.2.2.frozen
    go_wp2_with fail
    exact TextPost.mk ⟨GTop.mk, hE.set 12 (.int .i64 0) rfl⟩
  case hv => rfl
  refine Walk.done (fun w7 hE hF => ?_)
  have b0 := hE.1.get 0 rfl
  have bR := hE.1.get 1 rfl
  have bx : Blk w7 w2.heap.size 27 #[.int .u8 k0, .int .u32 k2, .int .u32 k1, .int .u16 k4, .int .u16 k3, .int .u8 1, .int .u8 0, .int .u8 0, .int .u8 0, .int .u32 ackn, .int .u32 ((seqn + ex) % 4294967296), .int .i64 window, .int .i64 0, .int .u8 0, .int .u32 0, .int .u32 0, .int .u16 0, .int .u16 0, .int .u8 0] := hE.2.2.2
  have hb5 := hE.1.1
  clear hSt hE hF
  have hc0 := b0.cell
  have hcx := bx.cell
  have hfx := bx.frozen
  cases op1
  · go_upto_region 25 with (fail)
    have bx2 : Blk _ _ _ #[.int .u8 k0, .int .u32 k2, .int .u32 k1, .int .u16 k4, .int .u16 k3, .int .u8 1, .int .u8 16, .int .u8 0, .int .u8 0, .int .u32 ackn, .int .u32 ((seqn + ex) % 4294967296), .int .i64 window, .int .i64 0, .int .u8 0, .int .u32 0, .int .u32 0, .int .u16 0, .int .u16 0, .int .u8 0] := bx.set 6 (.int .u8 16)
    have bR2 := bR.far (p := ⟨w2.heap.size, 6, none⟩) (by show w.heap.size + 1 ≠ w2.heap.size; omega) (.int .u8 16)
    have hb6 : Below w.heap.size w (w7.setCell ⟨w2.heap.size, 6, none⟩ (.int .u8 16)) := hb5.setCell (by show w.heap.size ≤ w2.heap.size; omega) _
    clear hcx hfx hc0
    go_wp2_with (first | ((with_reducible refine look_load ?_); refine wpList_load_row rfl _ _ rfl _ rfl _ _ _ _ bx2 Tryd.underlying27 rfl (by kernel_rfl) ?_) | ((with_reducible refine look_store ?_); refine wpList_store_row rfl _ _ _ rfl _ _ rfl rfl _ _ bR2 (by kernel_rfl) (by simp) (by simp [Value.oneCell']) ?_) | fail)
    exact bodyPost_ret (results_cell_tmp Tryd.results42 _ _ _ _ _ _ _ rfl (setRow_heap _ _ _ _ _ _ bR2) Tryd.underlying27 rfl (by kernel_rfl)) rfl ⟨by rw [← Hak.out]; rfl, below_setRow hb6 (by omega) _⟩
  · cases op2
    · go_upto_region 25 with (fail)
      have bx2 : Blk _ _ _ #[.int .u8 k0, .int .u32 k2, .int .u32 k1, .int .u16 k4, .int .u16 k3, .int .u8 1, .int .u8 16, .int .u8 0, .int .u8 0, .int .u32 ackn, .int .u32 ((seqn + ex) % 4294967296), .int .i64 window, .int .i64 0, .int .u8 0, .int .u32 0, .int .u32 0, .int .u16 0, .int .u16 0, .int .u8 0] := bx.set 6 (.int .u8 16)
      have bR2 := bR.far (p := ⟨w2.heap.size, 6, none⟩) (by show w.heap.size + 1 ≠ w2.heap.size; omega) (.int .u8 16)
      have hb6 : Below w.heap.size w (w7.setCell ⟨w2.heap.size, 6, none⟩ (.int .u8 16)) := hb5.setCell (by show w.heap.size ≤ w2.heap.size; omega) _
      clear hcx hfx hc0
      go_wp2_with (first | ((with_reducible refine look_load ?_); refine wpList_load_row rfl _ _ rfl _ rfl _ _ _ _ bx2 Tryd.underlying27 rfl (by kernel_rfl) ?_) | ((with_reducible refine look_store ?_); refine wpList_store_row rfl _ _ _ rfl _ _ rfl rfl _ _ bR2 (by kernel_rfl) (by simp) (by simp [Value.oneCell']) ?_) | fail)
      exact bodyPost_ret (results_cell_tmp Tryd.results42 _ _ _ _ _ _ _ rfl (setRow_heap _ _ _ _ _ _ bR2) Tryd.underlying27 rfl (by kernel_rfl)) rfl ⟨by rw [← Hak.out]; rfl, below_setRow hb6 (by omega) _⟩
    · go_upto_region 25 with (fail)
      have bx2 : Blk _ _ _ #[.int .u8 k0, .int .u32 k2, .int .u32 k1, .int .u16 k4, .int .u16 k3, .int .u8 1, .int .u8 18, .int .u8 0, .int .u8 0, .int .u32 ackn, .int .u32 ((seqn + ex) % 4294967296), .int .i64 window, .int .i64 0, .int .u8 0, .int .u32 0, .int .u32 0, .int .u16 0, .int .u16 0, .int .u8 0] := (bx.set 6 (.int .u8 16)).set 6 (.int .u8 18)
      have bR2 := (bR.far (p := ⟨w2.heap.size, 6, none⟩) (by show w.heap.size + 1 ≠ w2.heap.size; omega) (.int .u8 16)).far (p := ⟨w2.heap.size, 6, none⟩) (by show w.heap.size + 1 ≠ w2.heap.size; omega) (.int .u8 18)
      have hb6 : Below w.heap.size w ((w7.setCell ⟨w2.heap.size, 6, none⟩ (.int .u8 16)).setCell ⟨w2.heap.size, 6, none⟩ (.int .u8 18)) := (hb5.setCell (by show w.heap.size ≤ w2.heap.size; omega) _).setCell (by show w.heap.size ≤ w2.heap.size; omega) _
      clear hcx hfx hc0
      go_wp2_with (first | ((with_reducible refine look_load ?_); refine wpList_load_row rfl _ _ rfl _ rfl _ _ _ _ bx2 Tryd.underlying27 rfl (by kernel_rfl) ?_) | ((with_reducible refine look_store ?_); refine wpList_store_row rfl _ _ _ rfl _ _ rfl rfl _ _ bR2 (by kernel_rfl) (by simp) (by simp [Value.oneCell']) ?_) | fail)
      exact bodyPost_ret (results_cell_tmp Tryd.results42 _ _ _ _ _ _ _ rfl (setRow_heap _ _ _ _ _ _ bR2) Tryd.underlying27 rfl (by kernel_rfl)) rfl ⟨by rw [← Hak.out]; rfl, below_setRow hb6 (by omega) _⟩

end Go.Proofs.YtebeekjcepjcnaaDoor

namespace Go.Proofs.YtebeekjcepjcnaaDoor
open Go.RowKit Go.Shelf

set_option maxRecDepth 100000 in
set_option maxHeartbeats 4000000 in
theorem rAnswer_q8 (k0 k1 k2 k3 k4 flags code seqn ackn window length q0 q1 q2 q3 q4 qkind : Int) (w : World)
    (HR : ∀ W, Calls Tryd.prog 44 #[.agg #[.int .u8 k0, .int .u32 k1, .int .u32 k2, .int .u16 k3, .int .u16 k4, .int .u8 3, .int .u8 flags, .int .u8 8, .int .u8 code, .int .u32 seqn, .int .u32 ackn, .int .i64 window, .int .i64 length, .int .u8 q0, .int .u32 q1, .int .u32 q2, .int .u16 q3, .int .u16 q4, .int .u8 qkind]] W fun e w' => e = .returned (.bool true) ∧ Below W.heap.size W w') :
    Calls Tryd.prog 42 #[.agg #[.int .u8 k0, .int .u32 k1, .int .u32 k2, .int .u16 k3, .int .u16 k4, .int .u8 3, .int .u8 flags, .int .u8 8, .int .u8 code, .int .u32 seqn, .int .u32 ackn, .int .i64 window, .int .i64 length, .int .u8 q0, .int .u32 q1, .int .u32 q2, .int .u16 q3, .int .u16 q4, .int .u8 qkind]] w fun e w' => e = .returned (.tuple #[.agg #[.int .u8 k0, .int .u32 k2, .int .u32 k1, .int .u16 k4, .int .u16 k3, .int .u8 4, .int .u8 0, .int .u8 0, .int .u8 0, .int .u32 0, .int .u32 0, .int .i64 0, .int .i64 length, .int .u8 0, .int .u32 0, .int .u32 0, .int .u16 0, .int .u16 0, .int .u8 0], .int .i64 0]) ∧ Below w.heap.size w w' := by
  replace HR := Lib.hid HR
  go_enter Tryd.func42, Tryd.ntmps42
  go_upto_region 1 with (fail)
  refine wp_name2 ?_
  intro w1 hb1 hs1 b0 bR
  clear hs1
  go_upto_region 3 with (first | ((with_reducible refine look_load ?_); refine wpList_load_row rfl _ _ rfl _ rfl _ _ _ _ b0 Tryd.underlying27 rfl (by kernel_rfl) ?_) | (go_at_call 44; refine (HR.out _).mono ?_; rintro e w2 ⟨rfl, l2⟩) | fail)
  have bR' := bR.below l2 bR.lt
  have hb2 := hb1.trans (l2.mono hb1.size)
  have b0' := b0.below l2 b0.lt
  clear b0 bR l2 hb1
  have hc0 := b0'.cell
  go_upto_region 4 with (first | ((with_reducible refine look_store ?_); refine wpList_store_new rfl _ _ _ rfl _ _ rfl rfl _ _ rfl (by kernel_rfl) (by simp) (by simp [Value.oneCell']) ?_) | fail)
  clear hc0
  try dsimp only [Act.put]
  refine wp_name1 ?_
  intro w3 hb3 hs3 bx0
  have b0z := b0'.below hb3 b0'.lt
  have bRz := bR'.below hb3 bR'.lt
  have hb4 := hb2.trans (hb3.mono hb2.size)
  have hlR := bR'.lt
  clear hs3 b0' bR' hb2 hb3
  have hc0 := b0z.cell
  have hcx := bx0.cell
  have hfx := bx0.frozen
  go_wp2_with fail
  have bx : Blk _ _ _ #[.int .u8 k0, .int .u32 0, .int .u32 0, .int .u16 0, .int .u16 0, .int .u8 3, .int .u8 0, .int .u8 0, .int .u8 0, .int .u32 0, .int .u32 0, .int .i64 0, .int .i64 length, .int .u8 0, .int .u32 0, .int .u32 0, .int .u16 0, .int .u16 0, .int .u8 0] := bx0.set 0 (.int .u8 k0)
  have b0 := b0z.far (p := ⟨w2.heap.size, 0, none⟩) (by show w.heap.size ≠ w2.heap.size; omega) (.int .u8 k0)
  have bR := bRz.far (p := ⟨w2.heap.size, 0, none⟩) (by show w.heap.size + 1 ≠ w2.heap.size; omega) (.int .u8 k0)
  have hb5 := hb4.setCell (p := ⟨w2.heap.size, 0, none⟩) (by show w.heap.size ≤ w2.heap.size; omega) (.int .u8 k0)
  clear hc0 hcx hfx b0z bRz hb4 bx0
  generalize w3.setCell ⟨w2.heap.size, 0, none⟩ (.int .u8 k0) = w4 at *
  have hSt : StN w w.heap.size _ w2.heap.size 27 (fun st => if st = 0 then #[.int .u8 k0, .int .u32 0, .int .u32 0, .int .u16 0, .int .u16 0, .int .u8 3, .int .u8 0, .int .u8 0, .int .u8 0, .int .u32 0, .int .u32 0, .int .i64 0, .int .i64 length, .int .u8 0, .int .u32 0, .int .u32 0, .int .u16 0, .int .u16 0, .int .u8 0] else if st = 1 then #[.int .u8 k0, .int .u32 k2, .int .u32 0, .int .u16 0, .int .u16 0, .int .u8 3, .int .u8 0, .int .u8 0, .int .u8 0, .int .u32 0, .int .u32 0, .int .i64 0, .int .i64 length, .int .u8 0, .int .u32 0, .int .u32 0, .int .u16 0, .int .u16 0, .int .u8 0] else #[.int .u8 k0, .int .u32 k2, .int .u32 k1, .int .u16 0, .int .u16 0, .int .u8 3, .int .u8 0, .int .u8 0, .int .u8 0, .int .u32 0, .int .u32 0, .int .i64 0, .int .i64 length, .int .u8 0, .int .u32 0, .int .u32 0, .int .u16 0, .int .u16 0, .int .u8 0]) 0 w4 := ⟨((St.nil hb5 hb5.size).cons bR).cons b0, by omega, by simp; omega, bx⟩
  clear b0 bR bx hb5
  refine wp_region_walk0 (by kernel_rfl) (StN w w.heap.size _ w2.heap.size 27 (fun st => if st = 0 then #[.int .u8 k0, .int .u32 0, .int .u32 0, .int .u16 0, .int .u16 0, .int .u8 3, .int .u8 0, .int .u8 0, .int .u8 0, .int .u32 0, .int .u32 0, .int .i64 0, .int .i64 length, .int .u8 0, .int .u32 0, .int .u32 0, .int .u16 0, .int .u16 0, .int .u8 0] else if st = 1 then #[.int .u8 k0, .int .u32 k2, .int .u32 0, .int .u16 0, .int .u16 0, .int .u8 3, .int .u8 0, .int .u8 0, .int .u8 0, .int .u32 0, .int .u32 0, .int .i64 0, .int .i64 length, .int .u8 0, .int .u32 0, .int .u32 0, .int .u16 0, .int .u16 0, .int .u8 0] else #[.int .u8 k0, .int .u32 k2, .int .u32 k1, .int .u16 0, .int .u16 0, .int .u8 3, .int .u8 0, .int .u8 0, .int .u8 0, .int .u32 0, .int .u32 0, .int .i64 0, .int .i64 length, .int .u8 0, .int .u32 0, .int .u32 0, .int .u16 0, .int .u16 0, .int .u8 0])) [8, 11] GTop [0, 1, 2, 3, 4, 5, 6, 7, 9, 10, 8, 11] (by kernel_rfl) hSt.drew ?_
  iterate 10
    apply Walk.one rfl rfl rfl
    case hrun =>
      intro c W hE hF
      have hc0 := (hE.1.get 0 rfl).cell
      go_wp2_with fail
      exact TextPost.mk ⟨GTop.mk, hE⟩
    case hv => rfl
  apply Walk.keep 0 rfl rfl rfl rfl
  case hrun =>
    intro W hE hF
    have hcx := hE.2.2.2.cell
    have hfx := hE.2.2.2.frozen
    go_wp2_with fail
    exact TextPost.mk ⟨GTop.mk, hE.set 1 (.int .u32 k2) rfl⟩
  case hv => rfl
  apply Walk.keep 1 rfl rfl rfl rfl
  case hrun =>
    intro W hE hF
    have hcx := hE.2.2.2.cell
    have hfx := hE.2.2.2.frozen
    go_wp2_with fail
    exact TextPost.mk ⟨GTop.mk, hE.set 2 (.int .u32 k1) rfl⟩
  case hv => rfl
  refine Walk.done (fun w5 hE hF => ?_)
  have b0 := hE.1.get 0 rfl
  have bR := hE.1.get 1 rfl
  have bx : Blk w5 w2.heap.size 27 #[.int .u8 k0, .int .u32 k2, .int .u32 k1, .int .u16 0, .int .u16 0, .int .u8 3, .int .u8 0, .int .u8 0, .int .u8 0, .int .u32 0, .int .u32 0, .int .i64 0, .int .i64 length, .int .u8 0, .int .u32 0, .int .u32 0, .int .u16 0, .int .u16 0, .int .u8 0] := hE.2.2.2
  have hb5 := hE.1.1
  clear hSt hE hF
  go_wp2_with fail
  have hSt : StN w w.heap.size _ w2.heap.size 27 (fun st => if st = 0 then #[.int .u8 k0, .int .u32 k2, .int .u32 k1, .int .u16 0, .int .u16 0, .int .u8 3, .int .u8 0, .int .u8 0, .int .u8 0, .int .u32 0, .int .u32 0, .int .i64 0, .int .i64 length, .int .u8 0, .int .u32 0, .int .u32 0, .int .u16 0, .int .u16 0, .int .u8 0] else if st = 1 then #[.int .u8 k0, .int .u32 k2, .int .u32 k1, .int .u16 k4, .int .u16 0, .int .u8 3, .int .u8 0, .int .u8 0, .int .u8 0, .int .u32 0, .int .u32 0, .int .i64 0, .int .i64 length, .int .u8 0, .int .u32 0, .int .u32 0, .int .u16 0, .int .u16 0, .int .u8 0] else #[.int .u8 k0, .int .u32 k2, .int .u32 k1, .int .u16 k4, .int .u16 k3, .int .u8 3, .int .u8 0, .int .u8 0, .int .u8 0, .int .u32 0, .int .u32 0, .int .i64 0, .int .i64 length, .int .u8 0, .int .u32 0, .int .u32 0, .int .u16 0, .int .u16 0, .int .u8 0]) 0 w5 := ⟨((St.nil hb5 hb5.size).cons bR).cons b0, by omega, by simp; omega, bx⟩
  clear b0 bR bx hb5
  refine wp_region_walk0 (by kernel_rfl) (StN w w.heap.size _ w2.heap.size 27 (fun st => if st = 0 then #[.int .u8 k0, .int .u32 k2, .int .u32 k1, .int .u16 0, .int .u16 0, .int .u8 3, .int .u8 0, .int .u8 0, .int .u8 0, .int .u32 0, .int .u32 0, .int .i64 0, .int .i64 length, .int .u8 0, .int .u32 0, .int .u32 0, .int .u16 0, .int .u16 0, .int .u8 0] else if st = 1 then #[.int .u8 k0, .int .u32 k2, .int .u32 k1, .int .u16 k4, .int .u16 0, .int .u8 3, .int .u8 0, .int .u8 0, .int .u8 0, .int .u32 0, .int .u32 0, .int .i64 0, .int .i64 length, .int .u8 0, .int .u32 0, .int .u32 0, .int .u16 0, .int .u16 0, .int .u8 0] else #[.int .u8 k0, .int .u32 k2, .int .u32 k1, .int .u16 k4, .int .u16 k3, .int .u8 3, .int .u8 0, .int .u8 0, .int .u8 0, .int .u32 0, .int .u32 0, .int .i64 0, .int .i64 length, .int .u8 0, .int .u32 0, .int .u32 0, .int .u16 0, .int .u16 0, .int .u8 0])) [8, 11] GTop [0, 1, 2, 3, 4, 5, 6, 7, 9, 10, 8, 11] (by kernel_rfl) hSt.drew ?_
  iterate 10
    apply Walk.one rfl rfl rfl
    case hrun =>
      intro c W hE hF
      have hc0 := (hE.1.get 0 rfl).cell
      go_wp2_with fail
      exact TextPost.mk ⟨GTop.mk, hE⟩
    case hv => rfl
  apply Walk.keep 0 rfl rfl rfl rfl
  case hrun =>
    intro W hE hF
    have hcx := hE.2.2.2.cell
    have hfx := hE.2.2.2.frozen
    go_wp2_with fail
    exact TextPost.mk ⟨GTop.mk, hE.set 3 (.int .u16 k4) rfl⟩
  case hv => rfl
  apply Walk.keep 1 rfl rfl rfl rfl
  case hrun =>
    intro W hE hF
    have hcx := hE.2.2.2.cell
    have hfx := hE.2.2.2.frozen
    go_wp2_with fail
    exact TextPost.mk ⟨GTop.mk, hE.set 4 (.int .u16 k3) rfl⟩
  case hv => rfl
  refine Walk.done (fun w6 hE hF => ?_)
  have b0 := hE.1.get 0 rfl
  have bR := hE.1.get 1 rfl
  have bx : Blk w6 w2.heap.size 27 #[.int .u8 k0, .int .u32 k2, .int .u32 k1, .int .u16 k4, .int .u16 k3, .int .u8 3, .int .u8 0, .int .u8 0, .int .u8 0, .int .u32 0, .int .u32 0, .int .i64 0, .int .i64 length, .int .u8 0, .int .u32 0, .int .u32 0, .int .u16 0, .int .u16 0, .int .u8 0] := hE.2.2.2
  have hb5 := hE.1.1
  clear hSt hE hF
  have hc0 := b0.cell
  have hcx := bx.cell
  have hfx := bx.frozen
  go_upto_region 25 with (fail)
  have bx2 : Blk _ _ _ #[.int .u8 k0, .int .u32 k2, .int .u32 k1, .int .u16 k4, .int .u16 k3, .int .u8 4, .int .u8 0, .int .u8 0, .int .u8 0, .int .u32 0, .int .u32 0, .int .i64 0, .int .i64 length, .int .u8 0, .int .u32 0, .int .u32 0, .int .u16 0, .int .u16 0, .int .u8 0] := bx.set 5 (.int .u8 4)
  have bR2 := bR.far (p := ⟨w2.heap.size, 5, none⟩) (by show w.heap.size + 1 ≠ w2.heap.size; omega) (.int .u8 4)
  have hb6 : Below w.heap.size w (w6.setCell ⟨w2.heap.size, 5, none⟩ (.int .u8 4)) := hb5.setCell (by show w.heap.size ≤ w2.heap.size; omega) _
  clear hcx hfx hc0
  go_wp2_with (first | ((with_reducible refine look_load ?_); refine wpList_load_row rfl _ _ rfl _ rfl _ _ _ _ bx2 Tryd.underlying27 rfl (by kernel_rfl) ?_) | ((with_reducible refine look_store ?_); refine wpList_store_row rfl _ _ _ rfl _ _ rfl rfl _ _ bR2 (by kernel_rfl) (by simp) (by simp [Value.oneCell']) ?_) | fail)
  exact bodyPost_ret (results_cell_tmp Tryd.results42 _ _ _ _ _ _ _ rfl (setRow_heap _ _ _ _ _ _ bR2) Tryd.underlying27 rfl (by kernel_rfl)) rfl ⟨rfl, below_setRow hb6 (by omega) _⟩

set_option maxRecDepth 100000 in
set_option maxHeartbeats 4000000 in
theorem rAnswer_q13 (k0 k1 k2 k3 k4 flags code seqn ackn window length q0 q1 q2 q3 q4 qkind : Int) (w : World)
    (HR : ∀ W, Calls Tryd.prog 44 #[.agg #[.int .u8 k0, .int .u32 k1, .int .u32 k2, .int .u16 k3, .int .u16 k4, .int .u8 3, .int .u8 flags, .int .u8 13, .int .u8 code, .int .u32 seqn, .int .u32 ackn, .int .i64 window, .int .i64 length, .int .u8 q0, .int .u32 q1, .int .u32 q2, .int .u16 q3, .int .u16 q4, .int .u8 qkind]] W fun e w' => e = .returned (.bool true) ∧ Below W.heap.size W w') :
    Calls Tryd.prog 42 #[.agg #[.int .u8 k0, .int .u32 k1, .int .u32 k2, .int .u16 k3, .int .u16 k4, .int .u8 3, .int .u8 flags, .int .u8 13, .int .u8 code, .int .u32 seqn, .int .u32 ackn, .int .i64 window, .int .i64 length, .int .u8 q0, .int .u32 q1, .int .u32 q2, .int .u16 q3, .int .u16 q4, .int .u8 qkind]] w fun e w' => e = .returned (.tuple #[.agg #[.int .u8 k0, .int .u32 k2, .int .u32 k1, .int .u16 k4, .int .u16 k3, .int .u8 4, .int .u8 0, .int .u8 14, .int .u8 0, .int .u32 0, .int .u32 0, .int .i64 0, .int .i64 length, .int .u8 0, .int .u32 0, .int .u32 0, .int .u16 0, .int .u16 0, .int .u8 0], .int .i64 0]) ∧ Below w.heap.size w w' := by
  replace HR := Lib.hid HR
  go_enter Tryd.func42, Tryd.ntmps42
  go_upto_region 1 with (fail)
  refine wp_name2 ?_
  intro w1 hb1 hs1 b0 bR
  clear hs1
  go_upto_region 3 with (first | ((with_reducible refine look_load ?_); refine wpList_load_row rfl _ _ rfl _ rfl _ _ _ _ b0 Tryd.underlying27 rfl (by kernel_rfl) ?_) | (go_at_call 44; refine (HR.out _).mono ?_; rintro e w2 ⟨rfl, l2⟩) | fail)
  have bR' := bR.below l2 bR.lt
  have hb2 := hb1.trans (l2.mono hb1.size)
  have b0' := b0.below l2 b0.lt
  clear b0 bR l2 hb1
  have hc0 := b0'.cell
  go_upto_region 4 with (first | ((with_reducible refine look_store ?_); refine wpList_store_new rfl _ _ _ rfl _ _ rfl rfl _ _ rfl (by kernel_rfl) (by simp) (by simp [Value.oneCell']) ?_) | fail)
  clear hc0
  try dsimp only [Act.put]
  refine wp_name1 ?_
  intro w3 hb3 hs3 bx0
  have b0z := b0'.below hb3 b0'.lt
  have bRz := bR'.below hb3 bR'.lt
  have hb4 := hb2.trans (hb3.mono hb2.size)
  have hlR := bR'.lt
  clear hs3 b0' bR' hb2 hb3
  have hc0 := b0z.cell
  have hcx := bx0.cell
  have hfx := bx0.frozen
  go_wp2_with fail
  have bx : Blk _ _ _ #[.int .u8 k0, .int .u32 0, .int .u32 0, .int .u16 0, .int .u16 0, .int .u8 3, .int .u8 0, .int .u8 0, .int .u8 0, .int .u32 0, .int .u32 0, .int .i64 0, .int .i64 length, .int .u8 0, .int .u32 0, .int .u32 0, .int .u16 0, .int .u16 0, .int .u8 0] := bx0.set 0 (.int .u8 k0)
  have b0 := b0z.far (p := ⟨w2.heap.size, 0, none⟩) (by show w.heap.size ≠ w2.heap.size; omega) (.int .u8 k0)
  have bR := bRz.far (p := ⟨w2.heap.size, 0, none⟩) (by show w.heap.size + 1 ≠ w2.heap.size; omega) (.int .u8 k0)
  have hb5 := hb4.setCell (p := ⟨w2.heap.size, 0, none⟩) (by show w.heap.size ≤ w2.heap.size; omega) (.int .u8 k0)
  clear hc0 hcx hfx b0z bRz hb4 bx0
  generalize w3.setCell ⟨w2.heap.size, 0, none⟩ (.int .u8 k0) = w4 at *
  have hSt : StN w w.heap.size _ w2.heap.size 27 (fun st => if st = 0 then #[.int .u8 k0, .int .u32 0, .int .u32 0, .int .u16 0, .int .u16 0, .int .u8 3, .int .u8 0, .int .u8 0, .int .u8 0, .int .u32 0, .int .u32 0, .int .i64 0, .int .i64 length, .int .u8 0, .int .u32 0, .int .u32 0, .int .u16 0, .int .u16 0, .int .u8 0] else if st = 1 then #[.int .u8 k0, .int .u32 k2, .int .u32 0, .int .u16 0, .int .u16 0, .int .u8 3, .int .u8 0, .int .u8 0, .int .u8 0, .int .u32 0, .int .u32 0, .int .i64 0, .int .i64 length, .int .u8 0, .int .u32 0, .int .u32 0, .int .u16 0, .int .u16 0, .int .u8 0] else #[.int .u8 k0, .int .u32 k2, .int .u32 k1, .int .u16 0, .int .u16 0, .int .u8 3, .int .u8 0, .int .u8 0, .int .u8 0, .int .u32 0, .int .u32 0, .int .i64 0, .int .i64 length, .int .u8 0, .int .u32 0, .int .u32 0, .int .u16 0, .int .u16 0, .int .u8 0]) 0 w4 := ⟨((St.nil hb5 hb5.size).cons bR).cons b0, by omega, by simp; omega, bx⟩
  clear b0 bR bx hb5
  refine wp_region_walk0 (by kernel_rfl) (StN w w.heap.size _ w2.heap.size 27 (fun st => if st = 0 then #[.int .u8 k0, .int .u32 0, .int .u32 0, .int .u16 0, .int .u16 0, .int .u8 3, .int .u8 0, .int .u8 0, .int .u8 0, .int .u32 0, .int .u32 0, .int .i64 0, .int .i64 length, .int .u8 0, .int .u32 0, .int .u32 0, .int .u16 0, .int .u16 0, .int .u8 0] else if st = 1 then #[.int .u8 k0, .int .u32 k2, .int .u32 0, .int .u16 0, .int .u16 0, .int .u8 3, .int .u8 0, .int .u8 0, .int .u8 0, .int .u32 0, .int .u32 0, .int .i64 0, .int .i64 length, .int .u8 0, .int .u32 0, .int .u32 0, .int .u16 0, .int .u16 0, .int .u8 0] else #[.int .u8 k0, .int .u32 k2, .int .u32 k1, .int .u16 0, .int .u16 0, .int .u8 3, .int .u8 0, .int .u8 0, .int .u8 0, .int .u32 0, .int .u32 0, .int .i64 0, .int .i64 length, .int .u8 0, .int .u32 0, .int .u32 0, .int .u16 0, .int .u16 0, .int .u8 0])) [8, 11] GTop [0, 1, 2, 3, 4, 5, 6, 7, 9, 10, 8, 11] (by kernel_rfl) hSt.drew ?_
  iterate 10
    apply Walk.one rfl rfl rfl
    case hrun =>
      intro c W hE hF
      have hc0 := (hE.1.get 0 rfl).cell
      go_wp2_with fail
      exact TextPost.mk ⟨GTop.mk, hE⟩
    case hv => rfl
  apply Walk.keep 0 rfl rfl rfl rfl
  case hrun =>
    intro W hE hF
    have hcx := hE.2.2.2.cell
    have hfx := hE.2.2.2.frozen
    go_wp2_with fail
    exact TextPost.mk ⟨GTop.mk, hE.set 1 (.int .u32 k2) rfl⟩
  case hv => rfl
  apply Walk.keep 1 rfl rfl rfl rfl
  case hrun =>
    intro W hE hF
    have hcx := hE.2.2.2.cell
    have hfx := hE.2.2.2.frozen
    go_wp2_with fail
    exact TextPost.mk ⟨GTop.mk, hE.set 2 (.int .u32 k1) rfl⟩
  case hv => rfl
  refine Walk.done (fun w5 hE hF => ?_)
  have b0 := hE.1.get 0 rfl
  have bR := hE.1.get 1 rfl
  have bx : Blk w5 w2.heap.size 27 #[.int .u8 k0, .int .u32 k2, .int .u32 k1, .int .u16 0, .int .u16 0, .int .u8 3, .int .u8 0, .int .u8 0, .int .u8 0, .int .u32 0, .int .u32 0, .int .i64 0, .int .i64 length, .int .u8 0, .int .u32 0, .int .u32 0, .int .u16 0, .int .u16 0, .int .u8 0] := hE.2.2.2
  have hb5 := hE.1.1
  clear hSt hE hF
  go_wp2_with fail
  have hSt : StN w w.heap.size _ w2.heap.size 27 (fun st => if st = 0 then #[.int .u8 k0, .int .u32 k2, .int .u32 k1, .int .u16 0, .int .u16 0, .int .u8 3, .int .u8 0, .int .u8 0, .int .u8 0, .int .u32 0, .int .u32 0, .int .i64 0, .int .i64 length, .int .u8 0, .int .u32 0, .int .u32 0, .int .u16 0, .int .u16 0, .int .u8 0] else if st = 1 then #[.int .u8 k0, .int .u32 k2, .int .u32 k1, .int .u16 k4, .int .u16 0, .int .u8 3, .int .u8 0, .int .u8 0, .int .u8 0, .int .u32 0, .int .u32 0, .int .i64 0, .int .i64 length, .int .u8 0, .int .u32 0, .int .u32 0, .int .u16 0, .int .u16 0, .int .u8 0] else #[.int .u8 k0, .int .u32 k2, .int .u32 k1, .int .u16 k4, .int .u16 k3, .int .u8 3, .int .u8 0, .int .u8 0, .int .u8 0, .int .u32 0, .int .u32 0, .int .i64 0, .int .i64 length, .int .u8 0, .int .u32 0, .int .u32 0, .int .u16 0, .int .u16 0, .int .u8 0]) 0 w5 := ⟨((St.nil hb5 hb5.size).cons bR).cons b0, by omega, by simp; omega, bx⟩
  clear b0 bR bx hb5
  refine wp_region_walk0 (by kernel_rfl) (StN w w.heap.size _ w2.heap.size 27 (fun st => if st = 0 then #[.int .u8 k0, .int .u32 k2, .int .u32 k1, .int .u16 0, .int .u16 0, .int .u8 3, .int .u8 0, .int .u8 0, .int .u8 0, .int .u32 0, .int .u32 0, .int .i64 0, .int .i64 length, .int .u8 0, .int .u32 0, .int .u32 0, .int .u16 0, .int .u16 0, .int .u8 0] else if st = 1 then #[.int .u8 k0, .int .u32 k2, .int .u32 k1, .int .u16 k4, .int .u16 0, .int .u8 3, .int .u8 0, .int .u8 0, .int .u8 0, .int .u32 0, .int .u32 0, .int .i64 0, .int .i64 length, .int .u8 0, .int .u32 0, .int .u32 0, .int .u16 0, .int .u16 0, .int .u8 0] else #[.int .u8 k0, .int .u32 k2, .int .u32 k1, .int .u16 k4, .int .u16 k3, .int .u8 3, .int .u8 0, .int .u8 0, .int .u8 0, .int .u32 0, .int .u32 0, .int .i64 0, .int .i64 length, .int .u8 0, .int .u32 0, .int .u32 0, .int .u16 0, .int .u16 0, .int .u8 0])) [8, 11] GTop [0, 1, 2, 3, 4, 5, 6, 7, 9, 10, 8, 11] (by kernel_rfl) hSt.drew ?_
  iterate 10
    apply Walk.one rfl rfl rfl
    case hrun =>
      intro c W hE hF
      have hc0 := (hE.1.get 0 rfl).cell
      go_wp2_with fail
      exact TextPost.mk ⟨GTop.mk, hE⟩
    case hv => rfl
  apply Walk.keep 0 rfl rfl rfl rfl
  case hrun =>
    intro W hE hF
    have hcx := hE.2.2.2.cell
    have hfx := hE.2.2.2.frozen
    go_wp2_with fail
    exact TextPost.mk ⟨GTop.mk, hE.set 3 (.int .u16 k4) rfl⟩
  case hv => rfl
  apply Walk.keep 1 rfl rfl rfl rfl
  case hrun =>
    intro W hE hF
    have hcx := hE.2.2.2.cell
    have hfx := hE.2.2.2.frozen
    go_wp2_with fail
    exact TextPost.mk ⟨GTop.mk, hE.set 4 (.int .u16 k3) rfl⟩
  case hv => rfl
  refine Walk.done (fun w6 hE hF => ?_)
  have b0 := hE.1.get 0 rfl
  have bR := hE.1.get 1 rfl
  have bx : Blk w6 w2.heap.size 27 #[.int .u8 k0, .int .u32 k2, .int .u32 k1, .int .u16 k4, .int .u16 k3, .int .u8 3, .int .u8 0, .int .u8 0, .int .u8 0, .int .u32 0, .int .u32 0, .int .i64 0, .int .i64 length, .int .u8 0, .int .u32 0, .int .u32 0, .int .u16 0, .int .u16 0, .int .u8 0] := hE.2.2.2
  have hb5 := hE.1.1
  clear hSt hE hF
  have hc0 := b0.cell
  have hcx := bx.cell
  have hfx := bx.frozen
  go_upto_region 25 with (fail)
  have bx2 : Blk _ _ _ #[.int .u8 k0, .int .u32 k2, .int .u32 k1, .int .u16 k4, .int .u16 k3, .int .u8 4, .int .u8 0, .int .u8 14, .int .u8 0, .int .u32 0, .int .u32 0, .int .i64 0, .int .i64 length, .int .u8 0, .int .u32 0, .int .u32 0, .int .u16 0, .int .u16 0, .int .u8 0] := (bx.set 5 (.int .u8 4)).set 7 (.int .u8 14)
  have bR2 := (bR.far (p := ⟨w2.heap.size, 5, none⟩) (by show w.heap.size + 1 ≠ w2.heap.size; omega) (.int .u8 4)).far (p := ⟨w2.heap.size, 7, none⟩) (by show w.heap.size + 1 ≠ w2.heap.size; omega) (.int .u8 14)
  have hb6 : Below w.heap.size w ((w6.setCell ⟨w2.heap.size, 5, none⟩ (.int .u8 4)).setCell ⟨w2.heap.size, 7, none⟩ (.int .u8 14)) := (hb5.setCell (by show w.heap.size ≤ w2.heap.size; omega) _).setCell (by show w.heap.size ≤ w2.heap.size; omega) _
  clear hcx hfx hc0
  go_wp2_with (first | ((with_reducible refine look_load ?_); refine wpList_load_row rfl _ _ rfl _ rfl _ _ _ _ bx2 Tryd.underlying27 rfl (by kernel_rfl) ?_) | ((with_reducible refine look_store ?_); refine wpList_store_row rfl _ _ _ rfl _ _ rfl rfl _ _ bR2 (by kernel_rfl) (by simp) (by simp [Value.oneCell']) ?_) | fail)
  exact bodyPost_ret (results_cell_tmp Tryd.results42 _ _ _ _ _ _ _ rfl (setRow_heap _ _ _ _ _ _ bR2) Tryd.underlying27 rfl (by kernel_rfl)) rfl ⟨rfl, below_setRow hb6 (by omega) _⟩

set_option maxRecDepth 100000 in
set_option maxHeartbeats 4000000 in
theorem rAnswer_q17 (k0 k1 k2 k3 k4 flags code seqn ackn window length q0 q1 q2 q3 q4 qkind : Int) (w : World)
    (HR : ∀ W, Calls Tryd.prog 44 #[.agg #[.int .u8 k0, .int .u32 k1, .int .u32 k2, .int .u16 k3, .int .u16 k4, .int .u8 3, .int .u8 flags, .int .u8 17, .int .u8 code, .int .u32 seqn, .int .u32 ackn, .int .i64 window, .int .i64 length, .int .u8 q0, .int .u32 q1, .int .u32 q2, .int .u16 q3, .int .u16 q4, .int .u8 qkind]] W fun e w' => e = .returned (.bool true) ∧ Below W.heap.size W w') :
    Calls Tryd.prog 42 #[.agg #[.int .u8 k0, .int .u32 k1, .int .u32 k2, .int .u16 k3, .int .u16 k4, .int .u8 3, .int .u8 flags, .int .u8 17, .int .u8 code, .int .u32 seqn, .int .u32 ackn, .int .i64 window, .int .i64 length, .int .u8 q0, .int .u32 q1, .int .u32 q2, .int .u16 q3, .int .u16 q4, .int .u8 qkind]] w fun e w' => e = .returned (.tuple #[.agg #[.int .u8 k0, .int .u32 k2, .int .u32 k1, .int .u16 k4, .int .u16 k3, .int .u8 4, .int .u8 0, .int .u8 18, .int .u8 0, .int .u32 0, .int .u32 0, .int .i64 0, .int .i64 length, .int .u8 0, .int .u32 0, .int .u32 0, .int .u16 0, .int .u16 0, .int .u8 0], .int .i64 0]) ∧ Below w.heap.size w w' := by
  replace HR := Lib.hid HR
  go_enter Tryd.func42, Tryd.ntmps42
  go_upto_region 1 with (fail)
  refine wp_name2 ?_
  intro w1 hb1 hs1 b0 bR
  clear hs1
  go_upto_region 3 with (first | ((with_reducible refine look_load ?_); refine wpList_load_row rfl _ _ rfl _ rfl _ _ _ _ b0 Tryd.underlying27 rfl (by kernel_rfl) ?_) | (go_at_call 44; refine (HR.out _).mono ?_; rintro e w2 ⟨rfl, l2⟩) | fail)
  have bR' := bR.below l2 bR.lt
  have hb2 := hb1.trans (l2.mono hb1.size)
  have b0' := b0.below l2 b0.lt
  clear b0 bR l2 hb1
  have hc0 := b0'.cell
  go_upto_region 4 with (first | ((with_reducible refine look_store ?_); refine wpList_store_new rfl _ _ _ rfl _ _ rfl rfl _ _ rfl (by kernel_rfl) (by simp) (by simp [Value.oneCell']) ?_) | fail)
  clear hc0
  try dsimp only [Act.put]
  refine wp_name1 ?_
  intro w3 hb3 hs3 bx0
  have b0z := b0'.below hb3 b0'.lt
  have bRz := bR'.below hb3 bR'.lt
  have hb4 := hb2.trans (hb3.mono hb2.size)
  have hlR := bR'.lt
  clear hs3 b0' bR' hb2 hb3
  have hc0 := b0z.cell
  have hcx := bx0.cell
  have hfx := bx0.frozen
  go_wp2_with fail
  have bx : Blk _ _ _ #[.int .u8 k0, .int .u32 0, .int .u32 0, .int .u16 0, .int .u16 0, .int .u8 3, .int .u8 0, .int .u8 0, .int .u8 0, .int .u32 0, .int .u32 0, .int .i64 0, .int .i64 length, .int .u8 0, .int .u32 0, .int .u32 0, .int .u16 0, .int .u16 0, .int .u8 0] := bx0.set 0 (.int .u8 k0)
  have b0 := b0z.far (p := ⟨w2.heap.size, 0, none⟩) (by show w.heap.size ≠ w2.heap.size; omega) (.int .u8 k0)
  have bR := bRz.far (p := ⟨w2.heap.size, 0, none⟩) (by show w.heap.size + 1 ≠ w2.heap.size; omega) (.int .u8 k0)
  have hb5 := hb4.setCell (p := ⟨w2.heap.size, 0, none⟩) (by show w.heap.size ≤ w2.heap.size; omega) (.int .u8 k0)
  clear hc0 hcx hfx b0z bRz hb4 bx0
  generalize w3.setCell ⟨w2.heap.size, 0, none⟩ (.int .u8 k0) = w4 at *
  have hSt : StN w w.heap.size _ w2.heap.size 27 (fun st => if st = 0 then #[.int .u8 k0, .int .u32 0, .int .u32 0, .int .u16 0, .int .u16 0, .int .u8 3, .int .u8 0, .int .u8 0, .int .u8 0, .int .u32 0, .int .u32 0, .int .i64 0, .int .i64 length, .int .u8 0, .int .u32 0, .int .u32 0, .int .u16 0, .int .u16 0, .int .u8 0] else if st = 1 then #[.int .u8 k0, .int .u32 k2, .int .u32 0, .int .u16 0, .int .u16 0, .int .u8 3, .int .u8 0, .int .u8 0, .int .u8 0, .int .u32 0, .int .u32 0, .int .i64 0, .int .i64 length, .int .u8 0, .int .u32 0, .int .u32 0, .int .u16 0, .int .u16 0, .int .u8 0] else #[.int .u8 k0, .int .u32 k2, .int .u32 k1, .int .u16 0, .int .u16 0, .int .u8 3, .int .u8 0, .int .u8 0, .int .u8 0, .int .u32 0, .int .u32 0, .int .i64 0, .int .i64 length, .int .u8 0, .int .u32 0, .int .u32 0, .int .u16 0, .int .u16 0, .int .u8 0]) 0 w4 := ⟨((St.nil hb5 hb5.size).cons bR).cons b0, by omega, by simp; omega, bx⟩
  clear b0 bR bx hb5
  refine wp_region_walk0 (by kernel_rfl) (StN w w.heap.size _ w2.heap.size 27 (fun st => if st = 0 then #[.int .u8 k0, .int .u32 0, .int .u32 0, .int .u16 0, .int .u16 0, .int .u8 3, .int .u8 0, .int .u8 0, .int .u8 0, .int .u32 0, .int .u32 0, .int .i64 0, .int .i64 length, .int .u8 0, .int .u32 0, .int .u32 0, .int .u16 0, .int .u16 0, .int .u8 0] else if st = 1 then #[.int .u8 k0, .int .u32 k2, .int .u32 0, .int .u16 0, .int .u16 0, .int .u8 3, .int .u8 0, .int .u8 0, .int .u8 0, .int .u32 0, .int .u32 0, .int .i64 0, .int .i64 length, .int .u8 0, .int .u32 0, .int .u32 0, .int .u16 0, .int .u16 0, .int .u8 0] else #[.int .u8 k0, .int .u32 k2, .int .u32 k1, .int .u16 0, .int .u16 0, .int .u8 3, .int .u8 0, .int .u8 0, .int .u8 0, .int .u32 0, .int .u32 0, .int .i64 0, .int .i64 length, .int .u8 0, .int .u32 0, .int .u32 0, .int .u16 0, .int .u16 0, .int .u8 0])) [8, 11] GTop [0, 1, 2, 3, 4, 5, 6, 7, 9, 10, 8, 11] (by kernel_rfl) hSt.drew ?_
  iterate 10
    apply Walk.one rfl rfl rfl
    case hrun =>
      intro c W hE hF
      have hc0 := (hE.1.get 0 rfl).cell
      go_wp2_with fail
      exact TextPost.mk ⟨GTop.mk, hE⟩
    case hv => rfl
  apply Walk.keep 0 rfl rfl rfl rfl
  case hrun =>
    intro W hE hF
    have hcx := hE.2.2.2.cell
    have hfx := hE.2.2.2.frozen
    go_wp2_with fail
    exact TextPost.mk ⟨GTop.mk, hE.set 1 (.int .u32 k2) rfl⟩
  case hv => rfl
  apply Walk.keep 1 rfl rfl rfl rfl
  case hrun =>
    intro W hE hF
    have hcx := hE.2.2.2.cell
    have hfx := hE.2.2.2.frozen
    go_wp2_with fail
    exact TextPost.mk ⟨GTop.mk, hE.set 2 (.int .u32 k1) rfl⟩
  case hv => rfl
  refine Walk.done (fun w5 hE hF => ?_)
  have b0 := hE.1.get 0 rfl
  have bR := hE.1.get 1 rfl
  have bx : Blk w5 w2.heap.size 27 #[.int .u8 k0, .int .u32 k2, .int .u32 k1, .int .u16 0, .int .u16 0, .int .u8 3, .int .u8 0, .int .u8 0, .int .u8 0, .int .u32 0, .int .u32 0, .int .i64 0, .int .i64 length, .int .u8 0, .int .u32 0, .int .u32 0, .int .u16 0, .int .u16 0, .int .u8 0] := hE.2.2.2
  have hb5 := hE.1.1
  clear hSt hE hF
  go_wp2_with fail
  have hSt : StN w w.heap.size _ w2.heap.size 27 (fun st => if st = 0 then #[.int .u8 k0, .int .u32 k2, .int .u32 k1, .int .u16 0, .int .u16 0, .int .u8 3, .int .u8 0, .int .u8 0, .int .u8 0, .int .u32 0, .int .u32 0, .int .i64 0, .int .i64 length, .int .u8 0, .int .u32 0, .int .u32 0, .int .u16 0, .int .u16 0, .int .u8 0] else if st = 1 then #[.int .u8 k0, .int .u32 k2, .int .u32 k1, .int .u16 k4, .int .u16 0, .int .u8 3, .int .u8 0, .int .u8 0, .int .u8 0, .int .u32 0, .int .u32 0, .int .i64 0, .int .i64 length, .int .u8 0, .int .u32 0, .int .u32 0, .int .u16 0, .int .u16 0, .int .u8 0] else #[.int .u8 k0, .int .u32 k2, .int .u32 k1, .int .u16 k4, .int .u16 k3, .int .u8 3, .int .u8 0, .int .u8 0, .int .u8 0, .int .u32 0, .int .u32 0, .int .i64 0, .int .i64 length, .int .u8 0, .int .u32 0, .int .u32 0, .int .u16 0, .int .u16 0, .int .u8 0]) 0 w5 := ⟨((St.nil hb5 hb5.size).cons bR).cons b0, by omega, by simp; omega, bx⟩
  clear b0 bR bx hb5
  refine wp_region_walk0 (by kernel_rfl) (StN w w.heap.size _ w2.heap.size 27 (fun st => if st = 0 then #[.int .u8 k0, .int .u32 k2, .int .u32 k1, .int .u16 0, .int .u16 0, .int .u8 3, .int .u8 0, .int .u8 0, .int .u8 0, .int .u32 0, .int .u32 0, .int .i64 0, .int .i64 length, .int .u8 0, .int .u32 0, .int .u32 0, .int .u16 0, .int .u16 0, .int .u8 0] else if st = 1 then #[.int .u8 k0, .int .u32 k2, .int .u32 k1, .int .u16 k4, .int .u16 0, .int .u8 3, .int .u8 0, .int .u8 0, .int .u8 0, .int .u32 0, .int .u32 0, .int .i64 0, .int .i64 length, .int .u8 0, .int .u32 0, .int .u32 0, .int .u16 0, .int .u16 0, .int .u8 0] else #[.int .u8 k0, .int .u32 k2, .int .u32 k1, .int .u16 k4, .int .u16 k3, .int .u8 3, .int .u8 0, .int .u8 0, .int .u8 0, .int .u32 0, .int .u32 0, .int .i64 0, .int .i64 length, .int .u8 0, .int .u32 0, .int .u32 0, .int .u16 0, .int .u16 0, .int .u8 0])) [8, 11] GTop [0, 1, 2, 3, 4, 5, 6, 7, 9, 10, 8, 11] (by kernel_rfl) hSt.drew ?_
  iterate 10
    apply Walk.one rfl rfl rfl
    case hrun =>
      intro c W hE hF
      have hc0 := (hE.1.get 0 rfl).cell
      go_wp2_with fail
      exact TextPost.mk ⟨GTop.mk, hE⟩
    case hv => rfl
  apply Walk.keep 0 rfl rfl rfl rfl
  case hrun =>
    intro W hE hF
    have hcx := hE.2.2.2.cell
    have hfx := hE.2.2.2.frozen
    go_wp2_with fail
    exact TextPost.mk ⟨GTop.mk, hE.set 3 (.int .u16 k4) rfl⟩
  case hv => rfl
  apply Walk.keep 1 rfl rfl rfl rfl
  case hrun =>
    intro W hE hF
    have hcx := hE.2.2.2.cell
    have hfx := hE.2.2.2.frozen
    go_wp2_with fail
    exact TextPost.mk ⟨GTop.mk, hE.set 4 (.int .u16 k3) rfl⟩
  case hv => rfl
  refine Walk.done (fun w6 hE hF => ?_)
  have b0 := hE.1.get 0 rfl
  have bR := hE.1.get 1 rfl
  have bx : Blk w6 w2.heap.size 27 #[.int .u8 k0, .int .u32 k2, .int .u32 k1, .int .u16 k4, .int .u16 k3, .int .u8 3, .int .u8 0, .int .u8 0, .int .u8 0, .int .u32 0, .int .u32 0, .int .i64 0, .int .i64 length, .int .u8 0, .int .u32 0, .int .u32 0, .int .u16 0, .int .u16 0, .int .u8 0] := hE.2.2.2
  have hb5 := hE.1.1
  clear hSt hE hF
  have hc0 := b0.cell
  have hcx := bx.cell
  have hfx := bx.frozen
  go_upto_region 25 with (fail)
  have bx2 : Blk _ _ _ #[.int .u8 k0, .int .u32 k2, .int .u32 k1, .int .u16 k4, .int .u16 k3, .int .u8 4, .int .u8 0, .int .u8 18, .int .u8 0, .int .u32 0, .int .u32 0, .int .i64 0, .int .i64 length, .int .u8 0, .int .u32 0, .int .u32 0, .int .u16 0, .int .u16 0, .int .u8 0] := (bx.set 5 (.int .u8 4)).set 7 (.int .u8 18)
  have bR2 := (bR.far (p := ⟨w2.heap.size, 5, none⟩) (by show w.heap.size + 1 ≠ w2.heap.size; omega) (.int .u8 4)).far (p := ⟨w2.heap.size, 7, none⟩) (by show w.heap.size + 1 ≠ w2.heap.size; omega) (.int .u8 18)
  have hb6 : Below w.heap.size w ((w6.setCell ⟨w2.heap.size, 5, none⟩ (.int .u8 4)).setCell ⟨w2.heap.size, 7, none⟩ (.int .u8 18)) := (hb5.setCell (by show w.heap.size ≤ w2.heap.size; omega) _).setCell (by show w.heap.size ≤ w2.heap.size; omega) _
  clear hcx hfx hc0
  go_wp2_with (first | ((with_reducible refine look_load ?_); refine wpList_load_row rfl _ _ rfl _ rfl _ _ _ _ bx2 Tryd.underlying27 rfl (by kernel_rfl) ?_) | ((with_reducible refine look_store ?_); refine wpList_store_row rfl _ _ _ rfl _ _ rfl rfl _ _ bR2 (by kernel_rfl) (by simp) (by simp [Value.oneCell']) ?_) | fail)
  exact bodyPost_ret (results_cell_tmp Tryd.results42 _ _ _ _ _ _ _ rfl (setRow_heap _ _ _ _ _ _ bR2) Tryd.underlying27 rfl (by kernel_rfl)) rfl ⟨rfl, below_setRow hb6 (by omega) _⟩

end Go.Proofs.YtebeekjcepjcnaaDoor

namespace Go.Proofs.YtebeekjcepjcnaaDoor
open Go.RowKit Go.Shelf

theorem natbit0 (f k : Nat) : (((f : Int) / (k : Int) % 2) == 0) = (f / k % 2 == 0) := by
  rw [Bool.eq_iff_iff]
  simp only [beq_iff_eq]
  omega
theorem query_types (t : Nat) (h : kindN t = 3) : t = 8 ∨ t = 13 ∨ t = 17 := by
  rcases Nat.lt_or_ge t 19 with hl | hl
  · have : ∀ x : Fin 19, kindN x.val = 3 → x.val = 8 ∨ x.val = 13 ∨ x.val = 17 := by decide
    exact this ⟨t, hl⟩ h
  · rw [kindN_big hl] at h; cases h
set_option maxHeartbeats 1000000 in
theorem rAnswer_any (f : Facts) (w : World) (ho : f.Ok) : Calls Tryd.prog 42 #[f.val] w fun e w' => e = .returned (.tuple #[f.answerF.val, .int .i64 f.answerE]) ∧ Below w.heap.size w w' := by
  have HR := fun W => rRight_any f W ho
  cases hr : f.right with
  | false =>
    rw [hr] at HR
    have e1 : f.answerF = Facts.zero := if_pos hr
    have e2 : f.answerE = 120 := if_pos hr
    rw [e1, e2]
    obtain ⟨⟨k0, k1, k2, k3, k4⟩, kind, flags, type, code, seqn, ackn, window, length, ⟨q0, q1, q2, q3, q4⟩, qkind⟩ := f
    exact rAnswer_no k0 k1 k2 k3 k4 kind flags type code seqn ackn window length q0 q1 q2 q3 q4 qkind w HR
  | true =>
    rw [hr] at HR
    have hrt : ¬ f.right = false := by rw [hr]; simp
    have hfr := (right_parts hr).2.2
    by_cases h2 : f.kind = 2
    · have e1 : f.answerF = f.answerB := by unfold Facts.answerF; rw [if_neg hrt, if_pos h2]
      have e2 : f.answerE = 0 := by unfold Facts.answerE; rw [if_neg hrt, if_pos h2]
      rw [e1, e2]
      obtain ⟨⟨k0, k1, k2, k3, k4⟩, kind, flags, type, code, seqn, ackn, window, length, ⟨q0, q1, q2, q3, q4⟩, qkind⟩ := f
      dsimp only at h2
      subst h2
      exact rAnswer_udp k0 k1 k2 k3 k4 flags type code seqn ackn window length q0 q1 q2 q3 q4 qkind w HR
    · by_cases h3 : f.kind = 3
      · have e1 : f.answerF = { f.answerB with kind := 4, type := replyN f.type.toNat, code := f.code } := by unfold Facts.answerF; rw [if_neg hrt, if_neg h2, if_pos h3]
        have e2 : f.answerE = 0 := by unfold Facts.answerE; rw [if_neg hrt, if_neg h2, if_pos h3]
        rw [e1, e2]
        have hq : f.rightQuery = true := by
          unfold Facts.fRight at hfr
          rwa [if_neg (by omega), if_neg h2, if_neg (by omega)] at hfr
        simp only [Facts.rightQuery, Bool.and_eq_true, beq_iff_eq] at hq
        have hk2 := hq.1.1.1
        have hk1 := hq.1.1.2
        rw [kind1_of hk2, h3] at hk1
        obtain ⟨hc, _⟩ := query_facts _ _ hk2 hk1
        have t0 := ho.type0
        have c0 := ho.code0
        obtain ⟨⟨k0, k1, k2, k3, k4⟩, kind, flags, type, code, seqn, ackn, window, length, ⟨q0, q1, q2, q3, q4⟩, qkind⟩ := f
        dsimp only at *
        subst h3
        obtain ⟨ty, rfl⟩ : ∃ n : Nat, type = n := ⟨type.toNat, by omega⟩
        obtain rfl : code = 0 := by omega
        rw [Int.toNat_natCast] at *
        rcases query_types ty hk1 with rfl | rfl | rfl
        · exact rAnswer_q8 k0 k1 k2 k3 k4 flags 0 seqn ackn window length q0 q1 q2 q3 q4 qkind w HR
        · exact rAnswer_q13 k0 k1 k2 k3 k4 flags 0 seqn ackn window length q0 q1 q2 q3 q4 qkind w HR
        · exact rAnswer_q17 k0 k1 k2 k3 k4 flags 0 seqn ackn window length q0 q1 q2 q3 q4 qkind w HR
      · by_cases h1 : f.kind = 1
        · have hq : f.rightTCP = true := by
            unfold Facts.fRight at hfr
            rwa [if_pos h1] at hfr
          simp only [Facts.rightTCP, betweenB, Bool.and_eq_true, decide_eq_true_eq] at hq
          have hl0 := hq.2.1
          have hl1 := hq.2.2
          have a0 := ho.flags0
          have a1 := ho.flags1
          have s0 := ho.seqn0
          have s1 := ho.seqn1
          cases hrs : f.rst with
          | true =>
            have e1 : f.answerF = Facts.zero := by unfold Facts.answerF; rw [if_neg hrt, if_neg h2, if_neg h3, if_neg (by rw [hrs]; simp)]
            have e2 : f.answerE = 6 := by unfold Facts.answerE; rw [if_neg hrt, if_neg h2, if_neg h3, if_neg (by rw [hrs]; simp)]
            rw [e1, e2]
            unfold Facts.rst at hrs
            obtain ⟨⟨k0, k1, k2, k3, k4⟩, kind, flags, type, code, seqn, ackn, window, length, ⟨q0, q1, q2, q3, q4⟩, qkind⟩ := f
            dsimp only at *
            subst h1
            obtain ⟨fl, rfl⟩ : ∃ n : Nat, flags = n := ⟨flags.toNat, by omega⟩
            rw [Int.toNat_natCast] at hrs
            exact rAnswer_rst k0 k1 k2 k3 k4 type code seqn ackn window length q0 q1 q2 q3 q4 qkind fl w ((natbit fl 4).trans hrs) (by omega) HR
          | false =>
            have e1 : f.answerF = { f.answerB with flags := if f.opens then 18 else 16, seqn := f.ackn, ackn := (f.seqn + f.extent) % 4294967296, window := f.window, length := 0 } := by unfold Facts.answerF; rw [if_neg hrt, if_neg h2, if_neg h3, if_pos ⟨h1, hrs⟩]
            have e2 : f.answerE = 0 := by unfold Facts.answerE; rw [if_neg hrt, if_neg h2, if_neg h3, if_pos ⟨h1, hrs⟩]
            rw [e1, e2]
            unfold Facts.rst at hrs
            obtain ⟨⟨k0, k1, k2, k3, k4⟩, kind, flags, type, code, seqn, ackn, window, length, ⟨q0, q1, q2, q3, q4⟩, qkind⟩ := f
            dsimp only at *
            subst h1
            obtain ⟨fl, rfl⟩ : ∃ n : Nat, flags = n := ⟨flags.toNat, by omega⟩
            rw [Int.toNat_natCast] at hrs
            exact rAnswer_tcp k0 k1 k2 k3 k4 type code seqn ackn window length q0 q1 q2 q3 q4 qkind _ fl (fl / 2 % 2 == 1) (fl / 16 % 2 == 0) w ((natbit fl 4).trans hrs) (natbit fl 2) (natbit0 fl 16) (by omega) hl0 (by omega) s0 s1 rfl HR
        · have e1 : f.answerF = Facts.zero := by unfold Facts.answerF; rw [if_neg hrt, if_neg h2, if_neg h3, if_neg (by simp [h1])]
          have e2 : f.answerE = 6 := by unfold Facts.answerE; rw [if_neg hrt, if_neg h2, if_neg h3, if_neg (by simp [h1])]
          rw [e1, e2]
          obtain ⟨⟨k0, k1, k2, k3, k4⟩, kind, flags, type, code, seqn, ackn, window, length, ⟨q0, q1, q2, q3, q4⟩, qkind⟩ := f
          exact rAnswer_none k0 k1 k2 k3 k4 kind flags type code seqn ackn window length q0 q1 q2 q3 q4 qkind w (by simpa using h2) (by simpa using h3) (by simpa using h1) HR

end Go.Proofs.YtebeekjcepjcnaaDoor
