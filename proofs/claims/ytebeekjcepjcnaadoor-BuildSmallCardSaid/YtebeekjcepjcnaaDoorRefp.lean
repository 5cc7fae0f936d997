/-
  The reference of layer 12: Reject.
-/
import Derived.Test.YtebeekjcepjcnaaDoorRefm
import Derived.Test.YtebeekjcepjcnaaDoorReject
import Derived.Test.YtebeekjcepjcnaaDoorAnswer
namespace Go.Proofs.YtebeekjcepjcnaaDoor
open Go.RowKit Go.Shelf

set_option maxRecDepth 100000 in
set_option maxHeartbeats 2000000 in
theorem rReject_any (f : Facts) (k c : Nat) (w : World) (ho : f.Ok) :
    Calls Tryd.prog 43 #[f.val, .int .u8 k, .int .u8 c] w fun e w' => e = .returned (.tuple #[(f.rejectF k c).val, .int .i64 (f.rejectE k c)]) ∧ Below w.heap.size w w' := by
  have HR := Lib.hid (fun W => rRight_any f W ho)
  have HK := Lib.hid (fun W => rKind_any k c W)
  have Hpost : ∀ b1 : Bool, f.right = b1 → ∀ b2 : Bool, (f.kind == 5) = b2 → ∀ b3 : Bool, (kind2 k c != 0) = b3 → ∀ b4 : Bool, (kind1 k c != 5) = b4 →
      f.rejectF k c = (if b1 = false then Facts.zero else if b2 then Facts.zero else if b3 = false ∧ b4 = false then f.rejectOk k c else Facts.zero) ∧ f.rejectE k c = (if b1 = false then 120 else if b2 then 6 else if b3 = false ∧ b4 = false then 0 else 2) := by
    rintro b1 rfl b2 rfl b3 rfl b4 rfl
    simp [Facts.rejectF, Facts.rejectE, bne]
  obtain ⟨b1, h1⟩ : ∃ b, f.right = b := ⟨_, rfl⟩
  obtain ⟨b2, h2⟩ : ∃ b, (f.kind == 5) = b := ⟨_, rfl⟩
  obtain ⟨b3, h3⟩ : ∃ b, (kind2 k c != 0) = b := ⟨_, rfl⟩
  obtain ⟨b4, h4⟩ : ∃ b, (kind1 k c != 5) = b := ⟨_, rfl⟩
  obtain ⟨hf, he⟩ := Hpost b1 h1 b2 h2 b3 h3 b4 h4
  rw [hf, he]
  rw [h1] at HR
  clear ho Hpost hf he h1
  generalize kind1 k c = e1 at *
  generalize kind2 k c = e2 at *
  obtain ⟨⟨k0, k1, k2, k3, k4⟩, kind, flags, type, code, seqn, ackn, window, length, ⟨q0, q1, q2, q3, q4⟩, qkind⟩ := f
  dsimp only [Facts.val, Facts.cells, Key.cells, List.cons_append, List.nil_append] at HR
  try dsimp only at h2
  have hV : (⟨⟨k0, k1, k2, k3, k4⟩, kind, flags, type, code, seqn, ackn, window, length, ⟨q0, q1, q2, q3, q4⟩, qkind⟩ : Facts).val = .agg #[.int .u8 k0, .int .u32 k1, .int .u32 k2, .int .u16 k3, .int .u16 k4, .int .u8 kind, .int .u8 flags, .int .u8 type, .int .u8 code, .int .u32 seqn, .int .u32 ackn, .int .i64 window, .int .i64 length, .int .u8 q0, .int .u32 q1, .int .u32 q2, .int .u16 q3, .int .u16 q4, .int .u8 qkind] := rfl
  rw [hV]
  clear hV
  cases b1
  · simp only [if_true]
    go_enter Tryd.func43, Tryd.ntmps43
    go_upto_region 1 with (fail)
    refine wp_name2 ?_
    intro w1 hb1 hs1 b0 bR
    go_upto_region 2 with (first | ((with_reducible refine look_load ?_); refine wpList_load_row rfl _ _ rfl _ rfl _ _ _ _ b0 Tryd.underlying27 rfl (by kernel_rfl) ?_) | (go_at_call 44; refine (HR.out _).mono ?_; rintro e w2 ⟨rfl, l2⟩) | fail)
    have bR' := bR.below l2 bR.lt
    have hb2 := hb1.trans (l2.mono hb1.size)
    clear b0 bR l2 hb1
    go_wp2_with (first | ((with_reducible refine look_store ?_); refine wpList_store_row rfl _ _ _ rfl _ _ rfl rfl _ _ bR' (by kernel_rfl) (by simp) (by simp [Value.oneCell']) ?_) | fail)
    exact bodyPost_ret (results_cell_tmp Tryd.results43 _ _ _ _ _ _ _ rfl (setRow_heap _ _ _ _ _ _ bR') Tryd.underlying27 rfl (by kernel_rfl)) rfl ⟨rfl, below_setRow hb2 (by omega) _⟩
  · simp only [Bool.true_eq_false, if_false]
    go_enter Tryd.func43, Tryd.ntmps43
    go_upto_region 1 with (fail)
    refine wp_name2 ?_
    intro w1 hb1 hs1 b0 bR
    go_upto_region 3 with (first | ((with_reducible refine look_load ?_); refine wpList_load_row rfl _ _ rfl _ rfl _ _ _ _ b0 Tryd.underlying27 rfl (by kernel_rfl) ?_) | (go_at_call 44; refine (HR.out _).mono ?_; rintro e w2 ⟨rfl, l2⟩) | fail)
    have bR' := bR.below l2 bR.lt
    have b0' := b0.below l2 b0.lt
    have hb2 := hb1.trans (l2.mono hb1.size)
    clear b0 bR l2 hb1
    have hc0 := b0'.cell
    cases b2
    · cases b3
      · cases b4
        · go_wp2_with (first | ((with_reducible refine look_store ?_); refine wpList_store_new rfl _ _ _ rfl _ _ rfl rfl _ _ rfl (by kernel_rfl) (by simp) (by simp [Value.oneCell']) ?_) | (go_at_call 75; refine (HK.out _).mono ?_; rintro e wk ⟨rfl, rfl⟩) | fail)
          clear hc0
          try dsimp only [Act.put]
          refine wp_name1 ?_
          intro w3 hb3 hs3 bx
          have b0 := b0'.below hb3 b0'.lt
          have bR := bR'.below hb3 bR'.lt
          have hb4 := hb2.trans (hb3.mono hb2.size)
          have hlR := bR'.lt
          clear hs3
          have hSt : StN w w.heap.size _ w2.heap.size 27 (fun st => if st = 0 then #[.int .u8 0, .int .u32 0, .int .u32 0, .int .u16 0, .int .u16 0, .int .u8 5, .int .u8 0, .int .u8 k, .int .u8 c, .int .u32 0, .int .u32 0, .int .i64 0, .int .i64 28, .int .u8 k0, .int .u32 k1, .int .u32 k2, .int .u16 k3, .int .u16 k4, .int .u8 kind] else if st = 1 then #[.int .u8 1, .int .u32 0, .int .u32 0, .int .u16 0, .int .u16 0, .int .u8 5, .int .u8 0, .int .u8 k, .int .u8 c, .int .u32 0, .int .u32 0, .int .i64 0, .int .i64 28, .int .u8 k0, .int .u32 k1, .int .u32 k2, .int .u16 k3, .int .u16 k4, .int .u8 kind] else if st = 2 then #[.int .u8 1, .int .u32 k2, .int .u32 0, .int .u16 0, .int .u16 0, .int .u8 5, .int .u8 0, .int .u8 k, .int .u8 c, .int .u32 0, .int .u32 0, .int .i64 0, .int .i64 28, .int .u8 k0, .int .u32 k1, .int .u32 k2, .int .u16 k3, .int .u16 k4, .int .u8 kind] else #[.int .u8 1, .int .u32 k2, .int .u32 k1, .int .u16 0, .int .u16 0, .int .u8 5, .int .u8 0, .int .u8 k, .int .u8 c, .int .u32 0, .int .u32 0, .int .i64 0, .int .i64 28, .int .u8 k0, .int .u32 k1, .int .u32 k2, .int .u16 k3, .int .u16 k4, .int .u8 kind]) 0 w3 := ⟨((St.nil hb4 hb4.size).cons bR).cons b0, by omega, by simp; omega, bx⟩
          clear b0 bR bx hb4 b0' bR' hb3
          refine wp_region_walk0 (by kernel_rfl) (StN w w.heap.size _ w2.heap.size 27 (fun st => if st = 0 then #[.int .u8 0, .int .u32 0, .int .u32 0, .int .u16 0, .int .u16 0, .int .u8 5, .int .u8 0, .int .u8 k, .int .u8 c, .int .u32 0, .int .u32 0, .int .i64 0, .int .i64 28, .int .u8 k0, .int .u32 k1, .int .u32 k2, .int .u16 k3, .int .u16 k4, .int .u8 kind] else if st = 1 then #[.int .u8 1, .int .u32 0, .int .u32 0, .int .u16 0, .int .u16 0, .int .u8 5, .int .u8 0, .int .u8 k, .int .u8 c, .int .u32 0, .int .u32 0, .int .i64 0, .int .i64 28, .int .u8 k0, .int .u32 k1, .int .u32 k2, .int .u16 k3, .int .u16 k4, .int .u8 kind] else if st = 2 then #[.int .u8 1, .int .u32 k2, .int .u32 0, .int .u16 0, .int .u16 0, .int .u8 5, .int .u8 0, .int .u8 k, .int .u8 c, .int .u32 0, .int .u32 0, .int .i64 0, .int .i64 28, .int .u8 k0, .int .u32 k1, .int .u32 k2, .int .u16 k3, .int .u16 k4, .int .u8 kind] else #[.int .u8 1, .int .u32 k2, .int .u32 k1, .int .u16 0, .int .u16 0, .int .u8 5, .int .u8 0, .int .u8 k, .int .u8 c, .int .u32 0, .int .u32 0, .int .i64 0, .int .i64 28, .int .u8 k0, .int .u32 k1, .int .u32 k2, .int .u16 k3, .int .u16 k4, .int .u8 kind])) [8, 11, 14] GTop [0, 1, 2, 3, 4, 5, 6, 7, 9, 10, 12, 13, 8, 11, 14] (by kernel_rfl) hSt.drew ?_
          iterate 12
            apply Walk.one rfl rfl rfl
            case hrun =>
              intro c W hE hF
              have hc0 := (hE.1.get 0 rfl).cell
              go_wp2_with fail
              exact TextPost.mk ⟨GTop.mk, hE⟩
            case hv => rfl
          apply Walk.keep 0 rfl rfl rfl rfl
          case hrun =>
            intro W hE hF
            have hcx := hE.2.2.2.cell
            have hfx := hE.2.2.2.frozen
            go_wp2_with fail
            exact TextPost.mk ⟨GTop.mk, hE.set 0 (.int .u8 1) rfl⟩
          case hv => rfl
          apply Walk.keep 1 rfl rfl rfl rfl
          case hrun =>
            intro W hE hF
            have hcx := hE.2.2.2.cell
            have hfx := hE.2.2.2.frozen
            go_wp2_with fail
            exact TextPost.mk ⟨GTop.mk, hE.set 1 (.int .u32 k2) rfl⟩
          case hv => rfl
          apply Walk.keep 2 rfl rfl rfl rfl
          case hrun =>
            intro W hE hF
            have hcx := hE.2.2.2.cell
            have hfx := hE.2.2.2.frozen
            go_wp2_with fail
            exact TextPost.mk ⟨GTop.mk, hE.set 2 (.int .u32 k1) rfl⟩
          case hv => rfl
          refine Walk.done (fun W hE hF => ?_)
          have bR := hE.1.get 1 rfl
          have bx : Blk W w2.heap.size 27 #[.int .u8 1, .int .u32 k2, .int .u32 k1, .int .u16 0, .int .u16 0, .int .u8 5, .int .u8 0, .int .u8 k, .int .u8 c, .int .u32 0, .int .u32 0, .int .i64 0, .int .i64 28, .int .u8 k0, .int .u32 k1, .int .u32 k2, .int .u16 k3, .int .u16 k4, .int .u8 kind] := hE.2.2.2
          have hb4 := hE.1.1
          clear hSt hE hF
          go_wp2_with (first | ((with_reducible refine look_load ?_); refine wpList_load_row rfl _ _ rfl _ rfl _ _ _ _ bx Tryd.underlying27 rfl (by kernel_rfl) ?_) | ((with_reducible refine look_store ?_); refine wpList_store_row rfl _ _ _ rfl _ _ rfl rfl _ _ bR (by kernel_rfl) (by simp) (by simp [Value.oneCell']) ?_) | fail)
          exact bodyPost_ret (results_cell_tmp Tryd.results43 _ _ _ _ _ _ _ rfl (setRow_heap _ _ _ _ _ _ bR) Tryd.underlying27 rfl (by kernel_rfl)) rfl ⟨rfl, below_setRow hb4 (by omega) _⟩
        · go_wp2_with (first | ((with_reducible refine look_store ?_); refine wpList_store_row rfl _ _ _ rfl _ _ rfl rfl _ _ bR' (by kernel_rfl) (by simp) (by simp [Value.oneCell']) ?_) | (go_at_call 75; refine (HK.out _).mono ?_; rintro e wk ⟨rfl, rfl⟩) | fail)
          exact bodyPost_ret (results_cell_tmp Tryd.results43 _ _ _ _ _ _ _ rfl (setRow_heap _ _ _ _ _ _ bR') Tryd.underlying27 rfl (by kernel_rfl)) rfl ⟨rfl, below_setRow hb2 (by omega) _⟩
      · go_wp2_with (first | ((with_reducible refine look_store ?_); refine wpList_store_row rfl _ _ _ rfl _ _ rfl rfl _ _ bR' (by kernel_rfl) (by simp) (by simp [Value.oneCell']) ?_) | (go_at_call 75; refine (HK.out _).mono ?_; rintro e wk ⟨rfl, rfl⟩) | fail)
        exact bodyPost_ret (results_cell_tmp Tryd.results43 _ _ _ _ _ _ _ rfl (setRow_heap _ _ _ _ _ _ bR') Tryd.underlying27 rfl (by kernel_rfl)) rfl ⟨rfl, below_setRow hb2 (by omega) _⟩
    · go_wp2_with (first | ((with_reducible refine look_store ?_); refine wpList_store_row rfl _ _ _ rfl _ _ rfl rfl _ _ bR' (by kernel_rfl) (by simp) (by simp [Value.oneCell']) ?_) | fail)
      exact bodyPost_ret (results_cell_tmp Tryd.results43 _ _ _ _ _ _ _ rfl (setRow_heap _ _ _ _ _ _ bR') Tryd.underlying27 rfl (by kernel_rfl)) rfl ⟨rfl, below_setRow hb2 (by omega) _⟩

end Go.Proofs.YtebeekjcepjcnaaDoor
