/-
  Package build: Reject.
-/
import Derived.Test.YtebeekjcepjcnaaDoorRight
namespace Go.Proofs.YtebeekjcepjcnaaDoor
open Go.RowKit

def Facts.rejectOk (f : Facts) (k c : Nat) : Facts := { Facts.zero with key := ⟨1, f.key.dst, f.key.src, 0, 0⟩, kind := 5, type := k, code := c, length := 28, quoted := f.key, qkind := f.kind }
def Facts.rejectF (f : Facts) (k c : Nat) : Facts := if f.right = false then Facts.zero else if f.kind = 5 then Facts.zero else if kind2 k c = 0 ∧ kind1 k c = 5 then f.rejectOk k c else Facts.zero
def Facts.rejectE (f : Facts) (k c : Nat) : Int := if f.right = false then 120 else if f.kind = 5 then 6 else if kind2 k c = 0 ∧ kind1 k c = 5 then 0 else 2

set_option maxRecDepth 100000 in
set_option maxHeartbeats 4000000 in
theorem reject_any (f : Facts) (k c : Nat) (w : World) (ho : f.Ok) (hs : SortsAt w) (hk : k < 256) :
    Calls Tryd.prog 35 #[f.val, .int .u8 k, .int .u8 c] w fun e w' => e = .returned (.tuple #[(f.rejectF k c).val, .int .i64 (f.rejectE k c)]) ∧ Below w.heap.size w w' := by
  have HR := Lib.hid (fun W h => right_all f W ho h)
  have HK := Lib.hid (fun (W : World) (h : SortsAt W) => kind_any k c W hk h)
  have Hs := Lib.hid hs
  have Hpost : ∀ b1 : Bool, f.right = b1 → ∀ b2 : Bool, (f.kind == 5) = b2 → ∀ b3 : Bool, (kind2 k c != 0) = b3 → ∀ b4 : Bool, (kind1 k c != 5) = b4 →
      f.rejectF k c = (if b1 = false then Facts.zero else if b2 then Facts.zero else if b3 = false ∧ b4 = false then f.rejectOk k c else Facts.zero) ∧ f.rejectE k c = (if b1 = false then 120 else if b2 then 6 else if b3 = false ∧ b4 = false then 0 else 2) := by
    rintro b1 rfl b2 rfl b3 rfl b4 rfl
    simp [Facts.rejectF, Facts.rejectE, bne]
  obtain ⟨b1, h1⟩ : ∃ b, f.right = b := ⟨_, rfl⟩
  obtain ⟨b2, h2⟩ : ∃ b, (f.kind == 5) = b := ⟨_, rfl⟩
  obtain ⟨b3, h3⟩ : ∃ b, (kind2 k c != 0) = b := ⟨_, rfl⟩
  obtain ⟨b4, h4⟩ : ∃ b, (kind1 k c != 5) = b := ⟨_, rfl⟩
  obtain ⟨hf, he⟩ := Hpost b1 h1 b2 h2 b3 h3 b4 h4
  rw [hf, he]
  rw [h1] at HR
  clear ho hs hk Hpost hf he h1
  generalize kind1 k c = e1 at *
  generalize kind2 k c = e2 at *
  obtain ⟨⟨k0, k1, k2, k3, k4⟩, kind, flags, type, code, seqn, ackn, window, length, ⟨q0, q1, q2, q3, q4⟩, qkind⟩ := f
  dsimp only [Facts.val, Facts.cells, Key.cells, List.cons_append, List.nil_append] at HR
  try dsimp only at h2
  have hV : (⟨⟨k0, k1, k2, k3, k4⟩, kind, flags, type, code, seqn, ackn, window, length, ⟨q0, q1, q2, q3, q4⟩, qkind⟩ : Facts).val = .agg #[.int .u8 k0, .int .u32 k1, .int .u32 k2, .int .u16 k3, .int .u16 k4, .int .u8 kind, .int .u8 flags, .int .u8 type, .int .u8 code, .int .u32 seqn, .int .u32 ackn, .int .i64 window, .int .i64 length, .int .u8 q0, .int .u32 q1, .int .u32 q2, .int .u16 q3, .int .u16 q4, .int .u8 qkind] := rfl
  rw [hV]
  clear hV
  cases b1
  · simp only [if_true]
    go_enter Tryd.func35, Tryd.ntmps35
    go_upto_region 1 with (fail)
    refine wp_name2 ?_
    intro w1 hb1 hs1 b0 bR
    have Hs1 := Lib.hid (Hs.out.below hb1 (Nat.le_refl _))
    go_upto_region 2 with (first | ((with_reducible refine look_load ?_); refine wpList_load_row rfl _ _ rfl _ rfl _ _ _ _ b0 Tryd.underlying27 rfl (by kernel_rfl) ?_) | (go_at_call 34; refine (HR.out _ Hs1.out).mono ?_; rintro e w2 ⟨rfl, l2⟩) | fail)
    have bR' := bR.below l2 bR.lt
    have hb2 := hb1.trans (l2.mono hb1.size)
    clear b0 bR l2 hb1 Hs1
    go_wp2_with (first | ((with_reducible refine look_store ?_); refine wpList_store_row rfl _ _ _ rfl _ _ rfl rfl _ _ bR' (by kernel_rfl) (by simp) (by simp [Value.oneCell']) ?_) | fail)
    exact bodyPost_ret (results_cell_tmp Tryd.results35 _ _ _ _ _ _ _ rfl (setRow_heap _ _ _ _ _ _ bR') Tryd.underlying27 rfl (by kernel_rfl)) rfl ⟨rfl, below_setRow hb2 (by omega) _⟩
  · simp only [Bool.true_eq_false, if_false]
    go_enter Tryd.func35, Tryd.ntmps35
    go_upto_region 1 with (fail)
    refine wp_name2 ?_
    intro w1 hb1 hs1 b0 bR
    have Hs1 := Lib.hid (Hs.out.below hb1 (Nat.le_refl _))
    go_upto_region 3 with (first | ((with_reducible refine look_load ?_); refine wpList_load_row rfl _ _ rfl _ rfl _ _ _ _ b0 Tryd.underlying27 rfl (by kernel_rfl) ?_) | (go_at_call 34; refine (HR.out _ Hs1.out).mono ?_; rintro e w2 ⟨rfl, l2⟩) | fail)
    have bR' := bR.below l2 bR.lt
    have b0' := b0.below l2 b0.lt
    have hb2 := hb1.trans (l2.mono hb1.size)
    have Hs2 := Lib.hid (Hs1.out.below l2 (Nat.le_refl _))
    clear b0 bR l2 hb1 Hs1
    have hc0 := b0'.cell
    cases b2
    · cases b3
      · cases b4
        · go_wp2_with (first | ((with_reducible refine look_store ?_); refine wpList_store_row rfl _ _ _ rfl _ _ rfl rfl _ _ bR' (by kernel_rfl) (by simp) (by simp [Value.oneCell']) ?_) | (go_at_call 68; refine (HK.out _ Hs2.out).mono ?_; rintro e wk ⟨rfl, rfl⟩) | fail)
          exact bodyPost_ret (results_cell_tmp Tryd.results35 _ _ _ _ _ _ _ rfl (setRow_heap _ _ _ _ _ _ bR') Tryd.underlying27 rfl (by kernel_rfl)) rfl ⟨rfl, below_setRow hb2 (by omega) _⟩
        · go_wp2_with (first | ((with_reducible refine look_store ?_); refine wpList_store_row rfl _ _ _ rfl _ _ rfl rfl _ _ bR' (by kernel_rfl) (by simp) (by simp [Value.oneCell']) ?_) | (go_at_call 68; refine (HK.out _ Hs2.out).mono ?_; rintro e wk ⟨rfl, rfl⟩) | fail)
          exact bodyPost_ret (results_cell_tmp Tryd.results35 _ _ _ _ _ _ _ rfl (setRow_heap _ _ _ _ _ _ bR') Tryd.underlying27 rfl (by kernel_rfl)) rfl ⟨rfl, below_setRow hb2 (by omega) _⟩
      · go_wp2_with (first | ((with_reducible refine look_store ?_); refine wpList_store_row rfl _ _ _ rfl _ _ rfl rfl _ _ bR' (by kernel_rfl) (by simp) (by simp [Value.oneCell']) ?_) | (go_at_call 68; refine (HK.out _ Hs2.out).mono ?_; rintro e wk ⟨rfl, rfl⟩) | fail)
        exact bodyPost_ret (results_cell_tmp Tryd.results35 _ _ _ _ _ _ _ rfl (setRow_heap _ _ _ _ _ _ bR') Tryd.underlying27 rfl (by kernel_rfl)) rfl ⟨rfl, below_setRow hb2 (by omega) _⟩
    · go_wp2_with (first | ((with_reducible refine look_store ?_); refine wpList_store_row rfl _ _ _ rfl _ _ rfl rfl _ _ bR' (by kernel_rfl) (by simp) (by simp [Value.oneCell']) ?_) | fail)
      exact bodyPost_ret (results_cell_tmp Tryd.results35 _ _ _ _ _ _ _ rfl (setRow_heap _ _ _ _ _ _ bR') Tryd.underlying27 rfl (by kernel_rfl)) rfl ⟨rfl, below_setRow hb2 (by omega) _⟩

end Go.Proofs.YtebeekjcepjcnaaDoor
