/-
  bafflelaw10.Made.
-/
import Derived.Test.YtebeekjcepjcnaaGreatDoorRFresh
import Derived.Test.YtebeekjcepjcnaaGreatDoorRTcprd
namespace Go.Proofs.YtebeekjcepjcnaaGreatDoor
open Go.RowKit
def queL : List Int := [8, 13, 17]
def repL : List Int := [0, 14, 18]
def errL : List Int := [3, 15, 4, 0, 5, 3, 11, 1, 12, 2]
/-- The tables of the statements about layer 10. -/
def TabAt (w : World) (g : Nat) (l : List Int) : Prop := ∀ k, k < l.length → w.cell? ⟨g, k, none⟩ = some (.int .u8 (l.getD k 0))
structure Tabs (w : World) : Prop where
  que : TabAt w 1 queL
  rep : TabAt w 2 repL
  err : TabAt w 3 errL
theorem TabAt.below {w w' : World} {g : Nat} {l : List Int} {C : Nat} (h : TabAt w g l) (hb : Below C w w') (hC : w.heap.size ≤ C) : TabAt w' g l := fun k hk =>
  (hb.cell (p := ⟨g, k, none⟩) (by have := World.lt_of_cell (h k hk); show g < C; omega)).trans (h k hk)
theorem Tabs.below {w w' : World} {C : Nat} (h : Tabs w) (hb : Below C w w') (hC : w.heap.size ≤ C) : Tabs w' := ⟨h.que.below hb hC, h.rep.below hb hC, h.err.below hb hC⟩
def typL : List Int := [8, 13, 17, 0, 14, 18, 3, 4, 5, 11, 12]
def limL : List Int := [0, 0, 0, 0, 0, 0, 15, 0, 3, 1, 2]
def kinL : List Int := [3, 3, 3, 4, 4, 4, 5, 5, 5, 5, 5]
def m10T (t : Int) : Int := typL.getD (t % 11).toNat 0
def m10C (t c : Int) : Int := c % (limL.getD (t % 11).toNat 0 + 1)
def m10K (t : Int) : Int := kinL.getD (t % 11).toNat 0
def Made10Post (t c ident seqn : Int) (m : Nat) (xs : List Int) (w : World) (e : Ending) (W : World) : Prop := ∃ p : Option Addr × Nat, e = .returned (.tuple #[.agg #[.int .u8 (m10T t), .int .u8 (m10C t c), .int .u16 ident, .int .u16 seqn], .int .u8 (m10K t), .slice p.1 m p.2]) ∧ Own W w.heap.size (.slice p.1 m p.2) (xs.take 80) ∧ Below w.heap.size w W
set_option maxRecDepth 100000 in
set_option maxHeartbeats 8000000 in
theorem made10_q (r : Nat) (hr1 : r < 3) (t c ident seqn : Int) (A : Option Addr) (cap n m : Nat) (xs : List Int) (w : World) (t0 : 0 ≤ t) (ht : t % 11 = r) (_c0 : 0 ≤ c) (_c1 : c < 256) (hn : xs.length = n) (hcap : n ≤ cap) (hm : m = min n 80) (hr : Rd w w.heap.size A .u8 xs) (hT : Tabs w) :
    Calls Tryz.prog 41 #[.agg #[.int .u8 t, .int .u8 c, .int .u16 ident, .int .u16 seqn, .slice A n cap]] w (Made10Post t c ident seqn m xs w) := by
  have hmi : min (n : Int) 80 = (m : Int) := by omega
  have hmc : (m : Int) ≤ cap := by omega
  have HL := Lib.hid (show (xs.take 80).length = m by rw [List.length_take]; omega)
  have HR := Lib.hid (hr.take 80)
  have HT := Lib.hid hT
  have hrn : (t % 11).toNat = r := by omega
  unfold Made10Post m10T m10C m10K
  rw [hrn]
  clear hn hm hr hcap hT hrn
  have ht2 : t.tmod 11 = r := by rw [Int.tmod_eq_emod_of_nonneg t0]; exact ht
  clear ht

  rcases (show r = 0 ∨ r = 1 ∨ r = 2 by omega) with rfl | rfl | rfl
  · replace ht2 : t.tmod 11 = 0 := ht2
    go_enter Tryz.func41, Tryz.ntmps41
    go_upto_region 1 with fail
    refine wp_name2 ?_
    intro w1 hb1 hs1 b0 b1
    have cc := b0.cell
    go_upto_region 2 with (first | ((with_reducible refine look_store ?_); refine wpList_store_new rfl _ _ _ rfl _ _ rfl rfl _ _ rfl (by kernel_rfl) (by simp) (by simp [Value.oneCell']) ?_) | fail)
    refine wp_name1 ?_
    intro w2 hb2 hs2 b2
    have B0 := Lib.hid (b0.below hb2 b0.lt)
    have B1 := Lib.hid (b1.below hb2 b1.lt)
    have B2 := Lib.hid b2
    rw [hs1] at B2
    have L2 := Lib.hid (hb1.trans (hb2.mono hb1.size))
    have hsz2 : Hid (w2.heap.size = w.heap.size + 3) := Lib.hid (by omega)
    clear hb1 hs1 b0 b1 hb2 hs2 b2 cc
    have cc := fun o j => (World.cell?_alloc_lt w2 o ⟨w.heap.size, j, none⟩ (by have := hsz2.out; show w.heap.size < w2.heap.size; omega)).trans (B0.out.cell j)
    go_upto_region 8 with (first | (at_builtin; refine app_fresh rfl _ _ rfl (w.heap.size + 2 + 1) w2.heap.size rfl (own_lit w2 (w.heap.size + 2 + 1) 0 [] _ rfl rfl (by simp [maxLen]) (by have := hsz2.out; omega)) w.heap.size A m cap (xs.take 80) rfl HL.out.symm (HR.out.below (L2.out.alloc L2.out.size _) (Nat.le_refl _)) (by have := HL.out; omega) (by have := hsz2.out; simp; omega) ?_; intro v3 w3 o3 l3; have LB : Below w2.heap.size w2 w3 := ((Below.refl _ _).alloc (Nat.le_refl _) _).trans (l3.mono (by simp)); have L3 := L2.out.trans (LB.mono L2.out.size); have B03 := B0.out.below LB B0.out.lt; have B13 := B1.out.below LB B1.out.lt; have B23 := B2.out.below LB B2.out.lt; have T3 := HT.out.below L3 (Nat.le_refl _); have c3 := B03.cell; have d3 := B23.cell; have f3 := B23.frozen; have tb : w3.cell? ⟨1, 0, none⟩ = some (.int .u8 8) := T3.que 0 (by decide); clear LB l3; have O3 := Lib.hid o3; have L3 := Lib.hid L3; have B03 := Lib.hid B03; have B13 := Lib.hid B13; have B23 := Lib.hid B23; clear o3) | fail)
    obtain ⟨q3, rfl⟩ := O3.out.shape HL.out
    have b4 := B23.out.set 0 (.int .u8 8)
    have b1 := B13.out.far (p := ⟨w.heap.size + 2, 0, none⟩) (show w.heap.size + 1 ≠ w.heap.size + 2 by omega) (.int .u8 8)
    have o4 := O3.out.setCell_far (a := ⟨w.heap.size + 2, 0, none⟩) (fun e => by have h := (O3.out.lt e).1; simp only at h; omega) (.int .u8 8)
    have l4 := L3.out.setCell (p := ⟨w.heap.size + 2, 0, none⟩) (show w.heap.size ≤ w.heap.size + 2 by omega) (.int .u8 8)
    clear O3 B03 B13 B23 L3 c3 d3 f3 T3 cc B0 B1 B2 tb
    generalize w3.setCell ⟨w.heap.size + 2, 0, none⟩ (.int .u8 8) = w4 at *
    simp only [List.setIfInBounds_toArray, List.set_cons_zero] at b4
    go_wp2_with (first | ((with_reducible refine look_load ?_); refine wpList_load_row rfl _ _ rfl _ rfl _ _ _ _ b4 Tryz.underlying98 rfl (by kernel_rfl) ?_) | ((with_reducible refine look_store ?_); refine wpList_store_row rfl _ _ _ rfl _ _ rfl rfl _ _ b1 (by kernel_rfl) (by simp) (by simp [Value.oneCell']) ?_) | fail)
    exact bodyPost_ret (results_cell_tmp2 Tryz.results41 _ _ _ _ _ _ _ rfl (setRow_heap _ _ _ _ _ _ b1) Tryz.underlying98 rfl (by kernel_rfl)) rfl ⟨q3, by simp [typL, limL, kinL, Int.emod_one], ((o4.base_le (show w.heap.size + 1 + 1 ≤ w.heap.size + 2 + 1 by omega)).growR (grown_setRow _ _ _)).base_le (by omega), below_setRow l4 (by omega) _⟩

  · replace ht2 : t.tmod 11 = 1 := ht2
    go_enter Tryz.func41, Tryz.ntmps41
    go_upto_region 1 with fail
    refine wp_name2 ?_
    intro w1 hb1 hs1 b0 b1
    have cc := b0.cell
    go_upto_region 2 with (first | ((with_reducible refine look_store ?_); refine wpList_store_new rfl _ _ _ rfl _ _ rfl rfl _ _ rfl (by kernel_rfl) (by simp) (by simp [Value.oneCell']) ?_) | fail)
    refine wp_name1 ?_
    intro w2 hb2 hs2 b2
    have B0 := Lib.hid (b0.below hb2 b0.lt)
    have B1 := Lib.hid (b1.below hb2 b1.lt)
    have B2 := Lib.hid b2
    rw [hs1] at B2
    have L2 := Lib.hid (hb1.trans (hb2.mono hb1.size))
    have hsz2 : Hid (w2.heap.size = w.heap.size + 3) := Lib.hid (by omega)
    clear hb1 hs1 b0 b1 hb2 hs2 b2 cc
    have cc := fun o j => (World.cell?_alloc_lt w2 o ⟨w.heap.size, j, none⟩ (by have := hsz2.out; show w.heap.size < w2.heap.size; omega)).trans (B0.out.cell j)
    go_upto_region 8 with (first | (at_builtin; refine app_fresh rfl _ _ rfl (w.heap.size + 2 + 1) w2.heap.size rfl (own_lit w2 (w.heap.size + 2 + 1) 0 [] _ rfl rfl (by simp [maxLen]) (by have := hsz2.out; omega)) w.heap.size A m cap (xs.take 80) rfl HL.out.symm (HR.out.below (L2.out.alloc L2.out.size _) (Nat.le_refl _)) (by have := HL.out; omega) (by have := hsz2.out; simp; omega) ?_; intro v3 w3 o3 l3; have LB : Below w2.heap.size w2 w3 := ((Below.refl _ _).alloc (Nat.le_refl _) _).trans (l3.mono (by simp)); have L3 := L2.out.trans (LB.mono L2.out.size); have B03 := B0.out.below LB B0.out.lt; have B13 := B1.out.below LB B1.out.lt; have B23 := B2.out.below LB B2.out.lt; have T3 := HT.out.below L3 (Nat.le_refl _); have c3 := B03.cell; have d3 := B23.cell; have f3 := B23.frozen; have tb : w3.cell? ⟨1, 1, none⟩ = some (.int .u8 13) := T3.que 1 (by decide); clear LB l3; have O3 := Lib.hid o3; have L3 := Lib.hid L3; have B03 := Lib.hid B03; have B13 := Lib.hid B13; have B23 := Lib.hid B23; clear o3) | fail)
    obtain ⟨q3, rfl⟩ := O3.out.shape HL.out
    have b4 := B23.out.set 0 (.int .u8 13)
    have b1 := B13.out.far (p := ⟨w.heap.size + 2, 0, none⟩) (show w.heap.size + 1 ≠ w.heap.size + 2 by omega) (.int .u8 13)
    have o4 := O3.out.setCell_far (a := ⟨w.heap.size + 2, 0, none⟩) (fun e => by have h := (O3.out.lt e).1; simp only at h; omega) (.int .u8 13)
    have l4 := L3.out.setCell (p := ⟨w.heap.size + 2, 0, none⟩) (show w.heap.size ≤ w.heap.size + 2 by omega) (.int .u8 13)
    clear O3 B03 B13 B23 L3 c3 d3 f3 T3 cc B0 B1 B2 tb
    generalize w3.setCell ⟨w.heap.size + 2, 0, none⟩ (.int .u8 13) = w4 at *
    simp only [List.setIfInBounds_toArray, List.set_cons_zero] at b4
    go_wp2_with (first | ((with_reducible refine look_load ?_); refine wpList_load_row rfl _ _ rfl _ rfl _ _ _ _ b4 Tryz.underlying98 rfl (by kernel_rfl) ?_) | ((with_reducible refine look_store ?_); refine wpList_store_row rfl _ _ _ rfl _ _ rfl rfl _ _ b1 (by kernel_rfl) (by simp) (by simp [Value.oneCell']) ?_) | fail)
    exact bodyPost_ret (results_cell_tmp2 Tryz.results41 _ _ _ _ _ _ _ rfl (setRow_heap _ _ _ _ _ _ b1) Tryz.underlying98 rfl (by kernel_rfl)) rfl ⟨q3, by simp [typL, limL, kinL, Int.emod_one], ((o4.base_le (show w.heap.size + 1 + 1 ≤ w.heap.size + 2 + 1 by omega)).growR (grown_setRow _ _ _)).base_le (by omega), below_setRow l4 (by omega) _⟩

  · replace ht2 : t.tmod 11 = 2 := ht2
    go_enter Tryz.func41, Tryz.ntmps41
    go_upto_region 1 with fail
    refine wp_name2 ?_
    intro w1 hb1 hs1 b0 b1
    have cc := b0.cell
    go_upto_region 2 with (first | ((with_reducible refine look_store ?_); refine wpList_store_new rfl _ _ _ rfl _ _ rfl rfl _ _ rfl (by kernel_rfl) (by simp) (by simp [Value.oneCell']) ?_) | fail)
    refine wp_name1 ?_
    intro w2 hb2 hs2 b2
    have B0 := Lib.hid (b0.below hb2 b0.lt)
    have B1 := Lib.hid (b1.below hb2 b1.lt)
    have B2 := Lib.hid b2
    rw [hs1] at B2
    have L2 := Lib.hid (hb1.trans (hb2.mono hb1.size))
    have hsz2 : Hid (w2.heap.size = w.heap.size + 3) := Lib.hid (by omega)
    clear hb1 hs1 b0 b1 hb2 hs2 b2 cc
    have cc := fun o j => (World.cell?_alloc_lt w2 o ⟨w.heap.size, j, none⟩ (by have := hsz2.out; show w.heap.size < w2.heap.size; omega)).trans (B0.out.cell j)
    go_upto_region 8 with (first | (at_builtin; refine app_fresh rfl _ _ rfl (w.heap.size + 2 + 1) w2.heap.size rfl (own_lit w2 (w.heap.size + 2 + 1) 0 [] _ rfl rfl (by simp [maxLen]) (by have := hsz2.out; omega)) w.heap.size A m cap (xs.take 80) rfl HL.out.symm (HR.out.below (L2.out.alloc L2.out.size _) (Nat.le_refl _)) (by have := HL.out; omega) (by have := hsz2.out; simp; omega) ?_; intro v3 w3 o3 l3; have LB : Below w2.heap.size w2 w3 := ((Below.refl _ _).alloc (Nat.le_refl _) _).trans (l3.mono (by simp)); have L3 := L2.out.trans (LB.mono L2.out.size); have B03 := B0.out.below LB B0.out.lt; have B13 := B1.out.below LB B1.out.lt; have B23 := B2.out.below LB B2.out.lt; have T3 := HT.out.below L3 (Nat.le_refl _); have c3 := B03.cell; have d3 := B23.cell; have f3 := B23.frozen; have tb : w3.cell? ⟨1, 2, none⟩ = some (.int .u8 17) := T3.que 2 (by decide); clear LB l3; have O3 := Lib.hid o3; have L3 := Lib.hid L3; have B03 := Lib.hid B03; have B13 := Lib.hid B13; have B23 := Lib.hid B23; clear o3) | fail)
    obtain ⟨q3, rfl⟩ := O3.out.shape HL.out
    have b4 := B23.out.set 0 (.int .u8 17)
    have b1 := B13.out.far (p := ⟨w.heap.size + 2, 0, none⟩) (show w.heap.size + 1 ≠ w.heap.size + 2 by omega) (.int .u8 17)
    have o4 := O3.out.setCell_far (a := ⟨w.heap.size + 2, 0, none⟩) (fun e => by have h := (O3.out.lt e).1; simp only at h; omega) (.int .u8 17)
    have l4 := L3.out.setCell (p := ⟨w.heap.size + 2, 0, none⟩) (show w.heap.size ≤ w.heap.size + 2 by omega) (.int .u8 17)
    clear O3 B03 B13 B23 L3 c3 d3 f3 T3 cc B0 B1 B2 tb
    generalize w3.setCell ⟨w.heap.size + 2, 0, none⟩ (.int .u8 17) = w4 at *
    simp only [List.setIfInBounds_toArray, List.set_cons_zero] at b4
    go_wp2_with (first | ((with_reducible refine look_load ?_); refine wpList_load_row rfl _ _ rfl _ rfl _ _ _ _ b4 Tryz.underlying98 rfl (by kernel_rfl) ?_) | ((with_reducible refine look_store ?_); refine wpList_store_row rfl _ _ _ rfl _ _ rfl rfl _ _ b1 (by kernel_rfl) (by simp) (by simp [Value.oneCell']) ?_) | fail)
    exact bodyPost_ret (results_cell_tmp2 Tryz.results41 _ _ _ _ _ _ _ rfl (setRow_heap _ _ _ _ _ _ b1) Tryz.underlying98 rfl (by kernel_rfl)) rfl ⟨q3, by simp [typL, limL, kinL, Int.emod_one], ((o4.base_le (show w.heap.size + 1 + 1 ≤ w.heap.size + 2 + 1 by omega)).growR (grown_setRow _ _ _)).base_le (by omega), below_setRow l4 (by omega) _⟩

set_option maxRecDepth 100000 in
set_option maxHeartbeats 8000000 in
theorem made10_p (r : Nat) (hr1 : 3 ≤ r ∧ r < 6) (t c ident seqn : Int) (A : Option Addr) (cap n m : Nat) (xs : List Int) (w : World) (t0 : 0 ≤ t) (ht : t % 11 = r) (_c0 : 0 ≤ c) (_c1 : c < 256) (hn : xs.length = n) (hcap : n ≤ cap) (hm : m = min n 80) (hr : Rd w w.heap.size A .u8 xs) (hT : Tabs w) :
    Calls Tryz.prog 41 #[.agg #[.int .u8 t, .int .u8 c, .int .u16 ident, .int .u16 seqn, .slice A n cap]] w (Made10Post t c ident seqn m xs w) := by
  have hmi : min (n : Int) 80 = (m : Int) := by omega
  have hmc : (m : Int) ≤ cap := by omega
  have HL := Lib.hid (show (xs.take 80).length = m by rw [List.length_take]; omega)
  have HR := Lib.hid (hr.take 80)
  have HT := Lib.hid hT
  have hrn : (t % 11).toNat = r := by omega
  unfold Made10Post m10T m10C m10K
  rw [hrn]
  clear hn hm hr hcap hT hrn
  have ht2 : t.tmod 11 = r := by rw [Int.tmod_eq_emod_of_nonneg t0]; exact ht
  clear ht

  rcases (show r = 3 ∨ r = 4 ∨ r = 5 by omega) with rfl | rfl | rfl
  · replace ht2 : t.tmod 11 = 3 := ht2
    go_enter Tryz.func41, Tryz.ntmps41
    go_upto_region 1 with fail
    refine wp_name2 ?_
    intro w1 hb1 hs1 b0 b1
    have cc := b0.cell
    go_upto_region 2 with (first | ((with_reducible refine look_store ?_); refine wpList_store_new rfl _ _ _ rfl _ _ rfl rfl _ _ rfl (by kernel_rfl) (by simp) (by simp [Value.oneCell']) ?_) | fail)
    refine wp_name1 ?_
    intro w2 hb2 hs2 b2
    have B0 := Lib.hid (b0.below hb2 b0.lt)
    have B1 := Lib.hid (b1.below hb2 b1.lt)
    have B2 := Lib.hid b2
    rw [hs1] at B2
    have L2 := Lib.hid (hb1.trans (hb2.mono hb1.size))
    have hsz2 : Hid (w2.heap.size = w.heap.size + 3) := Lib.hid (by omega)
    clear hb1 hs1 b0 b1 hb2 hs2 b2 cc
    have cc := fun o j => (World.cell?_alloc_lt w2 o ⟨w.heap.size, j, none⟩ (by have := hsz2.out; show w.heap.size < w2.heap.size; omega)).trans (B0.out.cell j)
    go_upto_region 11 with (first | (at_builtin; refine app_fresh rfl _ _ rfl (w.heap.size + 2 + 1) w2.heap.size rfl (own_lit w2 (w.heap.size + 2 + 1) 0 [] _ rfl rfl (by simp [maxLen]) (by have := hsz2.out; omega)) w.heap.size A m cap (xs.take 80) rfl HL.out.symm (HR.out.below (L2.out.alloc L2.out.size _) (Nat.le_refl _)) (by have := HL.out; omega) (by have := hsz2.out; simp; omega) ?_; intro v3 w3 o3 l3; have LB : Below w2.heap.size w2 w3 := ((Below.refl _ _).alloc (Nat.le_refl _) _).trans (l3.mono (by simp)); have L3 := L2.out.trans (LB.mono L2.out.size); have B03 := B0.out.below LB B0.out.lt; have B13 := B1.out.below LB B1.out.lt; have B23 := B2.out.below LB B2.out.lt; have T3 := HT.out.below L3 (Nat.le_refl _); have c3 := B03.cell; have d3 := B23.cell; have f3 := B23.frozen; have tb : w3.cell? ⟨2, 0, none⟩ = some (.int .u8 0) := T3.rep 0 (by decide); clear LB l3; have O3 := Lib.hid o3; have L3 := Lib.hid L3; have B03 := Lib.hid B03; have B13 := Lib.hid B13; have B23 := Lib.hid B23; clear o3) | fail)
    obtain ⟨q3, rfl⟩ := O3.out.shape HL.out
    have b4 := B23.out.set 0 (.int .u8 0)
    have b1 := B13.out.far (p := ⟨w.heap.size + 2, 0, none⟩) (show w.heap.size + 1 ≠ w.heap.size + 2 by omega) (.int .u8 0)
    have o4 := O3.out.setCell_far (a := ⟨w.heap.size + 2, 0, none⟩) (fun e => by have h := (O3.out.lt e).1; simp only at h; omega) (.int .u8 0)
    have l4 := L3.out.setCell (p := ⟨w.heap.size + 2, 0, none⟩) (show w.heap.size ≤ w.heap.size + 2 by omega) (.int .u8 0)
    clear O3 B03 B13 B23 L3 c3 d3 f3 T3 cc B0 B1 B2 tb
    generalize w3.setCell ⟨w.heap.size + 2, 0, none⟩ (.int .u8 0) = w4 at *
    simp only [List.setIfInBounds_toArray, List.set_cons_zero] at b4
    go_wp2_with (first | ((with_reducible refine look_load ?_); refine wpList_load_row rfl _ _ rfl _ rfl _ _ _ _ b4 Tryz.underlying98 rfl (by kernel_rfl) ?_) | ((with_reducible refine look_store ?_); refine wpList_store_row rfl _ _ _ rfl _ _ rfl rfl _ _ b1 (by kernel_rfl) (by simp) (by simp [Value.oneCell']) ?_) | fail)
    exact bodyPost_ret (results_cell_tmp2 Tryz.results41 _ _ _ _ _ _ _ rfl (setRow_heap _ _ _ _ _ _ b1) Tryz.underlying98 rfl (by kernel_rfl)) rfl ⟨q3, by simp [typL, limL, kinL, Int.emod_one], ((o4.base_le (show w.heap.size + 1 + 1 ≤ w.heap.size + 2 + 1 by omega)).growR (grown_setRow _ _ _)).base_le (by omega), below_setRow l4 (by omega) _⟩

  · replace ht2 : t.tmod 11 = 4 := ht2
    go_enter Tryz.func41, Tryz.ntmps41
    go_upto_region 1 with fail
    refine wp_name2 ?_
    intro w1 hb1 hs1 b0 b1
    have cc := b0.cell
    go_upto_region 2 with (first | ((with_reducible refine look_store ?_); refine wpList_store_new rfl _ _ _ rfl _ _ rfl rfl _ _ rfl (by kernel_rfl) (by simp) (by simp [Value.oneCell']) ?_) | fail)
    refine wp_name1 ?_
    intro w2 hb2 hs2 b2
    have B0 := Lib.hid (b0.below hb2 b0.lt)
    have B1 := Lib.hid (b1.below hb2 b1.lt)
    have B2 := Lib.hid b2
    rw [hs1] at B2
    have L2 := Lib.hid (hb1.trans (hb2.mono hb1.size))
    have hsz2 : Hid (w2.heap.size = w.heap.size + 3) := Lib.hid (by omega)
    clear hb1 hs1 b0 b1 hb2 hs2 b2 cc
    have cc := fun o j => (World.cell?_alloc_lt w2 o ⟨w.heap.size, j, none⟩ (by have := hsz2.out; show w.heap.size < w2.heap.size; omega)).trans (B0.out.cell j)
    go_upto_region 11 with (first | (at_builtin; refine app_fresh rfl _ _ rfl (w.heap.size + 2 + 1) w2.heap.size rfl (own_lit w2 (w.heap.size + 2 + 1) 0 [] _ rfl rfl (by simp [maxLen]) (by have := hsz2.out; omega)) w.heap.size A m cap (xs.take 80) rfl HL.out.symm (HR.out.below (L2.out.alloc L2.out.size _) (Nat.le_refl _)) (by have := HL.out; omega) (by have := hsz2.out; simp; omega) ?_; intro v3 w3 o3 l3; have LB : Below w2.heap.size w2 w3 := ((Below.refl _ _).alloc (Nat.le_refl _) _).trans (l3.mono (by simp)); have L3 := L2.out.trans (LB.mono L2.out.size); have B03 := B0.out.below LB B0.out.lt; have B13 := B1.out.below LB B1.out.lt; have B23 := B2.out.below LB B2.out.lt; have T3 := HT.out.below L3 (Nat.le_refl _); have c3 := B03.cell; have d3 := B23.cell; have f3 := B23.frozen; have tb : w3.cell? ⟨2, 1, none⟩ = some (.int .u8 14) := T3.rep 1 (by decide); clear LB l3; have O3 := Lib.hid o3; have L3 := Lib.hid L3; have B03 := Lib.hid B03; have B13 := Lib.hid B13; have B23 := Lib.hid B23; clear o3) | fail)
    obtain ⟨q3, rfl⟩ := O3.out.shape HL.out
    have b4 := B23.out.set 0 (.int .u8 14)
    have b1 := B13.out.far (p := ⟨w.heap.size + 2, 0, none⟩) (show w.heap.size + 1 ≠ w.heap.size + 2 by omega) (.int .u8 14)
    have o4 := O3.out.setCell_far (a := ⟨w.heap.size + 2, 0, none⟩) (fun e => by have h := (O3.out.lt e).1; simp only at h; omega) (.int .u8 14)
    have l4 := L3.out.setCell (p := ⟨w.heap.size + 2, 0, none⟩) (show w.heap.size ≤ w.heap.size + 2 by omega) (.int .u8 14)
    clear O3 B03 B13 B23 L3 c3 d3 f3 T3 cc B0 B1 B2 tb
    generalize w3.setCell ⟨w.heap.size + 2, 0, none⟩ (.int .u8 14) = w4 at *
    simp only [List.setIfInBounds_toArray, List.set_cons_zero] at b4
    go_wp2_with (first | ((with_reducible refine look_load ?_); refine wpList_load_row rfl _ _ rfl _ rfl _ _ _ _ b4 Tryz.underlying98 rfl (by kernel_rfl) ?_) | ((with_reducible refine look_store ?_); refine wpList_store_row rfl _ _ _ rfl _ _ rfl rfl _ _ b1 (by kernel_rfl) (by simp) (by simp [Value.oneCell']) ?_) | fail)
    exact bodyPost_ret (results_cell_tmp2 Tryz.results41 _ _ _ _ _ _ _ rfl (setRow_heap _ _ _ _ _ _ b1) Tryz.underlying98 rfl (by kernel_rfl)) rfl ⟨q3, by simp [typL, limL, kinL, Int.emod_one], ((o4.base_le (show w.heap.size + 1 + 1 ≤ w.heap.size + 2 + 1 by omega)).growR (grown_setRow _ _ _)).base_le (by omega), below_setRow l4 (by omega) _⟩

  · replace ht2 : t.tmod 11 = 5 := ht2
    go_enter Tryz.func41, Tryz.ntmps41
    go_upto_region 1 with fail
    refine wp_name2 ?_
    intro w1 hb1 hs1 b0 b1
    have cc := b0.cell
    go_upto_region 2 with (first | ((with_reducible refine look_store ?_); refine wpList_store_new rfl _ _ _ rfl _ _ rfl rfl _ _ rfl (by kernel_rfl) (by simp) (by simp [Value.oneCell']) ?_) | fail)
    refine wp_name1 ?_
    intro w2 hb2 hs2 b2
    have B0 := Lib.hid (b0.below hb2 b0.lt)
    have B1 := Lib.hid (b1.below hb2 b1.lt)
    have B2 := Lib.hid b2
    rw [hs1] at B2
    have L2 := Lib.hid (hb1.trans (hb2.mono hb1.size))
    have hsz2 : Hid (w2.heap.size = w.heap.size + 3) := Lib.hid (by omega)
    clear hb1 hs1 b0 b1 hb2 hs2 b2 cc
    have cc := fun o j => (World.cell?_alloc_lt w2 o ⟨w.heap.size, j, none⟩ (by have := hsz2.out; show w.heap.size < w2.heap.size; omega)).trans (B0.out.cell j)
    go_upto_region 11 with (first | (at_builtin; refine app_fresh rfl _ _ rfl (w.heap.size + 2 + 1) w2.heap.size rfl (own_lit w2 (w.heap.size + 2 + 1) 0 [] _ rfl rfl (by simp [maxLen]) (by have := hsz2.out; omega)) w.heap.size A m cap (xs.take 80) rfl HL.out.symm (HR.out.below (L2.out.alloc L2.out.size _) (Nat.le_refl _)) (by have := HL.out; omega) (by have := hsz2.out; simp; omega) ?_; intro v3 w3 o3 l3; have LB : Below w2.heap.size w2 w3 := ((Below.refl _ _).alloc (Nat.le_refl _) _).trans (l3.mono (by simp)); have L3 := L2.out.trans (LB.mono L2.out.size); have B03 := B0.out.below LB B0.out.lt; have B13 := B1.out.below LB B1.out.lt; have B23 := B2.out.below LB B2.out.lt; have T3 := HT.out.below L3 (Nat.le_refl _); have c3 := B03.cell; have d3 := B23.cell; have f3 := B23.frozen; have tb : w3.cell? ⟨2, 2, none⟩ = some (.int .u8 18) := T3.rep 2 (by decide); clear LB l3; have O3 := Lib.hid o3; have L3 := Lib.hid L3; have B03 := Lib.hid B03; have B13 := Lib.hid B13; have B23 := Lib.hid B23; clear o3) | fail)
    obtain ⟨q3, rfl⟩ := O3.out.shape HL.out
    have b4 := B23.out.set 0 (.int .u8 18)
    have b1 := B13.out.far (p := ⟨w.heap.size + 2, 0, none⟩) (show w.heap.size + 1 ≠ w.heap.size + 2 by omega) (.int .u8 18)
    have o4 := O3.out.setCell_far (a := ⟨w.heap.size + 2, 0, none⟩) (fun e => by have h := (O3.out.lt e).1; simp only at h; omega) (.int .u8 18)
    have l4 := L3.out.setCell (p := ⟨w.heap.size + 2, 0, none⟩) (show w.heap.size ≤ w.heap.size + 2 by omega) (.int .u8 18)
    clear O3 B03 B13 B23 L3 c3 d3 f3 T3 cc B0 B1 B2 tb
    generalize w3.setCell ⟨w.heap.size + 2, 0, none⟩ (.int .u8 18) = w4 at *
    simp only [List.setIfInBounds_toArray, List.set_cons_zero] at b4
    go_wp2_with (first | ((with_reducible refine look_load ?_); refine wpList_load_row rfl _ _ rfl _ rfl _ _ _ _ b4 Tryz.underlying98 rfl (by kernel_rfl) ?_) | ((with_reducible refine look_store ?_); refine wpList_store_row rfl _ _ _ rfl _ _ rfl rfl _ _ b1 (by kernel_rfl) (by simp) (by simp [Value.oneCell']) ?_) | fail)
    exact bodyPost_ret (results_cell_tmp2 Tryz.results41 _ _ _ _ _ _ _ rfl (setRow_heap _ _ _ _ _ _ b1) Tryz.underlying98 rfl (by kernel_rfl)) rfl ⟨q3, by simp [typL, limL, kinL, Int.emod_one], ((o4.base_le (show w.heap.size + 1 + 1 ≤ w.heap.size + 2 + 1 by omega)).growR (grown_setRow _ _ _)).base_le (by omega), below_setRow l4 (by omega) _⟩

def m10N (T C ident seqn : Int) : Nat → Array Value
  | 0 => #[.int .u8 0, .int .u8 0, .int .u16 ident, .int .u16 seqn]
  | 1 => #[.int .u8 T, .int .u8 0, .int .u16 ident, .int .u16 seqn]
  | _ => #[.int .u8 T, .int .u8 C, .int .u16 ident, .int .u16 seqn]
set_option maxRecDepth 100000 in
set_option maxHeartbeats 8000000 in
theorem made10_e (r : Nat) (hr1 : 6 ≤ r ∧ r < 11) (t c ident seqn : Int) (A : Option Addr) (cap n m : Nat) (xs : List Int) (w : World) (t0 : 0 ≤ t) (ht : t % 11 = r) (c0 : 0 ≤ c) (c1 : c < 256) (hn : xs.length = n) (hcap : n ≤ cap) (hm : m = min n 80) (hr : Rd w w.heap.size A .u8 xs) (hT : Tabs w) :
    Calls Tryz.prog 41 #[.agg #[.int .u8 t, .int .u8 c, .int .u16 ident, .int .u16 seqn, .slice A n cap]] w (Made10Post t c ident seqn m xs w) := by
  have hmi : min (n : Int) 80 = (m : Int) := by omega
  have hmc : (m : Int) ≤ cap := by omega
  have HL := Lib.hid (show (xs.take 80).length = m by rw [List.length_take]; omega)
  have HR := Lib.hid (hr.take 80)
  have HT := Lib.hid hT
  have hrn : (t % 11).toNat = r := by omega
  unfold Made10Post m10T m10C m10K
  rw [hrn]
  clear hn hm hr hcap hT hrn
  have ht2 : t.tmod 11 = r := by rw [Int.tmod_eq_emod_of_nonneg t0]; exact ht
  clear ht

  rcases (show r = 6 ∨ r = 7 ∨ r = 8 ∨ r = 9 ∨ r = 10 by omega) with rfl | rfl | rfl | rfl | rfl
  · replace ht2 : t.tmod 11 = 6 := ht2
    go_enter Tryz.func41, Tryz.ntmps41
    go_upto_region 1 with fail
    refine wp_name2 ?_
    intro w1 hb1 hs1 b0 b1
    have cc := b0.cell
    go_upto_region 2 with (first | ((with_reducible refine look_store ?_); refine wpList_store_new rfl _ _ _ rfl _ _ rfl rfl _ _ rfl (by kernel_rfl) (by simp) (by simp [Value.oneCell']) ?_) | fail)
    refine wp_name1 ?_
    intro w2 hb2 hs2 b2
    have B0 := Lib.hid (b0.below hb2 b0.lt)
    have B1 := Lib.hid (b1.below hb2 b1.lt)
    have B2 := Lib.hid b2
    rw [hs1] at B2
    have L2 := Lib.hid (hb1.trans (hb2.mono hb1.size))
    have hsz2 : Hid (w2.heap.size = w.heap.size + 3) := Lib.hid (by omega)
    clear hb1 hs1 b0 b1 hb2 hs2 b2 cc
    have cc := fun o j => (World.cell?_alloc_lt w2 o ⟨w.heap.size, j, none⟩ (by have := hsz2.out; show w.heap.size < w2.heap.size; omega)).trans (B0.out.cell j)
    go_upto_region 4 with (first | (at_builtin; refine app_fresh rfl _ _ rfl (w.heap.size + 2 + 1) w2.heap.size rfl (own_lit w2 (w.heap.size + 2 + 1) 0 [] _ rfl rfl (by simp [maxLen]) (by have := hsz2.out; omega)) w.heap.size A m cap (xs.take 80) rfl HL.out.symm (HR.out.below (L2.out.alloc L2.out.size _) (Nat.le_refl _)) (by have := HL.out; omega) (by have := hsz2.out; simp; omega) ?_; intro v3 w3 o3 l3; have LB : Below w2.heap.size w2 w3 := ((Below.refl _ _).alloc (Nat.le_refl _) _).trans (l3.mono (by simp)); have L3 := L2.out.trans (LB.mono L2.out.size); have B03 := B0.out.below LB B0.out.lt; have B13 := B1.out.below LB B1.out.lt; have B23 := B2.out.below LB B2.out.lt; have T3 := HT.out.below L3 (Nat.le_refl _); have c3 := B03.cell; have d3 := B23.cell; have f3 := B23.frozen; clear LB l3; have O3 := Lib.hid o3; have L3 := Lib.hid L3; have B03 := Lib.hid B03; have B13 := Lib.hid B13; have B23 := Lib.hid B23; clear o3) | fail)
    obtain ⟨q3, rfl⟩ := O3.out.shape HL.out
    have hE0 : StN w w.heap.size [(w.heap.size, 32, #[.int .u8 t, .int .u8 c, .int .u16 ident, .int .u16 seqn, .slice A n cap]), (w.heap.size + 1, 98, #[.int .u8 0, .int .u8 0, .int .u16 0, .int .u16 0])] (w.heap.size + 2) 98 (m10N 3 (c % 16) ident seqn) 0 w3 ∧ Own w3 (w.heap.size + 2 + 1) (.slice q3.1 m q3.2) (xs.take 80) :=
      ⟨⟨((St.nil L3.out L3.out.size).cons B13.out).cons B03.out, by omega, by simp, B23.out⟩, O3.out⟩
    clear O3 B03 B13 B23 L3 c3 d3 f3 T3 cc B0 B1 B2
    refine wp_region_walk0 (by kernel_rfl) (fun k W => StN w w.heap.size _ (w.heap.size + 2) 98 (m10N 3 (c % 16) ident seqn) k W ∧ Own W (w.heap.size + 2 + 1) (.slice q3.1 m q3.2) (xs.take 80)) [15, 17] GTop [0, 1, 2, 3, 4, 5, 6, 7, 8, 9, 10, 11, 12, 13, 14, 15, 16, 17] (by kernel_rfl) ⟨hE0.1.drew, hE0.2.drew⟩ ?_
    iterate 15
      apply Walk.one rfl rfl rfl
      case hrun =>
        intro k W hE hF
        have hc := (hE.1.1.get 0 rfl).cell
        have T3 := HT.out.below hE.1.1.1 (Nat.le_refl _)
        have t0 : W.cell? ⟨3, 0, none⟩ = some (.int .u8 3) := T3.err 0 (by decide)
        have t1 : W.cell? ⟨3, 1, none⟩ = some (.int .u8 15) := T3.err 1 (by decide)
        go_wp2_with fail
        exact TextPost.mk ⟨GTop.mk, hE⟩
      case hv => rfl
    apply Walk.keep 0 rfl rfl rfl rfl
    case hrun =>
      intro W2 hE hF
      have hc := hE.1.2.2.2.cell
      have hf := hE.1.2.2.2.frozen
      go_wp2_with fail
      exact TextPost.mk ⟨GTop.mk, hE.1.set 0 _ rfl, hE.2.setCell_far (fun e => by have h := (hE.2.lt e).1; simp only at h; omega) _⟩
    case hv => rfl
    apply Walk.one rfl rfl rfl
    case hrun =>
      intro k W hE hF
      go_wp2_with fail
      exact TextPost.mk ⟨GTop.mk, hE⟩
    case hv => rfl
    apply Walk.keep 1 rfl rfl rfl rfl
    case hrun =>
      intro W2 hE hF
      have hc := hE.1.2.2.2.cell
      have hf := hE.1.2.2.2.frozen
      go_wp2_with fail
      exact TextPost.mk ⟨GTop.mk, hE.1.set 1 _ rfl, hE.2.setCell_far (fun e => by have h := (hE.2.lt e).1; simp only at h; omega) _⟩
    case hv => rfl
    refine Walk.done (fun W hE hF => ?_)
    have b4 : Blk W (w.heap.size + 2) 98 #[.int .u8 3, .int .u8 (c % 16), .int .u16 ident, .int .u16 seqn] := hE.1.2.2.2
    have b1 := hE.1.1.get 1 rfl
    have o4 := hE.2
    have l4 := hE.1.1.1
    clear hE hF hE0
    go_wp2_with (first | ((with_reducible refine look_load ?_); refine wpList_load_row rfl _ _ rfl _ rfl _ _ _ _ b4 Tryz.underlying98 rfl (by kernel_rfl) ?_) | ((with_reducible refine look_store ?_); refine wpList_store_row rfl _ _ _ rfl _ _ rfl rfl _ _ b1 (by kernel_rfl) (by simp) (by simp [Value.oneCell']) ?_) | fail)
    exact bodyPost_ret (results_cell_tmp2 Tryz.results41 _ _ _ _ _ _ _ rfl (setRow_heap _ _ _ _ _ _ b1) Tryz.underlying98 rfl (by kernel_rfl)) rfl ⟨q3, by simp [typL, limL, kinL], ((o4.base_le (show w.heap.size + 1 + 1 ≤ w.heap.size + 2 + 1 by omega)).growR (grown_setRow _ _ _)).base_le (by omega), below_setRow l4 (by omega) _⟩

  · replace ht2 : t.tmod 11 = 7 := ht2
    go_enter Tryz.func41, Tryz.ntmps41
    go_upto_region 1 with fail
    refine wp_name2 ?_
    intro w1 hb1 hs1 b0 b1
    have cc := b0.cell
    go_upto_region 2 with (first | ((with_reducible refine look_store ?_); refine wpList_store_new rfl _ _ _ rfl _ _ rfl rfl _ _ rfl (by kernel_rfl) (by simp) (by simp [Value.oneCell']) ?_) | fail)
    refine wp_name1 ?_
    intro w2 hb2 hs2 b2
    have B0 := Lib.hid (b0.below hb2 b0.lt)
    have B1 := Lib.hid (b1.below hb2 b1.lt)
    have B2 := Lib.hid b2
    rw [hs1] at B2
    have L2 := Lib.hid (hb1.trans (hb2.mono hb1.size))
    have hsz2 : Hid (w2.heap.size = w.heap.size + 3) := Lib.hid (by omega)
    clear hb1 hs1 b0 b1 hb2 hs2 b2 cc
    have cc := fun o j => (World.cell?_alloc_lt w2 o ⟨w.heap.size, j, none⟩ (by have := hsz2.out; show w.heap.size < w2.heap.size; omega)).trans (B0.out.cell j)
    go_upto_region 4 with (first | (at_builtin; refine app_fresh rfl _ _ rfl (w.heap.size + 2 + 1) w2.heap.size rfl (own_lit w2 (w.heap.size + 2 + 1) 0 [] _ rfl rfl (by simp [maxLen]) (by have := hsz2.out; omega)) w.heap.size A m cap (xs.take 80) rfl HL.out.symm (HR.out.below (L2.out.alloc L2.out.size _) (Nat.le_refl _)) (by have := HL.out; omega) (by have := hsz2.out; simp; omega) ?_; intro v3 w3 o3 l3; have LB : Below w2.heap.size w2 w3 := ((Below.refl _ _).alloc (Nat.le_refl _) _).trans (l3.mono (by simp)); have L3 := L2.out.trans (LB.mono L2.out.size); have B03 := B0.out.below LB B0.out.lt; have B13 := B1.out.below LB B1.out.lt; have B23 := B2.out.below LB B2.out.lt; have T3 := HT.out.below L3 (Nat.le_refl _); have c3 := B03.cell; have d3 := B23.cell; have f3 := B23.frozen; clear LB l3; have O3 := Lib.hid o3; have L3 := Lib.hid L3; have B03 := Lib.hid B03; have B13 := Lib.hid B13; have B23 := Lib.hid B23; clear o3) | fail)
    obtain ⟨q3, rfl⟩ := O3.out.shape HL.out
    have hE0 : StN w w.heap.size [(w.heap.size, 32, #[.int .u8 t, .int .u8 c, .int .u16 ident, .int .u16 seqn, .slice A n cap]), (w.heap.size + 1, 98, #[.int .u8 0, .int .u8 0, .int .u16 0, .int .u16 0])] (w.heap.size + 2) 98 (m10N 4 0 ident seqn) 0 w3 ∧ Own w3 (w.heap.size + 2 + 1) (.slice q3.1 m q3.2) (xs.take 80) :=
      ⟨⟨((St.nil L3.out L3.out.size).cons B13.out).cons B03.out, by omega, by simp, B23.out⟩, O3.out⟩
    clear O3 B03 B13 B23 L3 c3 d3 f3 T3 cc B0 B1 B2
    refine wp_region_walk0 (by kernel_rfl) (fun k W => StN w w.heap.size _ (w.heap.size + 2) 98 (m10N 4 0 ident seqn) k W ∧ Own W (w.heap.size + 2 + 1) (.slice q3.1 m q3.2) (xs.take 80)) [15, 17] GTop [0, 1, 2, 3, 4, 5, 6, 7, 8, 9, 10, 11, 12, 13, 14, 15, 16, 17] (by kernel_rfl) ⟨hE0.1.drew, hE0.2.drew⟩ ?_
    iterate 15
      apply Walk.one rfl rfl rfl
      case hrun =>
        intro k W hE hF
        have hc := (hE.1.1.get 0 rfl).cell
        have T3 := HT.out.below hE.1.1.1 (Nat.le_refl _)
        have t0 : W.cell? ⟨3, 2, none⟩ = some (.int .u8 4) := T3.err 2 (by decide)
        have t1 : W.cell? ⟨3, 3, none⟩ = some (.int .u8 0) := T3.err 3 (by decide)
        go_wp2_with fail
        exact TextPost.mk ⟨GTop.mk, hE⟩
      case hv => rfl
    apply Walk.keep 0 rfl rfl rfl rfl
    case hrun =>
      intro W2 hE hF
      have hc := hE.1.2.2.2.cell
      have hf := hE.1.2.2.2.frozen
      go_wp2_with fail
      exact TextPost.mk ⟨GTop.mk, hE.1.set 0 _ rfl, hE.2.setCell_far (fun e => by have h := (hE.2.lt e).1; simp only at h; omega) _⟩
    case hv => rfl
    apply Walk.one rfl rfl rfl
    case hrun =>
      intro k W hE hF
      go_wp2_with fail
      exact TextPost.mk ⟨GTop.mk, hE⟩
    case hv => rfl
    apply Walk.keep 1 rfl rfl rfl rfl
    case hrun =>
      intro W2 hE hF
      have hc := hE.1.2.2.2.cell
      have hf := hE.1.2.2.2.frozen
      go_wp2_with fail
      exact TextPost.mk ⟨GTop.mk, hE.1.set 1 _ rfl, hE.2.setCell_far (fun e => by have h := (hE.2.lt e).1; simp only at h; omega) _⟩
    case hv => rfl
    refine Walk.done (fun W hE hF => ?_)
    have b4 : Blk W (w.heap.size + 2) 98 #[.int .u8 4, .int .u8 0, .int .u16 ident, .int .u16 seqn] := hE.1.2.2.2
    have b1 := hE.1.1.get 1 rfl
    have o4 := hE.2
    have l4 := hE.1.1.1
    clear hE hF hE0
    go_wp2_with (first | ((with_reducible refine look_load ?_); refine wpList_load_row rfl _ _ rfl _ rfl _ _ _ _ b4 Tryz.underlying98 rfl (by kernel_rfl) ?_) | ((with_reducible refine look_store ?_); refine wpList_store_row rfl _ _ _ rfl _ _ rfl rfl _ _ b1 (by kernel_rfl) (by simp) (by simp [Value.oneCell']) ?_) | fail)
    exact bodyPost_ret (results_cell_tmp2 Tryz.results41 _ _ _ _ _ _ _ rfl (setRow_heap _ _ _ _ _ _ b1) Tryz.underlying98 rfl (by kernel_rfl)) rfl ⟨q3, by simp [typL, limL, kinL, Int.emod_one], ((o4.base_le (show w.heap.size + 1 + 1 ≤ w.heap.size + 2 + 1 by omega)).growR (grown_setRow _ _ _)).base_le (by omega), below_setRow l4 (by omega) _⟩

  · replace ht2 : t.tmod 11 = 8 := ht2
    go_enter Tryz.func41, Tryz.ntmps41
    go_upto_region 1 with fail
    refine wp_name2 ?_
    intro w1 hb1 hs1 b0 b1
    have cc := b0.cell
    go_upto_region 2 with (first | ((with_reducible refine look_store ?_); refine wpList_store_new rfl _ _ _ rfl _ _ rfl rfl _ _ rfl (by kernel_rfl) (by simp) (by simp [Value.oneCell']) ?_) | fail)
    refine wp_name1 ?_
    intro w2 hb2 hs2 b2
    have B0 := Lib.hid (b0.below hb2 b0.lt)
    have B1 := Lib.hid (b1.below hb2 b1.lt)
    have B2 := Lib.hid b2
    rw [hs1] at B2
    have L2 := Lib.hid (hb1.trans (hb2.mono hb1.size))
    have hsz2 : Hid (w2.heap.size = w.heap.size + 3) := Lib.hid (by omega)
    clear hb1 hs1 b0 b1 hb2 hs2 b2 cc
    have cc := fun o j => (World.cell?_alloc_lt w2 o ⟨w.heap.size, j, none⟩ (by have := hsz2.out; show w.heap.size < w2.heap.size; omega)).trans (B0.out.cell j)
    go_upto_region 4 with (first | (at_builtin; refine app_fresh rfl _ _ rfl (w.heap.size + 2 + 1) w2.heap.size rfl (own_lit w2 (w.heap.size + 2 + 1) 0 [] _ rfl rfl (by simp [maxLen]) (by have := hsz2.out; omega)) w.heap.size A m cap (xs.take 80) rfl HL.out.symm (HR.out.below (L2.out.alloc L2.out.size _) (Nat.le_refl _)) (by have := HL.out; omega) (by have := hsz2.out; simp; omega) ?_; intro v3 w3 o3 l3; have LB : Below w2.heap.size w2 w3 := ((Below.refl _ _).alloc (Nat.le_refl _) _).trans (l3.mono (by simp)); have L3 := L2.out.trans (LB.mono L2.out.size); have B03 := B0.out.below LB B0.out.lt; have B13 := B1.out.below LB B1.out.lt; have B23 := B2.out.below LB B2.out.lt; have T3 := HT.out.below L3 (Nat.le_refl _); have c3 := B03.cell; have d3 := B23.cell; have f3 := B23.frozen; clear LB l3; have O3 := Lib.hid o3; have L3 := Lib.hid L3; have B03 := Lib.hid B03; have B13 := Lib.hid B13; have B23 := Lib.hid B23; clear o3) | fail)
    obtain ⟨q3, rfl⟩ := O3.out.shape HL.out
    have hE0 : StN w w.heap.size [(w.heap.size, 32, #[.int .u8 t, .int .u8 c, .int .u16 ident, .int .u16 seqn, .slice A n cap]), (w.heap.size + 1, 98, #[.int .u8 0, .int .u8 0, .int .u16 0, .int .u16 0])] (w.heap.size + 2) 98 (m10N 5 (c % 4) ident seqn) 0 w3 ∧ Own w3 (w.heap.size + 2 + 1) (.slice q3.1 m q3.2) (xs.take 80) :=
      ⟨⟨((St.nil L3.out L3.out.size).cons B13.out).cons B03.out, by omega, by simp, B23.out⟩, O3.out⟩
    clear O3 B03 B13 B23 L3 c3 d3 f3 T3 cc B0 B1 B2
    refine wp_region_walk0 (by kernel_rfl) (fun k W => StN w w.heap.size _ (w.heap.size + 2) 98 (m10N 5 (c % 4) ident seqn) k W ∧ Own W (w.heap.size + 2 + 1) (.slice q3.1 m q3.2) (xs.take 80)) [15, 17] GTop [0, 1, 2, 3, 4, 5, 6, 7, 8, 9, 10, 11, 12, 13, 14, 15, 16, 17] (by kernel_rfl) ⟨hE0.1.drew, hE0.2.drew⟩ ?_
    iterate 15
      apply Walk.one rfl rfl rfl
      case hrun =>
        intro k W hE hF
        have hc := (hE.1.1.get 0 rfl).cell
        have T3 := HT.out.below hE.1.1.1 (Nat.le_refl _)
        have t0 : W.cell? ⟨3, 4, none⟩ = some (.int .u8 5) := T3.err 4 (by decide)
        have t1 : W.cell? ⟨3, 5, none⟩ = some (.int .u8 3) := T3.err 5 (by decide)
        go_wp2_with fail
        exact TextPost.mk ⟨GTop.mk, hE⟩
      case hv => rfl
    apply Walk.keep 0 rfl rfl rfl rfl
    case hrun =>
      intro W2 hE hF
      have hc := hE.1.2.2.2.cell
      have hf := hE.1.2.2.2.frozen
      go_wp2_with fail
      exact TextPost.mk ⟨GTop.mk, hE.1.set 0 _ rfl, hE.2.setCell_far (fun e => by have h := (hE.2.lt e).1; simp only at h; omega) _⟩
    case hv => rfl
    apply Walk.one rfl rfl rfl
    case hrun =>
      intro k W hE hF
      go_wp2_with fail
      exact TextPost.mk ⟨GTop.mk, hE⟩
    case hv => rfl
    apply Walk.keep 1 rfl rfl rfl rfl
    case hrun =>
      intro W2 hE hF
      have hc := hE.1.2.2.2.cell
      have hf := hE.1.2.2.2.frozen
      go_wp2_with fail
      exact TextPost.mk ⟨GTop.mk, hE.1.set 1 _ rfl, hE.2.setCell_far (fun e => by have h := (hE.2.lt e).1; simp only at h; omega) _⟩
    case hv => rfl
    refine Walk.done (fun W hE hF => ?_)
    have b4 : Blk W (w.heap.size + 2) 98 #[.int .u8 5, .int .u8 (c % 4), .int .u16 ident, .int .u16 seqn] := hE.1.2.2.2
    have b1 := hE.1.1.get 1 rfl
    have o4 := hE.2
    have l4 := hE.1.1.1
    clear hE hF hE0
    go_wp2_with (first | ((with_reducible refine look_load ?_); refine wpList_load_row rfl _ _ rfl _ rfl _ _ _ _ b4 Tryz.underlying98 rfl (by kernel_rfl) ?_) | ((with_reducible refine look_store ?_); refine wpList_store_row rfl _ _ _ rfl _ _ rfl rfl _ _ b1 (by kernel_rfl) (by simp) (by simp [Value.oneCell']) ?_) | fail)
    exact bodyPost_ret (results_cell_tmp2 Tryz.results41 _ _ _ _ _ _ _ rfl (setRow_heap _ _ _ _ _ _ b1) Tryz.underlying98 rfl (by kernel_rfl)) rfl ⟨q3, by simp [typL, limL, kinL], ((o4.base_le (show w.heap.size + 1 + 1 ≤ w.heap.size + 2 + 1 by omega)).growR (grown_setRow _ _ _)).base_le (by omega), below_setRow l4 (by omega) _⟩

  · replace ht2 : t.tmod 11 = 9 := ht2
    go_enter Tryz.func41, Tryz.ntmps41
    go_upto_region 1 with fail
    refine wp_name2 ?_
    intro w1 hb1 hs1 b0 b1
    have cc := b0.cell
    go_upto_region 2 with (first | ((with_reducible refine look_store ?_); refine wpList_store_new rfl _ _ _ rfl _ _ rfl rfl _ _ rfl (by kernel_rfl) (by simp) (by simp [Value.oneCell']) ?_) | fail)
    refine wp_name1 ?_
    intro w2 hb2 hs2 b2
    have B0 := Lib.hid (b0.below hb2 b0.lt)
    have B1 := Lib.hid (b1.below hb2 b1.lt)
    have B2 := Lib.hid b2
    rw [hs1] at B2
    have L2 := Lib.hid (hb1.trans (hb2.mono hb1.size))
    have hsz2 : Hid (w2.heap.size = w.heap.size + 3) := Lib.hid (by omega)
    clear hb1 hs1 b0 b1 hb2 hs2 b2 cc
    have cc := fun o j => (World.cell?_alloc_lt w2 o ⟨w.heap.size, j, none⟩ (by have := hsz2.out; show w.heap.size < w2.heap.size; omega)).trans (B0.out.cell j)
    go_upto_region 4 with (first | (at_builtin; refine app_fresh rfl _ _ rfl (w.heap.size + 2 + 1) w2.heap.size rfl (own_lit w2 (w.heap.size + 2 + 1) 0 [] _ rfl rfl (by simp [maxLen]) (by have := hsz2.out; omega)) w.heap.size A m cap (xs.take 80) rfl HL.out.symm (HR.out.below (L2.out.alloc L2.out.size _) (Nat.le_refl _)) (by have := HL.out; omega) (by have := hsz2.out; simp; omega) ?_; intro v3 w3 o3 l3; have LB : Below w2.heap.size w2 w3 := ((Below.refl _ _).alloc (Nat.le_refl _) _).trans (l3.mono (by simp)); have L3 := L2.out.trans (LB.mono L2.out.size); have B03 := B0.out.below LB B0.out.lt; have B13 := B1.out.below LB B1.out.lt; have B23 := B2.out.below LB B2.out.lt; have T3 := HT.out.below L3 (Nat.le_refl _); have c3 := B03.cell; have d3 := B23.cell; have f3 := B23.frozen; clear LB l3; have O3 := Lib.hid o3; have L3 := Lib.hid L3; have B03 := Lib.hid B03; have B13 := Lib.hid B13; have B23 := Lib.hid B23; clear o3) | fail)
    obtain ⟨q3, rfl⟩ := O3.out.shape HL.out
    have hE0 : StN w w.heap.size [(w.heap.size, 32, #[.int .u8 t, .int .u8 c, .int .u16 ident, .int .u16 seqn, .slice A n cap]), (w.heap.size + 1, 98, #[.int .u8 0, .int .u8 0, .int .u16 0, .int .u16 0])] (w.heap.size + 2) 98 (m10N 11 (c % 2) ident seqn) 0 w3 ∧ Own w3 (w.heap.size + 2 + 1) (.slice q3.1 m q3.2) (xs.take 80) :=
      ⟨⟨((St.nil L3.out L3.out.size).cons B13.out).cons B03.out, by omega, by simp, B23.out⟩, O3.out⟩
    clear O3 B03 B13 B23 L3 c3 d3 f3 T3 cc B0 B1 B2
    refine wp_region_walk0 (by kernel_rfl) (fun k W => StN w w.heap.size _ (w.heap.size + 2) 98 (m10N 11 (c % 2) ident seqn) k W ∧ Own W (w.heap.size + 2 + 1) (.slice q3.1 m q3.2) (xs.take 80)) [15, 17] GTop [0, 1, 2, 3, 4, 5, 6, 7, 8, 9, 10, 11, 12, 13, 14, 15, 16, 17] (by kernel_rfl) ⟨hE0.1.drew, hE0.2.drew⟩ ?_
    iterate 15
      apply Walk.one rfl rfl rfl
      case hrun =>
        intro k W hE hF
        have hc := (hE.1.1.get 0 rfl).cell
        have T3 := HT.out.below hE.1.1.1 (Nat.le_refl _)
        have t0 : W.cell? ⟨3, 6, none⟩ = some (.int .u8 11) := T3.err 6 (by decide)
        have t1 : W.cell? ⟨3, 7, none⟩ = some (.int .u8 1) := T3.err 7 (by decide)
        go_wp2_with fail
        exact TextPost.mk ⟨GTop.mk, hE⟩
      case hv => rfl
    apply Walk.keep 0 rfl rfl rfl rfl
    case hrun =>
      intro W2 hE hF
      have hc := hE.1.2.2.2.cell
      have hf := hE.1.2.2.2.frozen
      go_wp2_with fail
      exact TextPost.mk ⟨GTop.mk, hE.1.set 0 _ rfl, hE.2.setCell_far (fun e => by have h := (hE.2.lt e).1; simp only at h; omega) _⟩
    case hv => rfl
    apply Walk.one rfl rfl rfl
    case hrun =>
      intro k W hE hF
      go_wp2_with fail
      exact TextPost.mk ⟨GTop.mk, hE⟩
    case hv => rfl
    apply Walk.keep 1 rfl rfl rfl rfl
    case hrun =>
      intro W2 hE hF
      have hc := hE.1.2.2.2.cell
      have hf := hE.1.2.2.2.frozen
      go_wp2_with fail
      exact TextPost.mk ⟨GTop.mk, hE.1.set 1 _ rfl, hE.2.setCell_far (fun e => by have h := (hE.2.lt e).1; simp only at h; omega) _⟩
    case hv => rfl
    refine Walk.done (fun W hE hF => ?_)
    have b4 : Blk W (w.heap.size + 2) 98 #[.int .u8 11, .int .u8 (c % 2), .int .u16 ident, .int .u16 seqn] := hE.1.2.2.2
    have b1 := hE.1.1.get 1 rfl
    have o4 := hE.2
    have l4 := hE.1.1.1
    clear hE hF hE0
    go_wp2_with (first | ((with_reducible refine look_load ?_); refine wpList_load_row rfl _ _ rfl _ rfl _ _ _ _ b4 Tryz.underlying98 rfl (by kernel_rfl) ?_) | ((with_reducible refine look_store ?_); refine wpList_store_row rfl _ _ _ rfl _ _ rfl rfl _ _ b1 (by kernel_rfl) (by simp) (by simp [Value.oneCell']) ?_) | fail)
    exact bodyPost_ret (results_cell_tmp2 Tryz.results41 _ _ _ _ _ _ _ rfl (setRow_heap _ _ _ _ _ _ b1) Tryz.underlying98 rfl (by kernel_rfl)) rfl ⟨q3, by simp [typL, limL, kinL], ((o4.base_le (show w.heap.size + 1 + 1 ≤ w.heap.size + 2 + 1 by omega)).growR (grown_setRow _ _ _)).base_le (by omega), below_setRow l4 (by omega) _⟩

  · replace ht2 : t.tmod 11 = 10 := ht2
    go_enter Tryz.func41, Tryz.ntmps41
    go_upto_region 1 with fail
    refine wp_name2 ?_
    intro w1 hb1 hs1 b0 b1
    have cc := b0.cell
    go_upto_region 2 with (first | ((with_reducible refine look_store ?_); refine wpList_store_new rfl _ _ _ rfl _ _ rfl rfl _ _ rfl (by kernel_rfl) (by simp) (by simp [Value.oneCell']) ?_) | fail)
    refine wp_name1 ?_
    intro w2 hb2 hs2 b2
    have B0 := Lib.hid (b0.below hb2 b0.lt)
    have B1 := Lib.hid (b1.below hb2 b1.lt)
    have B2 := Lib.hid b2
    rw [hs1] at B2
    have L2 := Lib.hid (hb1.trans (hb2.mono hb1.size))
    have hsz2 : Hid (w2.heap.size = w.heap.size + 3) := Lib.hid (by omega)
    clear hb1 hs1 b0 b1 hb2 hs2 b2 cc
    have cc := fun o j => (World.cell?_alloc_lt w2 o ⟨w.heap.size, j, none⟩ (by have := hsz2.out; show w.heap.size < w2.heap.size; omega)).trans (B0.out.cell j)
    go_upto_region 4 with (first | (at_builtin; refine app_fresh rfl _ _ rfl (w.heap.size + 2 + 1) w2.heap.size rfl (own_lit w2 (w.heap.size + 2 + 1) 0 [] _ rfl rfl (by simp [maxLen]) (by have := hsz2.out; omega)) w.heap.size A m cap (xs.take 80) rfl HL.out.symm (HR.out.below (L2.out.alloc L2.out.size _) (Nat.le_refl _)) (by have := HL.out; omega) (by have := hsz2.out; simp; omega) ?_; intro v3 w3 o3 l3; have LB : Below w2.heap.size w2 w3 := ((Below.refl _ _).alloc (Nat.le_refl _) _).trans (l3.mono (by simp)); have L3 := L2.out.trans (LB.mono L2.out.size); have B03 := B0.out.below LB B0.out.lt; have B13 := B1.out.below LB B1.out.lt; have B23 := B2.out.below LB B2.out.lt; have T3 := HT.out.below L3 (Nat.le_refl _); have c3 := B03.cell; have d3 := B23.cell; have f3 := B23.frozen; clear LB l3; have O3 := Lib.hid o3; have L3 := Lib.hid L3; have B03 := Lib.hid B03; have B13 := Lib.hid B13; have B23 := Lib.hid B23; clear o3) | fail)
    obtain ⟨q3, rfl⟩ := O3.out.shape HL.out
    have hE0 : StN w w.heap.size [(w.heap.size, 32, #[.int .u8 t, .int .u8 c, .int .u16 ident, .int .u16 seqn, .slice A n cap]), (w.heap.size + 1, 98, #[.int .u8 0, .int .u8 0, .int .u16 0, .int .u16 0])] (w.heap.size + 2) 98 (m10N 12 (c % 3) ident seqn) 0 w3 ∧ Own w3 (w.heap.size + 2 + 1) (.slice q3.1 m q3.2) (xs.take 80) :=
      ⟨⟨((St.nil L3.out L3.out.size).cons B13.out).cons B03.out, by omega, by simp, B23.out⟩, O3.out⟩
    clear O3 B03 B13 B23 L3 c3 d3 f3 T3 cc B0 B1 B2
    refine wp_region_walk0 (by kernel_rfl) (fun k W => StN w w.heap.size _ (w.heap.size + 2) 98 (m10N 12 (c % 3) ident seqn) k W ∧ Own W (w.heap.size + 2 + 1) (.slice q3.1 m q3.2) (xs.take 80)) [15, 17] GTop [0, 1, 2, 3, 4, 5, 6, 7, 8, 9, 10, 11, 12, 13, 14, 15, 16, 17] (by kernel_rfl) ⟨hE0.1.drew, hE0.2.drew⟩ ?_
    iterate 15
      apply Walk.one rfl rfl rfl
      case hrun =>
        intro k W hE hF
        have hc := (hE.1.1.get 0 rfl).cell
        have T3 := HT.out.below hE.1.1.1 (Nat.le_refl _)
        have t0 : W.cell? ⟨3, 8, none⟩ = some (.int .u8 12) := T3.err 8 (by decide)
        have t1 : W.cell? ⟨3, 9, none⟩ = some (.int .u8 2) := T3.err 9 (by decide)
        go_wp2_with fail
        exact TextPost.mk ⟨GTop.mk, hE⟩
      case hv => rfl
    apply Walk.keep 0 rfl rfl rfl rfl
    case hrun =>
      intro W2 hE hF
      have hc := hE.1.2.2.2.cell
      have hf := hE.1.2.2.2.frozen
      go_wp2_with fail
      exact TextPost.mk ⟨GTop.mk, hE.1.set 0 _ rfl, hE.2.setCell_far (fun e => by have h := (hE.2.lt e).1; simp only at h; omega) _⟩
    case hv => rfl
    apply Walk.one rfl rfl rfl
    case hrun =>
      intro k W hE hF
      go_wp2_with fail
      exact TextPost.mk ⟨GTop.mk, hE⟩
    case hv => rfl
    apply Walk.keep 1 rfl rfl rfl rfl
    case hrun =>
      intro W2 hE hF
      have hc := hE.1.2.2.2.cell
      have hf := hE.1.2.2.2.frozen
      go_wp2_with fail
      exact TextPost.mk ⟨GTop.mk, hE.1.set 1 _ rfl, hE.2.setCell_far (fun e => by have h := (hE.2.lt e).1; simp only at h; omega) _⟩
    case hv => rfl
    refine Walk.done (fun W hE hF => ?_)
    have b4 : Blk W (w.heap.size + 2) 98 #[.int .u8 12, .int .u8 (c % 3), .int .u16 ident, .int .u16 seqn] := hE.1.2.2.2
    have b1 := hE.1.1.get 1 rfl
    have o4 := hE.2
    have l4 := hE.1.1.1
    clear hE hF hE0
    go_wp2_with (first | ((with_reducible refine look_load ?_); refine wpList_load_row rfl _ _ rfl _ rfl _ _ _ _ b4 Tryz.underlying98 rfl (by kernel_rfl) ?_) | ((with_reducible refine look_store ?_); refine wpList_store_row rfl _ _ _ rfl _ _ rfl rfl _ _ b1 (by kernel_rfl) (by simp) (by simp [Value.oneCell']) ?_) | fail)
    exact bodyPost_ret (results_cell_tmp2 Tryz.results41 _ _ _ _ _ _ _ rfl (setRow_heap _ _ _ _ _ _ b1) Tryz.underlying98 rfl (by kernel_rfl)) rfl ⟨q3, by simp [typL, limL, kinL], ((o4.base_le (show w.heap.size + 1 + 1 ≤ w.heap.size + 2 + 1 by omega)).growR (grown_setRow _ _ _)).base_le (by omega), below_setRow l4 (by omega) _⟩

theorem made10_any (t c ident seqn : Int) (A : Option Addr) (cap n m : Nat) (xs : List Int) (w : World) (t0 : 0 ≤ t) (c0 : 0 ≤ c) (c1 : c < 256) (hn : xs.length = n) (hcap : n ≤ cap) (hm : m = min n 80) (hr : Rd w w.heap.size A .u8 xs) (hT : Tabs w) :
    Calls Tryz.prog 41 #[.agg #[.int .u8 t, .int .u8 c, .int .u16 ident, .int .u16 seqn, .slice A n cap]] w (Made10Post t c ident seqn m xs w) := by
  rcases (show (t % 11).toNat < 3 ∨ (3 ≤ (t % 11).toNat ∧ (t % 11).toNat < 6) ∨ (6 ≤ (t % 11).toNat ∧ (t % 11).toNat < 11) by omega) with h | h | h
  · exact made10_q _ h t c ident seqn A cap n m xs w t0 (by omega) c0 c1 hn hcap hm hr hT
  · exact made10_p _ h t c ident seqn A cap n m xs w t0 (by omega) c0 c1 hn hcap hm hr hT
  · exact made10_e _ h t c ident seqn A cap n m xs w t0 (by omega) c0 c1 hn hcap hm hr hT
end Go.Proofs.YtebeekjcepjcnaaGreatDoor
