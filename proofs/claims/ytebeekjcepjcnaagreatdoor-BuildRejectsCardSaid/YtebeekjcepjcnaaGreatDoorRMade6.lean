/-
  bafflelaw06.Made: the walk.
-/
import Derived.Test.YtebeekjcepjcnaaGreatDoorRMade6p
namespace Go.Proofs.YtebeekjcepjcnaaGreatDoor
open Go.RowKit
set_option maxRecDepth 100000 in
set_option maxHeartbeats 64000000 in
theorem made6_any (A : Option Addr) (cap n m : Nat) (l : List OSm) (w : World) (hn : l.length = n) (hcap : n ≤ cap) (hm : m = min n 40) (hr : OSmAt w w.heap.size A l) (hk : ∀ x ∈ l, x.kind % 8 ≠ 2 ∧ x.kind % 8 ≠ 3) :
    Calls Tryz.prog 17 #[.slice A n cap] w (M6Post w m) := by
  have hmi : min (n : Int) 40 = (m : Int) := by omega
  have hmc : (m : Int) ≤ cap := by omega
  have Hm40 := Lib.hid (show m ≤ 40 ∧ m ≤ n by omega)
  have HN := Lib.hid hn
  have HR := Lib.hid hr
  have HK := Lib.hid hk
  clear hn hm hr hk hcap
  go_enter Tryz.func17, Tryz.ntmps17
  go_upto_region 4 with fail
  have H0 := Lib.hid (M6.start w)
  generalize w.alloc (.cells #[.int .i64 0, .int .i64 0, .int .i64 0] 102) = w1 at *
  go_wp2_with fail
  go_loopw [4, 5, 8, 9, 10, 11, 12, 13, 14, 15, 16, 23] (fun v t _ _ _ _ _ _ _ _ _ i W => ∃ (k : Nat) (os : List OE) (tot : Nat), k ≤ m ∧ i = .int .i64 k ∧ t = .int .i64 tot ∧ Hid (M6 w k os v tot W)) (fun _ _ _ _ _ _ _ _ _ _ _ i _ => m - (intOf i).toNat)
  case atStart => exact ⟨0, [], 0, by omega, rfl, rfl, H0⟩
  case round =>
    obtain ⟨k, os, tot, hk, rfl, rfl, hJ⟩ := hrel
    rename World => wo
    clear H0
    by_cases hlt : k < m
    · have e1 : decide ((k : Int) < m) = true := by simp; omega
      have e2 : decide (k < m) = true := by simp; omega
      obtain ⟨x, hx⟩ : ∃ x, l[k]? = some x := ⟨_, List.getElem?_eq_getElem (by have := HN.out; have := Hm40.out; omega)⟩
      obtain ⟨ok, b, off, rfl, hbB, hcl, hrd⟩ := HR.out.below hJ.out.below (Nat.le_refl _) k x hx
      have hkx := HK.out x (List.mem_of_getElem? hx)
      have q0 := hcl 0 _ rfl
      have q1 := hcl 1 _ rfl
      have q2 := hcl 2 _ rfl
      have q3 := hcl 3 _ rfl
      have HOk := Lib.hid ok
      have HRd := Lib.hid hrd
      have hkm : (k : Int) < m := by omega
      have hk40 : (k : Int) ≤ 40 := by have := Hm40.out; omega
      clear hcl ok hrd hx
      obtain ⟨kind, many, used, xA, xn, xc, bytes⟩ := x
      dsimp only at q0 q1 q2 q3 HOk HRd hkx
      simp only [Nat.add_zero] at q0

      go_upto_region 7 with (first | ((with_reducible refine look_store ?_); refine wpList_store_new rfl _ _ _ rfl _ _ rfl rfl _ _ rfl (by kernel_rfl) (by simp) (by simp [Value.oneCell']) ?_) | fail)
      refine wp_name1 ?_
      intro w2 hb2 hs2 b8
      have B8 := Lib.hid b8
      have L2 := Lib.hid hb2
      have Z2 : Hid (w2.heap.size = wo.heap.size + 1) := Lib.hid hs2
      clear hb2 hs2 q0 q1 q2 q3
      have hc8 := b8.cell
      clear b8
      have hk0 : 0 ≤ kind := HOk.out.k0
      have hk1 : kind < 256 := HOk.out.k1
      have hu0 : 0 ≤ used := HOk.out.u0
      have hu1 : used < 256 := HOk.out.u1
      have hm0 : 0 ≤ many := HOk.out.m0
      have hm1 : many < 256 := HOk.out.m1
      obtain ⟨r, hr1, hr2⟩ : ∃ r : Nat, kind.tmod 8 = r ∧ kind % 8 = r := ⟨(kind % 8).toNat, by rw [Int.tmod_eq_emod_of_nonneg hk0]; omega, by omega⟩
      obtain ⟨U, hU1, hU2⟩ : ∃ U : Nat, used.tmod 5 = U ∧ U < 5 := ⟨(used % 5).toNat, by rw [Int.tmod_eq_emod_of_nonneg hu0]; omega, by omega⟩
      have hUi : (U : Int) < 5 := by omega
      have Hr := Lib.hid (show r = 0 ∨ r = 1 ∨ r = 4 ∨ r = 5 ∨ r = 6 ∨ r = 7 by omega)
      clear hr2 hkx
      try dsimp only [Act.put]
      go_cut [9] (fun s9 wx => ∃ K : Int, s9 = .pointer (some ⟨w2.heap.size + 1, 0, none⟩) ∧ (K = 1 ∨ K = 7 ∨ K = 68 ∨ K = 148 ∨ K = 130 ∨ 2 ≤ K ∧ K ≤ 6) ∧ Hid (Below w2.heap.size w2 wx ∧ Blk wx (w2.heap.size + 1) 104 #[.int .u8 K, .slice none 0 0]))
      case first =>
        have h6 := Hr.out
        rcases h6 with rfl | rfl | rfl | rfl | rfl | rfl
        all_goals
          have hlt2 : wo.heap.size < w2.heap.size := by have := Z2.out; omega
          go_wp2_with (first | ((with_reducible refine look_store ?_); refine wpList_store_new rfl _ _ _ rfl _ _ rfl rfl _ _ rfl (by kernel_rfl) (by simp) (by simp [Value.oneCell']) ?_) | fail)
          go_meet
          exact ⟨_, rfl, by omega, Lib.hid ⟨((Below.refl _ _).alloc (Nat.le_refl _) _).alloc (by simp) _, Blk.next (by simp) _ _⟩⟩
      case rest =>
        obtain ⟨K, rfl, hK, hW⟩ := hcut
        clear hr1 hU1 hU2 hUi Hr U r
        have HK2 := Lib.hid hK
        have hc9 := hW.out.2.cell
        have hc8 := (B8.out.below hW.out.1 B8.out.lt).cell
        clear hK
        go_upto_block 2 with fail
        try dsimp only [Act.put]
        go_cut [10, 11, 12] (fun s10 s11 s12 wx => ∃ g h sz : Int, s10 = .int .i64 g ∧ s11 = .int .i64 h ∧ s12 = .int .i64 sz ∧ GHS K many g h sz ∧ Hid (Below wc.heap.size wc wx))
        case first =>
          rcases HK2.out with rfl | rfl | rfl | rfl | rfl | ⟨k1, k2⟩
          · go_wp2_with fail
            go_meet
            exact ⟨_, _, _, rfl, rfl, rfl, by unfold GHS; omega, Lib.hid (Below.refl _ _)⟩
          · go_wp2_with fail
            go_meet
            exact ⟨_, _, _, rfl, rfl, rfl, by unfold GHS; omega, Lib.hid (Below.refl _ _)⟩
          · obtain ⟨q, hq1, hq2, hq3⟩ : ∃ q : Nat, many.tmod 3 = q ∧ q < 3 ∧ many % 3 = q := ⟨(many % 3).toNat, by rw [Int.tmod_eq_emod_of_nonneg hm0]; omega, by omega, by omega⟩
            rcases (show q = 0 ∨ q = 1 ∨ q = 2 by omega) with rfl | rfl | rfl
            all_goals
              have hlc : wo.heap.size < wc.heap.size := by have := hW.out.1.size; have := Z2.out; omega
              go_wp2_with fail
              go_region_law (fail)
              all_goals
                go_wp2_with fail
                go_meet
                exact ⟨_, _, _, rfl, rfl, rfl, by unfold GHS szI; omega, Lib.hid ((Below.refl _ _).drew.alloc (Nat.le_refl _) _)⟩
          · go_wp2_with fail
            go_meet
            exact ⟨_, _, _, rfl, rfl, rfl, by unfold GHS; omega, Lib.hid (Below.refl _ _)⟩
          · go_wp2_with fail
            go_meet
            exact ⟨_, _, _, rfl, rfl, rfl, by unfold GHS; omega, Lib.hid (Below.refl _ _)⟩
          · have n1 : (K == 7) = false := by simp; omega
            have n2 : (K == 68) = false := by simp; omega
            have n3 : (K == 131) = false := by simp; omega
            have n4 : (K == 137) = false := by simp; omega
            have n5 : (K == 148) = false := by simp; omega
            go_wp2_with fail
            go_meet
            exact ⟨_, _, _, rfl, rfl, rfl, by unfold GHS; omega, Lib.hid (Below.refl _ _)⟩
        case rest =>
          rename World => wd
          obtain ⟨g, h, sz, rfl, rfl, rfl, hG, hD⟩ := hcut
          have HG := Lib.hid hG
          have B8d := Lib.hid ((B8.out.below hW.out.1 B8.out.lt).below hD.out (by have := hW.out.1.size; have := B8.out.lt; omega))
          have B9d := Lib.hid (hW.out.2.below hD.out hW.out.2.lt)
          have LD := Lib.hid (L2.out.trans ((hW.out.1.trans (hD.out.mono hW.out.1.size)).mono L2.out.size))
          have Z8 : Hid (wo.heap.size < w2.heap.size) := Lib.hid (by have := Z2.out; omega)
          have ZD : Hid (w2.heap.size + 1 < wd.heap.size) := Lib.hid B9d.out.lt
          clear hc8 hc9 hW hD hG B8 L2 Z2
          have hc8 := B8d.out.cell
          have hc9 := B9d.out.cell
          obtain ⟨mm, hm2, hm3⟩ : ∃ mm : Nat, many.tmod 10 = mm ∧ mm < 10 := ⟨(many % 10).toNat, by rw [Int.tmod_eq_emod_of_nonneg hm0]; omega, by omega⟩
          obtain ⟨Bq, hBq⟩ : ∃ Bq : Bool, (K == 1 || K == 148) = Bq := ⟨_, rfl⟩
          have HBq := Lib.hid hBq
          clear hBq
          go_upto_region 20 with fail
          go_cut [66] (fun s66 wx => s66 = .bool Bq ∧ wx = wd)
          case first =>
            as_aux_lemma =>
              by_cases hK1 : K = 1
              · subst hK1
                have hb := HBq.out
                go_wp2_with fail
                all_goals (go_meet; exact ⟨by rw [← hb]; rfl, rfl⟩)
              · have n1 : (K == 1) = false := by simpa using hK1
                by_cases hK2 : K = 148
                · subst hK2
                  have hb := HBq.out
                  go_wp2_with fail
                  all_goals (go_meet; exact ⟨by rw [← hb]; rfl, rfl⟩)
                · have n2 : (K == 148) = false := by simpa using hK2
                  have hb := HBq.out
                  rw [n1, n2] at hb
                  go_wp2_with fail
                  all_goals (go_meet; exact ⟨by rw [← hb]; rfl, rfl⟩)
          case rest =>
          obtain ⟨rfl, rfl⟩ := hcut
          go_upto_if 66 with fail
          go_cut [13] (fun s13 wx => ∃ nn : Nat, s13 = .int .i64 nn ∧ nn ≤ 9 ∧ (K = 1 ∨ K = 148 → nn = 0) ∧ wx = wc)
          case first =>
            as_aux_lemma =>
              have hb := HBq.out
              rcases Bq with _ | _
              · have hno : ¬ (K = 1 ∨ K = 148) := by simpa using hb
                clear hb
                go_wp2_with fail
                all_goals (go_meet; exact ⟨mm, rfl, by omega, fun h => absurd h hno, rfl⟩)
              · clear hb
                go_wp2_with fail
                all_goals (go_meet; exact ⟨0, rfl, by omega, fun _ => rfl, rfl⟩)
          case rest =>
            obtain ⟨nn, rfl, hn9, hn0, rfl⟩ := hcut
            obtain ⟨P, hP, hP2⟩ : ∃ P : Nat, (nn : Int) * sz = (P : Int) ∧ P ≤ 72 := ⟨(nn * sz).toNat, by
              have h := HG.out
              unfold GHS szI at h
              have : sz = 1 ∨ sz = 4 ∨ sz = 8 := by rcases h with h | h | h | h <;> first | omega | (split at h <;> omega)
              rcases this with rfl | rfl | rfl <;> omega, by
              have h := HG.out
              unfold GHS szI at h
              have : sz = 1 ∨ sz = 4 ∨ sz = 8 := by rcases h with h | h | h | h <;> first | omega | (split at h <;> omega)
              rcases this with rfl | rfl | rfl <;> omega⟩
            obtain ⟨N, hN⟩ : ∃ N : Nat, h + (P : Int) = (N : Int) := ⟨(h + P).toNat, by
              have h := HG.out
              unfold GHS at h
              omega⟩
            have hN74 : N ≤ 74 := by
              have h := HG.out
              unfold GHS at h
              omega
            have hh2 : 0 ≤ h ∧ h ≤ 2 := by
              have h := HG.out
              unfold GHS at h
              omega
            have HP := Lib.hid hP
            have HN2 := Lib.hid hN
            have hP3 : (P : Int) ≤ 72 := by omega
            have HN0 := Lib.hid hn0
            clear hn0
            clear hc8 hc9
            have SD := Lib.hid (show Below (w2.heap.size + 1) wc wc ∧ w2.heap.size + 2 ≤ wc.heap.size ∧ Blk wc (w2.heap.size + 1) 104 #[.int .u8 K, .slice none 0 0] from ⟨Below.refl _ _, by have := ZD.out; omega, B9d.out⟩)
            go_wp2_with fail
            go_loopw [14, 15, 72] (fun _ _ i W => ∃ (j : Nat) (dv : Value) (D : List Int), j ≤ N ∧ i = .int .i64 j ∧ Hid (D.length = j ∧ Byt D ∧ Below (w2.heap.size + 1) wc W ∧ w2.heap.size + 2 ≤ W.heap.size ∧ Blk W (w2.heap.size + 1) 104 #[.int .u8 K, dv] ∧ Own W (w2.heap.size + 1 + 1) dv D)) (fun _ _ i _ => N - (intOf i).toNat)
            case atStart => exact ⟨0, _, [], by omega, rfl, Lib.hid ⟨rfl, Byt.nil, SD.out.1, SD.out.2.1, SD.out.2.2, Own.nil_ _ _⟩⟩
            case round =>
              obtain ⟨j, dv, D, hj, rfl, hS⟩ := hrel
              rename World => wj
              clear SD
              have hc8 := (B8d.out.below hS.out.2.2.1 (by have := Z8.out; omega)).cell
              have hc9 := hS.out.2.2.2.2.1.cell
              have hf9 := hS.out.2.2.2.2.1.frozen
              by_cases hjl : j < N
              · have e3 : decide ((j : Int) < N) = true := by simp; omega
                have e4 : decide (j < N) = true := by simp; omega
                have hjN : (j : Int) < N := by omega
                have hj256 : (j : Int) < 256 := by omega
                have hwj : IntKind.u8.wrap (j : Int) = j := by rw [IntKind.wrap_u8]; omega
                have HRj := Lib.hid (HRd.out.below (LD.out.trans (hS.out.2.2.1.mono (by have := Z8.out; omega))) (by have := hJ.out.below.size; omega))
                have HBy := Lib.hid (show bytes.length = xn ∧ Byt bytes from ⟨HOk.out.len, HOk.out.byt⟩)
                go_upto_if 80 with fail
                go_cut [15] (fun s15 wx => ∃ y : Int, s15 = .int .u8 y ∧ 0 ≤ y ∧ y < 256 ∧ Hid (Below wj.heap.size wj wx))
                case first =>
                  as_aux_lemma =>
                    by_cases hx0 : xn = 0
                    · have ex : decide (0 < (xn : Int)) = false := by simp; omega
                      have ey : decide (0 < xn) = false := by simp; omega
                      go_wp2_with fail
                      go_meet
                      exact ⟨j, rfl, by omega, by omega, Lib.hid (Below.refl _ _)⟩
                    · have ex : decide (0 < (xn : Int)) = true := by simp; omega
                      have ey : decide (0 < xn) = true := by simp; omega
                      obtain ⟨q, hq, hq2⟩ : ∃ q : Nat, (j : Int).tmod xn = (q : Int) ∧ q < xn := ⟨j % xn, by rw [Int.tmod_eq_emod_of_nonneg (by omega)]; rfl, Nat.mod_lt _ (by omega)⟩
                      have hqn : (q : Int) < xn := by omega
                      have hx1 : ((xn : Int) == 0) = false := by simp; omega
                      have hx2 : ¬ ((xn : Int) = 0) := by omega
                      obtain ⟨bb, oo, rfl, hbb, hcb⟩ := HRj.out.at0 (by rw [HBy.out.1]; omega)
                      have hcq := hcb q (by rw [HBy.out.1]; exact hq2)
                      have hyb := HBy.out.2.at_ q
                      have hbs : bb < wj.heap.size := World.lt_of_cell hcq
                      have h8s : wo.heap.size < wj.heap.size := by have := Z8.out; have := hS.out.2.2.2.1; omega
                      clear hcb
                      generalize bytes.getD q 0 = y at *
                      go_wp2_with fail
                      refine wp_region_walk0 (by kernel_rfl) (fun _ W => St wj wj.heap.size [] W) [] Grow [0, 1, 2, 3, 4, 5, 6, 7, 8, 9] (by kernel_rfl) (St.nil (Below.refl _ _) (Nat.le_refl _)).drew ?_
                      iterate 10
                        apply Walk.one rfl rfl rfl
                        case hrun =>
                          intro c W hE hF
                          have d8 := (hE.1.cell (p := ⟨wo.heap.size, 3, none⟩) h8s).trans (hc8 3)
                          have dq := (hE.1.cell (p := ⟨bb, oo + q, none⟩) hbs).trans hcq
                          go_wp2_with fail
                          exact TextPost.mk ⟨Grow.refl _, hE⟩
                        case hv => rfl
                      refine Walk.done (fun W hE hF => ?_)
                      have hEl := hE.1
                      clear hE hF
                      go_wp2_with fail
                      go_meet
                      exact ⟨y, rfl, hyb.1, hyb.2, Lib.hid hEl⟩
                case rest =>
                  rename World => wk
                  obtain ⟨y, rfl, hy0, hy1, hLk⟩ := hcut
                  have HDl : Hid (D.length = j) := Lib.hid hS.out.1
                  have HSk := Lib.hid (show Byt D ∧ Below (w2.heap.size + 1) wc wk ∧ w2.heap.size + 2 ≤ wk.heap.size ∧ Blk wk (w2.heap.size + 1) 104 #[.int .u8 K, dv] ∧ Own wk (w2.heap.size + 1 + 1) dv D from
                    ⟨hS.out.2.1, hS.out.2.2.1.trans (hLk.out.mono (by have := hS.out.2.2.2.1; omega)), by have := hLk.out.size; have := hS.out.2.2.2.1; omega, hS.out.2.2.2.2.1.below hLk.out hS.out.2.2.2.2.1.lt, hS.out.2.2.2.2.2.below hLk.out (Nat.le_refl _)⟩)
                  clear hc8 hc9 hf9 hS hLk HRj
                  have hc9 := fun o => ((HSk.out.2.2.2.1.alloc o).cell 1)
                  have hd9 := HSk.out.2.2.2.1.cell 1
                  go_wp2_with (first | (at_builtin; refine app_own rfl _ _ rfl (w2.heap.size + 1 + 1) dv D rfl (HSk.out.2.2.2.2.alloc _) _ (some ⟨wk.heap.size, 0, none⟩) 1 1 [y] rfl rfl (Rd.new _ _ _ _) (by have := HDl.out; simp; omega) (by have := HSk.out.2.2.1; simp; omega) ?_; intro v6 w6 o6 l6 g6 a6; obtain ⟨pp, rfl⟩ := o6.shape (m := j + 1) (by have := HDl.out; simp; omega); have b6 := (HSk.out.2.2.2.1.alloc _).grown g6 (fun e => by have := (HSk.out.2.2.2.2.lt e.symm).1; omega); have c6 := b6.cell 1; have f6 := b6.frozen 1; have O6 := Lib.hid o6; have B6 := Lib.hid b6; have L6 := Lib.hid (show Below (w2.heap.size + 1) wc w6 ∧ w2.heap.size + 2 ≤ w6.heap.size from ⟨(HSk.out.2.1.alloc (by have := HSk.out.2.2.1; omega) _).trans (l6.mono (by omega)), by have h3 := g6.size; have := HSk.out.2.2.1; simp at h3; omega⟩); clear o6 b6 l6 g6 a6) | fail)
                  go_roundw
                  case rel =>
                    refine ⟨j + 1, _, D ++ [y], by omega, by go_num, Lib.hid ⟨by simp [HDl.out], HSk.out.1.append (Byt.cons hy0 hy1 Byt.nil), L6.out.1.setCell (p := ⟨w2.heap.size + 1, 1, none⟩) (Nat.le_refl _) _, by simpa using L6.out.2, B6.out.set 1 _, ?_⟩⟩
                    exact O6.out.setCell_far (a := ⟨w2.heap.size + 1, 1, none⟩) (fun e => by have h := (O6.out.lt e).1; simp only at h; omega) _
                  case measure => simp [intOf]; omega
              · obtain rfl : j = N := by omega
                have hDl := hS.out.1
                have HDB := Lib.hid hS.out.2.1
                have hDS : DS wc (w2.heap.size + 1) K dv D wj := hS.out.2.2
                have HDS := Lib.hid hDS
                clear hS hDS e2 e1
                go_upto_if 98 with fail
                go_cut [] (fun wx => ∃ D1 : List Int, D1.length = j ∧ Byt D1 ∧ (0 ≤ g → ∃ u : Nat, u ≤ nn ∧ D1.getD 0 0 = 3 + h + u * sz) ∧ Hid (DS wc (w2.heap.size + 1) K dv D1 wx))
                case first =>
                  as_aux_lemma =>
                    by_cases hg : 0 ≤ g
                    · have e5 : decide (0 ≤ g) = true := decide_eq_true hg
                      have hG3 : 1 ≤ h ∧ (sz = 4 ∨ sz = 8) ∧ (K = 7 ∨ K = 68) := by
                        have h := HG.out
                        unfold GHS szI at h
                        rcases h with h | h | h | h <;> first | omega | (split at h <;> omega)
                      obtain ⟨gd, cd, rfl, hgd0, hgd1, hcd1, hcd2⟩ := HDS.out.2.2.2.form (by omega)
                      rw [hDl] at hcd1 HDS
                      obtain ⟨u, hu, hun⟩ : ∃ u : Nat, used.tmod (nn + 1) = (u : Int) ∧ u ≤ nn := ⟨(used % (nn + 1)).toNat, by
                        rw [Int.tmod_eq_emod_of_nonneg hu0]
                        have := Int.emod_nonneg used (show ((nn : Int) + 1) ≠ 0 by omega)
                        omega, by
                        have := Int.emod_lt_of_pos used (show 0 < ((nn : Int) + 1) by omega)
                        have := Int.emod_nonneg used (show ((nn : Int) + 1) ≠ 0 by omega)
                        omega⟩
                      obtain ⟨Q, hQ, hQ2⟩ : ∃ Q : Nat, (u : Int) * sz = (Q : Int) ∧ Q ≤ 72 := ⟨(u * sz).toNat, by rcases hG3.2.1 with rfl | rfl <;> omega, by rcases hG3.2.1 with rfl | rfl <;> omega⟩
                      have hQ3 : (Q : Int) ≤ 72 := by omega
                      have hnz : ((nn : Int) + 1 == 0) = false := by simp; omega
                      have hnz2 : ¬ ((nn : Int) + 1 = 0) := by omega
                      have hw8 : IntKind.u8.wrap (3 + h + (Q : Int)) = 3 + h + Q := by rw [IntKind.wrap_u8]; omega
                      have HQ := Lib.hid hQ
                      have hE0 : DS wc (w2.heap.size + 1) K (.slice (some ⟨gd, 0, none⟩) j cd) (stD D (D.set 0 (3 + h + Q)) 0 0) wj := by rw [stD_no _ _ _ _ (Nat.le_refl _)]; exact HDS.out
                      have hj0 : 0 < j := by omega
                      go_wp2_with fail
                      refine wp_region_walk0 (by kernel_rfl) (fun c W => DS wc (w2.heap.size + 1) K (.slice (some ⟨gd, 0, none⟩) j cd) (stD D (D.set 0 (3 + h + Q)) 0 c) W) [15] (GrowR gd) [0, 1, 2, 3, 4, 5, 6, 7, 8, 9, 10, 11, 12, 13, 14, 15] (by kernel_rfl) hE0.drew ?_
                      iterate 15
                        apply Walk.one rfl rfl rfl
                        case hrun =>
                          intro c W hE hF
                          have d8 := (B8d.out.below hE.1 (by have := Z8.out; omega)).cell 2
                          have d9 := hE.2.2.1.cell 1
                          go_wp2_with fail
                          exact TextPost.mk ⟨GrowR.refl _ _, hE⟩
                        case hv => rfl
                      apply Walk.keep 0 rfl rfl rfl rfl
                      case hrun =>
                        intro W2 hE hF
                        rw [stD_no _ _ _ _ (Nat.le_refl _)] at hE
                        have hcg := hE.2.2.2.cell 0 (by omega)
                        have hfg := hE.2.2.2.free 0
                        go_wp2_with fail
                        exact TextPost.mk ⟨grown_set6 _ _ _, by rw [stD_yes _ _ _ _ (by omega)]; exact hE.set 0 _⟩
                      case hv => rfl
                      refine Walk.done (fun W hE hF => ?_)
                      have hE1 : DS wc (w2.heap.size + 1) K (.slice (some ⟨gd, 0, none⟩) j cd) (D.set 0 (3 + h + Q)) W := hE
                      clear hE hF hE0
                      go_wp2_with fail
                      go_meet
                      exact ⟨D.set 0 (3 + h + Q), by rw [List.length_set]; exact hDl, HDB.out.set 0 (by omega) (by omega), fun _ => ⟨u, hun, by rw [getD_set_eq _ _ _ (by omega), HQ.out]⟩, Lib.hid (by rw [hDl]; exact hE1)⟩
                    · have e5 : decide (0 ≤ g) = false := decide_eq_false hg
                      go_wp2_with fail
                      go_meet
                      exact ⟨D, hDl, HDB.out, fun h => absurd h (by omega), HDS⟩
                case rest =>
                  rename World => wf
                  obtain ⟨D1, hD1, hDB1, hD10, hS1⟩ := hcut
                  clear HDB HDS
                  go_upto_if 115 with fail
                  go_cut [] (fun wx => ∃ D2 : List Int, D2.length = j ∧ Byt D2 ∧ (0 ≤ g → ∃ u : Nat, u ≤ nn ∧ D2.getD 0 0 = 3 + h + u * sz) ∧ (g = 2 → D2.getD 1 0 % 16 = flI many) ∧ Hid (DS wc (w2.heap.size + 1) K dv D2 wx))
                  case first =>
                    as_aux_lemma =>
                      by_cases hg : g = 2
                      · have e5 : (g == 2) = true := by simpa using hg
                        have hG3 : h = 2 ∧ K = 68 := by
                          have h := HG.out
                          unfold GHS szI at h
                          rcases h with h | h | h | h <;> omega
                        obtain ⟨gd, cd, rfl, hgd0, hgd1, hcd1, hcd2⟩ := hS1.out.2.2.2.form (by omega)
                        rw [hD1] at hcd1 hS1
                        obtain ⟨q, hq1, hq2, hq3⟩ : ∃ q : Nat, many.tmod 3 = q ∧ q < 3 ∧ (many % 3).toNat = q := ⟨(many % 3).toNat, by rw [Int.tmod_eq_emod_of_nonneg hm0]; omega, by omega, rfl⟩
                        have hqi : (q : Int) < 3 := by omega
                        have hfl : flI many = [(0 : Int), 1, 3].getD q 0 := by unfold flI; rw [hq3]
                        obtain ⟨fq, hfq⟩ : ∃ fq : Int, [(0 : Int), 1, 3].getD q 0 = fq := ⟨_, rfl⟩
                        have hfq2 : 0 ≤ fq ∧ fq ≤ 3 := by
                          rw [← hfq]
                          rcases (show q = 0 ∨ q = 1 ∨ q = 2 by omega) with rfl | rfl | rfl <;> decide
                        have HFq := Lib.hid hfq
                        rw [hfq] at hfl
                        have HFl := Lib.hid hfl
                        have hb1 := hDB1.at_ 1
                        obtain ⟨d1, hd1⟩ : ∃ d1 : Int, D1.getD 1 0 = d1 := ⟨_, rfl⟩
                        have Hd1 := Lib.hid hd1
                        rw [hd1] at hb1
                        clear hd1
                        obtain ⟨t, ht, ht2⟩ : ∃ t : Nat, d1.tdiv 16 = (t : Int) ∧ t ≤ 15 := ⟨(d1 / 16).toNat, by rw [Int.tdiv_eq_ediv_of_nonneg hb1.1]; omega, by omega⟩
                        have ht3 : (t : Int) ≤ 15 := by omega
                        have hj2 : 2 ≤ j := by have := HN2.out; omega
                        have hE0 : DS wc (w2.heap.size + 1) K (.slice (some ⟨gd, 0, none⟩) j cd) (stD D1 (D1.set 1 (t * 16 + fq)) 1 0) wf := by rw [stD_no _ _ _ _ (by omega)]; exact hS1.out
                        have HD10 := Lib.hid hD10
                        clear hfq hfl hq3 hG3 hD10 hg
                        go_wp2_with fail
                        refine wp_region_walk0 (by kernel_rfl) (fun c W => DS wc (w2.heap.size + 1) K (.slice (some ⟨gd, 0, none⟩) j cd) (stD D1 (D1.set 1 (t * 16 + fq)) 1 c) W) [5, 16] (GrowR gd) [0, 1, 2, 3, 4, 5, 6, 7, 9, 10, 11, 15, 8, 12, 13, 14, 16] (by kernel_rfl) hE0.drew ?_
                        iterate 5
                          apply Walk.one rfl rfl rfl
                          case hrun =>
                            intro c W hE hF
                            have d9 := hE.2.2.1.cell 1
                            have hj1 : 1 < j := by omega
                            go_wp2_with fail
                            exact TextPost.mk ⟨GrowR.refl _ _, hE⟩
                          case hv => rfl
                        apply Walk.store 0 (ops_at rfl) rfl rfl rfl
                        case hrun =>
                          intro W2 hE hF
                          rw [stD_no _ _ _ _ (by omega)] at hE
                          have hcg := hE.2.2.2.cell 1 (by omega)
                          rw [Hd1.out] at hcg
                          go_wp2_with fail
                          exact TextPost.mk ⟨GrowR.refl _ _, by rw [stD_no _ _ _ _ (by omega)]; exact hE⟩
                        case hv => rfl
                        iterate 6
                          apply Walk.one rfl rfl rfl
                          case hrun =>
                            intro c W hE hF
                            have d8 := (B8d.out.below hE.1 (by have := Z8.out; omega)).cell 1
                            have hj1 : 1 < j := by omega
                            go_wp2_with fail
                            exact TextPost.mk ⟨GrowR.refl _ _, hE⟩
                          case hv => rfl
                        refine Walk.anyOf (fun z : Nat => .slice (some ⟨z, 0, none⟩) 3 3) sl_inj3 (fun z W => gd < z ∧ Blk W z 5 #[.int .u8 0, .int .u8 1, .int .u8 3]) (fun _ _ _ h hG => ⟨h.1, h.2.grown hG (by intro e; injection e with e; have := h.1; omega)⟩) rfl rfl rfl (by kernel_rfl) (by kernel_rfl) ?_ (fun z => ?_)
                        · intro c W hE hF
                          have hlt5 := (hE.2.2.2.lt rfl).2
                          go_wp2_with fail
                          exact ⟨W.heap.size, rfl, ⟨hlt5, Blk.new _ _ _⟩, GrowR.of ((Below.refl _ _).alloc (Nat.le_refl _) _), hE.below ((Below.refl _ _).alloc (Nat.le_refl _) _)⟩
                        dsimp only [Act.put]
                        simp only [List.setIfInBounds_toArray, List.set_cons_succ, List.set_cons_zero]
                        iterate 3
                          apply Walk.one rfl rfl rfl
                          case hrun =>
                            intro c W hE hF
                            have hcz : W.cell? ⟨z, q, none⟩ = some (.int .u8 fq) := by
                              rw [hF.head.2.cell q, ← HFq.out]
                              rcases (show q = 0 ∨ q = 1 ∨ q = 2 by omega) with rfl | rfl | rfl <;> rfl
                            go_wp2_with fail
                            exact TextPost.mk ⟨GrowR.refl _ _, hE⟩
                          case hv => rfl
                        apply Walk.keep 1 rfl rfl rfl rfl
                        case hrun =>
                          intro W2 hE hF
                          rw [stD_no _ _ _ _ (Nat.le_refl _)] at hE
                          have hcg := hE.2.2.2.cell 1 (by omega)
                          have hfg := hE.2.2.2.free 1
                          go_wp2_with fail
                          exact TextPost.mk ⟨grown_set6 _ _ _, by rw [stD_yes _ _ _ _ (by omega)]; exact hE.set 1 _⟩
                        case hv => rfl
                        refine Walk.done (fun W hE hF => ?_)
                        have hE1 : DS wc (w2.heap.size + 1) K (.slice (some ⟨gd, 0, none⟩) j cd) (D1.set 1 (t * 16 + fq)) W := hE
                        clear hE hF hE0
                        go_wp2_with fail
                        go_meet
                        exact ⟨D1.set 1 (t * 16 + fq), by rw [List.length_set]; exact hD1, hDB1.set 1 (by omega) (by omega), fun hg => by rw [getD_set_ne _ _ _ _ (by omega)]; exact HD10.out hg, fun _ => by rw [getD_set_eq _ _ _ (by omega), HFl.out]; omega, Lib.hid (by rw [hD1]; exact hE1)⟩
                      · have e5 : (g == 2) = false := by simpa using hg
                        go_wp2_with fail
                        go_meet
                        exact ⟨D1, hD1, hDB1, hD10, fun h => absurd h hg, hS1⟩
                  case rest =>
                    rename World => wg
                    obtain ⟨D2, hD2, hDB2, hD20, hD21, hS2⟩ := hcut
                    clear hS1 hD1 hDB1 hD10
                    obtain ⟨A2, c2, rfl, _, hc2a, hc2b⟩ := hS2.out.2.2.2.open_
                    rw [hD2] at hS2
                    clear hc2a hc2b
                    have hc9 := hS2.out.2.2.1.cell
                    go_upto_if 138 with fail
                    go_cut [16] (fun s16 wx => ∃ mo : Nat, s16 = .int .i64 mo ∧ (K = 1 ∧ mo = 1 ∨ K ≠ 1 ∧ mo = j + 2) ∧ wx = wg)
                    case first =>
                      as_aux_lemma =>
                        by_cases hK1 : K = 1
                        · subst hK1
                          go_wp2_with fail
                          all_goals (go_meet; exact ⟨1, rfl, .inl ⟨by first | rfl | trivial, by first | rfl | trivial⟩, by first | rfl | trivial⟩)
                        · have n1 : (K == 1) = false := by simpa using hK1
                          go_wp2_with fail
                          all_goals (go_meet; exact ⟨j + 2, by first | rfl | (simp; omega), by first | exact .inr ⟨hK1, rfl⟩ | exact .inr ⟨hK1, trivial⟩ | simp [hK1], by first | rfl | trivial⟩)
                    case rest =>
                      obtain ⟨mo, rfl, hmo, rfl⟩ := hcut
                      rename World => wg
                      have hJt : tot ≤ 40 := by have := hJ.out.ok.len; have := hJ.out.tot; omega
                      have hmo2 : mo ≤ 76 := by omega
                      have HL := Lib.hid (LD.out.trans (hS2.out.1.mono (show wo.heap.size ≤ w2.heap.size + 1 by have := Z8.out; omega)))
                      have HBl : Hid ((⟨K, A2, c2, D2⟩ : OE).bytes.length = mo) := Lib.hid (by
                        rw [OE.bytes_len]
                        rcases hmo with ⟨h1, h2⟩ | ⟨h1, h2⟩
                        · rw [if_pos h1, h2]
                        · rw [if_neg h1, h2, ← hD2])
                      have HRt := Lib.hid (fun (h40 : mo ≤ 40) => made6_right (K := K) HG.out (show h + (nn : Int) * sz = (j : Int) by have := HP.out; have := HN2.out; omega) HN0.out hD2 hDB2 (fun h => by omega) hD20 hD21)
                      have HLn : Hid (os.length ≤ 40) := Lib.hid (by have := hJ.out.len; have := Hm40.out; omega)
                      obtain ⟨i0, hi, hz0, hz1, hz2⟩ := info_parts optInfo
                      by_cases hover : 40 < tot + mo
                      · have e7 : decide ((40 : Int) < (tot : Int) + mo) = true := by simp; omega
                        have e8 : decide (40 < tot + mo) = true := by simp; omega
                        go_wp2_with fail
                        go_roundw
                        case rel => exact ⟨k + 1, os, tot, by omega, by go_num, rfl, Lib.hid (hJ.out.keep HL.out)⟩
                        case measure => simp [intOf]; omega
                      · have e7 : decide ((40 : Int) < (tot : Int) + mo) = false := by simp; omega
                        have e8 : decide (40 < tot + mo) = false := by simp; omega
                        have hcls : (K = 7 ∧ g = 0) ∨ (K = 68 ∧ g = 2) ∨ (g = -1 ∧ K ≠ 7 ∧ K ≠ 68) := by
                          have h := HG.out
                          unfold GHS at h
                          rcases h with h | h | h | h <;> omega
                        rcases hcls with ⟨rfl, rfl⟩ | ⟨rfl, rfl⟩ | ⟨rfl, hK7, hK68⟩
                        ·
                          as_aux_lemma =>
                            have e9 : decide ((0 : Int) ≤ 0) = true := by decide
                            have hmB := hJ.out.met.below HL.out hJ.out.met.lt
                            obtain ⟨cn, hcn⟩ : ∃ cn : Nat, (os.countP fun o => o.k == 7) = cn := ⟨_, rfl⟩
                            rw [hcn] at hmB
                            have hmc0 := hmB.cell 0
                            have hmf0 := hmB.frozen 0
                            by_cases hcz : 0 < cn
                            · have f1 : decide (0 < (cn : Int)) = true := by simp; omega
                              have f2 : decide (0 < cn) = true := by simp; omega
                              go_wp2_with fail
                              go_roundw
                              case rel => exact ⟨k + 1, os, tot, by omega, by go_num, rfl, Lib.hid (hJ.out.keep HL.out)⟩
                              case measure => simp [intOf]; omega
                            · obtain rfl : cn = 0 := by omega
                              have HOk2 := Lib.hid (show OsOk (os ++ [⟨7, A2, c2, D2⟩]) from hJ.out.ok.snoc (HRt.out (by omega)) (fun h => by first | exact hcn | (simp only at h; omega)) (fun h => by first | exact hcn | (simp only at h; omega)) (by have := hJ.out.tot; rw [HBl.out]; omega))
                              have Hcn := Lib.hid hcn
                              clear hcn
                              go_upto_region 40 with fail
                              have hmS := hmB.set 0 (.int .i64 1)
                              have hS3 := Lib.hid (show Blk (wg.setCell ⟨w.heap.size, 0, none⟩ (.int .i64 1)) (w2.heap.size + 1) 104 #[.int .u8 7, .slice A2 j c2] from hS2.out.2.2.1.far (p := ⟨w.heap.size, 0, none⟩) (by have := Z8.out; have := hJ.out.met.lt; show w2.heap.size + 1 ≠ w.heap.size; omega) _)
                              have HRow := Lib.hid ((hJ.out.row.kept (grown_of_below (row := none) HL.out) (Decidable.em _)).kept (grown_set6 wg ⟨w.heap.size, 0, none⟩ (.int .i64 1)) (.inr (fun e => by have := (hJ.out.row.lt _ e).1; simp only at this; omega)))
                              have HSz : Hid (w.heap.size + 1 ≤ (wg.setCell ⟨w.heap.size, 0, none⟩ (.int .i64 1)).heap.size) := Lib.hid (by have := hJ.out.met.lt; have := HL.out.size; simp; omega)
                              have HGb := Lib.hid (grown_set6 wg ⟨w.heap.size, 0, none⟩ (.int .i64 1))
                              have HBb := Lib.hid ((hJ.out.below.trans (HL.out.mono (by have := hJ.out.below.size; omega))).setCell (p := ⟨w.heap.size, 0, none⟩) (Nat.le_refl _) (.int .i64 1))
                              have HMet : Hid (Blk (wg.setCell ⟨w.heap.size, 0, none⟩ (.int .i64 1)) w.heap.size 102 #[.int .i64 ((os ++ [(⟨7, A2, c2, D2⟩ : OE)]).countP fun o => o.k == 7), .int .i64 0, .int .i64 ((os ++ [(⟨7, A2, c2, D2⟩ : OE)]).countP fun o => o.k == 68)]) := Lib.hid (by
                                rw [count_snoc, count_snoc]
                                have := hmS
                                rw [show (os.countP fun o => o.k == 7) = 0 from Hcn.out]
                                exact this)
                              clear hmS hmB hmc0 hmf0 hc9
                              have hb9 := hS3.out
                              generalize wg.setCell ⟨w.heap.size, 0, none⟩ (.int .i64 1) = wh at *
                              go_wp2_with (first | ((with_reducible refine look_load ?_); refine wpList_load_row rfl _ _ rfl _ rfl _ _ _ _ hb9 Tryz.underlying104 rfl (by kernel_rfl) ?_) | (at_builtin; refine wpList_append_own_at _ rfl _ _ 63 rfl (w.heap.size + 1) 104 i0 _ 2 32 Tryz.underlying63 hi hz0 hz1 hz2 rfl (by decide) _ os.length (oeC os) rfl (HRow.out.alloc _) ⟨wh.heap.size, 0, none⟩ 1 1 [.int .u8 7, .slice A2 j c2] rfl rfl (two_new _ _ _ _) (by simp [Value.oneCell']) (by simp only [maxLen]; have := HLn.out; omega) (by have := HLn.out; omega) (by have := HSz.out; simp; omega) ?_; intro v6 w6 hown hg6 hnil hat) | fail)
                              go_roundw
                              case rel =>
                                exact ⟨k + 1, os ++ [⟨7, A2, c2, D2⟩], tot + mo, by omega, by go_num, by go_num, Lib.hid (by
                                  have := M6.add (o := ⟨7, A2, c2, D2⟩) hJ.out HL.out (show wo.heap.size < w2.heap.size + 1 + 1 by have := Z8.out; omega) (by show Own wg _ (.slice A2 D2.length c2) D2; rw [hD2]; exact hS2.out.2.2.2) HGb.out HBb.out HMet.out HOk2.out (by show World.ownsRow _ _ _ _ _ _ (oeC os ++ [.int .u8 7, .slice A2 D2.length c2]); rw [hD2]; exact hown) hg6 hat
                                  rw [HBl.out] at this
                                  exact this)⟩
                              case measure => simp [intOf]; omega
                        ·
                          as_aux_lemma =>
                            have e9 : decide ((0 : Int) ≤ 2) = true := by decide
                            have hmB := hJ.out.met.below HL.out hJ.out.met.lt
                            obtain ⟨cn, hcn⟩ : ∃ cn : Nat, (os.countP fun o => o.k == 68) = cn := ⟨_, rfl⟩
                            rw [hcn] at hmB
                            have hmc0 := hmB.cell 2
                            have hmf0 := hmB.frozen 2
                            by_cases hcz : 0 < cn
                            · have f1 : decide (0 < (cn : Int)) = true := by simp; omega
                              have f2 : decide (0 < cn) = true := by simp; omega
                              go_wp2_with fail
                              go_roundw
                              case rel => exact ⟨k + 1, os, tot, by omega, by go_num, rfl, Lib.hid (hJ.out.keep HL.out)⟩
                              case measure => simp [intOf]; omega
                            · obtain rfl : cn = 0 := by omega
                              have HOk2 := Lib.hid (show OsOk (os ++ [⟨68, A2, c2, D2⟩]) from hJ.out.ok.snoc (HRt.out (by omega)) (fun h => by first | exact hcn | (simp only at h; omega)) (fun h => by first | exact hcn | (simp only at h; omega)) (by have := hJ.out.tot; rw [HBl.out]; omega))
                              have Hcn := Lib.hid hcn
                              clear hcn
                              go_upto_region 40 with fail
                              have hmS := hmB.set 2 (.int .i64 1)
                              have hS3 := Lib.hid (show Blk (wg.setCell ⟨w.heap.size, 2, none⟩ (.int .i64 1)) (w2.heap.size + 1) 104 #[.int .u8 68, .slice A2 j c2] from hS2.out.2.2.1.far (p := ⟨w.heap.size, 2, none⟩) (by have := Z8.out; have := hJ.out.met.lt; show w2.heap.size + 1 ≠ w.heap.size; omega) _)
                              have HRow := Lib.hid ((hJ.out.row.kept (grown_of_below (row := none) HL.out) (Decidable.em _)).kept (grown_set6 wg ⟨w.heap.size, 2, none⟩ (.int .i64 1)) (.inr (fun e => by have := (hJ.out.row.lt _ e).1; simp only at this; omega)))
                              have HSz : Hid (w.heap.size + 1 ≤ (wg.setCell ⟨w.heap.size, 2, none⟩ (.int .i64 1)).heap.size) := Lib.hid (by have := hJ.out.met.lt; have := HL.out.size; simp; omega)
                              have HGb := Lib.hid (grown_set6 wg ⟨w.heap.size, 2, none⟩ (.int .i64 1))
                              have HBb := Lib.hid ((hJ.out.below.trans (HL.out.mono (by have := hJ.out.below.size; omega))).setCell (p := ⟨w.heap.size, 2, none⟩) (Nat.le_refl _) (.int .i64 1))
                              have HMet : Hid (Blk (wg.setCell ⟨w.heap.size, 2, none⟩ (.int .i64 1)) w.heap.size 102 #[.int .i64 ((os ++ [(⟨68, A2, c2, D2⟩ : OE)]).countP fun o => o.k == 7), .int .i64 0, .int .i64 ((os ++ [(⟨68, A2, c2, D2⟩ : OE)]).countP fun o => o.k == 68)]) := Lib.hid (by
                                rw [count_snoc, count_snoc]
                                have := hmS
                                rw [show (os.countP fun o => o.k == 68) = 0 from Hcn.out]
                                exact this)
                              clear hmS hmB hmc0 hmf0 hc9
                              have hb9 := hS3.out
                              generalize wg.setCell ⟨w.heap.size, 2, none⟩ (.int .i64 1) = wh at *
                              go_wp2_with (first | ((with_reducible refine look_load ?_); refine wpList_load_row rfl _ _ rfl _ rfl _ _ _ _ hb9 Tryz.underlying104 rfl (by kernel_rfl) ?_) | (at_builtin; refine wpList_append_own_at _ rfl _ _ 63 rfl (w.heap.size + 1) 104 i0 _ 2 32 Tryz.underlying63 hi hz0 hz1 hz2 rfl (by decide) _ os.length (oeC os) rfl (HRow.out.alloc _) ⟨wh.heap.size, 0, none⟩ 1 1 [.int .u8 68, .slice A2 j c2] rfl rfl (two_new _ _ _ _) (by simp [Value.oneCell']) (by simp only [maxLen]; have := HLn.out; omega) (by have := HLn.out; omega) (by have := HSz.out; simp; omega) ?_; intro v6 w6 hown hg6 hnil hat) | fail)
                              go_roundw
                              case rel =>
                                exact ⟨k + 1, os ++ [⟨68, A2, c2, D2⟩], tot + mo, by omega, by go_num, by go_num, Lib.hid (by
                                  have := M6.add (o := ⟨68, A2, c2, D2⟩) hJ.out HL.out (show wo.heap.size < w2.heap.size + 1 + 1 by have := Z8.out; omega) (by show Own wg _ (.slice A2 D2.length c2) D2; rw [hD2]; exact hS2.out.2.2.2) HGb.out HBb.out HMet.out HOk2.out (by show World.ownsRow _ _ _ _ _ _ (oeC os ++ [.int .u8 68, .slice A2 D2.length c2]); rw [hD2]; exact hown) hg6 hat
                                  rw [HBl.out] at this
                                  exact this)⟩
                              case measure => simp [intOf]; omega
                        ·
                          as_aux_lemma =>
                            have e9 : decide ((0 : Int) ≤ -1) = false := by decide
                            have HOk2 := Lib.hid (show OsOk (os ++ [⟨K, A2, c2, D2⟩]) from hJ.out.ok.snoc (HRt.out (by omega)) (fun h => by simp only at h; omega) (fun h => by simp only at h; omega) (by have := hJ.out.tot; rw [HBl.out]; omega))
                            have HRow := Lib.hid (hJ.out.row.kept (grown_of_below (row := none) HL.out) (Decidable.em _))
                            have HSz : Hid (w.heap.size + 1 ≤ wg.heap.size) := Lib.hid (by have := hJ.out.met.lt; have := HL.out.size; omega)
                            have HMet : Hid (Blk wg w.heap.size 102 #[.int .i64 ((os ++ [(⟨K, A2, c2, D2⟩ : OE)]).countP fun o => o.k == 7), .int .i64 0, .int .i64 ((os ++ [(⟨K, A2, c2, D2⟩ : OE)]).countP fun o => o.k == 68)]) := Lib.hid (by
                              rw [count_snoc, count_snoc, if_neg (show ¬ K = 7 by omega), if_neg (show ¬ K = 68 by omega)]
                              exact hJ.out.met.below HL.out hJ.out.met.lt)
                            have hb9 := hS2.out.2.2.1
                            clear hc9
                            go_wp2_with (first | ((with_reducible refine look_load ?_); refine wpList_load_row rfl _ _ rfl _ rfl _ _ _ _ hb9 Tryz.underlying104 rfl (by kernel_rfl) ?_) | (at_builtin; refine wpList_append_own_at _ rfl _ _ 63 rfl (w.heap.size + 1) 104 i0 _ 2 32 Tryz.underlying63 hi hz0 hz1 hz2 rfl (by decide) _ os.length (oeC os) rfl (HRow.out.alloc _) ⟨wg.heap.size, 0, none⟩ 1 1 [.int .u8 K, .slice A2 j c2] rfl rfl (two_new _ _ _ _) (by simp [Value.oneCell']) (by simp only [maxLen]; have := HLn.out; omega) (by have := HLn.out; omega) (by have := HSz.out; simp; omega) ?_; intro v6 w6 hown hg6 hnil hat) | fail)
                            go_roundw
                            case rel =>
                              exact ⟨k + 1, os ++ [⟨K, A2, c2, D2⟩], tot + mo, by omega, by go_num, by go_num, Lib.hid (by
                                have := M6.add (o := ⟨K, A2, c2, D2⟩) hJ.out HL.out (show wo.heap.size < w2.heap.size + 1 + 1 by have := Z8.out; omega) (by show Own wg _ (.slice A2 D2.length c2) D2; rw [hD2]; exact hS2.out.2.2.2) (grown_of_below (Below.refl _ _)) (hJ.out.below.trans (HL.out.mono (by have := hJ.out.below.size; omega))) HMet.out HOk2.out (by show World.ownsRow _ _ _ _ _ _ (oeC os ++ [.int .u8 K, .slice A2 D2.length c2]); rw [hD2]; exact hown) hg6 hat
                                rw [HBl.out] at this
                                exact this)⟩
                            case measure => simp [intOf]; omega
    · obtain rfl : k = m := by omega
      go_wp2_with fail
      go_ret2
      exact ⟨os, _, tot, rfl, hJ.out⟩
end Go.Proofs.YtebeekjcepjcnaaGreatDoor
