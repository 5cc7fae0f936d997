/-
  The reference of package opts: Read.
-/
import Derived.Test.YtebeekjcepjcnaaDoorProg
import Derived.WalkKit
import Derived.WalkSpells
import Derived.WalkLawsBesides
import Derived.WalkSmall
import Derived.Lib.Hide
import Derived.Deep.AppendLies
import Derived.Maps.AppendAt
import Derived.Laws.AppendOwnNone
import Derived.Laws.CopyOwn
import Derived.OneCell
import Derived.Lib.SliceRun
import Derived.RangeFuncNested
import Derived.RangeFuncBound
import Derived.RangeFuncCalls
import Derived.RangeFuncLeaves
import Derived.Shelf.Abstract
import Derived.OwnWalkIn
import Derived.TacticsInMore
import Derived.LoopNIn
import Derived.LoopIn
import Derived.Orders
import Derived.RegionTactic
import Derived.Still
import Derived.Deep.MidRow
import Derived.Deep.DeepCutAuto
import Derived.Lib.AppendZeros
import Derived.BigRegion
import Derived.ChangeAlike
import Derived.Deep.RegionLaw
import Derived.Deep.RegionHeld3
import Derived.MapKept
import Derived.RegionIn
import Derived.Test.YtebeekjcepjcnaaDoorSBase
import Derived.Test.YtebeekjcepjcnaaDoorSMem
import Derived.Test.YtebeekjcepjcnaaDoorSCsum
import Derived.Test.YtebeekjcepjcnaaDoorSSum
import Derived.Test.YtebeekjcepjcnaaDoorSRegion
import Derived.Test.YtebeekjcepjcnaaDoorSWalk
import Derived.Test.YtebeekjcepjcnaaDoorSStep
import Derived.Test.YtebeekjcepjcnaaDoorSStepb
import Derived.Test.YtebeekjcepjcnaaDoorSRefa
import Derived.Test.YtebeekjcepjcnaaDoorSConcat
import Derived.Test.YtebeekjcepjcnaaDoorSPkt
import Derived.Test.YtebeekjcepjcnaaDoorSRopts
import Derived.Test.YtebeekjcepjcnaaDoorSRnum
import Derived.Test.YtebeekjcepjcnaaDoorSTcpw
import Derived.Test.YtebeekjcepjcnaaDoorSIcmpr
import Derived.Test.YtebeekjcepjcnaaDoorSIprd
import Derived.Test.YtebeekjcepjcnaaDoorSIpre
import Derived.Test.YtebeekjcepjcnaaDoorSIpread
import Derived.Test.YtebeekjcepjcnaaDoorSOptsa
import Derived.Test.YtebeekjcepjcnaaDoorSOptsb
import Derived.Test.YtebeekjcepjcnaaDoorSRange
import Derived.Test.YtebeekjcepjcnaaDoorSOptsc
import Derived.Test.YtebeekjcepjcnaaDoorSOptsd
import Derived.Test.YtebeekjcepjcnaaDoorSRopt6
import Derived.Test.YtebeekjcepjcnaaDoorSRopt7
namespace Go.Proofs.YtebeekjcepjcnaaDoor
open Go.RowKit
def opC (l : List (Int × Value)) : List Value := l.flatMap fun x => [.int .u8 x.1, x.2]
theorem opC_snoc (l : List (Int × Value)) (x : Int × Value) : opC (l ++ [x]) = opC l ++ [.int .u8 x.1, x.2] := by simp [opC]
theorem opC_get : ∀ (l : List (Int × Value)) (j : Nat), j < l.length → (opC l)[j * 2]? = some (.int .u8 ((l.map Prod.fst).getD j 0)) ∧ ∃ x ∈ l, (opC l)[j * 2 + 1]? = some x.2
  | [], j, h => by simp at h
  | x :: l, 0, _ => ⟨rfl, x, by simp, rfl⟩
  | x :: l, j + 1, h => by
    obtain ⟨h1, y, hy, h2⟩ := opC_get l j (by simpa using h)
    have e : (j + 1) * 2 = j * 2 + 1 + 1 := by omega
    rw [e]
    exact ⟨h1, y, by simp [hy], h2⟩
theorem optsAt_row {W : World} {base : Nat} {l : List (Int × Value)} {v : Value} (h : W.ownsRow base 247 2 v l.length (opC l)) (h1 : ∀ x ∈ l, x.2.oneCell' = true) : ∃ A c, v = .slice A l.length c ∧ OptsAt W W.heap.size A (l.map Prod.fst) := by
  rcases h.2 with ⟨rfl, h0⟩ | ⟨g, cap, cur, rfl, hb, hgg, _⟩
  · exact ⟨none, 0, by rw [h0], fun j hj => by rw [List.length_map] at hj; omega⟩
  · refine ⟨some ⟨g, 0, none⟩, cap, rfl, fun j hj => ?_⟩
    rw [List.length_map] at hj
    obtain ⟨e1, x, hx, e2⟩ := opC_get l j hj
    have d1 := World.ownsRow.cellAt h (j * 2) (by omega)
    have d2 := World.ownsRow.cellAt h (j * 2 + 1) (by omega)
    exact ⟨g, 0, x.2, rfl, lt_of_block hgg, h1 x hx, by rw [Nat.zero_add, d1, e1], by rw [Nat.zero_add, d2, e2]⟩
theorem OptsAt.more {W : World} {B C : Nat} {A : Option Addr} {ks : List Int} (h : OptsAt W B A ks) (hC : B ≤ C) : OptsAt W C A ks := fun j hj => by
  obtain ⟨b, off, v, e, hB, h1, h2, h3⟩ := h j hj
  exact ⟨b, off, v, e, by omega, h1, h2, h3⟩
structure RoRel (w : World) (xs : List Int) (k m : Nat) (l : List (Int × Value)) (v : Value) (W : World) : Prop where
  below : Below w.heap.size w W
  row : W.ownsRow w.heap.size 247 2 v l.length (opC l)
  one : ∀ x ∈ l, x.2.oneCell' = true
  len : l.length ≤ k
  goes : optsR (optsY m (xs.drop k)) (l.map Prod.fst) = optRead xs
def RoOut (w : World) (xs : List Int) (e : Ending) (W : World) : Prop := ∃ A c, e = .returned (.tuple #[.slice A (optRead xs).1.length c, .int .i64 (optRead xs).2]) ∧ OptsAt W W.heap.size A (optRead xs).1 ∧ Below w.heap.size w W
theorem RoOut.bad {w W : World} {xs : List Int} {E : Int} (h : optRead xs = ([], E)) (hb : Below w.heap.size w W) : RoOut w xs (.returned (.tuple #[.slice none 0 0, .int .i64 E])) W :=
  ⟨none, 0, by rw [h]; rfl, by rw [h]; exact fun j hj => by simp at hj, hb⟩
theorem RoOut.good {w W : World} {xs : List Int} {l : List (Int × Value)} {v : Value} {base : Nat} (h : optRead xs = (l.map Prod.fst, 0)) (hb : Below w.heap.size w W) (hr : W.ownsRow base 247 2 v l.length (opC l)) (h1 : ∀ x ∈ l, x.2.oneCell' = true) : RoOut w xs (.returned (.tuple #[v, .int .i64 0])) W := by
  obtain ⟨A, c, rfl, ho⟩ := optsAt_row hr h1
  exact ⟨A, c, by rw [h, List.length_map], by rw [h]; exact ho, hb⟩
theorem ropInfo : (Tryd.prog.info? 247).map (fun i => (i.zero, i.size, i.bytes)) = some (some (.agg #[.int .u8 0, .slice none 0 0]), 2, 32) := by kernel_rfl
theorem cut_snoc (xs : List Int) (k j : Nat) (h : k + j < xs.length) : (xs.drop k).take (j + 1) = (xs.drop k).take j ++ [xs.getD (k + j) 0] := by
  have h2 := take_succ_getD (xs.drop k) j (by rw [List.length_drop]; omega)
  rw [h2, drop_get]
theorem cut_drop (xs : List Int) (k L : Nat) : (xs.drop (k + 2)).take (L - 2) = ((xs.drop k).take L).drop 2 := by
  rw [List.drop_take, List.drop_drop]
/-- One option more. -/
theorem RoRel.more {w W W' : World} {xs : List Int} {k k' m m' : Nat} {l : List (Int × Value)} {v v' : Value} (h : RoRel w xs k m l v W) (K : Int) (d : Value) (hd : d.oneCell' = true) (hk : k < k') (hb : Below w.heap.size w W') (hr : W'.ownsRow w.heap.size 247 2 v' (l.length + 1) (opC l ++ [.int .u8 K, d]))
    (hg : optsR (optsY m (xs.drop k)) (l.map Prod.fst) = optsR (optsY m' (xs.drop k')) (l.map Prod.fst ++ [K])) : RoRel w xs k' m' (l ++ [(K, d)]) v' W' := by
  have hl := h.len
  refine ⟨hb, ?_, fun x hx => ?_, by simp; omega, ?_⟩
  · rw [opC_snoc, List.length_append]; exact hr
  · rcases List.mem_append.1 hx with hx | hx
    · exact h.one x hx
    · simp at hx; subst hx; exact hd
  · rw [← h.goes, hg, List.map_append]; rfl
set_option maxRecDepth 100000 in
set_option maxHeartbeats 16000000 in
theorem rOptsRead_any (A : Option Addr) (cap n : Nat) (xs : List Int) (w : World) (hn : xs.length = n) (hl : n ≤ 40) (hB : Byt xs) (hr : Rd w w.heap.size A .u8 xs) :
    Calls Tryd.prog 136 #[.slice A n cap] w (RoOut w xs) := by
  have Hbad := Lib.hid (fun E (W : World) (h : optRead xs = ([], E)) hb => RoOut.bad (w := w) (W := W) h hb)
  have HR := Lib.hid hr
  have HB := Lib.hid hB
  have HN := Lib.hid hn
  have hS : RoRel w xs 0 n [] (.slice none 0 0) w := ⟨Below.refl _ _, World.ownsRow_nil _ _ _ _, by simp, by simp, by unfold optRead; rw [if_neg (by omega), hn]; rfl⟩
  have HS := Lib.hid hS
  have g40 : decide (40 < (n : Int)) = false := by simp; omega
  obtain ⟨i0, hi, hz0, hz1, hz2⟩ := info_parts ropInfo
  clear hr hB hn hS
  go_enter Tryd.func136, Tryd.ntmps136
  go_wp2_with fail
  go_loopw [4, 5, 6, 7, 8, 9] (fun v i _ _ _ _ W => ∃ (k m : Nat) (l : List (Int × Value)), k ≤ n ∧ n ≤ k + m ∧ i = .int .i64 k ∧ Hid (RoRel w xs k m l v W)) (fun _ i _ _ _ _ _ => n - (intOf i).toNat)
  case atStart => exact ⟨0, n, [], by omega, by omega, rfl, HS⟩
  case round =>
    obtain ⟨k, m, l, hk, hm, rfl, hRo⟩ := hrel
    rename World => wo
    by_cases hlt : k < n
    case neg =>
      obtain rfl : k = n := by omega
      have HX := Lib.hid (show optRead xs = (l.map Prod.fst, 0) by rw [← hRo.out.goes]; exact ro_end HN.out (Nat.le_refl _))
      go_wp2_with fail
      go_ret2
      exact RoOut.good HX.out hRo.out.below hRo.out.row hRo.out.one
    obtain ⟨m, rfl⟩ : ∃ m', m = m' + 1 := ⟨m - 1, by omega⟩
    obtain ⟨b, off, rfl, hbl, hc⟩ := HR.out.at0 (by rw [HN.out]; omega)
    have HC := Lib.hid (fun (W : World) (h : Below w.heap.size w W) (j : Nat) (hj : j < n) => (h.cell (p := ⟨b, off + j, none⟩) hbl).trans (hc j (by rw [HN.out]; exact hj)))
    clear hc
    have ck := HC.out _ hRo.out.below k hlt
    have ilt : (k : Int) < n := by omega
    obtain ⟨x0, x1⟩ := HB.out.at_ k
    have hll := hRo.out.len
    by_cases hx0 : xs.getD k 0 = 0
    · have hZ := Lib.hid (ro_zero (m := m) (ks := l.map Prod.fst) HN.out hlt hx0)
      rw [hx0] at ck
      go_wp2_with fail
      go_loop [6] (fun i => ∃ j : Nat, k + 1 ≤ j ∧ j ≤ n ∧ i = .int .i64 j ∧ Hid (((xs.take j).drop k).any (fun x => decide (0 < x)) = false)) (fun i => n - (intOf i).toNat)
      case atStart =>
        refine ⟨k + 1, by omega, by omega, by go_num, Lib.hid ?_⟩
        rw [List.drop_take, show k + 1 - k = 0 + 1 by omega, take_succ_getD _ _ (by rw [List.length_drop, HN.out]; omega), drop_get, Nat.add_zero, hx0]
        rfl
      case round =>
        obtain ⟨j, hj0, hj1, rfl, hJ⟩ := hrel
        by_cases hjl : j < n
        · have cj := HC.out _ hRo.out.below j hjl
          obtain ⟨y0, y1⟩ := HB.out.at_ j
          have hsn := Lib.hid (show (xs.take (j + 1)).drop k = (xs.take j).drop k ++ [xs.getD j 0] by
            rw [List.drop_take, List.drop_take, show j + 1 - k = (j - k) + 1 by omega, cut_snoc _ _ _ (by rw [HN.out]; omega), show k + (j - k) = j by omega])
          by_cases hy : xs.getD j 0 = 0
          · have hJ2 := Lib.hid (show ((xs.take (j + 1)).drop k).any (fun x => decide (0 < x)) = false by rw [hsn.out, any_snoc, hJ.out, hy]; rfl)
            rw [hy] at cj
            clear hJ
            go_wp2_with fail
            go_round
            case rel => exact ⟨j + 1, by omega, by omega, by go_num, hJ2⟩
            case measure => simp [intOf]; omega
          · have hany := Lib.hid (show (xs.drop k).any (fun x => decide (0 < x)) = true by
              rw [List.any_eq_true]
              refine ⟨xs.getD j 0, ?_, decide_eq_true (by omega)⟩
              rw [show xs.getD j 0 = (xs.drop k).getD (j - k) 0 by rw [drop_get, show k + (j - k) = j by omega], List.getD_eq_getElem?_getD, List.getElem?_eq_getElem (by rw [List.length_drop, HN.out]; omega)]
              exact List.getElem_mem _)
            have HX := Lib.hid (show optRead xs = ([], 62) by rw [← hRo.out.goes, hZ.out, if_pos hany.out])
            have hyb : (xs.getD j 0 != 0) = true := by simpa using hy
            generalize xs.getD j 0 = y at *
            go_wp2_with fail
            go_ret2
            exact RoOut.bad HX.out hRo.out.below
        · obtain rfl : j = n := by omega
          have HX := Lib.hid (show optRead xs = (l.map Prod.fst, 0) by
            rw [← hRo.out.goes, hZ.out, if_neg]
            have := hJ.out
            rw [← HN.out, List.take_length] at this
            rw [this]; decide)
          go_wp2_with fail
          go_ret2
          exact RoOut.good HX.out hRo.out.below hRo.out.row hRo.out.one
    by_cases hx1 : xs.getD k 0 = 1
    · have hZ := Lib.hid (ro_one (m := m) (ks := l.map Prod.fst) HN.out hlt hx1)
      rw [hx1] at ck
      have Hll := Lib.hid hll
      go_wp2_with (first | (at_builtin; refine wpList_append_own_at _ rfl _ _ 205 rfl w.heap.size 247 i0 _ 2 32 Tryd.underlying205 hi hz0 hz1 hz2 rfl (by decide) _ l.length (opC l) rfl (hRo.out.row.alloc _) ⟨wo.heap.size, 0, none⟩ 1 1 [.int .u8 1, .slice none 0 0] rfl rfl (two_new _ _ _ _) (by simp [Value.oneCell']) (by simp only [maxLen]; have := Hll.out; omega) (by have := Hll.out; omega) (by have := hRo.out.below.size; simp; omega) ?_; intro v' w3 hown hg hnil hat) | fail)
      go_roundw
      case rel =>
        exact ⟨k + 1, m, l ++ [(1, .slice none 0 0)], by omega, by omega, by go_num, Lib.hid (hRo.out.more 1 _ rfl (by omega) ((hRo.out.below.alloc hRo.out.below.size _).grown hg (by have := hRo.out.below.size; simp; omega) (fun g e => (hRo.out.row.lt g e).1)) hown hZ.out)⟩
      case measure => simp [intOf]; omega
    have e0 : (xs.getD k 0 == 0) = false := by simpa using hx0
    have e1 : (xs.getD k 0 == 1) = false := by simpa using hx1
    have Hll := Lib.hid hll
    by_cases hcut : k + 1 = n
    · have HX := Lib.hid (show optRead xs = ([], 60) by rw [← hRo.out.goes]; exact ro_cut HN.out hlt hx0 hx1 hcut)
      have ec : ((k : Int) + 1 == n) = true := by simp; omega
      clear hx0 hx1 hcut
      generalize xs.getD k 0 = x at *
      go_wp2_with fail
      go_ret2
      exact RoOut.bad HX.out hRo.out.below
    have ec : ((k : Int) + 1 == n) = false := by simp; omega
    have hk1 : k + 1 < n := by omega
    have ck1 := HC.out _ hRo.out.below (k + 1) hk1
    have ilt1 : (k : Int) + 1 < n := by omega
    obtain ⟨y0, y1⟩ := HB.out.at_ (k + 1)
    by_cases hsm : xs.getD (k + 1) 0 < 2
    · have HX := Lib.hid (show optRead xs = ([], 61) by rw [← hRo.out.goes]; exact ro_small HN.out hk1 hx0 hx1 hsm)
      have es : decide (xs.getD (k + 1) 0 < 2) = true := decide_eq_true hsm
      clear hx0 hx1 hcut hsm
      generalize xs.getD k 0 = x at *
      generalize xs.getD (k + 1) 0 = y at *
      go_wp2_with fail
      go_ret2
      exact RoOut.bad HX.out hRo.out.below
    have es : decide (xs.getD (k + 1) 0 < 2) = false := decide_eq_false hsm
    by_cases hlo : (n : Int) < k + xs.getD (k + 1) 0
    · have HX := Lib.hid (show optRead xs = ([], 60) by rw [← hRo.out.goes]; exact ro_long HN.out hk1 hx0 hx1 hsm hlo)
      have el : decide ((n : Int) < k + xs.getD (k + 1) 0) = true := decide_eq_true hlo
      clear hx0 hx1 hcut hsm hlo
      generalize xs.getD k 0 = x at *
      generalize xs.getD (k + 1) 0 = y at *
      go_wp2_with fail
      go_ret2
      exact RoOut.bad HX.out hRo.out.below
    have el : decide ((n : Int) < k + xs.getD (k + 1) 0) = false := decide_eq_false hlo
    have hZ := Lib.hid (ro_opt (m := m) (ks := l.map Prod.fst) HN.out hk1 hx0 hx1 hsm hlo)
    obtain ⟨yN, hyN⟩ : ∃ yN : Nat, xs.getD (k + 1) 0 = yN := ⟨(xs.getD (k + 1) 0).toNat, by omega⟩
    rw [hyN] at hZ ck1 es el hsm hlo y0 y1
    rw [Int.toNat_natCast] at hZ
    have hy2 : 2 ≤ yN := by omega
    have hyn : k + yN ≤ n := by omega
    have HRt := Lib.hid (fun (W : World) A' c' (D : List Int) (hD : D.length = yN - 2) (hDb : Byt D) (hrd : Rd W W.heap.size A' .u8 D) => rOptRight_any (xs.getD k 0) A' c' (yN - 2) D W hD (by omega) hx0 hx1 hDb hrd)
    have HEx := Lib.hid (fun (W : World) A' c' (ho : OptsAt W W.heap.size A' (l.map Prod.fst)) => rExcluded_any A' c' l.length (l.map Prod.fst) (xs.getD k 0) W (by simp) (by have := Hll.out; omega) ho)
    have HDb : Hid (Byt ((xs.drop (k + 2)).take (yN - 2))) := Lib.hid ((HB.out.drop _).take _)
    have HDl : Hid (((xs.drop (k + 2)).take (yN - 2)).length = yN - 2) := Lib.hid (by rw [List.length_take, List.length_drop, HN.out]; omega)
    rw [← cut_drop] at hZ
    clear hx0 hx1 hcut hsm hlo hyN
    generalize xs.getD k 0 = x at *
    go_upto_region 24 with (first | ((with_reducible refine look_store ?_); refine wpList_store_new rfl _ _ _ rfl _ _ rfl rfl _ _ rfl (by kernel_rfl) (by simp) (by simp [Value.oneCell']) ?_) | fail)
    refine wp_name1 ?_
    intro wq hbq hsq bq
    have Hbq := Lib.hid (show Below w.heap.size w wq from hRo.out.below.trans (hbq.mono hRo.out.below.size))
    have Hbo := Lib.hid hbq
    clear hbq ck ck1
    go_wp2_with fail
    go_loopw [9] (fun i W => ∃ (j : Nat) (dv : Value), k + 2 ≤ j ∧ j ≤ k + yN ∧ i = .int .i64 j ∧ Hid (Below wo.heap.size wq W ∧ wo.heap.size + 1 ≤ W.heap.size ∧ Blk W wo.heap.size 247 #[.int .u8 x, dv] ∧ Own W (wo.heap.size + 1) dv ((xs.drop (k + 2)).take (j - (k + 2))))) (fun i _ => k + yN - (intOf i).toNat)
    case atStart => exact ⟨k + 2, _, by omega, by omega, by go_num, Lib.hid ⟨Below.refl _ _, by omega, bq, by rw [Nat.sub_self]; exact Own.nil_ _ _⟩⟩
    case round =>
      obtain ⟨j, dv, hj0, hj1, rfl, hJ⟩ := hrel
      rename World => wj
      have hbj := Hbq.out.trans (hJ.out.1.mono hRo.out.below.size)
      have hbl1 := hJ.out.2.2.1
      have hd1 := hbl1.cell 1
      by_cases hjl : j < k + yN
      · have cj := HC.out _ hbj j (by omega)
        have Hsn := Lib.hid (show (xs.drop (k + 2)).take (j + 1 - (k + 2)) = (xs.drop (k + 2)).take (j - (k + 2)) ++ [xs.getD j 0] by
          rw [show j + 1 - (k + 2) = (j - (k + 2)) + 1 by omega, cut_snoc _ _ _ (by rw [HN.out]; omega), show k + 2 + (j - (k + 2)) = j by omega])
        have HDs : Hid (((xs.drop (k + 2)).take (j - (k + 2))).length ≤ 40) := Lib.hid (by rw [List.length_take, List.length_drop, HN.out]; omega)
        have hjn : (j : Int) < n := by omega
        have Hbj := Lib.hid hbj
        clear hbj hbl1
        generalize (xs.drop (k + 2)).take (j - (k + 2)) = D at *
        generalize xs.getD j 0 = z at *
        go_wp2_with fail
        have hwl : wo.heap.size < wj.heap.size := by have := hJ.out.2.1; omega
        go_region_law (refine step_app_own rfl _ _ rfl (wo.heap.size + 1) dv D rfl (Own.alloc hJ.out.2.2.2.drew _) _ (some ⟨wj.heap.size, 0, none⟩) 1 1 [z] rfl rfl (Rd.new _ _ _ _) (by have := HDs.out; simp; omega) (by have := hJ.out.2.1; simp; omega) ?_; intro v' w3 o3 l3 g3 a3; obtain ⟨pp, rfl⟩ := o3.shape rfl; have b3 := (hJ.out.2.2.1.drew.alloc _).grown g3 (fun e => by have := (hJ.out.2.2.2.lt e.symm).1; omega); have c3 := b3.cell 1; have f3 := b3.frozen 1)
        all_goals
          have HX := Lib.hid (show wo.heap.size + 1 ≤ w3.heap.size ∧ Below wo.heap.size wq w3 from ⟨by have h3 := g3.size; have := hJ.out.2.1; have h4 : wj.heap.size + 1 ≤ w3.heap.size := (by simpa using h3); omega, by have h1 := hJ.out.1; have h2 := hJ.out.2.1; exact ((h1.drew).alloc (by show wo.heap.size ≤ wj.heap.size; omega) _).trans (l3.mono (by omega))⟩)
          have hne := Lib.hid (show (Value.slice pp.1 (D ++ [z]).length pp.2).ownBlock ≠ some wo.heap.size from fun e => by have := (o3.lt e).1; omega)
          clear cj c3
          go_wp2_with fail
          go_roundw
          case rel =>
            refine ⟨j + 1, _, by omega, by omega, by go_num, Lib.hid ⟨HX.out.2.setCell (p := ⟨wo.heap.size, 1, none⟩) (Nat.le_refl _) _, by simpa using HX.out.1, b3.set 1 _, ?_⟩⟩
            rw [Hsn.out]
            try rw [show D.length + 1 = (D ++ [z]).length by simp]
            exact o3.setCell_far (a := ⟨wo.heap.size, 1, none⟩) hne.out _
          case measure => simp [intOf]; omega
      · obtain rfl : j = k + yN := by omega
        rw [show k + yN - (k + 2) = yN - 2 by omega] at hJ
        obtain ⟨A2, c2, rfl, hrd, _, _⟩ := hJ.out.2.2.2.open_
        rw [HDl.out] at hbl1 hd1
        have HR3 := Lib.hid (HRt.out wj A2 c2 _ HDl.out HDb.out hrd)
        have Hbj := Lib.hid hbj
        have Hrow := Lib.hid (hRo.out.row.kept (grown_of_below (row := none) (Hbo.out.trans hJ.out.1)) (Decidable.em _))
        obtain ⟨Ao, co, rfl, ho⟩ := optsAt_row Hrow.out hRo.out.one
        have Hob := Lib.hid ho
        clear ho hbj hrd hd1
        generalize (xs.drop (k + 2)).take (yN - 2) = D at *
        go_wp2_with (first | ((with_reducible refine look_load ?_); refine wpList_load_row rfl _ _ rfl _ rfl _ _ _ _ hbl1 Tryd.underlying247 rfl (by kernel_rfl) ?_) | fail)
        refine HR3.out.mono ?_
        rintro e w4 ⟨rfl, l4⟩
        have Hb4 := Lib.hid (Hbj.out.trans (l4.mono Hbj.out.size))
        rcases hright : optRight x D with _ | _
        · have HX := Lib.hid (show optRead xs = ([], 61) by rw [← hRo.out.goes, hZ.out, if_neg (by rw [hright]; decide)])
          go_wp2_with fail
          go_ret2
          exact RoOut.bad HX.out Hb4.out
        · have hbl4 := hbl1.below l4 hbl1.lt
          have hc4 := hbl4.cell 0
          have HE4 := Lib.hid (HEx.out w4 Ao co ((Hob.out.below l4 (Nat.le_refl _)).more l4.size))
          have Hrow4 := Lib.hid (Hrow.out.kept (grown_of_below (row := none) l4) (Decidable.em _))
          go_wp2_with fail
          refine HE4.out.mono ?_
          rintro e w5 ⟨rfl, rfl⟩
          rcases hex : exclB (l.map Prod.fst) x with _ | _
          · go_wp2_with (first | ((with_reducible refine look_load ?_); refine wpList_load_row rfl _ _ rfl _ rfl _ _ _ _ hbl4 Tryd.underlying247 rfl (by kernel_rfl) ?_) | (at_builtin; refine wpList_append_own_at _ rfl _ _ 205 rfl w.heap.size 247 i0 _ 2 32 Tryd.underlying205 hi hz0 hz1 hz2 rfl (by decide) _ l.length (opC l) rfl (Hrow4.out.alloc _) ⟨w4.heap.size, 0, none⟩ 1 1 [.int .u8 x, .slice A2 (yN - 2) c2] rfl rfl (two_new _ _ _ _) (by simp [Value.oneCell']) (by simp only [maxLen]; have := Hll.out; omega) (by have := Hll.out; omega) (by have := Hb4.out.size; simp; omega) ?_; intro v' w6 hown hg hnil hat) | fail)
            go_roundw
            case rel =>
              exact ⟨k + yN, m, l ++ [(x, .slice A2 (yN - 2) c2)], by omega, by omega, by go_num, Lib.hid (hRo.out.more x _ rfl (by omega) ((Hb4.out.alloc Hb4.out.size _).grown hg (by have := Hb4.out.size; simp; omega) (fun g e => (Hrow4.out.lt g e).1)) hown (hZ.out.trans (by rw [if_pos hright, if_neg (by rw [hex]; decide)])))⟩
            case measure => simp [intOf]; omega
          · have HX := Lib.hid (show optRead xs = ([], 63) by rw [← hRo.out.goes, hZ.out, if_pos hright, if_pos hex])
            go_wp2_with fail
            go_ret2
            exact RoOut.bad HX.out Hb4.out
end Go.Proofs.YtebeekjcepjcnaaDoor
