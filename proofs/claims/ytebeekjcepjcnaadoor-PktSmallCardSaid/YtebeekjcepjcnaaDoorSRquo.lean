/-
  The reference of icmp: Quote.
-/
import Derived.Test.YtebeekjcepjcnaaDoorProg
import Derived.WalkKit
import Derived.WalkSpells
import Derived.WalkLawsBesides
import Derived.WalkSmall
import Derived.Lib.Hide
import Derived.Deep.AppendLies
import Derived.Maps.AppendAt
import Derived.Laws.AppendOwnNone
import Derived.Laws.CopyOwn
import Derived.OneCell
import Derived.Lib.SliceRun
import Derived.RangeFuncNested
import Derived.RangeFuncBound
import Derived.RangeFuncCalls
import Derived.RangeFuncLeaves
import Derived.Shelf.Abstract
import Derived.OwnWalkIn
import Derived.TacticsInMore
import Derived.LoopNIn
import Derived.LoopIn
import Derived.Orders
import Derived.RegionTactic
import Derived.Still
import Derived.Deep.MidRow
import Derived.Deep.DeepCutAuto
import Derived.Lib.AppendZeros
import Derived.BigRegion
import Derived.ChangeAlike
import Derived.Deep.RegionLaw
import Derived.Deep.RegionHeld3
import Derived.MapKept
import Derived.Laws.StructEq
import Derived.Test.YtebeekjcepjcnaaDoorSBase
import Derived.Test.YtebeekjcepjcnaaDoorSMem
import Derived.Test.YtebeekjcepjcnaaDoorSCsum
import Derived.Test.YtebeekjcepjcnaaDoorSSum
import Derived.Test.YtebeekjcepjcnaaDoorSRegion
import Derived.Test.YtebeekjcepjcnaaDoorSWalk
import Derived.Test.YtebeekjcepjcnaaDoorSStep
import Derived.Test.YtebeekjcepjcnaaDoorSStepb
import Derived.Test.YtebeekjcepjcnaaDoorSRefa
import Derived.Test.YtebeekjcepjcnaaDoorSConcat
import Derived.Test.YtebeekjcepjcnaaDoorSPkt
import Derived.Test.YtebeekjcepjcnaaDoorSRopts
import Derived.Test.YtebeekjcepjcnaaDoorSRnum
import Derived.Test.YtebeekjcepjcnaaDoorSTcpw
import Derived.Test.YtebeekjcepjcnaaDoorSIcmpr
import Derived.Test.YtebeekjcepjcnaaDoorSIprd
import Derived.Test.YtebeekjcepjcnaaDoorSIpre
import Derived.Test.YtebeekjcepjcnaaDoorSTcprd
import Derived.Test.YtebeekjcepjcnaaDoorSUdprd
import Derived.Test.YtebeekjcepjcnaaDoorSEq
import Derived.Test.YtebeekjcepjcnaaDoorSQuota
import Derived.Test.YtebeekjcepjcnaaDoorSQuotc
import Derived.Test.YtebeekjcepjcnaaDoorSRat
import Derived.Test.YtebeekjcepjcnaaDoorSRefc
namespace Go.Proofs.YtebeekjcepjcnaaDoor
open Go.RowKit
theorem ofB_sum (bs : List Int) : (ofB bs == 0) = !(sumB bs != 65535) := by
  unfold ofB
  rw [Bool.eq_iff_iff]
  simp
  omega
theorem quoN_lt (xs : List Int) (k : Nat) (hk : k < 4) (h : quoT xs k = true) : quoN xs < 4 := by
  rcases Nat.lt_or_ge (quoN xs) 4 with h2 | h2
  · exact h2
  · have := firstB_before (quoT xs) 4 0 k (by unfold quoN at h2; omega)
    rw [Nat.zero_add, h] at this; cases this
theorem quoOutN (xs : List Int) (k : Nat) (hk : k < 4) (h : quoT xs k = true) : quoOut xs = .tuple #[.agg keyZ, .int .u8 0, .int .i64 103] := by
  have hE : quoE xs = 103 := by unfold quoE; rw [if_pos (quoN_lt xs k hk h)]
  unfold quoOut
  rw [hE]
  rfl
theorem quoN_4 (xs : List Int) (h0 : quoT xs 0 = false) (h1 : quoT xs 1 = false) (h2 : quoT xs 2 = false) (h3 : quoT xs 3 = false) : quoN xs = 4 := firstB_all fun i hi => by
  rcases (show i = 0 ∨ i = 1 ∨ i = 2 ∨ i = 3 by omega) with rfl | rfl | rfl | rfl <;> assumption
theorem kind_rel (t c : Nat) : (kind2 t c ≠ 0 → kind1 t c = 0) ∧ (kind2 t c = 0 → kind1 t c ≠ 0) := by
  unfold kind1 kind2
  repeat' split
  all_goals simp_all
def QuoPost (w : World) (xs : List Int) (e : Ending) (W : World) : Prop := e = .returned (quoOut xs) ∧ Below w.heap.size w W
set_option maxRecDepth 100000 in
set_option maxHeartbeats 16000000 in
theorem r10Quote_any (A : Option Addr) (cap n : Nat) (xs : List Int) (w : World) (hn : xs.length = n) (hl : n ≤ 1000000) (hcap : n ≤ cap) (hB : Byt xs) (hr : Rd w w.heap.size A .u8 xs) :
    Calls Tryd.prog 142 #[.slice A n cap] w (QuoPost w xs) := by
  have HP := Lib.hid (show ∀ e W, QuoPost w xs e W ↔ (e = .returned (quoOut xs) ∧ Below w.heap.size w W) from fun _ _ => Iff.rfl)
  by_cases h28 : n < 28
  · have g1 : (n : Int) < 28 := by omega
    have HX := Lib.hid (show quoOut xs = .tuple #[.agg keyZ, .int .u8 0, .int .i64 103] by
      by_cases h0 : quoT xs 0 = true
      · exact quoOutN xs 0 (by omega) h0
      · refine quoOutN xs 1 (by omega) ?_
        simp only [quoT, Bool.or_eq_true, decide_eq_true_eq]
        omega)
    go_enter Tryd.func142, Tryd.ntmps142
    go_upto_region 1 with (first | ((with_reducible refine look_store ?_); refine wpList_store_new rfl _ _ _ rfl _ _ rfl rfl _ _ rfl (by kernel_rfl) (by simp) (by simp [Value.oneCell']) ?_) | fail)
    refine wp_name1 ?_
    intro w1 hb1 hs1 br
    go_wp2_with (first | ((with_reducible refine look_store ?_); refine wpList_store_row rfl _ _ _ rfl _ _ rfl rfl _ _ br (by kernel_rfl) (by simp) (by simp [Value.oneCell']) ?_) | fail)
    refine bodyPost_ret (results_cell_tmp2 Tryd.results142 _ _ _ _ _ _ _ rfl (setRow_heap _ _ _ _ _ _ br) Tryd.underlying25 rfl (by kernel_rfl)) rfl ((HP.out _ _).2 ⟨?_, below_setRow hb1 (Nat.le_refl _) _⟩)
    rw [HX.out]; rfl
  obtain ⟨b, off, rfl, hbl, hc⟩ := hr.at0 (by omega)
  have g1 : ¬ (n : Int) < 28 := by omega
  have c0 := hc 0 (by omega)
  rw [Nat.add_zero] at c0
  have c9 := hc 9 (by omega)
  have h0 := hB.at_ 0
  have h9 := hB.at_ 9
  have hszb := ipSize_bd xs
  have hsz : (ipSize xs : Int) = xs.getD 0 0 % 16 * 4 := by unfold ipSize; omega
  have HT0 := Lib.hid (show quoT xs 0 = (xs.getD 0 0 / 16 != 4) by show (decide (xs.length < 20) || _) = _; rw [decide_eq_false (by omega), Bool.false_or])
  have HT1 := Lib.hid (show quoT xs 1 = (decide (ipSize xs < 20) || decide (n < ipSize xs + 8)) by show (_ || decide (xs.length < _)) = _; rw [hn])
  have HT2 := Lib.hid (show quoT xs 2 = ((sumB (xs.take (ipSize xs)) != 65535) || decide (w16At xs 2 < ipSize xs + 8)) by show (!_ || _) = _; rw [ofB_sum, Bool.not_not])
  have HT3 := Lib.hid (show quoT xs 3 = !(decide (w16At xs 6 < 32768) && w16At xs 6 % 8192 == 0) from rfl)
  have HQ := Lib.hid (fun k hk h => quoOutN xs k hk h)
  have HQ4 := Lib.hid (quoN_4 xs)
  have hlt : (xs.take (ipSize xs)).length = min (ipSize xs) n := by rw [List.length_take, hn]
  have HSum := Lib.hid (fun (W : World) (h : Below w.heap.size w W) (hz : ipSize xs ≤ n) c => show Calls Tryd.prog 135 #[.slice (some ⟨b, off, none⟩) (ipSize xs) c] W fun e w' => e = .returned (.int .i64 (sumB (xs.take (ipSize xs)))) ∧ W = w' from by
    have h2 := rSum_any (some ⟨b, off, none⟩) c (xs.take (ipSize xs)) W (hB.take _) (by omega) ((hr.belows h (Nat.le_refl _)).take _)
    rwa [hlt, Nat.min_eq_left hz] at h2)
  have a2 : Hid (∀ W, Below w.heap.size w W → Calls Tryd.prog 169 #[.slice (some ⟨b, off, none⟩) n cap, .int .i64 2] W fun e w' => e = .returned (.int .i64 (w16At xs 2)) ∧ Below W.heap.size W w') := Lib.hid fun W h => rAt10_any b off cap n 2 xs W hn (by omega) hl hB (hr.belows h (Nat.le_refl _))
  obtain ⟨u2, t2⟩ := w16At_bd hB 2
  have a6 : Hid (∀ W, Below w.heap.size w W → Calls Tryd.prog 169 #[.slice (some ⟨b, off, none⟩) n cap, .int .i64 6] W fun e w' => e = .returned (.int .i64 (w16At xs 6)) ∧ Below W.heap.size W w') := Lib.hid fun W h => rAt10_any b off cap n 6 xs W hn (by omega) hl hB (hr.belows h (Nat.le_refl _))
  obtain ⟨u6, t6⟩ := w16At_bd hB 6
  have a12 : Hid (∀ W, Below w.heap.size w W → Calls Tryd.prog 169 #[.slice (some ⟨b, off, none⟩) n cap, .int .i64 12] W fun e w' => e = .returned (.int .i64 (w16At xs 12)) ∧ Below W.heap.size W w') := Lib.hid fun W h => rAt10_any b off cap n 12 xs W hn (by omega) hl hB (hr.belows h (Nat.le_refl _))
  obtain ⟨u12, t12⟩ := w16At_bd hB 12
  have a14 : Hid (∀ W, Below w.heap.size w W → Calls Tryd.prog 169 #[.slice (some ⟨b, off, none⟩) n cap, .int .i64 14] W fun e w' => e = .returned (.int .i64 (w16At xs 14)) ∧ Below W.heap.size W w') := Lib.hid fun W h => rAt10_any b off cap n 14 xs W hn (by omega) hl hB (hr.belows h (Nat.le_refl _))
  obtain ⟨u14, t14⟩ := w16At_bd hB 14
  have a16 : Hid (∀ W, Below w.heap.size w W → Calls Tryd.prog 169 #[.slice (some ⟨b, off, none⟩) n cap, .int .i64 16] W fun e w' => e = .returned (.int .i64 (w16At xs 16)) ∧ Below W.heap.size W w') := Lib.hid fun W h => rAt10_any b off cap n 16 xs W hn (by omega) hl hB (hr.belows h (Nat.le_refl _))
  obtain ⟨u16, t16⟩ := w16At_bd hB 16
  have a18 : Hid (∀ W, Below w.heap.size w W → Calls Tryd.prog 169 #[.slice (some ⟨b, off, none⟩) n cap, .int .i64 18] W fun e w' => e = .returned (.int .i64 (w16At xs 18)) ∧ Below W.heap.size W w') := Lib.hid fun W h => rAt10_any b off cap n 18 xs W hn (by omega) hl hB (hr.belows h (Nat.le_refl _))
  obtain ⟨u18, t18⟩ := w16At_bd hB 18
  have o12 : w16At xs 12 * 65536 + w16At xs 14 = l32At xs 12 := by show _ = 65536 * w16At xs 12 + w16At xs 14; omega
  have o16 : w16At xs 16 * 65536 + w16At xs 18 = l32At xs 16 := by show _ = 65536 * w16At xs 16 + w16At xs 18; omega
  obtain ⟨v12, r12⟩ := l32At_bd hB 12
  obtain ⟨v16, r16⟩ := l32At_bd hB 16
  have m12 : l32At xs 12 % 4294967296 = l32At xs 12 := by omega
  have m16 : l32At xs 16 % 4294967296 = l32At xs 16 := by omega
  have HKP := Lib.hid (fun p h hp => quoKey_P xs p h hp)
  have HDP := Lib.hid (fun p h hp => quoKind_P xs p h hp)
  have HK1 := Lib.hid (fun (h : xs.getD 9 0 = 1) => show (quoKey xs).cells.toArray = keySt 1 (l32At xs 12) (l32At xs 16) (w16At (xs.drop (ipSize xs)) 4) (w16At (xs.drop (ipSize xs)) 4) 2 by unfold quoKey; rw [h]; dsimp only; rw [if_neg (by decide), if_pos rfl]; rfl)
  have HD1 := Lib.hid (fun (h : xs.getD 9 0 = 1) => show quoKind xs = kind1 ((xs.drop (ipSize xs)).getD 0 0).toNat ((xs.drop (ipSize xs)).getD 1 0).toNat by unfold quoKind; rw [h]; dsimp only; rw [if_neg (by decide), if_pos rfl])
  have HD0 := Lib.hid (fun (h : ¬ (xs.getD 9 0 = 6 ∨ xs.getD 9 0 = 17)) (h1 : ¬ xs.getD 9 0 = 1) => show quoKind xs = 0 by unfold quoKind; dsimp only; rw [if_neg h, if_neg h1])
  rw [w16At_drop, w16At_drop, Nat.add_zero] at HKP HDP
  rw [w16At_drop] at HK1
  rw [drop_get, drop_get, Nat.add_zero] at HD1
  have HR := Lib.hid hr
  have HB := Lib.hid hB
  have HN := Lib.hid hn
  have HC := Lib.hid hc
  have HX9 : Hid (xs.getD 9 0 = xs.getD 9 0) := Lib.hid rfl
  generalize hX9 : xs.getD 9 0 = X9 at *
  have HX := Lib.hid hX9
  clear hX9 HX9
  have HSZ : Hid (ipSize xs = ipSize xs) := Lib.hid rfl
  generalize hS9 : ipSize xs = SZ at *
  have HS := Lib.hid hS9
  clear hS9 HSZ
  have hsz2 : xs.getD 0 0 % 16 * 4 = (SZ : Int) := hsz.symm
  clear hsz hr hB hn hc
  generalize xs.getD 0 0 = x at *
  generalize l32At xs 12 = l12 at *
  generalize l32At xs 16 = l16 at *
  generalize sumB (xs.take SZ) = SS at *
  go_enter Tryd.func142, Tryd.ntmps142
  go_upto_region 1 with (first | ((with_reducible refine look_store ?_); refine wpList_store_new rfl _ _ _ rfl _ _ rfl rfl _ _ rfl (by kernel_rfl) (by simp) (by simp [Value.oneCell']) ?_) | fail)
  refine wp_name1 ?_
  intro w1 hb1 hs1 br
  have hz1 : w.heap.size ≤ w1.heap.size := by omega
  have hbk := Below.refl w1.heap.size w1
  have d0 := (hb1.cell (p := ⟨b, off, none⟩) hbl).trans c0
  have A2 : Hid (∀ W, Below w1.heap.size w1 W → Calls Tryd.prog 169 #[.slice (some ⟨b, off, none⟩) n cap, .int .i64 2] W fun e w' => e = .returned (.int .i64 (w16At xs 2)) ∧ Below w1.heap.size w1 w') := Lib.hid fun W h => (a2.out W (hb1.trans (h.mono hz1))).mono fun e w' q => ⟨q.1, h.trans (q.2.mono h.size)⟩
  have A6 : Hid (∀ W, Below w1.heap.size w1 W → Calls Tryd.prog 169 #[.slice (some ⟨b, off, none⟩) n cap, .int .i64 6] W fun e w' => e = .returned (.int .i64 (w16At xs 6)) ∧ Below w1.heap.size w1 w') := Lib.hid fun W h => (a6.out W (hb1.trans (h.mono hz1))).mono fun e w' q => ⟨q.1, h.trans (q.2.mono h.size)⟩
  have ASum : Hid (∀ W, Below w1.heap.size w1 W → SZ ≤ n → ∀ c, Calls Tryd.prog 135 #[.slice (some ⟨b, off, none⟩) SZ c] W fun e w' => e = .returned (.int .i64 SS) ∧ W = w') := Lib.hid fun W h hz c => HSum.out W (hb1.trans (h.mono hz1)) hz c
  clear hs1
  by_cases t0 : x / 16 = 4
  case neg =>
    have e0 : (x / 16 != 4) = true := by simpa using t0
    have hzn : SZ ≤ n ∨ True := .inr trivial
    have HX2 := Lib.hid (HQ.out 0 (by omega) (by rw [HT0.out]; exact e0))
    go_wp2_with (first | ((with_reducible refine (A2.out _ (by assumption)).mono ?_); rintro e wk ⟨rfl, hbk⟩) | ((with_reducible refine (A6.out _ (by assumption)).mono ?_); rintro e wk ⟨rfl, hbk⟩) | ((with_reducible refine (ASum.out _ (by assumption) hzn _).mono ?_); rintro e wk ⟨rfl, rfl⟩) | (have br2 := br.below hbk br.lt; ((with_reducible refine look_store ?_); refine wpList_store_row rfl _ _ _ rfl _ _ rfl rfl _ _ br2 (by kernel_rfl) (by simp) (by simp [Value.oneCell']) ?_)) | fail)
    refine bodyPost_ret (results_cell_tmp2 Tryd.results142 _ _ _ _ _ _ _ rfl (setRow_heap _ _ _ _ _ _ br2) Tryd.underlying25 rfl (by kernel_rfl)) rfl ?_
    exact (HP.out _ _).2 ⟨by rw [HX2.out]; rfl, below_setRow (hb1.trans (hbk.mono hz1)) (Nat.le_refl _) _⟩
  have e0 : (x / 16 != 4) = false := by simpa using t0
  by_cases t1 : SZ < 20
  · have e1 : decide ((SZ : Int) < 20) = true := by simp; omega
    have HX2 := Lib.hid (HQ.out 1 (by omega) (by rw [HT1.out, decide_eq_true t1]; rfl))
    go_wp2_with (first | ((with_reducible refine (A2.out _ (by assumption)).mono ?_); rintro e wk ⟨rfl, hbk⟩) | ((with_reducible refine (A6.out _ (by assumption)).mono ?_); rintro e wk ⟨rfl, hbk⟩) | ((with_reducible refine (ASum.out _ (by assumption) hzn _).mono ?_); rintro e wk ⟨rfl, rfl⟩) | (have br2 := br.below hbk br.lt; ((with_reducible refine look_store ?_); refine wpList_store_row rfl _ _ _ rfl _ _ rfl rfl _ _ br2 (by kernel_rfl) (by simp) (by simp [Value.oneCell']) ?_)) | fail)
    refine bodyPost_ret (results_cell_tmp2 Tryd.results142 _ _ _ _ _ _ _ rfl (setRow_heap _ _ _ _ _ _ br2) Tryd.underlying25 rfl (by kernel_rfl)) rfl ?_
    exact (HP.out _ _).2 ⟨by rw [HX2.out]; rfl, below_setRow (hb1.trans (hbk.mono hz1)) (Nat.le_refl _) _⟩
  have e1 : decide ((SZ : Int) < 20) = false := by simp; omega
  by_cases t2 : n < SZ + 8
  · have e2 : decide ((n : Int) < (SZ : Int) + 8) = true := by simp; omega
    have HX2 := Lib.hid (HQ.out 1 (by omega) (by rw [HT1.out, decide_eq_true t2, Bool.or_true]))
    go_wp2_with (first | ((with_reducible refine (A2.out _ (by assumption)).mono ?_); rintro e wk ⟨rfl, hbk⟩) | ((with_reducible refine (A6.out _ (by assumption)).mono ?_); rintro e wk ⟨rfl, hbk⟩) | ((with_reducible refine (ASum.out _ (by assumption) hzn _).mono ?_); rintro e wk ⟨rfl, rfl⟩) | (have br2 := br.below hbk br.lt; ((with_reducible refine look_store ?_); refine wpList_store_row rfl _ _ _ rfl _ _ rfl rfl _ _ br2 (by kernel_rfl) (by simp) (by simp [Value.oneCell']) ?_)) | fail)
    refine bodyPost_ret (results_cell_tmp2 Tryd.results142 _ _ _ _ _ _ _ rfl (setRow_heap _ _ _ _ _ _ br2) Tryd.underlying25 rfl (by kernel_rfl)) rfl ?_
    exact (HP.out _ _).2 ⟨by rw [HX2.out]; rfl, below_setRow (hb1.trans (hbk.mono hz1)) (Nat.le_refl _) _⟩
  have e2 : decide ((n : Int) < (SZ : Int) + 8) = false := by simp; omega
  have hzn : SZ ≤ n := by omega
  have izn : (SZ : Int) ≤ cap := by omega
  by_cases t3 : SS = 65535
  case neg =>
    have e3 : (SS != 65535) = true := by simpa using t3
    have HX2 := Lib.hid (HQ.out 2 (by omega) (by rw [HT2.out, e3]; rfl))
    go_wp2_with (first | ((with_reducible refine (A2.out _ (by assumption)).mono ?_); rintro e wk ⟨rfl, hbk⟩) | ((with_reducible refine (A6.out _ (by assumption)).mono ?_); rintro e wk ⟨rfl, hbk⟩) | ((with_reducible refine (ASum.out _ (by assumption) hzn _).mono ?_); rintro e wk ⟨rfl, rfl⟩) | (have br2 := br.below hbk br.lt; ((with_reducible refine look_store ?_); refine wpList_store_row rfl _ _ _ rfl _ _ rfl rfl _ _ br2 (by kernel_rfl) (by simp) (by simp [Value.oneCell']) ?_)) | fail)
    refine bodyPost_ret (results_cell_tmp2 Tryd.results142 _ _ _ _ _ _ _ rfl (setRow_heap _ _ _ _ _ _ br2) Tryd.underlying25 rfl (by kernel_rfl)) rfl ?_
    exact (HP.out _ _).2 ⟨by rw [HX2.out]; rfl, below_setRow (hb1.trans (hbk.mono hz1)) (Nat.le_refl _) _⟩
  have e3 : (SS != 65535) = false := by simpa using t3
  by_cases t4 : w16At xs 2 < SZ + 8
  · have e4 : decide (w16At xs 2 < (SZ : Int) + 8) = true := decide_eq_true t4
    have ht2 := Lib.hid (show quoT xs 2 = true by rw [HT2.out, decide_eq_true t4, Bool.or_true])
    generalize w16At xs 2 = p2 at *
    have HX2 := Lib.hid (HQ.out 2 (by omega) (by exact ht2.out))
    go_wp2_with (first | ((with_reducible refine (A2.out _ (by assumption)).mono ?_); rintro e wk ⟨rfl, hbk⟩) | ((with_reducible refine (A6.out _ (by assumption)).mono ?_); rintro e wk ⟨rfl, hbk⟩) | ((with_reducible refine (ASum.out _ (by assumption) hzn _).mono ?_); rintro e wk ⟨rfl, rfl⟩) | (have br2 := br.below hbk br.lt; ((with_reducible refine look_store ?_); refine wpList_store_row rfl _ _ _ rfl _ _ rfl rfl _ _ br2 (by kernel_rfl) (by simp) (by simp [Value.oneCell']) ?_)) | fail)
    refine bodyPost_ret (results_cell_tmp2 Tryd.results142 _ _ _ _ _ _ _ rfl (setRow_heap _ _ _ _ _ _ br2) Tryd.underlying25 rfl (by kernel_rfl)) rfl ?_
    exact (HP.out _ _).2 ⟨by rw [HX2.out]; rfl, below_setRow (hb1.trans (hbk.mono hz1)) (Nat.le_refl _) _⟩
  have e4 : decide (w16At xs 2 < (SZ : Int) + 8) = false := decide_eq_false t4
  have h1f := HT1.out.trans (by rw [decide_eq_false t1, decide_eq_false t2, Bool.or_false])
  have h2f := HT2.out.trans (by rw [e3, decide_eq_false t4, Bool.or_false])
  have h0f := HT0.out.trans e0
  by_cases t5 : 32768 ≤ w16At xs 6
  · have e5 : decide (32768 ≤ w16At xs 6) = true := decide_eq_true t5
    have ht3 := Lib.hid (show quoT xs 3 = true by rw [HT3.out, decide_eq_false (by omega)]; rfl)
    clear h0f h1f h2f
    generalize w16At xs 2 = p2 at *
    generalize w16At xs 6 = p6 at *
    have HX2 := Lib.hid (HQ.out 3 (by omega) (by exact ht3.out))
    go_wp2_with (first | ((with_reducible refine (A2.out _ (by assumption)).mono ?_); rintro e wk ⟨rfl, hbk⟩) | ((with_reducible refine (A6.out _ (by assumption)).mono ?_); rintro e wk ⟨rfl, hbk⟩) | ((with_reducible refine (ASum.out _ (by assumption) hzn _).mono ?_); rintro e wk ⟨rfl, rfl⟩) | (have br2 := br.below hbk br.lt; ((with_reducible refine look_store ?_); refine wpList_store_row rfl _ _ _ rfl _ _ rfl rfl _ _ br2 (by kernel_rfl) (by simp) (by simp [Value.oneCell']) ?_)) | fail)
    refine bodyPost_ret (results_cell_tmp2 Tryd.results142 _ _ _ _ _ _ _ rfl (setRow_heap _ _ _ _ _ _ br2) Tryd.underlying25 rfl (by kernel_rfl)) rfl ?_
    exact (HP.out _ _).2 ⟨by rw [HX2.out]; rfl, below_setRow (hb1.trans (hbk.mono hz1)) (Nat.le_refl _) _⟩
  have e5 : decide (32768 ≤ w16At xs 6) = false := decide_eq_false t5
  by_cases t6 : w16At xs 6 % 8192 = 0
  case neg =>
    have e6 : (w16At xs 6 % 8192 != 0) = true := by simpa using t6
    have ht3 := Lib.hid (show quoT xs 3 = true by rw [HT3.out, show (w16At xs 6 % 8192 == 0) = false by simpa using t6, Bool.and_false]; rfl)
    clear h0f h1f h2f
    generalize w16At xs 2 = p2 at *
    generalize w16At xs 6 = p6 at *
    have HX2 := Lib.hid (HQ.out 3 (by omega) (by exact ht3.out))
    go_wp2_with (first | ((with_reducible refine (A2.out _ (by assumption)).mono ?_); rintro e wk ⟨rfl, hbk⟩) | ((with_reducible refine (A6.out _ (by assumption)).mono ?_); rintro e wk ⟨rfl, hbk⟩) | ((with_reducible refine (ASum.out _ (by assumption) hzn _).mono ?_); rintro e wk ⟨rfl, rfl⟩) | (have br2 := br.below hbk br.lt; ((with_reducible refine look_store ?_); refine wpList_store_row rfl _ _ _ rfl _ _ rfl rfl _ _ br2 (by kernel_rfl) (by simp) (by simp [Value.oneCell']) ?_)) | fail)
    refine bodyPost_ret (results_cell_tmp2 Tryd.results142 _ _ _ _ _ _ _ rfl (setRow_heap _ _ _ _ _ _ br2) Tryd.underlying25 rfl (by kernel_rfl)) rfl ?_
    exact (HP.out _ _).2 ⟨by rw [HX2.out]; rfl, below_setRow (hb1.trans (hbk.mono hz1)) (Nat.le_refl _) _⟩
  have e6 : (w16At xs 6 % 8192 != 0) = false := by simpa using t6
  have H4 := Lib.hid (HQ4.out h0f h1f h2f (by rw [HT3.out, decide_eq_true (by omega), t6]; rfl))
  clear h0f h1f h2f HQ HT0 HT1 HT2 HT3 HQ4 t0 t3 t4 t5 t6
  generalize w16At xs 2 = p2 at *
  generalize w16At xs 6 = p6 at *

  go_wp2_with (first | ((with_reducible refine (A2.out _ (by assumption)).mono ?_); rintro e wk ⟨rfl, hbk⟩) | ((with_reducible refine (A6.out _ (by assumption)).mono ?_); rintro e wk ⟨rfl, hbk⟩) | ((with_reducible refine (ASum.out _ (by assumption) hzn _).mono ?_); rintro e wk ⟨rfl, rfl⟩) | (have br2 := br.below hbk br.lt; ((with_reducible refine look_store ?_); refine wpList_store_row rfl _ _ _ rfl _ _ rfl rfl _ _ br2 (by kernel_rfl) (by simp) (by simp [Value.oneCell']) ?_)) | fail)
  have br2 := br.below hbk br.lt
  have hbW := hb1.trans (hbk.mono hz1)
  have hSt := (St.nil hbW hbW.size).cons br2
  have hlw : w.heap.size < wk.heap.size := br2.lt
  clear hbk hbW br br2 A2 A6 ASum d0
  refine wp_region_walk (by kernel_rfl) (fun _ W => St w w.heap.size [(w.heap.size, 25, #[.int .u8 0, .int .u32 0, .int .u32 0, .int .u16 0, .int .u16 0])] W ∧ wk.heap.size ≤ W.heap.size) [] (Late wk.heap.size 25 #[.int .u8 0, .int .u32 0, .int .u32 0, .int .u16 0, .int .u16 0] #[.int .u8 X9, .int .u32 l12, .int .u32 l16, .int .u16 0, .int .u16 0])
    [18] (fun _ => LateB wk.heap.size 25 #[.int .u8 0, .int .u32 0, .int .u32 0, .int .u16 0, .int .u16 0] #[.int .u8 X9, .int .u32 l12, .int .u32 l16, .int .u16 0, .int .u16 0]) [0, 1, 2, 3, 4, 5, 6, 7, 8, 9, 10, 11, 12, 13, 14, 15, 16, 17, 18, 19] (by kernel_rfl) ?hfree ⟨hSt.drew, Nat.le_refl _⟩ ?hwalk
  case hfree =>
    intro k hk
    obtain rfl : k = 18 := by simpa using hk
    refine ⟨rfl, LateB.keep, fun o ho a c W hE => ?_⟩
    simp at ho
    subst ho
    go_wp2_with fail
    exact ⟨_, rfl, ⟨W.heap.size, rfl, hE.2, .inl (Blk.new _ _ _)⟩, Late.grown ((Below.refl _ _).alloc (Nat.le_refl _) _) hE.2, hE.1.alloc _, by simp; have := hE.2; omega⟩
  iterate 18
    apply Walk.one rfl rfl rfl
    case hrun =>
      intro c W hE hF
      have hbx := hE.1.1
      have d9 := (hbx.cell (p := ⟨b, off + 9, none⟩) hbl).trans c9
      go_wp2_with (first | ((with_reducible refine (a12.out _ hbx).mono ?_); rintro e wk ⟨rfl, lk⟩) | ((with_reducible refine (a14.out _ hbx).mono ?_); rintro e wk ⟨rfl, lk⟩) | ((with_reducible refine (a16.out _ hbx).mono ?_); rintro e wk ⟨rfl, lk⟩) | ((with_reducible refine (a18.out _ hbx).mono ?_); rintro e wk ⟨rfl, lk⟩) | fail)
      first
        | exact TextPost.mk ⟨Late.refl _, hE⟩
        | exact TextPost.mk ⟨Late.grown lk hE.2, hE.1.below lk, Nat.le_trans hE.2 lk.size⟩
    case hv => rfl
  refine Walk.freeOp LateB.keep rfl rfl (by kernel_rfl) ?_ (fun u6 => ?_)
  · intro a c W hE
    go_wp2_with fail
    exact ⟨_, rfl, ⟨W.heap.size, rfl, hE.2, .inl (Blk.new _ _ _)⟩, Late.grown ((Below.refl _ _).alloc (Nat.le_refl _) _) hE.2, hE.1.alloc _, by simp; have := hE.2; omega⟩
  dsimp only [Act.put]
  simp only [List.setIfInBounds_toArray, List.set_cons_succ, List.set_cons_zero]
  refine Walk.whatever (fun _ W => LateN wk.heap.size 25 #[.int .u8 X9, .int .u32 l12, .int .u32 l16, .int .u16 0, .int .u16 0] u6 W) (fun _ => LateN.keep u6) rfl rfl rfl (by kernel_rfl) ?_ (fun uu => ?_)
  · intro c W hE hF
    obtain ⟨g, rfl, hg0, hg | hg⟩ := hF.head
    all_goals
      refine wpList_store_row rfl _ _ _ rfl g #[.int .u8 X9, .int .u32 l12, .int .u32 l16, .int .u16 0, .int .u16 0] rfl rfl _ _ hg (by kernel_rfl) (by simp) (by simp [Value.oneCell']) ?_
      go_wp2_with fail
      refine ⟨undef, rfl, ⟨g, rfl, hg0, setRow_heap _ _ _ _ _ _ hg⟩, ?_, hE.1.rowFar (by omega) (by simp; omega) _, by simpa using hE.2⟩
    · exact Late.store hg (by omega)
    · exact Late.again hg (by omega)
  dsimp only [Act.put]
  refine Walk.done (fun W hE hF => ?_)
  obtain ⟨gk, rfl, hgk, hk⟩ := hF.head
  have br := hE.1.get 0 rfl
  have hbW := hE.1.1
  have q0 := hk.cell 0
  have hgr : w.heap.size ≠ gk := by omega
  have HAt := Lib.hid (fun (k : Nat) (hk : k + 2 ≤ n) (W : World) (h : Below w.heap.size w W) => rAt10_any b off cap n k xs W HN.out hk hl HB.out (HR.out.belows h (Nat.le_refl _)))
  have HQ0 := Lib.hid (fun h => quoOut0 xs H4.out h)
  have HQ5 := Lib.hid (fun h => quoOut5 xs H4.out h)
  have HQK := Lib.hid (fun K h h0 h5 => quoOutK xs H4.out K h h0 h5)
  clear hE hF hSt a2 a6 a12 a14 a16 a18
  by_cases hp : X9 = 6 ∨ X9 = 17
  · have HKy := Lib.hid (HKP.out X9 rfl hp)
    have HDy := Lib.hid (HDP.out X9 rfl hp)
    have S0 : Hid (∀ W, Below w.heap.size w W → Calls Tryd.prog 169 #[.slice (some ⟨b, off, none⟩) n cap, .int .i64 (SZ : Int)] W fun e w' => e = .returned (.int .i64 (w16At xs (SZ))) ∧ Below W.heap.size W w') := Lib.hid fun W h => by
      have h2 := HAt.out (SZ) (by omega) W h
      rwa [show (((SZ : Nat)) : Int) = (SZ : Int) by omega] at h2
    have S2 : Hid (∀ W, Below w.heap.size w W → Calls Tryd.prog 169 #[.slice (some ⟨b, off, none⟩) n cap, .int .i64 ((SZ : Int) + 2)] W fun e w' => e = .returned (.int .i64 (w16At xs (SZ + 2))) ∧ Below W.heap.size W w') := Lib.hid fun W h => by
      have h2 := HAt.out (SZ + 2) (by omega) W h
      rwa [show (((SZ + 2 : Nat)) : Int) = ((SZ : Int) + 2) by omega] at h2
    obtain ⟨i0, j0⟩ := w16At_bd HB.out SZ
    obtain ⟨i2, j2⟩ := w16At_bd HB.out (SZ + 2)
    clear HKP HDP HK1 HD1 HD0 HAt
    generalize w16At xs SZ = sp at *
    generalize w16At xs (SZ + 2) = dp at *
    have ms : sp % 65536 = sp := by omega
    have md : dp % 65536 = dp := by omega
    rcases hp with rfl | rfl
    · go_upto_region 12 with (first | ((with_reducible refine (S0.out _ hbW).mono ?_); rintro e wk2 ⟨rfl, lk⟩; have hk := hk.below lk hk.lt; have br := br.below lk br.lt; have hbW := hbW.trans (lk.mono hbW.size); have q3 := hk.cell 3; have f3 := hk.frozen 3; have q4 := hk.cell 4; have f4 := hk.frozen 4) | ((with_reducible refine (S2.out _ hbW).mono ?_); rintro e wk2 ⟨rfl, lk⟩; have hk := hk.below lk hk.lt; have br := br.below lk br.lt; have hbW := hbW.trans (lk.mono hbW.size); have q3 := hk.cell 3; have f3 := hk.frozen 3; have q4 := hk.cell 4; have f4 := hk.frozen 4) | fail)
      have hk2 : Blk ((wk2.setCell ⟨gk, 3, none⟩ (.int .u16 sp)).setCell ⟨gk, 4, none⟩ (.int .u16 dp)) gk 25 #[.int .u8 6, .int .u32 l12, .int .u32 l16, .int .u16 sp, .int .u16 dp] := (hk.set 3 _).set 4 _
      have br2 := (br.far (p := ⟨gk, 3, none⟩) hgr (.int .u16 sp)).far (p := ⟨gk, 4, none⟩) hgr (.int .u16 dp)
      have hb2 := (hbW.setCell (p := ⟨gk, 3, none⟩) (by show w.heap.size ≤ gk; omega) (.int .u16 sp)).setCell (p := ⟨gk, 4, none⟩) (by show w.heap.size ≤ gk; omega) (.int .u16 dp)
      have p0 := hk2.cell 0
      have p3 := hk2.cell 3
      have p4 := hk2.cell 4
      clear hk br hbW q3 f3 q4 f4 q0
      by_cases z0 : sp = 0
      · subst z0
        have HX2 := Lib.hid (HQ0.out (HDy.out.trans (by simp)))
        go_wp2_with (first | ((with_reducible refine look_store ?_); refine wpList_store_row rfl _ _ _ rfl _ _ rfl rfl _ _ br2 (by kernel_rfl) (by simp) (by simp [Value.oneCell']) ?_) | fail)
        refine bodyPost_ret (results_cell_tmp2 Tryd.results142 _ _ _ _ _ _ _ rfl (setRow_heap _ _ _ _ _ _ br2) Tryd.underlying25 rfl (by kernel_rfl)) rfl ?_
        exact (HP.out _ _).2 ⟨by rw [HX2.out]; rfl, below_setRow hb2 (Nat.le_refl _) _⟩
      by_cases z2 : dp = 0
      · subst z2
        have y0 : (sp == 0) = false := by simpa using z0
        have HX2 := Lib.hid (HQ0.out (HDy.out.trans (by simp)))
        go_wp2_with (first | ((with_reducible refine look_store ?_); refine wpList_store_row rfl _ _ _ rfl _ _ rfl rfl _ _ br2 (by kernel_rfl) (by simp) (by simp [Value.oneCell']) ?_) | fail)
        refine bodyPost_ret (results_cell_tmp2 Tryd.results142 _ _ _ _ _ _ _ rfl (setRow_heap _ _ _ _ _ _ br2) Tryd.underlying25 rfl (by kernel_rfl)) rfl ?_
        exact (HP.out _ _).2 ⟨by rw [HX2.out]; rfl, below_setRow hb2 (Nat.le_refl _) _⟩
      have y0 : (sp == 0) = false := by simpa using z0
      have y2 : (dp == 0) = false := by simpa using z2
      have HX2 := Lib.hid (HQK.out 1 (HDy.out.trans (by rw [if_neg (by omega)]; rfl)) (by decide) (by decide))
      rw [HKy.out] at HX2
      clear z0 z2
      go_wp2_with (first | ((with_reducible refine look_store ?_); refine wpList_store_row rfl _ _ _ rfl _ _ rfl rfl _ _ br2 (by kernel_rfl) (by simp) (by simp [Value.oneCell']) ?_) | ((with_reducible refine look_load ?_); refine wpList_load_row rfl _ _ rfl _ rfl _ _ _ _ hk2 Tryd.underlying25 rfl (by kernel_rfl) ?_) | fail)
      refine bodyPost_ret (results_cell_tmp2 Tryd.results142 _ _ _ _ _ _ _ rfl (setRow_heap _ _ _ _ _ _ br2) Tryd.underlying25 rfl (by kernel_rfl)) rfl ?_
      exact (HP.out _ _).2 ⟨by rw [HX2.out]; rfl, below_setRow hb2 (Nat.le_refl _) _⟩
    · go_upto_region 12 with (first | ((with_reducible refine (S0.out _ hbW).mono ?_); rintro e wk2 ⟨rfl, lk⟩; have hk := hk.below lk hk.lt; have br := br.below lk br.lt; have hbW := hbW.trans (lk.mono hbW.size); have q3 := hk.cell 3; have f3 := hk.frozen 3; have q4 := hk.cell 4; have f4 := hk.frozen 4) | ((with_reducible refine (S2.out _ hbW).mono ?_); rintro e wk2 ⟨rfl, lk⟩; have hk := hk.below lk hk.lt; have br := br.below lk br.lt; have hbW := hbW.trans (lk.mono hbW.size); have q3 := hk.cell 3; have f3 := hk.frozen 3; have q4 := hk.cell 4; have f4 := hk.frozen 4) | fail)
      have hk2 : Blk ((wk2.setCell ⟨gk, 3, none⟩ (.int .u16 sp)).setCell ⟨gk, 4, none⟩ (.int .u16 dp)) gk 25 #[.int .u8 17, .int .u32 l12, .int .u32 l16, .int .u16 sp, .int .u16 dp] := (hk.set 3 _).set 4 _
      have br2 := (br.far (p := ⟨gk, 3, none⟩) hgr (.int .u16 sp)).far (p := ⟨gk, 4, none⟩) hgr (.int .u16 dp)
      have hb2 := (hbW.setCell (p := ⟨gk, 3, none⟩) (by show w.heap.size ≤ gk; omega) (.int .u16 sp)).setCell (p := ⟨gk, 4, none⟩) (by show w.heap.size ≤ gk; omega) (.int .u16 dp)
      have p0 := hk2.cell 0
      have p3 := hk2.cell 3
      have p4 := hk2.cell 4
      clear hk br hbW q3 f3 q4 f4 q0
      by_cases z0 : sp = 0
      · subst z0
        have HX2 := Lib.hid (HQ0.out (HDy.out.trans (by simp)))
        go_wp2_with (first | ((with_reducible refine look_store ?_); refine wpList_store_row rfl _ _ _ rfl _ _ rfl rfl _ _ br2 (by kernel_rfl) (by simp) (by simp [Value.oneCell']) ?_) | fail)
        refine bodyPost_ret (results_cell_tmp2 Tryd.results142 _ _ _ _ _ _ _ rfl (setRow_heap _ _ _ _ _ _ br2) Tryd.underlying25 rfl (by kernel_rfl)) rfl ?_
        exact (HP.out _ _).2 ⟨by rw [HX2.out]; rfl, below_setRow hb2 (Nat.le_refl _) _⟩
      by_cases z2 : dp = 0
      · subst z2
        have y0 : (sp == 0) = false := by simpa using z0
        have HX2 := Lib.hid (HQ0.out (HDy.out.trans (by simp)))
        go_wp2_with (first | ((with_reducible refine look_store ?_); refine wpList_store_row rfl _ _ _ rfl _ _ rfl rfl _ _ br2 (by kernel_rfl) (by simp) (by simp [Value.oneCell']) ?_) | fail)
        refine bodyPost_ret (results_cell_tmp2 Tryd.results142 _ _ _ _ _ _ _ rfl (setRow_heap _ _ _ _ _ _ br2) Tryd.underlying25 rfl (by kernel_rfl)) rfl ?_
        exact (HP.out _ _).2 ⟨by rw [HX2.out]; rfl, below_setRow hb2 (Nat.le_refl _) _⟩
      have y0 : (sp == 0) = false := by simpa using z0
      have y2 : (dp == 0) = false := by simpa using z2
      have HX2 := Lib.hid (HQK.out 2 (HDy.out.trans (by rw [if_neg (by omega)]; rfl)) (by decide) (by decide))
      rw [HKy.out] at HX2
      clear z0 z2
      go_wp2_with (first | ((with_reducible refine look_store ?_); refine wpList_store_row rfl _ _ _ rfl _ _ rfl rfl _ _ br2 (by kernel_rfl) (by simp) (by simp [Value.oneCell']) ?_) | ((with_reducible refine look_load ?_); refine wpList_load_row rfl _ _ rfl _ rfl _ _ _ _ hk2 Tryd.underlying25 rfl (by kernel_rfl) ?_) | fail)
      refine bodyPost_ret (results_cell_tmp2 Tryd.results142 _ _ _ _ _ _ _ rfl (setRow_heap _ _ _ _ _ _ br2) Tryd.underlying25 rfl (by kernel_rfl)) rfl ?_
      exact (HP.out _ _).2 ⟨by rw [HX2.out]; rfl, below_setRow hb2 (Nat.le_refl _) _⟩
  have e6 : (X9 == 6) = false := by simp; omega
  have e17 : (X9 == 17) = false := by simp; omega
  by_cases h1 : X9 = 1
  case neg =>
    have e1 : (X9 != 1) = true := by simpa using h1
    have HX2 := Lib.hid (HQ0.out (HD0.out hp h1))
    clear hp h1
    go_wp2_with (first | ((with_reducible refine look_store ?_); refine wpList_store_row rfl _ _ _ rfl _ _ rfl rfl _ _ br (by kernel_rfl) (by simp) (by simp [Value.oneCell']) ?_) | fail)
    refine bodyPost_ret (results_cell_tmp2 Tryd.results142 _ _ _ _ _ _ _ rfl (setRow_heap _ _ _ _ _ _ br) Tryd.underlying25 rfl (by kernel_rfl)) rfl ?_
    exact (HP.out _ _).2 ⟨by rw [HX2.out]; rfl, below_setRow hbW (Nat.le_refl _) _⟩
  subst h1
  have HKy := Lib.hid (HK1.out rfl)
  have HDy := Lib.hid (HD1.out rfl)
  have cs0 := HC.out SZ (by have := HN.out; omega)
  have cs1 := HC.out (SZ + 1) (by have := HN.out; omega)
  have HKd := Lib.hid (fun (W : World) => rKindI_any (xs.getD SZ 0) (xs.getD (SZ + 1) 0) W (HB.out.at_ SZ).1 (HB.out.at_ (SZ + 1)).1)
  have HKr := Lib.hid (kind_rel (xs.getD SZ 0).toNat (xs.getD (SZ + 1) 0).toNat)
  have is0 : (SZ : Int) < n := by omega
  have is1 : (SZ : Int) + 1 < n := by omega
  have S4 : Hid (∀ W, Below w.heap.size w W → Calls Tryd.prog 169 #[.slice (some ⟨b, off, none⟩) n cap, .int .i64 ((SZ : Int) + 4)] W fun e w' => e = .returned (.int .i64 (w16At xs (SZ + 4))) ∧ Below W.heap.size W w') := Lib.hid fun W h => by
    have h2 := HAt.out (SZ + 4) (by omega) W h
    rwa [show (((SZ + 4 : Nat)) : Int) = ((SZ : Int) + 4) by omega] at h2
  obtain ⟨i4, j4⟩ := w16At_bd HB.out (SZ + 4)
  clear HKP HDP HK1 HD1 HD0 HAt hp
  generalize w16At xs (SZ + 4) = sp at *
  have ms : sp % 65536 = sp := by omega
  generalize xs.getD SZ 0 = r0 at *
  generalize xs.getD (SZ + 1) 0 = r1 at *
  generalize kind1 r0.toNat r1.toNat = KK at *
  generalize kind2 r0.toNat r1.toNat = KE at *
  go_wp2_with fail
  have hSt := ((St.nil hbW hbW.size).cons br).cons hk
  clear hbW br hk q0
  refine wp_region_walk0 (by kernel_rfl) (fun _ W => St w w.heap.size _ W) [] Grow [0, 1, 2, 3, 4, 5, 6, 7, 8, 9, 10, 11, 12, 13, 14] (by kernel_rfl) hSt.drew ?_
  iterate 15
    apply Walk.one rfl rfl rfl
    case hrun =>
      intro c W hE hF
      have d0 := (hE.1.cell (p := ⟨b, off + SZ, none⟩) hbl).trans cs0
      have d1 := (hE.1.cell (p := ⟨b, off + (SZ + 1), none⟩) hbl).trans cs1
      go_wp2_with (first | (go_at_call 75; refine (HKd.out _).mono ?_; rintro e wk3 ⟨rfl, rfl⟩) | fail)
      exact TextPost.mk ⟨Grow.refl _, hE⟩
    case hv => rfl
  refine Walk.done (fun W hE hF => ?_)
  have hk := hE.get 0 rfl
  have br := hE.get 1 rfl
  have hbW := hE.1
  clear hE hF hSt
  by_cases ke : KE = 0
  case neg =>
    have eb : (KE != 0) = true := by simpa using ke
    have HX2 := Lib.hid (HQ0.out (HDy.out.trans (HKr.out.1 ke)))
    clear ke
    go_wp2_with (first | ((with_reducible refine look_store ?_); refine wpList_store_row rfl _ _ _ rfl _ _ rfl rfl _ _ br (by kernel_rfl) (by simp) (by simp [Value.oneCell']) ?_) | fail)
    refine bodyPost_ret (results_cell_tmp2 Tryd.results142 _ _ _ _ _ _ _ rfl (setRow_heap _ _ _ _ _ _ br) Tryd.underlying25 rfl (by kernel_rfl)) rfl ?_
    exact (HP.out _ _).2 ⟨by rw [HX2.out]; rfl, below_setRow hbW (Nat.le_refl _) _⟩
  subst ke
  have hk0 := HKr.out.2 rfl
  by_cases k5 : KK = 5
  · subst k5
    have HX2 := Lib.hid (HQ5.out HDy.out)
    go_wp2_with (first | ((with_reducible refine look_store ?_); refine wpList_store_row rfl _ _ _ rfl _ _ rfl rfl _ _ br (by kernel_rfl) (by simp) (by simp [Value.oneCell']) ?_) | fail)
    refine bodyPost_ret (results_cell_tmp2 Tryd.results142 _ _ _ _ _ _ _ rfl (setRow_heap _ _ _ _ _ _ br) Tryd.underlying25 rfl (by kernel_rfl)) rfl ?_
    exact (HP.out _ _).2 ⟨by rw [HX2.out]; rfl, below_setRow hbW (Nat.le_refl _) _⟩
  have e5 : (KK == 5) = false := by simpa using k5
  have HX2 := Lib.hid (HQK.out KK HDy.out hk0 k5)
  rw [HKy.out] at HX2
  clear hk0 k5
  go_upto_region 25 with (first | ((with_reducible refine (S4.out _ hbW).mono ?_); rintro e wk2 ⟨rfl, lk⟩; have hk := hk.below lk hk.lt; have br := br.below lk br.lt; have hbW := hbW.trans (lk.mono hbW.size); have q3 := hk.cell 3; have f3 := hk.frozen 3; have q4 := hk.cell 4; have f4 := hk.frozen 4) | fail)
  have hk2 : Blk ((wk2.setCell ⟨gk, 3, none⟩ (.int .u16 sp)).setCell ⟨gk, 4, none⟩ (.int .u16 sp)) gk 25 #[.int .u8 1, .int .u32 l12, .int .u32 l16, .int .u16 sp, .int .u16 sp] := (hk.set 3 _).set 4 _
  have br2 := (br.far (p := ⟨gk, 3, none⟩) hgr (.int .u16 sp)).far (p := ⟨gk, 4, none⟩) hgr (.int .u16 sp)
  have hb2 := (hbW.setCell (p := ⟨gk, 3, none⟩) (by show w.heap.size ≤ gk; omega) (.int .u16 sp)).setCell (p := ⟨gk, 4, none⟩) (by show w.heap.size ≤ gk; omega) (.int .u16 sp)
  clear hk br hbW q3 f3 q4 f4
  go_wp2_with (first | ((with_reducible refine look_store ?_); refine wpList_store_row rfl _ _ _ rfl _ _ rfl rfl _ _ br2 (by kernel_rfl) (by simp) (by simp [Value.oneCell']) ?_) | ((with_reducible refine look_load ?_); refine wpList_load_row rfl _ _ rfl _ rfl _ _ _ _ hk2 Tryd.underlying25 rfl (by kernel_rfl) ?_) | fail)
  refine bodyPost_ret (results_cell_tmp2 Tryd.results142 _ _ _ _ _ _ _ rfl (setRow_heap _ _ _ _ _ _ br2) Tryd.underlying25 rfl (by kernel_rfl)) rfl ?_
  exact (HP.out _ _).2 ⟨by rw [HX2.out]; rfl, below_setRow hb2 (Nat.le_refl _) _⟩
end Go.Proofs.YtebeekjcepjcnaaDoor
