/-
  The reference of ip: Right, Read.
-/
import Derived.Test.YtebeekjcepjcnaaDoorProg
import Derived.WalkKit
import Derived.WalkSpells
import Derived.WalkLawsBesides
import Derived.WalkSmall
import Derived.Lib.Hide
import Derived.Deep.AppendLies
import Derived.Maps.AppendAt
import Derived.Laws.AppendOwnNone
import Derived.Laws.CopyOwn
import Derived.OneCell
import Derived.Lib.SliceRun
import Derived.RangeFuncNested
import Derived.RangeFuncBound
import Derived.RangeFuncCalls
import Derived.RangeFuncLeaves
import Derived.Shelf.Abstract
import Derived.OwnWalkIn
import Derived.TacticsInMore
import Derived.LoopNIn
import Derived.LoopIn
import Derived.Orders
import Derived.RegionTactic
import Derived.Still
import Derived.Deep.MidRow
import Derived.Deep.DeepCutAuto
import Derived.Lib.AppendZeros
import Derived.BigRegion
import Derived.ChangeAlike
import Derived.Deep.RegionLaw
import Derived.Deep.RegionHeld3
import Derived.MapKept
import Derived.RegionIn
import Derived.Laws.StructEq
import Derived.Test.YtebeekjcepjcnaaDoorSBase
import Derived.Test.YtebeekjcepjcnaaDoorSMem
import Derived.Test.YtebeekjcepjcnaaDoorSCsum
import Derived.Test.YtebeekjcepjcnaaDoorSSum
import Derived.Test.YtebeekjcepjcnaaDoorSRegion
import Derived.Test.YtebeekjcepjcnaaDoorSWalk
import Derived.Test.YtebeekjcepjcnaaDoorSStep
import Derived.Test.YtebeekjcepjcnaaDoorSStepb
import Derived.Test.YtebeekjcepjcnaaDoorSRefa
import Derived.Test.YtebeekjcepjcnaaDoorSConcat
import Derived.Test.YtebeekjcepjcnaaDoorSPkt
import Derived.Test.YtebeekjcepjcnaaDoorSRopts
import Derived.Test.YtebeekjcepjcnaaDoorSRnum
import Derived.Test.YtebeekjcepjcnaaDoorSTcpw
import Derived.Test.YtebeekjcepjcnaaDoorSIcmpr
import Derived.Test.YtebeekjcepjcnaaDoorSIprd
import Derived.Test.YtebeekjcepjcnaaDoorSIpre
import Derived.Test.YtebeekjcepjcnaaDoorSTcprd
import Derived.Test.YtebeekjcepjcnaaDoorSUdprd
import Derived.Test.YtebeekjcepjcnaaDoorSEq
import Derived.Test.YtebeekjcepjcnaaDoorSQuota
import Derived.Test.YtebeekjcepjcnaaDoorSQuotc
import Derived.Test.YtebeekjcepjcnaaDoorSIpread
import Derived.Test.YtebeekjcepjcnaaDoorSOptsa
import Derived.Test.YtebeekjcepjcnaaDoorSOptsb
import Derived.Test.YtebeekjcepjcnaaDoorSRange
import Derived.Test.YtebeekjcepjcnaaDoorSOptsc
import Derived.Test.YtebeekjcepjcnaaDoorSOptsd
import Derived.Test.YtebeekjcepjcnaaDoorSPkta
import Derived.Test.YtebeekjcepjcnaaDoorSRat
import Derived.Test.YtebeekjcepjcnaaDoorSRefc
import Derived.Test.YtebeekjcepjcnaaDoorSRquo
namespace Go.Proofs.YtebeekjcepjcnaaDoor
open Go.RowKit
set_option maxRecDepth 100000 in
set_option maxHeartbeats 2000000 in
theorem rIpRightG_any (tos id ttl proto src dst off : Int) (df mf : Bool) (O : Option Addr) (on oc n : Nat) (w : World) (o0 : 0 ≤ off) (o1 : off ≤ 65528) (o8 : off % 8 = 0) (on40 : on ≤ 40) (on4 : on % 4 = 0) (hn : n + on ≤ 65515) :
    Calls Tryd.prog 128 #[.agg #[.int .u8 tos, .int .u16 id, .bool df, .bool mf, .int .i64 off, .int .u8 ttl, .int .u8 proto, .int .u32 src, .int .u32 dst, .slice O on oc], .int .i64 n] w fun e w' => e = .returned (.bool (decide (off + n ≤ 65515) && (!mf || (decide (0 < n) && n % 8 == 0)))) ∧ Below w.heap.size w w' := by
  have b1 : decide (off < 0) = false := by simp; omega
  have b2 : decide (65528 < off) = false := by simp; omega
  have b3 : (off % 8 != 0) = false := by simp; omega
  have b4 : decide (40 < (on : Int)) = false := by simp; omega
  have b5 : ((on : Int) % 4 != 0) = false := by simp; omega
  have b6 : decide ((n : Int) < 0) = false := by simp
  have b7 : decide (65515 - (on : Int) < n) = false := by simp; omega
  have hA := (Below.refl w.heap.size w).alloc (Nat.le_refl _) (.cells #[.int .u8 tos, .int .u16 id, .bool df, .bool mf, .int .i64 off, .int .u8 ttl, .int .u8 proto, .int .u32 src, .int .u32 dst, .slice O on oc] 143)
  by_cases q : off + n ≤ 65515
  case neg =>
    have b8 : decide (65515 - off < (n : Int)) = true := by simp; omega
    have HX := Lib.hid (show (decide (off + n ≤ 65515) && (!mf || (decide (0 < n) && n % 8 == 0))) = false by rw [decide_eq_false q]; rfl)
    rw [HX.out]
    clear q HX
    go_enter Tryd.func128, Tryd.ntmps128
    go_wp2_with fail
    go_ret
    exact ⟨rfl, hA⟩
  have b8 : decide (65515 - off < (n : Int)) = false := by simp; omega
  rw [decide_eq_true q, Bool.true_and]
  clear q
  cases mf
  case false =>
    go_enter Tryd.func128, Tryd.ntmps128
    go_wp2_with fail
    go_ret
    exact ⟨rfl, hA⟩
  by_cases q0 : 0 < n
  case neg =>
    rw [decide_eq_false q0]
    go_enter Tryd.func128, Tryd.ntmps128
    go_wp2_with fail
    go_ret
    exact ⟨rfl, hA⟩
  have HM := Lib.hid (show (n % 8 == 0) = ((n : Int) % 8 == 0) by rw [Bool.eq_iff_iff]; simp; omega)
  rw [decide_eq_true q0, HM.out]
  clear HM
  go_enter Tryd.func128, Tryd.ntmps128
  go_wp2_with fail
  go_ret
  exact ⟨by simp, hA⟩

def hst (a0 a1 a2 a3 a4 a5 a6 a7 a8 : Value) : Nat → Array Value
  | 0 => #[.int .u8 0, .int .u16 0, .bool false, .bool false, .int .i64 0, .int .u8 0, .int .u8 0, .int .u32 0, .int .u32 0, .slice none 0 0]
  | 1 => #[a0, .int .u16 0, .bool false, .bool false, .int .i64 0, .int .u8 0, .int .u8 0, .int .u32 0, .int .u32 0, .slice none 0 0]
  | 2 => #[a0, a1, .bool false, .bool false, .int .i64 0, .int .u8 0, .int .u8 0, .int .u32 0, .int .u32 0, .slice none 0 0]
  | 3 => #[a0, a1, a2, .bool false, .int .i64 0, .int .u8 0, .int .u8 0, .int .u32 0, .int .u32 0, .slice none 0 0]
  | 4 => #[a0, a1, a2, a3, .int .i64 0, .int .u8 0, .int .u8 0, .int .u32 0, .int .u32 0, .slice none 0 0]
  | 5 => #[a0, a1, a2, a3, a4, .int .u8 0, .int .u8 0, .int .u32 0, .int .u32 0, .slice none 0 0]
  | 6 => #[a0, a1, a2, a3, a4, a5, .int .u8 0, .int .u32 0, .int .u32 0, .slice none 0 0]
  | 7 => #[a0, a1, a2, a3, a4, a5, a6, .int .u32 0, .int .u32 0, .slice none 0 0]
  | 8 => #[a0, a1, a2, a3, a4, a5, a6, a7, .int .u32 0, .slice none 0 0]
  | _ => #[a0, a1, a2, a3, a4, a5, a6, a7, a8, .slice none 0 0]
theorem ip_first {xs : List Int} {k : Nat} (hk : k < 7) (hb : ∀ j, j < k → ipT xs j = false) (h : ipT xs k = true) : ipN xs = k := firstB_eq hk hb h
def IpPost (w : World) (xs : List Int) (e : Ending) (W : World) : Prop := ∃ v, e = .returned (ipOut xs v) ∧ (ipN xs = 7 → Own W w.heap.size v (ipHdr xs).opts) ∧ Below w.heap.size w W
theorem IpPost.bad {w W : World} {xs : List Int} {k : Nat} {E : Int} (hk : k < 7) (h : ipN xs = k) (hE : E = 50 + k) (hb : Below w.heap.size w W) : IpPost w xs (.returned (.tuple #[.agg #[.int .u8 0, .int .u16 0, .bool false, .bool false, .int .i64 0, .int .u8 0, .int .u8 0, .int .u32 0, .int .u32 0, .slice none 0 0], .int .i64 0, .int .i64 0, .int .i64 E])) W := by
  subst hE
  refine ⟨.int .i64 0, ?_, fun h7 => by omega, hb⟩
  unfold ipOut ipE
  rw [h, if_neg (by omega), if_neg (by omega), if_neg (by omega), if_pos hk]
theorem below_ipT {xs : List Int} {k : Nat} (h : ∀ j, j < k → ipT xs j = false) (hk : ipT xs k = false) : ∀ j, j < k + 1 → ipT xs j = false := fun j hj => by
  rcases Nat.lt_or_ge j k with h1 | h1
  · exact h j h1
  · rw [show j = k by omega]; exact hk
set_option maxRecDepth 100000 in
set_option maxHeartbeats 16000000 in
theorem r05Read_any (A : Option Addr) (cap n : Nat) (xs : List Int) (w : World) (hn : xs.length = n) (hl : n ≤ 1000000) (hcap : n ≤ cap) (hB : Byt xs) (hr : Rd w w.heap.size A .u8 xs) :
    Calls Tryd.prog 91 #[.slice A n cap] w (IpPost w xs) := by
  have T0 : ∀ j, j < 0 → ipT xs j = false := fun j hj => by omega
  by_cases h20 : n < 20
  · have g1 : (n : Int) < 20 := by omega
    have HX := Lib.hid (ip_first (by omega) T0 (show ipT xs 0 = true from decide_eq_true (by omega)))
    go_enter Tryd.func91, Tryd.ntmps91
    go_upto_region 2 with (first | ((with_reducible refine look_store ?_); refine wpList_store_new rfl _ _ _ rfl _ _ rfl rfl _ _ rfl (by kernel_rfl) (by simp) (by simp [Value.oneCell']) ?_) | fail)
    refine wp_name2 ?_
    intro w1 hb1 hs1 br bh
    go_wp2_with (first | ((with_reducible refine look_load ?_); refine wpList_load_row rfl _ _ rfl _ rfl _ _ _ _ bh Tryd.underlying143 rfl (by kernel_rfl) ?_) | ((with_reducible refine look_store ?_); refine wpList_store_row rfl _ _ _ rfl _ _ rfl rfl _ _ br (by kernel_rfl) (by simp) (by simp [Value.oneCell']) ?_) | fail)
    refine bodyPost_ret (results_cell_tmp3 Tryd.results91 _ _ _ _ _ _ _ rfl (setRow_heap _ _ _ _ _ _ br) Tryd.underlying143 rfl (by kernel_rfl)) rfl ?_
    exact IpPost.bad (by decide) HX.out (by decide) (below_setRow hb1 (Nat.le_refl _) _)
  have T1 := below_ipT T0 (show ipT xs 0 = false from decide_eq_false (by omega))
  obtain ⟨b, off, rfl, hbl, hc⟩ := hr.at0 (by omega)
  have g1 : ¬ (n : Int) < 20 := by omega
  have hszb := ipSize_bd xs
  have h0 := hB.at_ 0
  have c0 := hc 0 (by omega)
  rw [Nat.add_zero] at c0
  have c1 := hc 1 (by omega)
  have c8 := hc 8 (by omega)
  have c9 := hc 9 (by omega)
  have hsz2 : xs.getD 0 0 % 16 * 4 = (ipSize xs : Int) := by unfold ipSize; omega
  obtain ⟨u2, t2⟩ := w16At_bd hB 2
  have hto : (ipTotal xs : Int) = w16At xs 2 := by unfold ipTotal; omega
  have HT1 := Lib.hid (show ipT xs 1 = (xs.getD 0 0 / 16 != 4) from rfl)
  have HT2 := Lib.hid (show ipT xs 2 = (decide (ipSize xs < 20) || decide (n < ipSize xs)) by show (_ || decide (xs.length < _)) = _; rw [hn])
  have HT3 := Lib.hid (show ipT xs 3 = (decide (ipTotal xs < ipSize xs) || decide (n < ipTotal xs)) by show (_ || decide (xs.length < _)) = _; rw [hn])
  have HT4 := Lib.hid (show ipT xs 4 = (sumB (xs.take (ipSize xs)) != 65535) by show (!_) = _; rw [ofB_sum, Bool.not_not])
  have HT5 := Lib.hid (show ipT xs 5 = decide (32768 ≤ w16At xs 6) from rfl)
  have HT6 := Lib.hid (show ipT xs 6 = !(decide (8 * (w16At xs 6 % 8192) + (ipTotal xs - ipSize xs : Nat) ≤ 65515) && (!(w16At xs 6 / 8192 % 2 == 1) || (decide (0 < ipTotal xs - ipSize xs) && (ipTotal xs - ipSize xs) % 8 == 0))) from rfl)
  have HSum := Lib.hid (fun (W : World) (h : Below w.heap.size w W) (hz : ipSize xs ≤ n) c => show Calls Tryd.prog 135 #[.slice (some ⟨b, off, none⟩) (ipSize xs) c] W fun e w' => e = .returned (.int .i64 (sumB (xs.take (ipSize xs)))) ∧ W = w' from by
    have h2 := rSum_any (some ⟨b, off, none⟩) c (xs.take (ipSize xs)) W (hB.take _) (by rw [List.length_take]; omega) ((hr.belows h (Nat.le_refl _)).take _)
    rwa [show (xs.take (ipSize xs)).length = ipSize xs by rw [List.length_take]; omega] at h2)
  have N2 : Hid (∀ W, Below w.heap.size w W → Calls Tryd.prog 134 #[.slice (some ⟨b, off + 2, none⟩) 2 (cap - 2)] W fun e w' => e = .returned (.int .i64 (w16At xs 2)) ∧ W = w') := Lib.hid fun W h => rNum2_any b off n 2 xs W _ hn (by omega) hB (hr.belows h (Nat.le_refl _))
  have k2 : ¬ cap = 2 := by omega
  have N6 : Hid (∀ W, Below w.heap.size w W → Calls Tryd.prog 134 #[.slice (some ⟨b, off + 6, none⟩) 2 (cap - 6)] W fun e w' => e = .returned (.int .i64 (w16At xs 6)) ∧ W = w') := Lib.hid fun W h => rNum2_any b off n 6 xs W _ hn (by omega) hB (hr.belows h (Nat.le_refl _))
  obtain ⟨u6, t6⟩ := w16At_bd hB 6
  have k6 : ¬ cap = 6 := by omega
  have N4 : Hid (∀ W, Below w.heap.size w W → Calls Tryd.prog 134 #[.slice (some ⟨b, off + 4, none⟩) 2 (cap - 4)] W fun e w' => e = .returned (.int .i64 (w16At xs 4)) ∧ W = w') := Lib.hid fun W h => rNum2_any b off n 4 xs W _ hn (by omega) hB (hr.belows h (Nat.le_refl _))
  obtain ⟨u4, t4⟩ := w16At_bd hB 4
  have k4 : ¬ cap = 4 := by omega
  have N12 : Hid (∀ W, Below w.heap.size w W → Calls Tryd.prog 134 #[.slice (some ⟨b, off + 12, none⟩) 4 (cap - 12)] W fun e w' => e = .returned (.int .i64 (l32At xs 12)) ∧ W = w') := Lib.hid fun W h => rNum4_any b off n 12 xs W _ hn (by omega) hB (hr.belows h (Nat.le_refl _))
  obtain ⟨u12, t12⟩ := l32At_bd hB 12
  have k12 : ¬ cap = 12 := by omega
  have N16 : Hid (∀ W, Below w.heap.size w W → Calls Tryd.prog 134 #[.slice (some ⟨b, off + 16, none⟩) 4 (cap - 16)] W fun e w' => e = .returned (.int .i64 (l32At xs 16)) ∧ W = w') := Lib.hid fun W h => rNum4_any b off n 16 xs W _ hn (by omega) hB (hr.belows h (Nat.le_refl _))
  obtain ⟨u16, t16⟩ := l32At_bd hB 16
  have k16 : ¬ cap = 16 := by omega
  have HHd := Lib.hid (show ∀ v, ipN xs = 7 → ipOut xs v = .tuple #[.agg #[.int .u8 (xs.getD 1 0), .int .u16 (w16At xs 4), .bool (w16At xs 6 / 16384 % 2 == 1), .bool (w16At xs 6 / 8192 % 2 == 1), .int .i64 (8 * (w16At xs 6 % 8192)), .int .u8 (xs.getD 8 0), .int .u8 (xs.getD 9 0), .int .u32 (l32At xs 12), .int .u32 (l32At xs 16), v], .int .i64 (ipSize xs), .int .i64 (ipTotal xs), .int .i64 0] from fun v h7 => by
    unfold ipOut ipE
    rw [if_pos h7, if_pos h7, if_pos h7, if_neg (by omega)]; rfl)
  have HOp := Lib.hid (show (ipHdr xs).opts = (xs.take (ipSize xs)).drop 20 from rfl)
  have HN7 := Lib.hid (fun (h : ∀ j, j < 7 → ipT xs j = false) => (firstB_all h : ipN xs = 7))
  have HFi := Lib.hid (fun k (hk : k < 7) hb h => ip_first (xs := xs) (k := k) hk hb h)
  have HR := Lib.hid hr
  have HN := Lib.hid hn
  have icap : (n : Int) ≤ cap := by omega
  have n20 : (20 : Int) ≤ n := by omega
  have n1 : (1 : Int) < n := by omega
  have n8 : (8 : Int) < n := by omega
  have n9 : (9 : Int) < n := by omega
  generalize hS9 : ipSize xs = SZ at *
  generalize hT9 : ipTotal xs = TOT at *
  clear hS9 hT9 hr hB hn hc
  rw [← hto] at u2 t2 N2
  clear hto
  generalize w16At xs 4 = p4 at *
  generalize w16At xs 6 = p6 at *
  generalize l32At xs 12 = l12 at *
  generalize l32At xs 16 = l16 at *
  generalize sumB (xs.take SZ) = SS at *
  generalize xs.getD 0 0 = x at *
  generalize xs.getD 1 0 = b1 at *
  generalize xs.getD 8 0 = b8 at *
  generalize xs.getD 9 0 = b9 at *
  have m4 : p4 % 65536 = p4 := by omega
  have m12 : l12 % 4294967296 = l12 := by omega
  have m16 : l16 % 4294967296 = l16 := by omega
  go_enter Tryd.func91, Tryd.ntmps91
  go_upto_region 2 with (first | ((with_reducible refine look_store ?_); refine wpList_store_new rfl _ _ _ rfl _ _ rfl rfl _ _ rfl (by kernel_rfl) (by simp) (by simp [Value.oneCell']) ?_) | fail)
  refine wp_name2 ?_
  intro w1 hb1 hs1 br bh
  have d0 := (hb1.cell (p := ⟨b, off, none⟩) hbl).trans c0
  clear hs1
  have hzn : SZ ≤ n ∨ True := .inr trivial
  by_cases q1 : x / 16 = 4
  case neg =>
    have e1 : (x / 16 != 4) = true := by simpa using q1
    have HX := Lib.hid (HFi.out 1 (by decide) T1 (by rw [HT1.out]; exact e1))
    clear T1
    go_wp2_with (first | ((with_reducible refine (N2.out _ hb1).mono ?_); rintro e wk ⟨rfl, rfl⟩) | ((with_reducible refine (N6.out _ hb1).mono ?_); rintro e wk ⟨rfl, rfl⟩) | ((with_reducible refine (HSum.out _ hb1 hzn _).mono ?_); rintro e wk ⟨rfl, rfl⟩) | ((with_reducible refine look_load ?_); refine wpList_load_row rfl _ _ rfl _ rfl _ _ _ _ bh Tryd.underlying143 rfl (by kernel_rfl) ?_) | ((with_reducible refine look_store ?_); refine wpList_store_row rfl _ _ _ rfl _ _ rfl rfl _ _ br (by kernel_rfl) (by simp) (by simp [Value.oneCell']) ?_) | fail)
    refine bodyPost_ret (results_cell_tmp3 Tryd.results91 _ _ _ _ _ _ _ rfl (setRow_heap _ _ _ _ _ _ br) Tryd.underlying143 rfl (by kernel_rfl)) rfl ?_
    exact IpPost.bad (by decide) HX.out (by decide) (below_setRow hb1 (Nat.le_refl _) _)
  have e1 : (x / 16 != 4) = false := by simpa using q1
  have T2 := below_ipT T1 (by rw [HT1.out]; exact e1)
  by_cases q2 : SZ < 20
  · have e2 : decide ((SZ : Int) < 20) = true := by simp; omega
    have HX := Lib.hid (HFi.out 2 (by decide) T2 (by rw [HT2.out, decide_eq_true q2]; rfl))
    clear T2
    go_wp2_with (first | ((with_reducible refine (N2.out _ hb1).mono ?_); rintro e wk ⟨rfl, rfl⟩) | ((with_reducible refine (N6.out _ hb1).mono ?_); rintro e wk ⟨rfl, rfl⟩) | ((with_reducible refine (HSum.out _ hb1 hzn _).mono ?_); rintro e wk ⟨rfl, rfl⟩) | ((with_reducible refine look_load ?_); refine wpList_load_row rfl _ _ rfl _ rfl _ _ _ _ bh Tryd.underlying143 rfl (by kernel_rfl) ?_) | ((with_reducible refine look_store ?_); refine wpList_store_row rfl _ _ _ rfl _ _ rfl rfl _ _ br (by kernel_rfl) (by simp) (by simp [Value.oneCell']) ?_) | fail)
    refine bodyPost_ret (results_cell_tmp3 Tryd.results91 _ _ _ _ _ _ _ rfl (setRow_heap _ _ _ _ _ _ br) Tryd.underlying143 rfl (by kernel_rfl)) rfl ?_
    exact IpPost.bad (by decide) HX.out (by decide) (below_setRow hb1 (Nat.le_refl _) _)
  have e2 : decide ((SZ : Int) < 20) = false := by simp; omega
  by_cases q3 : n < SZ
  · have e3 : decide ((n : Int) < SZ) = true := by simp; omega
    have HX := Lib.hid (HFi.out 2 (by decide) T2 (by rw [HT2.out, decide_eq_true q3, Bool.or_true]))
    clear T2
    go_wp2_with (first | ((with_reducible refine (N2.out _ hb1).mono ?_); rintro e wk ⟨rfl, rfl⟩) | ((with_reducible refine (N6.out _ hb1).mono ?_); rintro e wk ⟨rfl, rfl⟩) | ((with_reducible refine (HSum.out _ hb1 hzn _).mono ?_); rintro e wk ⟨rfl, rfl⟩) | ((with_reducible refine look_load ?_); refine wpList_load_row rfl _ _ rfl _ rfl _ _ _ _ bh Tryd.underlying143 rfl (by kernel_rfl) ?_) | ((with_reducible refine look_store ?_); refine wpList_store_row rfl _ _ _ rfl _ _ rfl rfl _ _ br (by kernel_rfl) (by simp) (by simp [Value.oneCell']) ?_) | fail)
    refine bodyPost_ret (results_cell_tmp3 Tryd.results91 _ _ _ _ _ _ _ rfl (setRow_heap _ _ _ _ _ _ br) Tryd.underlying143 rfl (by kernel_rfl)) rfl ?_
    exact IpPost.bad (by decide) HX.out (by decide) (below_setRow hb1 (Nat.le_refl _) _)
  have e3 : decide ((n : Int) < SZ) = false := by simp; omega
  have T3 := below_ipT T2 (by rw [HT2.out, decide_eq_false q2, decide_eq_false q3, Bool.or_false])
  by_cases q4 : TOT < SZ
  · have e4 : decide ((TOT : Int) < SZ) = true := by simp; omega
    have HX := Lib.hid (HFi.out 3 (by decide) T3 (by rw [HT3.out, decide_eq_true q4]; rfl))
    clear T3
    go_wp2_with (first | ((with_reducible refine (N2.out _ hb1).mono ?_); rintro e wk ⟨rfl, rfl⟩) | ((with_reducible refine (N6.out _ hb1).mono ?_); rintro e wk ⟨rfl, rfl⟩) | ((with_reducible refine (HSum.out _ hb1 hzn _).mono ?_); rintro e wk ⟨rfl, rfl⟩) | ((with_reducible refine look_load ?_); refine wpList_load_row rfl _ _ rfl _ rfl _ _ _ _ bh Tryd.underlying143 rfl (by kernel_rfl) ?_) | ((with_reducible refine look_store ?_); refine wpList_store_row rfl _ _ _ rfl _ _ rfl rfl _ _ br (by kernel_rfl) (by simp) (by simp [Value.oneCell']) ?_) | fail)
    refine bodyPost_ret (results_cell_tmp3 Tryd.results91 _ _ _ _ _ _ _ rfl (setRow_heap _ _ _ _ _ _ br) Tryd.underlying143 rfl (by kernel_rfl)) rfl ?_
    exact IpPost.bad (by decide) HX.out (by decide) (below_setRow hb1 (Nat.le_refl _) _)
  have e4 : decide ((TOT : Int) < SZ) = false := by simp; omega
  by_cases q5 : n < TOT
  · have e5 : decide ((n : Int) < TOT) = true := by simp; omega
    have HX := Lib.hid (HFi.out 3 (by decide) T3 (by rw [HT3.out, decide_eq_true q5, Bool.or_true]))
    clear T3
    go_wp2_with (first | ((with_reducible refine (N2.out _ hb1).mono ?_); rintro e wk ⟨rfl, rfl⟩) | ((with_reducible refine (N6.out _ hb1).mono ?_); rintro e wk ⟨rfl, rfl⟩) | ((with_reducible refine (HSum.out _ hb1 hzn _).mono ?_); rintro e wk ⟨rfl, rfl⟩) | ((with_reducible refine look_load ?_); refine wpList_load_row rfl _ _ rfl _ rfl _ _ _ _ bh Tryd.underlying143 rfl (by kernel_rfl) ?_) | ((with_reducible refine look_store ?_); refine wpList_store_row rfl _ _ _ rfl _ _ rfl rfl _ _ br (by kernel_rfl) (by simp) (by simp [Value.oneCell']) ?_) | fail)
    refine bodyPost_ret (results_cell_tmp3 Tryd.results91 _ _ _ _ _ _ _ rfl (setRow_heap _ _ _ _ _ _ br) Tryd.underlying143 rfl (by kernel_rfl)) rfl ?_
    exact IpPost.bad (by decide) HX.out (by decide) (below_setRow hb1 (Nat.le_refl _) _)
  have e5 : decide ((n : Int) < TOT) = false := by simp; omega
  have T4 := below_ipT T3 (by rw [HT3.out, decide_eq_false q4, decide_eq_false q5, Bool.or_false])
  clear hzn
  have hzn : SZ ≤ n := by omega
  have izn : (SZ : Int) ≤ cap := by omega
  by_cases q6 : SS = 65535
  case neg =>
    have e6 : (SS != 65535) = true := by simpa using q6
    have HX := Lib.hid (HFi.out 4 (by decide) T4 (by rw [HT4.out]; exact e6))
    clear T4
    go_wp2_with (first | ((with_reducible refine (N2.out _ hb1).mono ?_); rintro e wk ⟨rfl, rfl⟩) | ((with_reducible refine (N6.out _ hb1).mono ?_); rintro e wk ⟨rfl, rfl⟩) | ((with_reducible refine (HSum.out _ hb1 hzn _).mono ?_); rintro e wk ⟨rfl, rfl⟩) | ((with_reducible refine look_load ?_); refine wpList_load_row rfl _ _ rfl _ rfl _ _ _ _ bh Tryd.underlying143 rfl (by kernel_rfl) ?_) | ((with_reducible refine look_store ?_); refine wpList_store_row rfl _ _ _ rfl _ _ rfl rfl _ _ br (by kernel_rfl) (by simp) (by simp [Value.oneCell']) ?_) | fail)
    refine bodyPost_ret (results_cell_tmp3 Tryd.results91 _ _ _ _ _ _ _ rfl (setRow_heap _ _ _ _ _ _ br) Tryd.underlying143 rfl (by kernel_rfl)) rfl ?_
    exact IpPost.bad (by decide) HX.out (by decide) (below_setRow hb1 (Nat.le_refl _) _)
  have e6 : (SS != 65535) = false := by simpa using q6
  have T5 := below_ipT T4 (by rw [HT4.out]; exact e6)
  by_cases q7 : 32768 ≤ p6
  · have e7 : (p6 / 32768 == 1) = true := by simp; omega
    have HX := Lib.hid (HFi.out 5 (by decide) T5 (by rw [HT5.out]; exact decide_eq_true q7))
    clear T5
    go_wp2_with (first | ((with_reducible refine (N2.out _ hb1).mono ?_); rintro e wk ⟨rfl, rfl⟩) | ((with_reducible refine (N6.out _ hb1).mono ?_); rintro e wk ⟨rfl, rfl⟩) | ((with_reducible refine (HSum.out _ hb1 hzn _).mono ?_); rintro e wk ⟨rfl, rfl⟩) | ((with_reducible refine look_load ?_); refine wpList_load_row rfl _ _ rfl _ rfl _ _ _ _ bh Tryd.underlying143 rfl (by kernel_rfl) ?_) | ((with_reducible refine look_store ?_); refine wpList_store_row rfl _ _ _ rfl _ _ rfl rfl _ _ br (by kernel_rfl) (by simp) (by simp [Value.oneCell']) ?_) | fail)
    refine bodyPost_ret (results_cell_tmp3 Tryd.results91 _ _ _ _ _ _ _ rfl (setRow_heap _ _ _ _ _ _ br) Tryd.underlying143 rfl (by kernel_rfl)) rfl ?_
    exact IpPost.bad (by decide) HX.out (by decide) (below_setRow hb1 (Nat.le_refl _) _)
  have e7 : (p6 / 32768 == 1) = false := by simp; omega
  have T6 := below_ipT T5 (by rw [HT5.out]; exact decide_eq_false q7)
  have HT6' := Lib.hid T6
  clear T0 T1 T2 T3 T4 T5 T6 q1 q6
  go_wp2_with (first | ((with_reducible refine (N2.out _ hb1).mono ?_); rintro e wk ⟨rfl, rfl⟩) | ((with_reducible refine (N6.out _ hb1).mono ?_); rintro e wk ⟨rfl, rfl⟩) | ((with_reducible refine (HSum.out _ hb1 hzn _).mono ?_); rintro e wk ⟨rfl, rfl⟩) | ((with_reducible refine look_load ?_); refine wpList_load_row rfl _ _ rfl _ rfl _ _ _ _ bh Tryd.underlying143 rfl (by kernel_rfl) ?_) | ((with_reducible refine look_store ?_); refine wpList_store_row rfl _ _ _ rfl _ _ rfl rfl _ _ br (by kernel_rfl) (by simp) (by simp [Value.oneCell']) ?_) | fail)
  have hSt := (St.nil hb1 hb1.size).cons br
  have hlw : w.heap.size + 1 < w1.heap.size := bh.lt
  generalize hB2 : (p6 / 16384 % 2 == 1) = B2 at *
  generalize hB3 : (p6 / 8192 % 2 == 1) = B3 at *
  have ho4 : p6 % 8192 * 8 = 8 * (p6 % 8192) := by omega
  generalize hO4 : 8 * (p6 % 8192) = O4 at *
  have hS : StN w w.heap.size [(w.heap.size, 143, #[.int .u8 0, .int .u16 0, .bool false, .bool false, .int .i64 0, .int .u8 0, .int .u8 0, .int .u32 0, .int .u32 0, .slice none 0 0])] (w.heap.size + 1) 143 (hst (.int .u8 b1) (.int .u16 p4) (.bool B2) (.bool B3) (.int .i64 O4) (.int .u8 b8) (.int .u8 b9) (.int .u32 l12) (.int .u32 l16)) 0 w1 := ⟨hSt, by omega, by simp, bh⟩
  clear hSt br bh d0
  refine wp_region_walk0 (by kernel_rfl) (StN w w.heap.size _ (w.heap.size + 1) 143 (hst (.int .u8 b1) (.int .u16 p4) (.bool B2) (.bool B3) (.int .i64 O4) (.int .u8 b8) (.int .u8 b9) (.int .u32 l12) (.int .u32 l16))) [19, 21, 23, 25, 27] GTop [0, 1, 2, 3, 4, 5, 6, 7, 8, 9, 10, 11, 12, 13, 14, 15, 16, 17, 18, 19, 20, 21, 22, 23, 24, 25, 26, 27] (by kernel_rfl) hS.drew ?_
  iterate 19
    apply Walk.one rfl rfl rfl
    case hrun =>
      intro c W hE hF
      have hbx := hE.1.1
      have d1 := (hbx.cell (p := ⟨b, off + 1, none⟩) hbl).trans c1
      go_wp2_with (first | ((with_reducible refine (N4.out _ hbx).mono ?_); rintro e wk ⟨rfl, rfl⟩) | fail)
      exact TextPost.mk ⟨GTop.mk, hE⟩
    case hv => rfl
  apply Walk.keep 0 rfl rfl rfl rfl
  case hrun =>
    intro W hE hF
    have hcx : W.cell? ⟨w.heap.size + 1, 0, none⟩ = some (.int .u8 0) := hE.2.2.2.cell 0
    have hfx := hE.2.2.2.frozen 0
    go_wp2_with fail
    exact TextPost.mk ⟨GTop.mk, hE.set 0 _ rfl⟩
  case hv => rfl
  apply Walk.one rfl rfl rfl
  case hrun =>
    intro c W hE hF
    have hbx := hE.1.1
    go_wp2_with (first | ((with_reducible refine (N4.out _ hbx).mono ?_); rintro e wk ⟨rfl, rfl⟩) | fail)
    exact TextPost.mk ⟨GTop.mk, hE⟩
  case hv => rfl
  apply Walk.keep 1 rfl rfl rfl rfl
  case hrun =>
    intro W hE hF
    have hcx : W.cell? ⟨w.heap.size + 1, 1, none⟩ = some (.int .u16 0) := hE.2.2.2.cell 1
    have hfx := hE.2.2.2.frozen 1
    go_wp2_with fail
    exact TextPost.mk ⟨GTop.mk, hE.set 1 _ rfl⟩
  case hv => rfl
  apply Walk.one rfl rfl rfl
  case hrun =>
    intro c W hE hF
    have hbx := hE.1.1
    go_wp2_with (first | ((with_reducible refine (N4.out _ hbx).mono ?_); rintro e wk ⟨rfl, rfl⟩) | fail)
    exact TextPost.mk ⟨GTop.mk, hE⟩
  case hv => rfl
  apply Walk.keep 2 rfl rfl rfl rfl
  case hrun =>
    intro W hE hF
    have hcx : W.cell? ⟨w.heap.size + 1, 2, none⟩ = some (.bool false) := hE.2.2.2.cell 2
    have hfx := hE.2.2.2.frozen 2
    go_wp2_with fail
    exact TextPost.mk ⟨GTop.mk, hE.set 2 _ rfl⟩
  case hv => rfl
  apply Walk.one rfl rfl rfl
  case hrun =>
    intro c W hE hF
    have hbx := hE.1.1
    go_wp2_with (first | ((with_reducible refine (N4.out _ hbx).mono ?_); rintro e wk ⟨rfl, rfl⟩) | fail)
    exact TextPost.mk ⟨GTop.mk, hE⟩
  case hv => rfl
  apply Walk.keep 3 rfl rfl rfl rfl
  case hrun =>
    intro W hE hF
    have hcx : W.cell? ⟨w.heap.size + 1, 3, none⟩ = some (.bool false) := hE.2.2.2.cell 3
    have hfx := hE.2.2.2.frozen 3
    go_wp2_with fail
    exact TextPost.mk ⟨GTop.mk, hE.set 3 _ rfl⟩
  case hv => rfl
  apply Walk.one rfl rfl rfl
  case hrun =>
    intro c W hE hF
    have hbx := hE.1.1
    go_wp2_with (first | ((with_reducible refine (N4.out _ hbx).mono ?_); rintro e wk ⟨rfl, rfl⟩) | fail)
    exact TextPost.mk ⟨GTop.mk, hE⟩
  case hv => rfl
  apply Walk.keep 4 rfl rfl rfl rfl
  case hrun =>
    intro W hE hF
    have hcx : W.cell? ⟨w.heap.size + 1, 4, none⟩ = some (.int .i64 0) := hE.2.2.2.cell 4
    have hfx := hE.2.2.2.frozen 4
    go_wp2_with fail
    exact TextPost.mk ⟨GTop.mk, hE.set 4 _ rfl⟩
  case hv => rfl
  refine Walk.done (fun W hE hF => ?_)
  have hS4 : StN w w.heap.size [(w.heap.size, 143, #[.int .u8 0, .int .u16 0, .bool false, .bool false, .int .i64 0, .int .u8 0, .int .u8 0, .int .u32 0, .int .u32 0, .slice none 0 0])] (w.heap.size + 1) 143 (fun c => hst (.int .u8 b1) (.int .u16 p4) (.bool B2) (.bool B3) (.int .i64 O4) (.int .u8 b8) (.int .u8 b9) (.int .u32 l12) (.int .u32 l16) (c + 5)) 0 W := hE
  clear hE hF hS
  go_wp2_with fail
  refine wp_region_walk0 (by kernel_rfl) (StN w w.heap.size _ (w.heap.size + 1) 143 (fun c => hst (.int .u8 b1) (.int .u16 p4) (.bool B2) (.bool B3) (.int .i64 O4) (.int .u8 b8) (.int .u8 b9) (.int .u32 l12) (.int .u32 l16) (c + 5))) [15, 17, 19, 21] GTop [0, 1, 2, 3, 4, 5, 6, 7, 8, 9, 10, 11, 12, 13, 14, 15, 16, 17, 18, 19, 20, 21] (by kernel_rfl) hS4.drew ?_
  iterate 15
    apply Walk.one rfl rfl rfl
    case hrun =>
      intro c W hE hF
      have hbx := hE.1.1
      have d8 := (hbx.cell (p := ⟨b, off + 8, none⟩) hbl).trans c8
      have d9 := (hbx.cell (p := ⟨b, off + 9, none⟩) hbl).trans c9
      go_wp2_with (first | ((with_reducible refine (N12.out _ hbx).mono ?_); rintro e wk ⟨rfl, rfl⟩) | ((with_reducible refine (N16.out _ hbx).mono ?_); rintro e wk ⟨rfl, rfl⟩) | fail)
      exact TextPost.mk ⟨GTop.mk, hE⟩
    case hv => rfl
  apply Walk.keep 0 rfl rfl rfl rfl
  case hrun =>
    intro W hE hF
    have hcx : W.cell? ⟨w.heap.size + 1, 5, none⟩ = some (.int .u8 0) := hE.2.2.2.cell 5
    have hfx := hE.2.2.2.frozen 5
    go_wp2_with fail
    exact TextPost.mk ⟨GTop.mk, hE.set 5 _ rfl⟩
  case hv => rfl
  apply Walk.one rfl rfl rfl
  case hrun =>
    intro c W hE hF
    have hbx := hE.1.1
    go_wp2_with (first | ((with_reducible refine (N12.out _ hbx).mono ?_); rintro e wk ⟨rfl, rfl⟩) | ((with_reducible refine (N16.out _ hbx).mono ?_); rintro e wk ⟨rfl, rfl⟩) | fail)
    exact TextPost.mk ⟨GTop.mk, hE⟩
  case hv => rfl
  apply Walk.keep 1 rfl rfl rfl rfl
  case hrun =>
    intro W hE hF
    have hcx : W.cell? ⟨w.heap.size + 1, 6, none⟩ = some (.int .u8 0) := hE.2.2.2.cell 6
    have hfx := hE.2.2.2.frozen 6
    go_wp2_with fail
    exact TextPost.mk ⟨GTop.mk, hE.set 6 _ rfl⟩
  case hv => rfl
  apply Walk.one rfl rfl rfl
  case hrun =>
    intro c W hE hF
    have hbx := hE.1.1
    go_wp2_with (first | ((with_reducible refine (N12.out _ hbx).mono ?_); rintro e wk ⟨rfl, rfl⟩) | ((with_reducible refine (N16.out _ hbx).mono ?_); rintro e wk ⟨rfl, rfl⟩) | fail)
    exact TextPost.mk ⟨GTop.mk, hE⟩
  case hv => rfl
  apply Walk.keep 2 rfl rfl rfl rfl
  case hrun =>
    intro W hE hF
    have hcx : W.cell? ⟨w.heap.size + 1, 7, none⟩ = some (.int .u32 0) := hE.2.2.2.cell 7
    have hfx := hE.2.2.2.frozen 7
    go_wp2_with fail
    exact TextPost.mk ⟨GTop.mk, hE.set 7 _ rfl⟩
  case hv => rfl
  apply Walk.one rfl rfl rfl
  case hrun =>
    intro c W hE hF
    have hbx := hE.1.1
    go_wp2_with (first | ((with_reducible refine (N12.out _ hbx).mono ?_); rintro e wk ⟨rfl, rfl⟩) | ((with_reducible refine (N16.out _ hbx).mono ?_); rintro e wk ⟨rfl, rfl⟩) | fail)
    exact TextPost.mk ⟨GTop.mk, hE⟩
  case hv => rfl
  apply Walk.keep 3 rfl rfl rfl rfl
  case hrun =>
    intro W hE hF
    have hcx : W.cell? ⟨w.heap.size + 1, 8, none⟩ = some (.int .u32 0) := hE.2.2.2.cell 8
    have hfx := hE.2.2.2.frozen 8
    go_wp2_with fail
    exact TextPost.mk ⟨GTop.mk, hE.set 8 _ rfl⟩
  case hv => rfl
  refine Walk.done (fun W hE hF => ?_)
  have hbW := hE.1.1
  have br := hE.1.get 0 rfl
  have bh : Blk W (w.heap.size + 1) 143 #[.int .u8 b1, .int .u16 p4, .bool B2, .bool B3, .int .i64 O4, .int .u8 b8, .int .u8 b9, .int .u32 l12, .int .u32 l16, .slice none 0 0] := hE.2.2.2
  clear hE hF hS4
  have c9' := bh.cell 9
  have Hyl : Hid (((xs.take SZ).drop 20).length = SZ - 20) := Lib.hid (by rw [List.length_drop, List.length_take, HN.out]; omega)
  have HRd1 : Hid (Rd W W.heap.size (some ⟨b, off + 20, none⟩) .u8 ((xs.take SZ).drop 20)) := Lib.hid (((HR.out.take _).word 20).belows hbW (Nat.le_refl _))
  have hs20 : (20 : Int) ≤ SZ := by omega
  have hsn : (SZ : Int) ≤ n := by omega
  have HRe : Hid (cap = 20 → ∀ W A', Rd W W.heap.size A' .u8 ((xs.take SZ).drop 20)) := Lib.hid fun hc W A' => by
    rw [List.eq_nil_of_length_eq_zero (l := (xs.take SZ).drop 20) (by have := Hyl.out; omega)]; exact Rd.nil
  have HRt := Lib.hid (fun (W : World) (O : Option Addr) (oc : Nat) => rIpRightG_any b1 p4 b8 b9 l12 l16 O4 B2 B3 O (SZ - 20) oc (TOT - SZ) W (by omega) (by omega) (by omega) (by omega) (by omega) (by omega))
  have hts : (((TOT - SZ : Nat)) : Int) = (TOT : Int) - SZ := by omega
  have HTs := Lib.hid hts
  rw [hts] at HRt HT6
  clear hts hO4 hB2 hB3
  generalize (decide (O4 + ((TOT : Int) - SZ) ≤ 65515) && (!B3 || (decide (0 < TOT - SZ) && (TOT - SZ) % 8 == 0))) = RB at *
  generalize hys : (xs.take SZ).drop 20 = ys at *
  clear hys
  by_cases hk : cap = 20
  · subst hk
    have HRd := Lib.hid (HRe.out rfl W.drew (some ⟨b, off, none⟩))
    have hsc : (SZ : Int) ≤ 20 := by omega
    go_wp2_with fail
    go_region_law (refine step_app_own rfl _ _ rfl W.heap.size (.slice none 0 0) [] rfl (Own.nil_ _ _) _ (some ⟨b, off, none⟩) (SZ - 20) (20 - 20) ys rfl Hyl.out.symm HRd.out (by have := Hyl.out; simp; omega) (Nat.le_refl _) ?_; intro v' w3 o3 l3 g3 a3; obtain ⟨pp, rfl⟩ := o3.shape (m := SZ - 20) (by simpa using Hyl.out); have b3 := bh.drew.grown g3 (by simp [Value.ownBlock]); have c3 := b3.cell 9; have f3 := b3.frozen 9)
    have bh7 : Blk (w3.setCell ⟨w.heap.size + 1, 9, none⟩ (.slice pp.1 (SZ - 20) pp.2)) (w.heap.size + 1) 143 #[.int .u8 b1, .int .u16 p4, .bool B2, .bool B3, .int .i64 O4, .int .u8 b8, .int .u8 b9, .int .u32 l12, .int .u32 l16, .slice pp.1 (SZ - 20) pp.2] := b3.set 9 _
    have br7 := (br.drew.grown g3 (by simp [Value.ownBlock])).far (p := ⟨w.heap.size + 1, 9, none⟩) (by simp) (.slice pp.1 (SZ - 20) pp.2)
    have hb7 := (hbW.drew.trans (l3.mono hbW.size)).setCell (p := ⟨w.heap.size + 1, 9, none⟩) (by simp) (.slice pp.1 (SZ - 20) pp.2)
    have ho7 : Own (w3.setCell ⟨w.heap.size + 1, 9, none⟩ (.slice pp.1 (SZ - 20) pp.2)) (w.heap.size + 1) (.slice pp.1 (SZ - 20) pp.2) ys := (o3.setCell_far (a := ⟨w.heap.size + 1, 9, none⟩) (fun e => by have h1 := (o3.lt e).1; have h2 := bh.lt; have h3 : w.heap.size + 1 < W.heap.size := h2; exact absurd h1 (by show ¬ W.heap.size ≤ w.heap.size + 1; omega)) _).base_le (Nat.le_of_lt bh.lt)
    have Ho7 := Lib.hid ho7
    clear c3 c9' b3 bh br hbW ho7 f3
    go_wp2_with (first | ((with_reducible refine look_load ?_); refine wpList_load_row rfl _ _ rfl _ rfl _ _ _ _ bh7 Tryd.underlying143 rfl (by kernel_rfl) ?_) | fail)
    refine (HRt.out _ pp.1 pp.2).mono ?_
    rintro e w8 ⟨rfl, l8⟩
    have bh8 := bh7.below l8 bh7.lt
    have br8 := br7.below l8 br7.lt
    have hb8 := hb7.trans (l8.mono hb7.size)
    have Ho8 := Lib.hid (Ho7.out.below l8 (Nat.le_refl _))
    clear bh7 br7 hb7 Ho7
    cases RB
    case false =>
      have HX := Lib.hid (HFi.out 6 (by decide) HT6'.out (by rw [HT6.out]; rfl))
      go_wp2_with (first | ((with_reducible refine look_store ?_); refine wpList_store_row rfl _ _ _ rfl _ _ rfl rfl _ _ br8 (by kernel_rfl) (by simp) (by simp [Value.oneCell']) ?_) | fail)
      refine bodyPost_ret (results_cell_tmp3 Tryd.results91 _ _ _ _ _ _ _ rfl (setRow_heap _ _ _ _ _ _ br8) Tryd.underlying143 rfl (by kernel_rfl)) rfl ?_
      exact IpPost.bad (by decide) HX.out (by decide) (below_setRow hb8 (Nat.le_refl _) _)
    have HX := Lib.hid (show ipN xs = 7 from HN7.out (below_ipT HT6'.out (by rw [HT6.out]; rfl)))
    go_wp2_with (first | ((with_reducible refine look_load ?_); refine wpList_load_row rfl _ _ rfl _ rfl _ _ _ _ bh8 Tryd.underlying143 rfl (by kernel_rfl) ?_) | ((with_reducible refine look_store ?_); refine wpList_store_row rfl _ _ _ rfl _ _ rfl rfl _ _ br8 (by kernel_rfl) (by simp) (by simp [Value.oneCell']) ?_) | fail)
    refine bodyPost_ret (results_cell_tmp3 Tryd.results91 _ _ _ _ _ _ _ rfl (setRow_heap _ _ _ _ _ _ br8) Tryd.underlying143 rfl (by kernel_rfl)) rfl ?_
    refine ⟨_, by rw [HHd.out _ HX.out]; rfl, fun _ => ?_, below_setRow hb8 (Nat.le_refl _) _⟩
    rw [HOp.out]
    exact (Ho8.out.setRowFar (by omega)).base_le (by omega)
  · have hsc : (SZ : Int) ≤ cap := by omega
    have HRd : Hid (Rd W.drew W.drew.heap.size (some ⟨b, off + 20, none⟩) .u8 ys) := HRd1
    go_wp2_with fail
    go_region_law (refine step_app_own rfl _ _ rfl W.heap.size (.slice none 0 0) [] rfl (Own.nil_ _ _) _ (some ⟨b, off + 20, none⟩) (SZ - 20) (cap - 20) ys rfl Hyl.out.symm HRd.out (by have := Hyl.out; simp; omega) (Nat.le_refl _) ?_; intro v' w3 o3 l3 g3 a3; obtain ⟨pp, rfl⟩ := o3.shape (m := SZ - 20) (by simpa using Hyl.out); have b3 := bh.drew.grown g3 (by simp [Value.ownBlock]); have c3 := b3.cell 9; have f3 := b3.frozen 9)
    have bh7 : Blk (w3.setCell ⟨w.heap.size + 1, 9, none⟩ (.slice pp.1 (SZ - 20) pp.2)) (w.heap.size + 1) 143 #[.int .u8 b1, .int .u16 p4, .bool B2, .bool B3, .int .i64 O4, .int .u8 b8, .int .u8 b9, .int .u32 l12, .int .u32 l16, .slice pp.1 (SZ - 20) pp.2] := b3.set 9 _
    have br7 := (br.drew.grown g3 (by simp [Value.ownBlock])).far (p := ⟨w.heap.size + 1, 9, none⟩) (by simp) (.slice pp.1 (SZ - 20) pp.2)
    have hb7 := (hbW.drew.trans (l3.mono hbW.size)).setCell (p := ⟨w.heap.size + 1, 9, none⟩) (by simp) (.slice pp.1 (SZ - 20) pp.2)
    have ho7 : Own (w3.setCell ⟨w.heap.size + 1, 9, none⟩ (.slice pp.1 (SZ - 20) pp.2)) (w.heap.size + 1) (.slice pp.1 (SZ - 20) pp.2) ys := (o3.setCell_far (a := ⟨w.heap.size + 1, 9, none⟩) (fun e => by have h1 := (o3.lt e).1; have h2 := bh.lt; have h3 : w.heap.size + 1 < W.heap.size := h2; exact absurd h1 (by show ¬ W.heap.size ≤ w.heap.size + 1; omega)) _).base_le (Nat.le_of_lt bh.lt)
    have Ho7 := Lib.hid ho7
    clear c3 c9' b3 bh br hbW ho7 f3
    go_wp2_with (first | ((with_reducible refine look_load ?_); refine wpList_load_row rfl _ _ rfl _ rfl _ _ _ _ bh7 Tryd.underlying143 rfl (by kernel_rfl) ?_) | fail)
    refine (HRt.out _ pp.1 pp.2).mono ?_
    rintro e w8 ⟨rfl, l8⟩
    have bh8 := bh7.below l8 bh7.lt
    have br8 := br7.below l8 br7.lt
    have hb8 := hb7.trans (l8.mono hb7.size)
    have Ho8 := Lib.hid (Ho7.out.below l8 (Nat.le_refl _))
    clear bh7 br7 hb7 Ho7
    cases RB
    case false =>
      have HX := Lib.hid (HFi.out 6 (by decide) HT6'.out (by rw [HT6.out]; rfl))
      go_wp2_with (first | ((with_reducible refine look_store ?_); refine wpList_store_row rfl _ _ _ rfl _ _ rfl rfl _ _ br8 (by kernel_rfl) (by simp) (by simp [Value.oneCell']) ?_) | fail)
      refine bodyPost_ret (results_cell_tmp3 Tryd.results91 _ _ _ _ _ _ _ rfl (setRow_heap _ _ _ _ _ _ br8) Tryd.underlying143 rfl (by kernel_rfl)) rfl ?_
      exact IpPost.bad (by decide) HX.out (by decide) (below_setRow hb8 (Nat.le_refl _) _)
    have HX := Lib.hid (show ipN xs = 7 from HN7.out (below_ipT HT6'.out (by rw [HT6.out]; rfl)))
    go_wp2_with (first | ((with_reducible refine look_load ?_); refine wpList_load_row rfl _ _ rfl _ rfl _ _ _ _ bh8 Tryd.underlying143 rfl (by kernel_rfl) ?_) | ((with_reducible refine look_store ?_); refine wpList_store_row rfl _ _ _ rfl _ _ rfl rfl _ _ br8 (by kernel_rfl) (by simp) (by simp [Value.oneCell']) ?_) | fail)
    refine bodyPost_ret (results_cell_tmp3 Tryd.results91 _ _ _ _ _ _ _ rfl (setRow_heap _ _ _ _ _ _ br8) Tryd.underlying143 rfl (by kernel_rfl)) rfl ?_
    refine ⟨_, by rw [HHd.out _ HX.out]; rfl, fun _ => ?_, below_setRow hb8 (Nat.le_refl _) _⟩
    rw [HOp.out]
    exact (Ho8.out.setRowFar (by omega)).base_le (by omega)
end Go.Proofs.YtebeekjcepjcnaaDoor
