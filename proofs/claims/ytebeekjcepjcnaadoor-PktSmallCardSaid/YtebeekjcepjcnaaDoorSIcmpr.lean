/-
  icmp.word, Read, Answer.
  Facts on bits at the numbers by which packets are read.
-/
import Derived.WalkKit
import Derived.WalkSpells
import Derived.WalkLawsBesides
import Derived.WalkSmall
import Derived.Lib.Hide
import Derived.Deep.AppendLies
import Derived.Maps.AppendAt
import Derived.Laws.AppendOwnNone
import Derived.Laws.CopyOwn
import Derived.OneCell
import Derived.Orders
import Derived.RegionTactic
import Derived.Still
import Derived.Test.YtebeekjcepjcnaaDoorProg
import Derived.Deep.MidRow
import Derived.Lib.SliceRun
import Derived.RangeFuncNested
import Derived.RangeFuncBound
import Derived.RangeFuncCalls
import Derived.RangeFuncLeaves
import Derived.Shelf.Abstract
import Derived.OwnWalkIn
import Derived.TacticsInMore
import Derived.LoopNIn
import Derived.LoopIn
import Derived.Lib.AppendZeros
import Derived.Deep.RegionLaw
import Derived.Deep.RegionHeld3
import Derived.Deep.DeepCutAuto
import Derived.BigRegion
import Derived.ChangeAlike
import Derived.MapKept
import Derived.Test.YtebeekjcepjcnaaDoorSBase
import Derived.Test.YtebeekjcepjcnaaDoorSMem
import Derived.Test.YtebeekjcepjcnaaDoorSCsum
import Derived.Test.YtebeekjcepjcnaaDoorSSum
import Derived.Test.YtebeekjcepjcnaaDoorSRegion
import Derived.Test.YtebeekjcepjcnaaDoorSWalk
import Derived.Test.YtebeekjcepjcnaaDoorSStep
import Derived.Test.YtebeekjcepjcnaaDoorSStepb
import Derived.Test.YtebeekjcepjcnaaDoorSConcat
import Derived.Test.YtebeekjcepjcnaaDoorSTcpw
namespace Go.Proofs.YtebeekjcepjcnaaDoor
open Go.RowKit

def w16 (a b : Int) : Int := 256 * a + b
theorem or_word (a b : Int) (a0 : 0 ≤ a) (a1 : a < 256) (b0 : 0 ≤ b) (b1 : b < 256) : bits .or .u16 (a * 256) b = w16 a b := or_u16_word a b a0 a1 b0 b1

set_option maxRecDepth 100000 in
set_option maxHeartbeats 1000000 in
theorem icmpWord_any (A : Option Addr) (cap n : Nat) (xs : List Int) (w : World) (hn : xs.length = n) (hl : 2 ≤ n) (hb : Byt xs) (hr : Rd w w.heap.size A .u8 xs) :
    Calls Tryd.prog 120 #[.slice A n cap] w fun e w' => e = .returned (.int .u16 (w16 (xs.getD 0 0) (xs.getD 1 0))) ∧ Below w.heap.size w w' := by
  obtain ⟨b, off, rfl, hbl, hc⟩ := hr.at0 (by omega)
  have c0 := hc 0 (by omega)
  have c1 := hc 1 (by omega)
  obtain ⟨x0, x1⟩ := hb.at_ 0
  obtain ⟨y0, y1⟩ := hb.at_ 1
  have ho := or_word (xs.getD 0 0) (xs.getD 1 0) x0 x1 y0 y1
  clear hr hc hn
  generalize w16 (xs.getD 0 0) (xs.getD 1 0) = R at *
  generalize xs.getD 0 0 = x at *
  generalize xs.getD 1 0 = y at *
  rw [Nat.add_zero] at c0
  go_enter Tryd.func120, Tryd.ntmps120
  go_wp2_with fail
  refine wp_region_walk0 (by kernel_rfl) (fun _ W => St w w.heap.size [] W) [] Grow [0, 1, 2, 3, 4, 5, 6, 7, 8, 9, 10] (by kernel_rfl) (St.nil (Below.refl _ w) (Nat.le_refl _)).drew ?_
  iterate 11
    apply Walk.one rfl rfl rfl
    case hrun =>
      intro c W hE hF
      have d0 := (hE.1.cell (p := ⟨b, off, none⟩) hbl).trans c0
      have d1 := (hE.1.cell (p := ⟨b, off + 1, none⟩) hbl).trans c1
      go_wp2_with fail
      exact TextPost.mk ⟨Grow.refl _, hE⟩
    case hv => rfl
  refine Walk.done (fun W hE hF => ?_)
  have hbW := hE.1
  clear hE hF
  go_wp2_with fail
  go_ret
  exact ⟨rfl, hbW⟩

theorem Rd.word {w : World} {B : Nat} {b off : Nat} {xs : List Int} (h : Rd w B (some ⟨b, off, none⟩) .u8 xs) (k : Nat) : Rd w B (some ⟨b, off + k, none⟩) .u8 (xs.drop k) :=
  h.drop k (fun _ b' off' e => by
    simp only [Option.some.injEq, Addr.mk.injEq, and_true] at e
    obtain ⟨rfl, rfl⟩ := e
    rfl)
theorem getD_drop0 (xs : List Int) (k j : Nat) : (xs.drop k).getD j 0 = xs.getD (k + j) 0 := by simp [List.getD_eq_getElem?_getD]

set_option maxRecDepth 100000 in
set_option maxHeartbeats 2000000 in
theorem icmpRead_any (A : Option Addr) (cap n : Nat) (xs : List Int) (w : World) (hn : xs.length = n) (hl : 8 ≤ n) (hcap : n ≤ cap) (hb : Byt xs) (hr : Rd w w.heap.size A .u8 xs) (hs : SortsAt w) (hk : kind2 (xs.getD 0 0).toNat (xs.getD 1 0).toNat = 0) :
    Calls Tryd.prog 65 #[.slice A n cap] w fun e w' => e = .returned (.tuple #[.agg #[.int .u8 (xs.getD 0 0), .int .u8 (xs.getD 1 0), .int .u16 (w16 (xs.getD 4 0) (xs.getD 5 0)), .int .u16 (w16 (xs.getD 6 0) (xs.getD 7 0))], .int .i64 0]) ∧ Below w.heap.size w w' := by
  obtain ⟨b, off, rfl, hbl, hc⟩ := hr.at0 (by omega)
  have c0 := hc 0 (by omega)
  have c1 := hc 1 (by omega)
  rw [Nat.add_zero] at c0
  obtain ⟨x0, x1⟩ := hb.at_ 0
  obtain ⟨y0, y1⟩ := hb.at_ 1
  have HK := Lib.hid (fun (W : World) (h : SortsAt W) => kindI_any (xs.getD 0 0) (xs.getD 1 0) W x0 x1 y0 h)
  rw [hk] at HK
  have H4 := Lib.hid (fun (W : World) (h : Rd W W.heap.size (some ⟨b, off, none⟩) .u8 xs) => icmpWord_any (some ⟨b, off + 4, none⟩) (cap - 4) (n - 4) (xs.drop 4) W (by simp [hn]) (by omega) (hb.drop 4) (h.word 4))
  have H6 := Lib.hid (fun (W : World) (h : Rd W W.heap.size (some ⟨b, off, none⟩) .u8 xs) => icmpWord_any (some ⟨b, off + 6, none⟩) (cap - 6) (n - 6) (xs.drop 6) W (by simp [hn]) (by omega) (hb.drop 6) (h.word 6))
  simp only [getD_drop0, Nat.reduceAdd] at H4 H6
  have Hr := Lib.hid hr
  have Hs := Lib.hid hs
  clear hr hc hn hb hs hk
  generalize w16 (xs.getD 4 0) (xs.getD 5 0) = v4 at *
  generalize w16 (xs.getD 6 0) (xs.getD 7 0) = v6 at *
  generalize kind1 (xs.getD 0 0).toNat (xs.getD 1 0).toNat = e1 at *
  generalize xs.getD 0 0 = x at *
  generalize xs.getD 1 0 = y at *
  have hd : decide ((n : Int) < 8) = false := by simp; omega
  go_enter Tryd.func65, Tryd.ntmps65
  go_wp2_with fail
  refine wp_name1 ?_
  intro w1 hb1 hs1 bR
  have hSt := (St.nil hb1 hb1.size).cons bR
  refine wp_region_walk0 (by kernel_rfl) (fun _ W => St w w.heap.size _ W) [] Grow [0, 1, 2, 3, 4, 5, 6, 7, 8, 9, 10, 11] (by kernel_rfl) hSt.drew ?_
  iterate 12
    apply Walk.one rfl rfl rfl
    case hrun =>
      intro c W hE hF
      have d0 := (hE.1.cell (p := ⟨b, off, none⟩) hbl).trans c0
      have d1 := (hE.1.cell (p := ⟨b, off + 1, none⟩) hbl).trans c1
      have Hs2 := Lib.hid (Hs.out.below hE.1 (Nat.le_refl _))
      go_wp2_with (first | (go_at_call 68; refine (HK.out _ Hs2.out).mono ?_; rintro e wk ⟨rfl, rfl⟩) | fail)
      exact TextPost.mk ⟨Grow.refl _, hE⟩
    case hv => rfl
  refine Walk.done (fun W hE hF => ?_)
  have bR2 := hE.get 0 rfl
  have hbW := hE.1
  clear hE hF hSt bR hb1 hs1
  go_wp2_with fail
  have hlt := bR2.lt
  have hSt2 : St1 w w.heap.size [] w.heap.size 84 _ #[.int .u8 x, .int .u8 y, .int .u16 v4, .int .u16 v6] 0 W := ⟨St.nil hbW hbW.size, Nat.le_refl _, by simp, bR2⟩
  refine wp_region_walk0 (by kernel_rfl) (St1 w w.heap.size [] w.heap.size 84 _ #[.int .u8 x, .int .u8 y, .int .u16 v4, .int .u16 v6]) [13] GTop [0, 1, 2, 3, 4, 5, 6, 7, 8, 9, 10, 11, 12, 13, 14] (by kernel_rfl) hSt2.drew ?_
  iterate 13
    apply Walk.one rfl rfl rfl
    case hrun =>
      intro c W2 hE hF
      have d0 := (hE.1.1.cell (p := ⟨b, off, none⟩) hbl).trans c0
      have d1 := (hE.1.1.cell (p := ⟨b, off + 1, none⟩) hbl).trans c1
      have Hr2 := Lib.hid ((Hr.out.below hE.1.1 (Nat.le_refl _)).more hE.1.1.size)
      go_wp2_with (first | ((with_reducible refine (H4.out _ Hr2.out).mono ?_); rintro e wk ⟨rfl, lk⟩) | ((with_reducible refine (H6.out _ Hr2.out).mono ?_); rintro e wk ⟨rfl, lk⟩) | fail)
      first
        | exact TextPost.mk ⟨GTop.mk, hE⟩
        | exact TextPost.mk ⟨GTop.mk, hE.below lk⟩
    case hv => rfl
  apply Walk.keep 0 rfl rfl rfl rfl
  case hrun =>
    intro W2 hE hF
    have hbR := hE.2.2.2
    refine wpList_store_row rfl _ _ _ rfl _ _ rfl rfl _ _ hbR (by kernel_rfl) (by simp) (by simp [Value.oneCell']) ?_
    go_wp2_with fail
    exact TextPost.mk ⟨GTop.mk, hE.put⟩
  case hv => rfl
  apply Walk.one rfl rfl rfl
  case hrun =>
    intro c W2 hE hF
    go_wp2_with fail
    exact TextPost.mk ⟨GTop.mk, hE⟩
  case hv => rfl
  refine Walk.done (fun W2 hE hF => ?_)
  have hbR := hE.2.2.2
  have hbW2 := hE.1.1
  clear hE hF hSt2
  go_wp2_with fail
  exact bodyPost_ret (results_cell_tmp Tryd.results65 _ _ _ _ _ _ _ rfl hbR Tryd.underlying84 rfl (by kernel_rfl)) rfl ⟨rfl, hbW2⟩

end Go.Proofs.YtebeekjcepjcnaaDoor
namespace Go.Proofs.YtebeekjcepjcnaaDoor
open Go.RowKit
theorem or_i64_word (a b : Int) (a0 : 0 ≤ a) (a1 : a < 256) (b0 : 0 ≤ b) (b1 : b < 256) : bits .or .i64 (a * 256) b = 256 * a + b := by
  rw [bits_join .i64 62 (by decide) wraps_i64_8 8 (a * 256) b (by omega) (by omega) (by omega) b0 (by omega) (by omega)]; omega
theorem or_u32_long (a b : Int) (a0 : 0 ≤ a) (a1 : a < 65536) (b0 : 0 ≤ b) (b1 : b < 65536) : bits .or .u32 (a * 65536) b = 65536 * a + b := by
  rw [bits_join .u32 32 (by decide) wraps_u32_32 16 (a * 65536) b (by omega) (by omega) (by omega) b0 (by omega) (by omega)]; omega
theorem and_nat_i64 (x m : Nat) (hx : x < 65536) (hm : m < 65536) : bits .and .i64 (x : Int) (m : Int) = ((x &&& m : Nat) : Int) :=
  (bits_nat .i64 62 (by decide) wraps_i64_8 x m (by omega) (by omega)).1
theorem and_bit (x i : Nat) : x &&& 2 ^ i = 2 ^ i * (x / 2 ^ i % 2) := by
  apply Nat.eq_of_testBit_eq
  intro j
  rw [Nat.testBit_and, Nat.testBit_two_pow]
  by_cases h : i = j
  · subst h
    rw [Nat.testBit_two_pow_mul]
    simp [Nat.testBit_eq_decide_div_mod_eq]
  · rw [Nat.testBit_two_pow_mul]
    have : decide (i = j) = false := by simpa using h
    rw [this, Bool.and_false]
    by_cases hj : j ≥ i
    · have h2 : 0 < j - i := by omega
      have : (x / 2 ^ i % 2).testBit (j - i) = false := Nat.testBit_lt_two_pow (Nat.lt_of_lt_of_le (Nat.mod_lt _ (by decide)) (by
        have := Nat.pow_le_pow_right (n := 2) (by decide) h2
        simpa using this))
      simp [this]
    · simp [hj]
theorem and_i64_32768 (x : Int) (h0 : 0 ≤ x) (h1 : x < 65536) : (bits .and .i64 x 32768 != 0) = decide (32768 ≤ x) := by
  obtain ⟨n, rfl⟩ : ∃ n : Nat, x = n := ⟨x.toNat, by omega⟩
  have e := and_nat_i64 n 32768 (by omega) (by omega)
  have e2 : (n &&& 32768) = 32768 * (n / 32768 % 2) := and_bit n 15
  rw [e2, show ((32768 : Nat) : Int) = 32768 from rfl] at e
  rw [e]
  rcases (show n / 32768 % 2 = 0 ∨ n / 32768 % 2 = 1 by omega) with h | h
  · rw [h]
    have : ¬ (32768 ≤ (n : Int)) := by omega
    simp [this]
  · rw [h]
    have : 32768 ≤ (n : Int) := by omega
    simp [this]
theorem and_i64_16384 (x : Int) (h0 : 0 ≤ x) (h1 : x < 65536) : (bits .and .i64 x 16384 != 0) = (x / 16384 % 2 == 1) := by
  obtain ⟨n, rfl⟩ : ∃ n : Nat, x = n := ⟨x.toNat, by omega⟩
  have e := and_nat_i64 n 16384 (by omega) (by omega)
  have e2 : (n &&& 16384) = 16384 * (n / 16384 % 2) := and_bit n 14
  rw [e2, show ((16384 : Nat) : Int) = 16384 from rfl] at e
  rw [e]
  rcases (show n / 16384 % 2 = 0 ∨ n / 16384 % 2 = 1 by omega) with h | h
  · rw [h]
    have : (n : Int) / 16384 % 2 = 0 := by omega
    rw [this]; rfl
  · rw [h]
    have : (n : Int) / 16384 % 2 = 1 := by omega
    rw [this]; rfl
theorem and_i64_8192 (x : Int) (h0 : 0 ≤ x) (h1 : x < 65536) : (bits .and .i64 x 8192 != 0) = (x / 8192 % 2 == 1) := by
  obtain ⟨n, rfl⟩ : ∃ n : Nat, x = n := ⟨x.toNat, by omega⟩
  have e := and_nat_i64 n 8192 (by omega) (by omega)
  have e2 : (n &&& 8192) = 8192 * (n / 8192 % 2) := and_bit n 13
  rw [e2, show ((8192 : Nat) : Int) = 8192 from rfl] at e
  rw [e]
  rcases (show n / 8192 % 2 = 0 ∨ n / 8192 % 2 = 1 by omega) with h | h
  · rw [h]
    have : (n : Int) / 8192 % 2 = 0 := by omega
    rw [this]; rfl
  · rw [h]
    have : (n : Int) / 8192 % 2 = 1 := by omega
    rw [this]; rfl
theorem and_i64_8191 (x : Int) (h0 : 0 ≤ x) (h1 : x < 65536) : bits .and .i64 x 8191 = x % 8192 := by
  obtain ⟨n, rfl⟩ := Int.eq_ofNat_of_zero_le h0
  have := and_nat_i64 n 8191 (by omega) (by omega)
  rw [show ((8191 : Nat) : Int) = 8191 from rfl] at this
  rw [this]
  have : (n &&& 8191) = n % 8192 := Nat.and_two_pow_sub_one_eq_mod n 13
  rw [this]; omega
theorem and_u8_15 (x : Int) (h0 : 0 ≤ x) (h1 : x < 256) : bits .and .u8 x 15 = x % 16 := by
  rw [u8_and x 15 h0 h1 (by decide) (by decide)]
  have : (x.toNat &&& (15 : Int).toNat) = x.toNat % 16 := Nat.and_two_pow_sub_one_eq_mod x.toNat 4
  rw [this]; omega
theorem and_u8_63 (x : Int) (h0 : 0 ≤ x) (h1 : x < 256) : bits .and .u8 x 63 = x % 64 := by
  rw [u8_and x 63 h0 h1 (by decide) (by decide)]
  have : (x.toNat &&& (63 : Int).toNat) = x.toNat % 64 := Nat.and_two_pow_sub_one_eq_mod x.toNat 6
  rw [this]; omega
theorem andNot_u16_24576 (x : Int) (h0 : 0 ≤ x) (h1 : x < 65536) : (bits .andNot .u16 x 24576 != 0) = !(decide (x < 32768) && x % 8192 == 0) := by
  obtain ⟨n, rfl⟩ : ∃ n : Nat, x = n := ⟨x.toNat, by omega⟩
  have e := u16_andNot_nat n 24576 (by omega) (by omega)
  rw [show ((24576 : Nat) : Int) = 24576 from rfl] at e
  rw [e, show 65535 - 24576 = 32768 ||| 8191 from rfl, Nat.and_or_distrib_left]
  have e1 : (n &&& 8191) = n % 8192 := Nat.and_two_pow_sub_one_eq_mod n 13
  have e2 : (n &&& 32768) = 32768 * (n / 32768 % 2) := and_bit n 15
  rw [e1, e2]
  by_cases a : n < 32768
  · have a1 : n / 32768 % 2 = 0 := by omega
    rw [a1, Nat.mul_zero, Nat.zero_or]
    have a2 : ((n : Int) < 32768) := by omega
    by_cases b : n % 8192 = 0
    · have b2 : (n : Int) % 8192 = 0 := by omega
      simp [b, a2, b2]
    · have b2 : ¬ (n : Int) % 8192 = 0 := by omega
      have c1 : ((n % 8192 : Nat) : Int) = (n : Int) % 8192 := by omega
      rw [c1, show ((n : Int) % 8192 != 0) = true by simpa using b2, show ((n : Int) % 8192 == 0) = false by simpa using b2, Bool.and_false]; rfl
  · have a2 : ¬ ((n : Int) < 32768) := by omega
    have a1 : n / 32768 % 2 = 1 := by omega
    rw [a1, Nat.mul_one]
    have hne : (32768 ||| n % 8192) ≠ 0 := by
      have := @Nat.left_le_or 32768 (n % 8192)
      omega
    have : ((32768 ||| n % 8192 : Nat) : Int) ≠ 0 := by omega
    simp only [a2, decide_false, Bool.false_and, Bool.not_false, bne_iff_ne, ne_eq]
    exact this
end Go.Proofs.YtebeekjcepjcnaaDoor
