/-
  Facts as an argument: opened to data, and shut again; the table of package icmp, read off the heap as it was laid.
  Facts on bits at the numbers by which packets are read.
-/
import Derived.Test.YtebeekjcepjcnaaDoorRows
import Derived.WalkKit
import Derived.WalkSpells
import Derived.WalkLawsBesides
import Derived.WalkSmall
import Derived.Lib.Hide
import Derived.Deep.AppendLies
import Derived.Maps.AppendAt
import Derived.Laws.AppendOwnNone
import Derived.Laws.CopyOwn
import Derived.OneCell
import Derived.Orders
import Derived.RegionTactic
import Derived.Still
import Derived.Test.YtebeekjcepjcnaaDoorProg
import Derived.Deep.MidRow
import Derived.Lib.SliceRun
import Derived.RangeFuncNested
import Derived.RangeFuncBound
import Derived.RangeFuncCalls
import Derived.RangeFuncLeaves
import Derived.Shelf.Abstract
import Derived.OwnWalkIn
import Derived.TacticsInMore
import Derived.LoopNIn
import Derived.LoopIn
import Derived.Lib.AppendZeros
import Derived.MapKept
import Derived.Deep.DeepCutAuto
import Derived.Deep.RegionLaw
import Derived.Deep.RegionHeld3
import Derived.BigRegion
import Derived.ChangeAlike
import Derived.Laws.StructEq
import Derived.ProofKit
import Derived.LaidMore
import Derived.OpenShut
import Derived.Lay
import Derived.Deep.Strs
import Derived.Test.YtebeekjcepjcnaaDoorLBase
import Derived.Test.YtebeekjcepjcnaaDoorLMem
import Derived.Test.YtebeekjcepjcnaaDoorLCsum
import Derived.Test.YtebeekjcepjcnaaDoorLSum
import Derived.Test.YtebeekjcepjcnaaDoorLFix
import Derived.Test.YtebeekjcepjcnaaDoorLFacts
import Derived.Test.YtebeekjcepjcnaaDoorLRegion
import Derived.Test.YtebeekjcepjcnaaDoorLWalk
import Derived.Test.YtebeekjcepjcnaaDoorLStep
import Derived.Test.YtebeekjcepjcnaaDoorLQuoted
import Derived.Test.YtebeekjcepjcnaaDoorLBuilda
import Derived.Test.YtebeekjcepjcnaaDoorLRerr
import Derived.Test.YtebeekjcepjcnaaDoorLStepb
import Derived.Test.YtebeekjcepjcnaaDoorLTcpw
import Derived.Test.YtebeekjcepjcnaaDoorLUdpw
import Derived.Test.YtebeekjcepjcnaaDoorLData
import Derived.Test.YtebeekjcepjcnaaDoorLQdata
import Derived.Test.YtebeekjcepjcnaaDoorLFailure
import Derived.Test.YtebeekjcepjcnaaDoorLEq
import Derived.Test.YtebeekjcepjcnaaDoorLFold
import Derived.Test.YtebeekjcepjcnaaDoorLBuildb
import Derived.Test.YtebeekjcepjcnaaDoorLAnswer
import Derived.Test.YtebeekjcepjcnaaDoorLAnswerb
import Derived.Test.YtebeekjcepjcnaaDoorLAwake
namespace Go.Proofs.YtebeekjcepjcnaaDoor
open Go.ChangeShapes Go.WideShapes Go.ChangeAt Go.RowKit

section
variable {H : Type} {enc : TypeId × Value → H} {w : World} {base : Nat} {spare : Nat → Bool} {held : Bool}
theorem wf_u8 {n : Int} : (Lit.int .u8 n).wf = true ↔ 0 ≤ n ∧ n < 256 := by simp [Lit.wf, IntKind.min, IntKind.max, IntKind.signed, IntKind.bits]; omega
theorem cOne8 : Tryd.prog.cellsOf 5 = 1 := by kernel_rfl
/-- One number among the cells. -/
theorem one_int {t : TypeId} {k : IntKind} {n off : Nat} {cs : List Value} {c : Value} {y : DataW H × List MemPlace} (ht : Tryd.prog.underlying t = some (.int k)) (hc : Tryd.prog.cellsOf t = 1) (h1 : (cs.drop off).take 1 = [c])
    (h : DataW.trod enc Tryd.prog w base spare held n t ((cs.drop off).take (Tryd.prog.cellsOf t)) = some y) : ∃ x, c = .int k x ∧ y = (.lit (.int k x), []) ∧ (Lit.int k x).wf = true := by
  rw [hc, h1] at h
  obtain ⟨x, e1, e2, e3⟩ := DataW.trod_int ht h
  simp only [List.cons.injEq, and_true] at e1
  exact ⟨x, e1, e2, e3⟩
end

theorem gSorts : Tryd.prog.globalNamed "baffle/icmp.sorts" = some 1 := by kernel_rfl
theorem tSorts : (Tryd.prog.globals[1]?).map (·.type) = some 189 := by kernel_rfl
theorem cSort : Tryd.prog.cellsOf 188 = 3 := by kernel_rfl
theorem nth_of_take {l : List Value} {a : Nat} {c : Value} (h : (l.drop a).take 1 = [c]) : l[a]? = some c := by
  have h2 : ((l.drop a).take 1)[0]? = some c := by rw [h]; rfl
  rwa [List.getElem?_take_of_lt (by omega), List.getElem?_drop, Nat.add_zero] at h2
theorem sorts_dat {H : Type} (k : Nat) (hk : k < 19) : ∃ l : List (DataW H), Rows.laid_baffle_icmp_sorts = .agg l ∧ l[k]? = some (.agg [.lit (.int .u8 (kindN k)), .lit (.int .u8 (codesN k)), .lit (.int .u8 (replyN k))]) := by
  refine ⟨_, rfl, ?_⟩
  rcases (show k = 0 ∨ k = 1 ∨ k = 2 ∨ k = 3 ∨ k = 4 ∨ k = 5 ∨ k = 6 ∨ k = 7 ∨ k = 8 ∨ k = 9 ∨ k = 10 ∨ k = 11 ∨ k = 12 ∨ k = 13 ∨ k = 14 ∨ k = 15 ∨ k = 16 ∨ k = 17 ∨ k = 18 by omega) with rfl | rfl | rfl | rfl | rfl | rfl | rfl | rfl | rfl | rfl | rfl | rfl | rfl | rfl | rfl | rfl | rfl | rfl | rfl <;> rfl
/-- What the row's condition on the table gives. -/
theorem sorts_of_laid {W : World} (h : laidMetH Tryd.prog [("baffle/icmp.sorts", Rows.laid_baffle_icmp_sorts)] W) : SortsAt W := by
  rw [MakeChecks.laidMetH_plain _ _ _ (by kernel_rfl)] at h
  obtain ⟨ps, ⟨g0, t0, cs0, f0, p0, q0, hg0, ht0, hv0, hd0, _⟩, _⟩ := h
  obtain rfl := Option.some.inj (gSorts.symm.trans hg0)
  obtain rfl := Option.some.inj (tSorts.symm.trans ht0)
  obtain ⟨xs, m, _, hx, _, hlen, hel⟩ := DataW.trod_array Tryd.underlying189 hd0
  intro k hk
  have h1 := hel k hk
  rw [cSort] at h1
  obtain ⟨l, e1, e2⟩ := sorts_dat k hk
  simp only [Prod.mk.injEq] at hx
  rw [e1] at hx
  have hl : l = xs.map (·.1) := by simpa using hx.1
  rw [hl, List.getElem?_map] at e2
  obtain ⟨x, hxk, hx1⟩ := Option.map_eq_some_iff.1 e2
  rw [hxk] at h1
  obtain ⟨y0, y1, y2, n, hy, hcl, t0, t1, t2⟩ := Go.Deep.trod_struct3 Tryd.underlying188 h1
  rw [cSort] at hcl
  match hcs : (cs0.toList.drop (k * 3)).take 3, hcl with
  | [c0, c1, c2], _ =>
    rw [hcs] at t0 t1 t2
    obtain ⟨a, rfl, rfl, _⟩ := one_int Tryd.underlying5 cOne8 rfl t0
    obtain ⟨b, rfl, rfl, _⟩ := one_int Tryd.underlying5 cOne8 rfl t1
    obtain ⟨c, rfl, rfl, _⟩ := one_int Tryd.underlying5 cOne8 rfl t2
    rw [hy] at hx1
    simp only [DataW.agg.injEq, List.cons.injEq, DataW.lit.injEq, Lit.int.injEq, true_and, and_true] at hx1
    obtain ⟨rfl, rfl, rfl⟩ := hx1
    have hat : ∀ j, j < 3 → cs0[k * 3 + j]? = ((cs0.toList.drop (k * 3)).take 3)[j]? := fun j hj => by
      rw [List.getElem?_take_of_lt hj, List.getElem?_drop]
      simp
    refine ⟨?_, ?_, ?_⟩
    · have := hat 0 (by omega)
      rw [hcs] at this
      exact (World.var?_cell hg0 hv0 (k * 3)).trans this
    · have := hat 1 (by omega)
      rw [hcs] at this
      exact (World.var?_cell hg0 hv0 (k * 3 + 1)).trans this
    · have := hat 2 (by omega)
      rw [hcs] at this
      exact (World.var?_cell hg0 hv0 (k * 3 + 2)).trans this

end Go.Proofs.YtebeekjcepjcnaaDoor
namespace Go.Proofs.YtebeekjcepjcnaaDoor
open Go.RowKit
theorem or_i64_word (a b : Int) (a0 : 0 ≤ a) (a1 : a < 256) (b0 : 0 ≤ b) (b1 : b < 256) : bits .or .i64 (a * 256) b = 256 * a + b := by
  rw [bits_join .i64 62 (by decide) wraps_i64_8 8 (a * 256) b (by omega) (by omega) (by omega) b0 (by omega) (by omega)]; omega
theorem or_u32_long (a b : Int) (a0 : 0 ≤ a) (a1 : a < 65536) (b0 : 0 ≤ b) (b1 : b < 65536) : bits .or .u32 (a * 65536) b = 65536 * a + b := by
  rw [bits_join .u32 32 (by decide) wraps_u32_32 16 (a * 65536) b (by omega) (by omega) (by omega) b0 (by omega) (by omega)]; omega
theorem and_nat_i64 (x m : Nat) (hx : x < 65536) (hm : m < 65536) : bits .and .i64 (x : Int) (m : Int) = ((x &&& m : Nat) : Int) :=
  (bits_nat .i64 62 (by decide) wraps_i64_8 x m (by omega) (by omega)).1
theorem and_bit (x i : Nat) : x &&& 2 ^ i = 2 ^ i * (x / 2 ^ i % 2) := by
  apply Nat.eq_of_testBit_eq
  intro j
  rw [Nat.testBit_and, Nat.testBit_two_pow]
  by_cases h : i = j
  · subst h
    rw [Nat.testBit_two_pow_mul]
    simp [Nat.testBit_eq_decide_div_mod_eq]
  · rw [Nat.testBit_two_pow_mul]
    have : decide (i = j) = false := by simpa using h
    rw [this, Bool.and_false]
    by_cases hj : j ≥ i
    · have h2 : 0 < j - i := by omega
      have : (x / 2 ^ i % 2).testBit (j - i) = false := Nat.testBit_lt_two_pow (Nat.lt_of_lt_of_le (Nat.mod_lt _ (by decide)) (by
        have := Nat.pow_le_pow_right (n := 2) (by decide) h2
        simpa using this))
      simp [this]
    · simp [hj]
theorem and_i64_32768 (x : Int) (h0 : 0 ≤ x) (h1 : x < 65536) : (bits .and .i64 x 32768 != 0) = decide (32768 ≤ x) := by
  obtain ⟨n, rfl⟩ : ∃ n : Nat, x = n := ⟨x.toNat, by omega⟩
  have e := and_nat_i64 n 32768 (by omega) (by omega)
  have e2 : (n &&& 32768) = 32768 * (n / 32768 % 2) := and_bit n 15
  rw [e2, show ((32768 : Nat) : Int) = 32768 from rfl] at e
  rw [e]
  rcases (show n / 32768 % 2 = 0 ∨ n / 32768 % 2 = 1 by omega) with h | h
  · rw [h]
    have : ¬ (32768 ≤ (n : Int)) := by omega
    simp [this]
  · rw [h]
    have : 32768 ≤ (n : Int) := by omega
    simp [this]
theorem and_i64_16384 (x : Int) (h0 : 0 ≤ x) (h1 : x < 65536) : (bits .and .i64 x 16384 != 0) = (x / 16384 % 2 == 1) := by
  obtain ⟨n, rfl⟩ : ∃ n : Nat, x = n := ⟨x.toNat, by omega⟩
  have e := and_nat_i64 n 16384 (by omega) (by omega)
  have e2 : (n &&& 16384) = 16384 * (n / 16384 % 2) := and_bit n 14
  rw [e2, show ((16384 : Nat) : Int) = 16384 from rfl] at e
  rw [e]
  rcases (show n / 16384 % 2 = 0 ∨ n / 16384 % 2 = 1 by omega) with h | h
  · rw [h]
    have : (n : Int) / 16384 % 2 = 0 := by omega
    rw [this]; rfl
  · rw [h]
    have : (n : Int) / 16384 % 2 = 1 := by omega
    rw [this]; rfl
theorem and_i64_8192 (x : Int) (h0 : 0 ≤ x) (h1 : x < 65536) : (bits .and .i64 x 8192 != 0) = (x / 8192 % 2 == 1) := by
  obtain ⟨n, rfl⟩ : ∃ n : Nat, x = n := ⟨x.toNat, by omega⟩
  have e := and_nat_i64 n 8192 (by omega) (by omega)
  have e2 : (n &&& 8192) = 8192 * (n / 8192 % 2) := and_bit n 13
  rw [e2, show ((8192 : Nat) : Int) = 8192 from rfl] at e
  rw [e]
  rcases (show n / 8192 % 2 = 0 ∨ n / 8192 % 2 = 1 by omega) with h | h
  · rw [h]
    have : (n : Int) / 8192 % 2 = 0 := by omega
    rw [this]; rfl
  · rw [h]
    have : (n : Int) / 8192 % 2 = 1 := by omega
    rw [this]; rfl
theorem and_i64_8191 (x : Int) (h0 : 0 ≤ x) (h1 : x < 65536) : bits .and .i64 x 8191 = x % 8192 := by
  obtain ⟨n, rfl⟩ := Int.eq_ofNat_of_zero_le h0
  have := and_nat_i64 n 8191 (by omega) (by omega)
  rw [show ((8191 : Nat) : Int) = 8191 from rfl] at this
  rw [this]
  have : (n &&& 8191) = n % 8192 := Nat.and_two_pow_sub_one_eq_mod n 13
  rw [this]; omega
theorem and_u8_15 (x : Int) (h0 : 0 ≤ x) (h1 : x < 256) : bits .and .u8 x 15 = x % 16 := by
  rw [u8_and x 15 h0 h1 (by decide) (by decide)]
  have : (x.toNat &&& (15 : Int).toNat) = x.toNat % 16 := Nat.and_two_pow_sub_one_eq_mod x.toNat 4
  rw [this]; omega
theorem and_u8_63 (x : Int) (h0 : 0 ≤ x) (h1 : x < 256) : bits .and .u8 x 63 = x % 64 := by
  rw [u8_and x 63 h0 h1 (by decide) (by decide)]
  have : (x.toNat &&& (63 : Int).toNat) = x.toNat % 64 := Nat.and_two_pow_sub_one_eq_mod x.toNat 6
  rw [this]; omega
theorem andNot_u16_24576 (x : Int) (h0 : 0 ≤ x) (h1 : x < 65536) : (bits .andNot .u16 x 24576 != 0) = !(decide (x < 32768) && x % 8192 == 0) := by
  obtain ⟨n, rfl⟩ : ∃ n : Nat, x = n := ⟨x.toNat, by omega⟩
  have e := u16_andNot_nat n 24576 (by omega) (by omega)
  rw [show ((24576 : Nat) : Int) = 24576 from rfl] at e
  rw [e, show 65535 - 24576 = 32768 ||| 8191 from rfl, Nat.and_or_distrib_left]
  have e1 : (n &&& 8191) = n % 8192 := Nat.and_two_pow_sub_one_eq_mod n 13
  have e2 : (n &&& 32768) = 32768 * (n / 32768 % 2) := and_bit n 15
  rw [e1, e2]
  by_cases a : n < 32768
  · have a1 : n / 32768 % 2 = 0 := by omega
    rw [a1, Nat.mul_zero, Nat.zero_or]
    have a2 : ((n : Int) < 32768) := by omega
    by_cases b : n % 8192 = 0
    · have b2 : (n : Int) % 8192 = 0 := by omega
      simp [b, a2, b2]
    · have b2 : ¬ (n : Int) % 8192 = 0 := by omega
      have c1 : ((n % 8192 : Nat) : Int) = (n : Int) % 8192 := by omega
      rw [c1, show ((n : Int) % 8192 != 0) = true by simpa using b2, show ((n : Int) % 8192 == 0) = false by simpa using b2, Bool.and_false]; rfl
  · have a2 : ¬ ((n : Int) < 32768) := by omega
    have a1 : n / 32768 % 2 = 1 := by omega
    rw [a1, Nat.mul_one]
    have hne : (32768 ||| n % 8192) ≠ 0 := by
      have := @Nat.left_le_or 32768 (n % 8192)
      omega
    have : ((32768 ||| n % 8192 : Nat) : Int) ≠ 0 := by omega
    simp only [a2, decide_false, Bool.false_and, Bool.not_false, bne_iff_ne, ne_eq]
    exact this
end Go.Proofs.YtebeekjcepjcnaaDoor
