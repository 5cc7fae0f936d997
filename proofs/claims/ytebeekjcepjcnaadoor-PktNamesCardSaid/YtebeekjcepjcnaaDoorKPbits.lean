/-
  Facts on bits at the numbers by which packets are read.
-/
import Derived.WalkKit
import Derived.WalkSpells
import Derived.WalkLawsBesides
import Derived.WalkSmall
import Derived.Lib.Hide
import Derived.Deep.AppendLies
import Derived.Maps.AppendAt
import Derived.Laws.AppendOwnNone
import Derived.Laws.CopyOwn
import Derived.OneCell
import Derived.Test.YtebeekjcepjcnaaDoorKBase
import Derived.Test.YtebeekjcepjcnaaDoorKSum
namespace Go.Proofs.YtebeekjcepjcnaaDoor
open Go.RowKit
theorem or_i64_word (a b : Int) (a0 : 0 ≤ a) (a1 : a < 256) (b0 : 0 ≤ b) (b1 : b < 256) : bits .or .i64 (a * 256) b = 256 * a + b := by
  rw [bits_join .i64 62 (by decide) wraps_i64_8 8 (a * 256) b (by omega) (by omega) (by omega) b0 (by omega) (by omega)]; omega
theorem or_u32_long (a b : Int) (a0 : 0 ≤ a) (a1 : a < 65536) (b0 : 0 ≤ b) (b1 : b < 65536) : bits .or .u32 (a * 65536) b = 65536 * a + b := by
  rw [bits_join .u32 32 (by decide) wraps_u32_32 16 (a * 65536) b (by omega) (by omega) (by omega) b0 (by omega) (by omega)]; omega
theorem and_nat_i64 (x m : Nat) (hx : x < 65536) (hm : m < 65536) : bits .and .i64 (x : Int) (m : Int) = ((x &&& m : Nat) : Int) :=
  (bits_nat .i64 62 (by decide) wraps_i64_8 x m (by omega) (by omega)).1
theorem and_bit (x i : Nat) : x &&& 2 ^ i = 2 ^ i * (x / 2 ^ i % 2) := by
  apply Nat.eq_of_testBit_eq
  intro j
  rw [Nat.testBit_and, Nat.testBit_two_pow]
  by_cases h : i = j
  · subst h
    rw [Nat.testBit_two_pow_mul]
    simp [Nat.testBit_eq_decide_div_mod_eq]
  · rw [Nat.testBit_two_pow_mul]
    have : decide (i = j) = false := by simpa using h
    rw [this, Bool.and_false]
    by_cases hj : j ≥ i
    · have h2 : 0 < j - i := by omega
      have : (x / 2 ^ i % 2).testBit (j - i) = false := Nat.testBit_lt_two_pow (Nat.lt_of_lt_of_le (Nat.mod_lt _ (by decide)) (by
        have := Nat.pow_le_pow_right (n := 2) (by decide) h2
        simpa using this))
      simp [this]
    · simp [hj]
theorem and_i64_32768 (x : Int) (h0 : 0 ≤ x) (h1 : x < 65536) : (bits .and .i64 x 32768 != 0) = decide (32768 ≤ x) := by
  obtain ⟨n, rfl⟩ : ∃ n : Nat, x = n := ⟨x.toNat, by omega⟩
  have e := and_nat_i64 n 32768 (by omega) (by omega)
  have e2 : (n &&& 32768) = 32768 * (n / 32768 % 2) := and_bit n 15
  rw [e2, show ((32768 : Nat) : Int) = 32768 from rfl] at e
  rw [e]
  rcases (show n / 32768 % 2 = 0 ∨ n / 32768 % 2 = 1 by omega) with h | h
  · rw [h]
    have : ¬ (32768 ≤ (n : Int)) := by omega
    simp [this]
  · rw [h]
    have : 32768 ≤ (n : Int) := by omega
    simp [this]
theorem and_i64_16384 (x : Int) (h0 : 0 ≤ x) (h1 : x < 65536) : (bits .and .i64 x 16384 != 0) = (x / 16384 % 2 == 1) := by
  obtain ⟨n, rfl⟩ : ∃ n : Nat, x = n := ⟨x.toNat, by omega⟩
  have e := and_nat_i64 n 16384 (by omega) (by omega)
  have e2 : (n &&& 16384) = 16384 * (n / 16384 % 2) := and_bit n 14
  rw [e2, show ((16384 : Nat) : Int) = 16384 from rfl] at e
  rw [e]
  rcases (show n / 16384 % 2 = 0 ∨ n / 16384 % 2 = 1 by omega) with h | h
  · rw [h]
    have : (n : Int) / 16384 % 2 = 0 := by omega
    rw [this]; rfl
  · rw [h]
    have : (n : Int) / 16384 % 2 = 1 := by omega
    rw [this]; rfl
theorem and_i64_8192 (x : Int) (h0 : 0 ≤ x) (h1 : x < 65536) : (bits .and .i64 x 8192 != 0) = (x / 8192 % 2 == 1) := by
  obtain ⟨n, rfl⟩ : ∃ n : Nat, x = n := ⟨x.toNat, by omega⟩
  have e := and_nat_i64 n 8192 (by omega) (by omega)
  have e2 : (n &&& 8192) = 8192 * (n / 8192 % 2) := and_bit n 13
  rw [e2, show ((8192 : Nat) : Int) = 8192 from rfl] at e
  rw [e]
  rcases (show n / 8192 % 2 = 0 ∨ n / 8192 % 2 = 1 by omega) with h | h
  · rw [h]
    have : (n : Int) / 8192 % 2 = 0 := by omega
    rw [this]; rfl
  · rw [h]
    have : (n : Int) / 8192 % 2 = 1 := by omega
    rw [this]; rfl
theorem and_i64_8191 (x : Int) (h0 : 0 ≤ x) (h1 : x < 65536) : bits .and .i64 x 8191 = x % 8192 := by
  obtain ⟨n, rfl⟩ := Int.eq_ofNat_of_zero_le h0
  have := and_nat_i64 n 8191 (by omega) (by omega)
  rw [show ((8191 : Nat) : Int) = 8191 from rfl] at this
  rw [this]
  have : (n &&& 8191) = n % 8192 := Nat.and_two_pow_sub_one_eq_mod n 13
  rw [this]; omega
theorem and_u8_15 (x : Int) (h0 : 0 ≤ x) (h1 : x < 256) : bits .and .u8 x 15 = x % 16 := by
  rw [u8_and x 15 h0 h1 (by decide) (by decide)]
  have : (x.toNat &&& (15 : Int).toNat) = x.toNat % 16 := Nat.and_two_pow_sub_one_eq_mod x.toNat 4
  rw [this]; omega
theorem and_u8_63 (x : Int) (h0 : 0 ≤ x) (h1 : x < 256) : bits .and .u8 x 63 = x % 64 := by
  rw [u8_and x 63 h0 h1 (by decide) (by decide)]
  have : (x.toNat &&& (63 : Int).toNat) = x.toNat % 64 := Nat.and_two_pow_sub_one_eq_mod x.toNat 6
  rw [this]; omega
theorem andNot_u16_24576 (x : Int) (h0 : 0 ≤ x) (h1 : x < 65536) : (bits .andNot .u16 x 24576 != 0) = !(decide (x < 32768) && x % 8192 == 0) := by
  obtain ⟨n, rfl⟩ : ∃ n : Nat, x = n := ⟨x.toNat, by omega⟩
  have e := u16_andNot_nat n 24576 (by omega) (by omega)
  rw [show ((24576 : Nat) : Int) = 24576 from rfl] at e
  rw [e, show 65535 - 24576 = 32768 ||| 8191 from rfl, Nat.and_or_distrib_left]
  have e1 : (n &&& 8191) = n % 8192 := Nat.and_two_pow_sub_one_eq_mod n 13
  have e2 : (n &&& 32768) = 32768 * (n / 32768 % 2) := and_bit n 15
  rw [e1, e2]
  by_cases a : n < 32768
  · have a1 : n / 32768 % 2 = 0 := by omega
    rw [a1, Nat.mul_zero, Nat.zero_or]
    have a2 : ((n : Int) < 32768) := by omega
    by_cases b : n % 8192 = 0
    · have b2 : (n : Int) % 8192 = 0 := by omega
      simp [b, a2, b2]
    · have b2 : ¬ (n : Int) % 8192 = 0 := by omega
      have c1 : ((n % 8192 : Nat) : Int) = (n : Int) % 8192 := by omega
      rw [c1, show ((n : Int) % 8192 != 0) = true by simpa using b2, show ((n : Int) % 8192 == 0) = false by simpa using b2, Bool.and_false]; rfl
  · have a2 : ¬ ((n : Int) < 32768) := by omega
    have a1 : n / 32768 % 2 = 1 := by omega
    rw [a1, Nat.mul_one]
    have hne : (32768 ||| n % 8192) ≠ 0 := by
      have := @Nat.left_le_or 32768 (n % 8192)
      omega
    have : ((32768 ||| n % 8192 : Nat) : Int) ≠ 0 := by omega
    simp only [a2, decide_false, Bool.false_and, Bool.not_false, bne_iff_ne, ne_eq]
    exact this
end Go.Proofs.YtebeekjcepjcnaaDoor
