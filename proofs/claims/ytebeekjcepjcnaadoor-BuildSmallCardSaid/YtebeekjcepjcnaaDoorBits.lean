/-
  Small facts on bits at the numbers that the code uses.
-/
import Derived.Test.YtebeekjcepjcnaaDoorBase
namespace Go.Proofs.YtebeekjcepjcnaaDoor
open Go.RowKit
theorem wraps_i64_8 (n : Int) (h0 : 0 ≤ n) (h1 : n < 2 ^ 62) : IntKind.i64.wrap n = n := by rw [IntKind.wrap_i64]; omega
theorem wraps_u32_32 (n : Int) (h0 : 0 ≤ n) (h1 : n < 2 ^ 32) : IntKind.u32.wrap n = n := by rw [IntKind.wrap_u32]; omega
theorem or_i64_64 (y : Int) (h0 : 0 ≤ y) (h1 : y < 64) : bits .or .i64 64 y = 64 + y :=
  bits_join .i64 62 (by decide) wraps_i64_8 6 64 y (by decide) (by decide) (by decide) h0 (by omega) (by omega)
theorem or_u32_16384 (x : Int) (h0 : 0 ≤ x) (h1 : x < 8192) : bits .or .u32 x 16384 = x + 16384 := by
  obtain ⟨a, rfl⟩ := Int.eq_ofNat_of_zero_le h0
  have h := bits_join .u32 32 (by decide) wraps_u32_32 14 16384 (a : Int) (by decide) (by decide) (by decide) h0 (by omega) (by omega)
  have e1 := (bits_nat .u32 32 (by decide) wraps_u32_32 a 16384 (by omega) (by omega)).2
  have e2 := (bits_nat .u32 32 (by decide) wraps_u32_32 16384 a (by omega) (by omega)).2
  rw [Nat.or_comm] at e2
  have e3 : bits .or .u32 (a : Int) 16384 = bits .or .u32 16384 (a : Int) := e1.trans e2.symm
  rw [e3, h]; omega
theorem or_u32_8192 (x : Int) (h0 : 0 ≤ x) (h1 : x % 16384 < 8192) (h2 : x < 32768) : bits .or .u32 x 8192 = x + 8192 := by
  obtain ⟨a, rfl⟩ := Int.eq_ofNat_of_zero_le h0
  have e1 := (bits_nat .u32 32 (by decide) wraps_u32_32 a 8192 (by omega) (by omega)).2
  by_cases hx : (a : Int) < 8192
  · have h := bits_join .u32 32 (by decide) wraps_u32_32 13 8192 (a : Int) (by decide) (by decide) (by decide) h0 (by omega) (by omega)
    have e2 := (bits_nat .u32 32 (by decide) wraps_u32_32 8192 a (by omega) (by omega)).2
    rw [Nat.or_comm] at e2
    have e3 : bits .or .u32 (a : Int) 8192 = bits .or .u32 8192 (a : Int) := e1.trans e2.symm
    rw [e3, h]; omega
  · obtain ⟨b, rfl⟩ : ∃ b, a = 16384 + b := ⟨a - 16384, by omega⟩
    have hb : b < 8192 := by omega
    have e3 : (16384 + b) ||| 8192 = 16384 + 8192 + b := by
      have r1 : 16384 + b = 16384 ||| b := by
        have := Nat.two_pow_add_eq_or_of_lt (i := 14) (b := b) (by omega) 1
        simpa using this
      have r2 : 8192 + b = 8192 ||| b := by
        have := Nat.two_pow_add_eq_or_of_lt (i := 13) (b := b) (by omega) 1
        simpa using this
      have r3 : 16384 + (8192 + b) = 16384 ||| (8192 + b) := by
        have := Nat.two_pow_add_eq_or_of_lt (i := 14) (b := 8192 + b) (by omega) 1
        simpa using this
      rw [r1, Nat.add_assoc, r3, r2, Nat.or_assoc, Nat.or_comm b 8192]
    have e1' : bits .or .u32 ((16384 + b : Nat) : Int) 8192 = ((16384 + b ||| 8192 : Nat) : Int) := e1
    rw [e1', e3]; omega
end Go.Proofs.YtebeekjcepjcnaaDoor
