/-
  The options of some bytes, step by step, by an index: plain.
-/
import Derived.Test.YtebeekjcepjcnaaDoorProg
import Derived.WalkKit
import Derived.WalkSpells
import Derived.WalkLawsBesides
import Derived.WalkSmall
import Derived.Lib.Hide
import Derived.Deep.AppendLies
import Derived.Maps.AppendAt
import Derived.Laws.AppendOwnNone
import Derived.Laws.CopyOwn
import Derived.OneCell
import Derived.Lib.SliceRun
import Derived.RangeFuncNested
import Derived.RangeFuncBound
import Derived.RangeFuncCalls
import Derived.RangeFuncLeaves
import Derived.Shelf.Abstract
import Derived.OwnWalkIn
import Derived.TacticsInMore
import Derived.LoopNIn
import Derived.LoopIn
import Derived.Lib.AppendZeros
import Derived.BigRegion
import Derived.ChangeAlike
import Derived.Deep.RegionLaw
import Derived.Deep.DeepCutAuto
import Derived.Test.YtebeekjcepjcnaaDoorSBase
import Derived.Test.YtebeekjcepjcnaaDoorSMem
import Derived.Test.YtebeekjcepjcnaaDoorSCsum
import Derived.Test.YtebeekjcepjcnaaDoorSSum
import Derived.Test.YtebeekjcepjcnaaDoorSStepb
import Derived.Test.YtebeekjcepjcnaaDoorSConcat
import Derived.Test.YtebeekjcepjcnaaDoorSPkt
namespace Go.Proofs.YtebeekjcepjcnaaDoor
open Go.RowKit
/-- Does one of some kinds exclude a kind? -/
def exclB (ks : List Int) (k : Int) : Bool := decide (0 < optGroup k) && ks.any fun x => optGroup x == optGroup k
theorem optsR_ok (k : Int) (l : List (Int × Int)) (acc : List Int) : optsR ((k, 0) :: l) acc = if exclB acc k = true then ([], 63) else optsR l (acc ++ [k]) := by
  rw [optsR, if_neg (by decide)]
  unfold exclB
  by_cases h : 0 < optGroup k ∧ (acc.any fun x => optGroup x == optGroup k) = true
  · rw [if_pos h, if_pos (by simp [h.1, h.2])]
  · rw [if_neg h, if_neg (by simpa using h)]
theorem optsR_bad (k e : Int) (h : e ≠ 0) (l : List (Int × Int)) (acc : List Int) : optsR ((k, e) :: l) acc = ([], e) := by
  rw [optsR, if_pos h]
section
variable {xs : List Int} {i n m : Nat} {ks : List Int}
theorem drop_get (xs : List Int) (i j : Nat) : (xs.drop i).getD j 0 = xs.getD (i + j) 0 := by
  simp [List.getD_eq_getElem?_getD]
theorem ro_end (hn : xs.length = n) (h : n ≤ i) : optsR (optsY m (xs.drop i)) ks = (ks, 0) := by
  have h0 : (xs.drop i).length = 0 := by rw [List.length_drop]; omega
  rcases m with _ | m
  · rfl
  · rw [optsY, if_pos h0]; rfl
theorem ro_zero (hn : xs.length = n) (h : i < n) (h0 : xs.getD i 0 = 0) : optsR (optsY (m + 1) (xs.drop i)) ks = if (xs.drop i).any (fun x => decide (0 < x)) = true then ([], 62) else (ks, 0) := by
  have h1 : ¬ (xs.drop i).length = 0 := by rw [List.length_drop]; omega
  rw [optsY, if_neg h1, drop_get, Nat.add_zero, if_pos h0]
  split
  · exact optsR_bad 0 62 (by decide) _ _
  · rfl
theorem ro_one (hn : xs.length = n) (h : i < n) (h0 : xs.getD i 0 = 1) : optsR (optsY (m + 1) (xs.drop i)) ks = optsR (optsY m (xs.drop (i + 1))) (ks ++ [1]) := by
  have h1 : ¬ (xs.drop i).length = 0 := by rw [List.length_drop]; omega
  rw [optsY, if_neg h1, drop_get, Nat.add_zero, if_neg (by omega), if_pos h0, optsR_ok, if_neg (by simp [exclB, optGroup]), List.drop_drop]
theorem ro_cut (hn : xs.length = n) (_h : i < n) (h0 : xs.getD i 0 ≠ 0) (h1 : xs.getD i 0 ≠ 1) (he : i + 1 = n) : optsR (optsY (m + 1) (xs.drop i)) ks = ([], 60) := by
  have hd : (xs.drop i).length = 1 := by rw [List.length_drop]; omega
  rw [optsY, if_neg (by omega), drop_get, Nat.add_zero, if_neg h0, if_neg h1, if_pos (by omega)]
  exact optsR_bad 0 60 (by decide) _ _
theorem ro_small (hn : xs.length = n) (h : i + 1 < n) (h0 : xs.getD i 0 ≠ 0) (h1 : xs.getD i 0 ≠ 1) (he : xs.getD (i + 1) 0 < 2) : optsR (optsY (m + 1) (xs.drop i)) ks = ([], 61) := by
  have hd : (xs.drop i).length = n - i := by rw [List.length_drop]; omega
  rw [optsY, if_neg (by omega), drop_get, drop_get, Nat.add_zero, if_neg h0, if_neg h1, if_neg (by omega), if_pos he]
  exact optsR_bad 0 61 (by decide) _ _
theorem ro_long (hn : xs.length = n) (h : i + 1 < n) (h0 : xs.getD i 0 ≠ 0) (h1 : xs.getD i 0 ≠ 1) (he : ¬ xs.getD (i + 1) 0 < 2) (hl : (n : Int) < i + xs.getD (i + 1) 0) : optsR (optsY (m + 1) (xs.drop i)) ks = ([], 60) := by
  have hd : (xs.drop i).length = n - i := by rw [List.length_drop]; omega
  rw [optsY, if_neg (by omega), drop_get, drop_get, Nat.add_zero, if_neg h0, if_neg h1, if_neg (by omega), if_neg he, if_pos (by omega)]
  exact optsR_bad 0 60 (by decide) _ _
theorem ro_opt (hn : xs.length = n) (h : i + 1 < n) (h0 : xs.getD i 0 ≠ 0) (h1 : xs.getD i 0 ≠ 1) (he : ¬ xs.getD (i + 1) 0 < 2) (hl : ¬ (n : Int) < i + xs.getD (i + 1) 0) :
    optsR (optsY (m + 1) (xs.drop i)) ks = if optRight (xs.getD i 0) (((xs.drop i).take (xs.getD (i + 1) 0).toNat).drop 2) = true then (if exclB ks (xs.getD i 0) = true then ([], 63) else optsR (optsY m (xs.drop (i + (xs.getD (i + 1) 0).toNat))) (ks ++ [xs.getD i 0])) else ([], 61) := by
  have hd : (xs.drop i).length = n - i := by rw [List.length_drop]; omega
  rw [optsY, if_neg (by omega), drop_get, drop_get, Nat.add_zero, if_neg h0, if_neg h1, if_neg (by omega), if_neg he, if_neg (by omega)]
  split
  · rw [optsR_ok, List.drop_drop]
  · exact optsR_bad _ 61 (by decide) _ _
end
/-- Two kinds exclude one another. -/
def exclI (a k : Int) : Bool := if a = 7 ∨ a = 68 then a == k else (a == 131 || a == 137) && (k == 131 || k == 137)
theorem exclI_group (a k : Int) : exclI a k = (decide (0 < optGroup k) && (optGroup a == optGroup k)) := by
  unfold exclI optGroup
  by_cases a7 : a = 7
  · subst a7
    by_cases k7 : k = 7
    · subst k7; decide
    · have : ¬ (7 : Int) = k := fun h => k7 h.symm
      rw [if_pos (.inl rfl), show ((7 : Int) == k) = false by simpa using this]
      rw [if_neg k7]
      split
      · rfl
      · split
        · rfl
        · split <;> rfl
  by_cases a68 : a = 68
  · subst a68
    by_cases k68 : k = 68
    · subst k68; decide
    · have : ¬ (68 : Int) = k := fun h => k68 h.symm
      rw [if_pos (.inr rfl), show ((68 : Int) == k) = false by simpa using this]
      rw [if_neg k68]
      split
      · rfl
      · split
        · rfl
        · split <;> rfl
  rw [if_neg (by omega)]
  by_cases k7 : k = 7
  · subst k7
    rw [if_neg a7, if_neg a68]
    by_cases a131 : a = 131
    · subst a131; decide
    by_cases a137 : a = 137
    · subst a137; decide
    rw [if_neg a131, if_neg a137]
    simp
  by_cases k68 : k = 68
  · subst k68
    rw [if_neg a7, if_neg a68]
    by_cases a131 : a = 131
    · subst a131; decide
    by_cases a137 : a = 137
    · subst a137; decide
    rw [if_neg a131, if_neg a137]
    simp
  rw [if_neg a7, if_neg a68, if_neg k7, if_neg k68]
  by_cases k131 : k = 131
  · subst k131
    by_cases a131 : a = 131
    · subst a131; decide
    by_cases a137 : a = 137
    · subst a137; decide
    simp [a131, a137]
  by_cases k137 : k = 137
  · subst k137
    by_cases a131 : a = 131
    · subst a131; decide
    by_cases a137 : a = 137
    · subst a137; decide
    simp [a131, a137]
  simp [k131, k137]
theorem exclB_any (ks : List Int) (k : Int) : exclB ks k = ks.any fun a => exclI a k := by
  unfold exclB
  induction ks with
  | nil => simp
  | cons a l ih =>
    rw [List.any_cons, List.any_cons, ← ih, exclI_group, Bool.and_or_distrib_left]
/-- A byte is a pointer that begins at a number, to one of some entries of a size. -/
def pointB (p from_ : Int) (many : Nat) (size : Int) : Bool := (List.range (many + 1)).any fun k => p == from_ + k * size
theorem pointB_iff (p from_ size : Int) (many : Nat) (hs : 0 < size) : pointB p from_ many size = (decide (from_ ≤ p) && ((p - from_) % size == 0) && decide (p ≤ from_ + many * size)) := by
  rw [Bool.eq_iff_iff]
  simp only [pointB, List.any_eq_true, List.mem_range, beq_iff_eq, Bool.and_eq_true, decide_eq_true_eq]
  constructor
  · rintro ⟨k, hk, rfl⟩
    have h1 : (k : Int) * size ≤ many * size := Int.mul_le_mul_of_nonneg_right (by omega) (by omega)
    have h2 : 0 ≤ (k : Int) * size := Int.mul_nonneg (by omega) (by omega)
    refine ⟨⟨by omega, ?_⟩, by omega⟩
    rw [show from_ + (k : Int) * size - from_ = k * size by omega]
    exact Int.mul_emod_left _ _
  · rintro ⟨⟨h1, h2⟩, h3⟩
    have hq := Int.mul_ediv_add_emod (p - from_) size
    rw [h2, Int.add_zero, Int.mul_comm] at hq
    have q0 : 0 ≤ (p - from_) / size := Int.ediv_nonneg (by omega) (by omega)
    refine ⟨((p - from_) / size).toNat, ?_, ?_⟩
    · have h4 : (p - from_) / size * size ≤ many * size := by omega
      have h5 := Int.le_of_mul_le_mul_right h4 hs
      omega
    · rw [Int.toNat_of_nonneg q0]; omega
end Go.Proofs.YtebeekjcepjcnaaDoor
