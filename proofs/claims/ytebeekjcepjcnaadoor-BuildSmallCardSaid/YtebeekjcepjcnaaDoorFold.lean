/-
  The checksum two ways: folded at each step, and by remainders at the end.
-/
import Derived.Test.YtebeekjcepjcnaaDoorFix
namespace Go.Proofs.YtebeekjcepjcnaaDoor
open Go.RowKit

def foldF (s : Int) : Int := if s = 0 then 0 else 1 + (s - 1) % 65535
theorem foldF_bd {s : Int} (_h : 0 ≤ s) : 0 ≤ foldF s ∧ foldF s ≤ 65535 := by unfold foldF; split <;> omega
theorem fold1_foldF {x : Int} (h0 : 0 ≤ x) (h1 : x ≤ 131070) : fold1 x = foldF x := by unfold fold1 foldF; split <;> omega
theorem foldF_add {a b : Int} (ha : 0 ≤ a) (hb : 0 ≤ b) : foldF (foldF a + b) = foldF (a + b) := by
  unfold foldF
  split <;> split <;> split <;> omega
def sumI : List Int → Int
  | [] => 0
  | x :: l => x + sumI l
theorem sumI_append (a b : List Int) : sumI (a ++ b) = sumI a + sumI b := by
  induction a with
  | nil => simp [sumI]
  | cons x a ih => simp only [List.cons_append, sumI, ih]; omega
theorem sumI_nonneg {l : List Int} (h : U16s l) : 0 ≤ sumI l := by
  induction l with
  | nil => simp [sumI]
  | cons x l ih =>
    have h1 := h x (by simp)
    have h2 := ih fun y hy => h y (by simp [hy])
    simp only [sumI]; omega
theorem foldl_fold1 (l : List Int) (h : U16s l) : ∀ s, 0 ≤ s → l.foldl (fun s w => fold1 (s + w)) (foldF s) = foldF (s + sumI l) := by
  induction l with
  | nil => intro s _; simp [sumI]
  | cons x l ih =>
    intro s hs
    have hx := h x (by simp)
    have hf := foldF_bd hs
    simp only [List.foldl_cons, sumI]
    rw [fold1_foldF (by omega) (by omega), foldF_add hs hx.1, ih (fun y hy => h y (by simp [hy])) _ (by omega)]
    congr 1; omega
theorem joinL_foldF {l : List Int} (h : U16s l) : joinL l = foldF (sumI l) := by
  have := foldl_fold1 l h 0 (Int.le_refl _)
  simpa [joinL, foldF] using this
theorem joinL_two {a b : Int} (ha : 0 ≤ a ∧ a < 65536) (hb : 0 ≤ b ∧ b < 65536) : joinL [a, b] = foldF (a + b) := by
  rw [joinL_foldF (by intro y hy; simp at hy; rcases hy with rfl | rfl <;> assumption)]
  simp [sumI]
theorem foldl_joinL (l : List Int) (h : U16s l) : ∀ s, 0 ≤ s → l.foldl (fun s w => joinL [s, w]) (foldF s) = foldF (s + sumI l) := by
  induction l with
  | nil => intro s _; simp [sumI]
  | cons x l ih =>
    intro s hs
    have hx := h x (by simp)
    have hf := foldF_bd hs
    simp only [List.foldl_cons, sumI]
    rw [joinL_two ⟨hf.1, by omega⟩ hx, foldF_add hs hx.1, ih (fun y hy => h y (by simp [hy])) _ (by omega)]
    congr 1; omega
theorem sumW_foldF {l : List Int} (h : U16s l) : sumW l = foldF (sumI l) := by
  have := foldl_joinL l h 0 (Int.le_refl _)
  simpa [sumW, foldF] using this

/-- The sum of some bytes, byte by byte. -/
def byteSum (bs : List Int) : Nat → Int
  | 0 => 0
  | k + 1 => byteSum bs k + (if k % 2 = 0 then 256 * bs.getD k 0 else bs.getD k 0)
theorem byteSum_even (bs : List Int) (k : Nat) : byteSum bs (2 * k) = sumI (wordsTo bs k) := by
  induction k with
  | zero => rfl
  | succ k ih =>
    rw [wordsTo_succ, sumI_append, show 2 * (k + 1) = 2 * k + 1 + 1 by omega]
    simp only [byteSum, ih, sumI, wordAt]
    rw [if_pos (by omega), if_neg (by omega)]
    omega
theorem byteSum_all (bs : List Int) : byteSum bs bs.length = sumI (wordsL bs) := by
  unfold wordsL nWords
  rcases Nat.mod_two_eq_zero_or_one bs.length with h | h
  · obtain ⟨k, hk⟩ : ∃ k, bs.length = 2 * k := ⟨bs.length / 2, by omega⟩
    rw [hk, byteSum_even]
    congr 2; omega
  · obtain ⟨k, hk⟩ : ∃ k, bs.length = 2 * k + 1 := ⟨bs.length / 2, by omega⟩
    rw [show (bs.length + 1) / 2 = k + 1 by omega, wordsTo_succ, sumI_append, hk]
    simp only [byteSum, byteSum_even, sumI, wordAt]
    rw [if_pos (by omega), show bs.getD (2 * k + 1) 0 = 0 by rw [List.getD_eq_getElem?_getD, List.getElem?_eq_none (by omega)]; rfl]
    omega
theorem byteSum_bd {bs : List Int} (h : Byt bs) (k : Nat) : 0 ≤ byteSum bs k ∧ byteSum bs k ≤ 65280 * (k : Int) := by
  induction k with
  | zero => simp [byteSum]
  | succ k ih =>
    have := h.at_ k
    simp only [byteSum]
    split <;> omega
theorem sumB_foldF {bs : List Int} (hb : Byt bs) : sumB bs = foldF (byteSum bs bs.length) := by
  rw [byteSum_all]
  exact sumW_foldF (U16s.words bs hb _)
theorem overB_foldF {bs : List Int} (hb : Byt bs) {p : Int} (h0 : 0 ≤ p) (h1 : p < 65536) : overB p bs = 65535 - foldF (p + sumB bs) := by
  have := sumB_bd hb
  unfold overB
  rw [joinL_two ⟨h0, h1⟩ ⟨this.1, by omega⟩]
theorem pseudoL_foldF {src dst proto len : Int} (hs0 : 0 ≤ src) (hs1 : src < 4294967296) (hd0 : 0 ≤ dst) (hd1 : dst < 4294967296) (hp0 : 0 ≤ proto) (hp1 : proto < 256) (hl0 : 0 ≤ len) (hl1 : len ≤ 65535) :
    pseudoL src dst proto len = foldF (src / 65536 + src % 65536 + dst / 65536 + dst % 65536 + proto + len) := by
  unfold pseudoL
  rw [joinL_foldF (by intro y hy; simp at hy; rcases hy with rfl | rfl | rfl | rfl | rfl | rfl <;> omega)]
  simp only [sumI]
  congr 1; omega

end Go.Proofs.YtebeekjcepjcnaaDoor
