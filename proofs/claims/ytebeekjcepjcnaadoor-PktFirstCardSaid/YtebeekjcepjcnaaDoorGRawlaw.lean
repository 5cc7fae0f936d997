/-
  A written packet with damaged bytes (plain).
-/
import Derived.Lib.MinMax
import Derived.WalkKit
import Derived.WalkSpells
import Derived.WalkLawsBesides
import Derived.WalkSmall
import Derived.Lib.Hide
import Derived.Deep.AppendLies
import Derived.Maps.AppendAt
import Derived.Laws.AppendOwnNone
import Derived.Laws.CopyOwn
import Derived.OneCell
import Derived.Test.YtebeekjcepjcnaaDoorProg
import Derived.Lib.SliceRun
import Derived.RangeFuncNested
import Derived.RangeFuncBound
import Derived.RangeFuncCalls
import Derived.RangeFuncLeaves
import Derived.Shelf.Abstract
import Derived.OwnWalkIn
import Derived.TacticsInMore
import Derived.LoopNIn
import Derived.LoopIn
import Derived.Lib.AppendZeros
import Derived.BigRegion
import Derived.ChangeAlike
import Derived.Deep.RegionLaw
import Derived.Deep.DeepCutAuto
import Derived.Orders
import Derived.RegionTactic
import Derived.Still
import Derived.Deep.MidRow
import Derived.Deep.RegionHeld3
import Derived.MapKept
import Derived.RegionIn
import Derived.Laws.StructEq
import Derived.Laws.BitsAllLaws
import Derived.Deep.CutBlock
import Derived.Test.YtebeekjcepjcnaaDoorGBase
import Derived.Test.YtebeekjcepjcnaaDoorGBits
import Derived.Test.YtebeekjcepjcnaaDoorGCsum
import Derived.Test.YtebeekjcepjcnaaDoorGSum
import Derived.Test.YtebeekjcepjcnaaDoorGFix
import Derived.Test.YtebeekjcepjcnaaDoorGFacts
import Derived.Test.YtebeekjcepjcnaaDoorGPkt
import Derived.Test.YtebeekjcepjcnaaDoorGWalk
import Derived.Test.YtebeekjcepjcnaaDoorGStep
import Derived.Test.YtebeekjcepjcnaaDoorGTcpw
import Derived.Test.YtebeekjcepjcnaaDoorGUdpw
import Derived.Test.YtebeekjcepjcnaaDoorGData
import Derived.Test.YtebeekjcepjcnaaDoorGIprd
import Derived.Test.YtebeekjcepjcnaaDoorGFold
import Derived.Test.YtebeekjcepjcnaaDoorGFresh
import Derived.Test.YtebeekjcepjcnaaDoorGIpre
import Derived.Test.YtebeekjcepjcnaaDoorGIpread
import Derived.Test.YtebeekjcepjcnaaDoorGOptsa
import Derived.Test.YtebeekjcepjcnaaDoorGOptsb
import Derived.Test.YtebeekjcepjcnaaDoorGOptsc
import Derived.Test.YtebeekjcepjcnaaDoorGOptsd
import Derived.Test.YtebeekjcepjcnaaDoorGTcprd
import Derived.Test.YtebeekjcepjcnaaDoorGEq
import Derived.Test.YtebeekjcepjcnaaDoorGMade8
import Derived.Test.YtebeekjcepjcnaaDoorGIpback
import Derived.Test.YtebeekjcepjcnaaDoorGMade6p
import Derived.Test.YtebeekjcepjcnaaDoorGOptw
import Derived.Test.YtebeekjcepjcnaaDoorGMade10
import Derived.Test.YtebeekjcepjcnaaDoorGMade9
import Derived.Test.YtebeekjcepjcnaaDoorGPright
import Derived.Test.YtebeekjcepjcnaaDoorGBuilt
import Derived.Test.YtebeekjcepjcnaaDoorGUdprd
import Derived.Test.YtebeekjcepjcnaaDoorGIcmprd
import Derived.Test.YtebeekjcepjcnaaDoorGContt
import Derived.Test.YtebeekjcepjcnaaDoorGMade11p
import Derived.Test.YtebeekjcepjcnaaDoorGM11law
import Derived.Test.YtebeekjcepjcnaaDoorGFirstlaw
namespace Go.Proofs.YtebeekjcepjcnaaDoor
open Go.RowKit
theorem firstB_hit (t : Nat → Bool) : ∀ n k j, j < n → (∀ i, i < j → t (k + i) = false) → t (k + j) = true → firstB t k n = j
  | 0, _, _, h, _, _ => absurd h (by omega)
  | n + 1, k, 0, _, _, h => by
    unfold firstB
    rw [Nat.add_zero] at h
    rw [if_pos h]
  | n + 1, k, j + 1, hj, h1, h2 => by
    unfold firstB
    have h0 := h1 0 (by omega)
    rw [Nat.add_zero] at h0
    rw [if_neg (by rw [h0]; decide), firstB_hit t n (k + 1) j (by omega) (fun i hi => by have := h1 (i + 1) (by omega); rwa [show k + (i + 1) = k + 1 + i by omega] at this) (by rwa [show k + (j + 1) = k + 1 + j by omega] at h2)]
theorem ipE_at {b : List Int} (j : Nat) (hj : j < 7) (h1 : ∀ i, i < j → ipT b i = false) (h2 : ipT b j = true) : ipE b = 50 + j := by
  have e : ipN b = j := firstB_hit (ipT b) 7 0 j hj (fun i hi => by rw [Nat.zero_add]; exact h1 i hi) (by rw [Nat.zero_add]; exact h2)
  unfold ipE
  rw [if_pos (by omega), e]
theorem raw_bad {b : List Int} {j : Nat} (hj : j < 7) (h1 : ∀ i, i < j → ipT b i = false) (h2 : ipT b j = true) : pktR b = (j : Int) + 1 ∧ pktF b = Facts.zero := by
  have e := ipE_at j hj h1 h2
  have hr : pktR b = (j : Int) + 1 := by
    unfold pktR
    rw [e, if_pos (by omega)]
    unfold reasonOf
    rw [if_pos (by omega)]
    omega
  refine ⟨hr, ?_⟩
  unfold pktF
  rw [if_neg (by omega)]
theorem raw1 {b : List Int} {m : Nat} (hm : m < 20) : pktR (b.take m) = 1 ∧ pktF (b.take m) = Facts.zero :=
  raw_bad (j := 0) (by omega) (fun i hi => absurd hi (by omega)) (by show decide ((b.take m).length < 20) = true; rw [List.length_take]; exact decide_eq_true (by omega))
theorem raw2 {b : List Int} (hl : 20 ≤ b.length) {v : Int} (hv : v / 16 ≠ 4) : pktR (b.set 0 v) = 2 ∧ pktF (b.set 0 v) = Facts.zero :=
  raw_bad (j := 1) (by omega) (fun i hi => by
    obtain rfl : i = 0 := by omega
    show decide ((b.set 0 v).length < 20) = false
    rw [List.length_set]
    exact decide_eq_false (by omega)) (by
    show ((b.set 0 v).getD 0 0 / 16 != 4) = true
    rw [getD_set_eq _ _ _ (by omega)]
    simpa using hv)
theorem raw3 {b : List Int} (hl : 20 ≤ b.length) {q : Nat} (hq : q < 5) : pktR (b.set 0 (64 + (q : Int))) = 3 ∧ pktF (b.set 0 (64 + (q : Int))) = Facts.zero := by
  have hz : ipSize (b.set 0 (64 + (q : Int))) = 4 * q := by
    unfold ipSize
    rw [getD_set_eq _ _ _ (by omega)]
    omega
  refine raw_bad (j := 2) (by omega) (fun i hi => ?_) ?_
  · rcases (show i = 0 ∨ i = 1 by omega) with rfl | rfl
    · show decide ((b.set 0 (64 + (q : Int))).length < 20) = false
      rw [List.length_set]
      exact decide_eq_false (by omega)
    · show ((b.set 0 (64 + (q : Int))).getD 0 0 / 16 != 4) = false
      rw [getD_set_eq _ _ _ (by omega)]
      simp
      omega
  · show (decide (ipSize _ < 20) || _) = true
    rw [hz, decide_eq_true (p := 4 * q < 20) (by omega)]
    rfl
/-- The first three tests pass, if the first byte is kept. -/
theorem raw_low {h : IpH} {n : Nat} {b c : List Int} (k : IpBack h n b) (hl : 20 + h.opts.length ≤ b.length) (hc : c.length = b.length) (h0 : c.getD 0 0 = b.getD 0 0) : ipSize c = 20 + h.opts.length ∧ ∀ i, i < 3 → ipT c i = false := by
  have hz : ipSize c = 20 + h.opts.length := by
    rw [← k.size]
    unfold ipSize
    rw [h0]
  refine ⟨hz, fun i hi => ?_⟩
  rcases (show i = 0 ∨ i = 1 ∨ i = 2 by omega) with rfl | rfl | rfl
  · show decide (c.length < 20) = false
    exact decide_eq_false (by omega)
  · show (c.getD 0 0 / 16 != 4) = false
    rw [h0, k.ver]
    rfl
  · show (decide (ipSize c < 20) || decide (c.length < ipSize c)) = false
    rw [hz, decide_eq_false (p := 20 + h.opts.length < 20) (by omega), decide_eq_false (p := c.length < 20 + h.opts.length) (by omega)]
    rfl
theorem raw4 {h : IpH} {n : Nat} {b : List Int} (k : IpBack h n b) (hl : 20 + h.opts.length ≤ b.length) {x : Nat} (hx : x < 20 + h.opts.length) : pktR ((b.set 2 0).set 3 (x : Int)) = 4 ∧ pktF ((b.set 2 0).set 3 (x : Int)) = Facts.zero := by
  obtain ⟨hz, hlow⟩ := raw_low (c := (b.set 2 0).set 3 (x : Int)) k hl (by rw [List.length_set, List.length_set]) (by rw [getD_set_ne _ _ _ _ (by omega), getD_set_ne _ _ _ _ (by omega)])
  have ht : ipTotal ((b.set 2 0).set 3 (x : Int)) = x := by
    unfold ipTotal w16At
    rw [getD_set_ne _ _ _ _ (by omega), getD_set_eq _ _ _ (by omega), getD_set_eq _ _ _ (by rw [List.length_set]; omega)]
    omega
  refine raw_bad (j := 3) (by omega) hlow ?_
  show (decide (ipTotal _ < ipSize _) || _) = true
  rw [hz, ht, decide_eq_true (p := x < 20 + h.opts.length) hx]
  rfl
/-- One byte of the checksum is another one. -/
theorem ofB_moved {a b : List Int} (ha : Byt a) (hb : Byt b) (hl : a.length = b.length) (h12 : 12 ≤ b.length) (h0 : ofB b = 0) {p : Nat} (hp : p = 10 ∨ p = 11) (h1 : ∀ i, i ≠ p → a.getD i 0 = b.getD i 0) (h2 : a.getD p 0 ≠ b.getD p 0) : ofB a ≠ 0 := by
  obtain ⟨c, hc⟩ : ∃ c, 256 * a.getD 10 0 + a.getD 11 0 = 256 * b.getD 10 0 + b.getD 11 0 + c := ⟨256 * a.getD 10 0 + a.getD 11 0 - (256 * b.getD 10 0 + b.getD 11 0), by omega⟩
  have q := byteSum_word a b 10 c (by decide) (fun i i1 i2 => h1 i (by omega)) hc (b.length - 12)
  rw [show 10 + 2 + (b.length - 12) = b.length by omega] at q
  have a10 := ha.at_ 10
  have a11 := ha.at_ 11
  have b10 := hb.at_ 10
  have b11 := hb.at_ 11
  have hc0 : c ≠ 0 ∧ -65535 < c ∧ c < 65535 := by
    rcases hp with rfl | rfl
    · have := h1 11 (by omega)
      omega
    · have := h1 10 (by omega)
      omega
  have eb : ofB b = 65535 - foldF (byteSum b b.length) := by unfold ofB; rw [sumB_foldF hb]
  have ea : ofB a = 65535 - foldF (byteSum a a.length) := by unfold ofB; rw [sumB_foldF ha]
  have bd := (byteSum_bd hb b.length).1
  have ad := (byteSum_bd ha a.length).1
  rw [hl, q] at ea ad
  rw [ea]
  rw [h0] at eb
  generalize byteSum b b.length = S at *
  unfold foldF at *
  split at eb <;> split <;> omega
/-- The fourth test passes, if the length is kept. -/
theorem raw_total {h : IpH} {n : Nat} {b c : List Int} (k : IpBack h n b) (hl : 20 + h.opts.length + n ≤ b.length) (hc : c.length = b.length) (hz : ipSize c = 20 + h.opts.length) (h2 : c.getD 2 0 = b.getD 2 0) (h3 : c.getD 3 0 = b.getD 3 0) : ipT c 3 = false := by
  have ht : ipTotal c = 20 + h.opts.length + n := by
    rw [← k.total]
    unfold ipTotal w16At
    rw [h2, h3]
  show (decide (ipTotal c < ipSize c) || decide (c.length < ipTotal c)) = false
  rw [hz, ht, decide_eq_false (p := 20 + h.opts.length + n < 20 + h.opts.length) (by omega), decide_eq_false (p := c.length < 20 + h.opts.length + n) (by omega)]
  rfl
theorem raw5 {h : IpH} {n : Nat} {b : List Int} (k : IpBack h n b) (hB : Byt b) (hl : 20 + h.opts.length + n ≤ b.length) {p : Nat} (hp : p = 10 ∨ p = 11) {v : Int} (v0 : 0 ≤ v) (v1 : v < 256) (hv : v ≠ b.getD p 0) : pktR (b.set p v) = 5 ∧ pktF (b.set p v) = Facts.zero := by
  obtain ⟨hz, hlow⟩ := raw_low (c := b.set p v) k (by omega) (by rw [List.length_set]) (getD_set_ne _ _ _ _ (by omega))
  have h3 := raw_total (c := b.set p v) k hl (by rw [List.length_set]) hz (getD_set_ne _ _ _ _ (by omega)) (getD_set_ne _ _ _ _ (by omega))
  have hb2 : Byt (b.set p v) := hB.set p v0 v1
  have hm : ofB ((b.set p v).take (20 + h.opts.length)) ≠ 0 := by
    refine ofB_moved (b := b.take (20 + h.opts.length)) (p := p) (hb2.take _) (hB.take _) (by simp) (by rw [List.length_take]; omega) k.sum hp (fun i hi => ?_) ?_
    · by_cases hi2 : i < 20 + h.opts.length
      · rw [getD_take hi2, getD_take hi2, getD_set_ne _ _ _ _ (fun e => hi e.symm)]
      · rw [List.getD_eq_getElem?_getD, List.getElem?_eq_none (by rw [List.length_take]; omega), List.getD_eq_getElem?_getD, List.getElem?_eq_none (by rw [List.length_take]; omega)]
    · rw [getD_take (by omega), getD_take (by omega), getD_set_eq _ _ _ (by omega)]
      exact hv
  refine raw_bad (j := 4) (by omega) (fun i hi => ?_) ?_
  · by_cases hi3 : i < 3
    · exact hlow i hi3
    · obtain rfl : i = 3 := by omega
      exact h3
  · show (!(ofB ((b.set p v).take (ipSize (b.set p v))) == 0)) = true
    rw [hz]
    simp only [Bool.not_eq_true', beq_eq_false_iff_ne, ne_eq]
    exact hm
theorem getD_fixL (bs : List Int) (k i : Nat) (h1 : i ≠ k) (h2 : i ≠ k + 1) : (fixL bs k).getD i 0 = bs.getD i 0 := by
  unfold fixL putSum zeroAt
  rw [getD_set_ne _ _ _ _ (by omega), getD_set_ne _ _ _ _ (by omega), getD_set_ne _ _ _ _ (by omega), getD_set_ne _ _ _ _ (by omega)]
/-- The reserved bit, the checksum mended. -/
theorem raw6 {h : IpH} {n : Nat} {b : List Int} (k : IpBack h n b) (hB : Byt b) (hl : 20 + h.opts.length + n ≤ b.length) {v : Int} (v0 : 128 ≤ v) (v1 : v < 256) {c : List Int} (hc : c = fixL ((b.set 6 v).take (20 + h.opts.length)) 10 ++ (b.set 6 v).drop (20 + h.opts.length)) : Byt c ∧ c.length = b.length ∧ pktR c = 6 ∧ pktF c = Facts.zero := by
  have hb2 : Byt (b.set 6 v) := hB.set 6 (by omega) v1
  have hl1 : (fixL ((b.set 6 v).take (20 + h.opts.length)) 10).length = 20 + h.opts.length := by rw [fixL_len, List.length_take, List.length_set]; omega
  have hcl : c.length = b.length := by rw [hc, List.length_append, hl1, List.length_drop, List.length_set]; omega
  have hg : ∀ i, i < 20 → i ≠ 10 → i ≠ 11 → c.getD i 0 = (b.set 6 v).getD i 0 := fun i hi h1 h2 => by
    rw [hc, List.getD_eq_getElem?_getD, List.getElem?_append_left (by omega), ← List.getD_eq_getElem?_getD, getD_fixL _ _ _ h1 h2, getD_take (by omega)]
  obtain ⟨hz, hlow⟩ := raw_low (c := c) k (by omega) hcl ((hg 0 (by omega) (by omega) (by omega)).trans (getD_set_ne _ _ _ _ (by omega)))
  have h3 := raw_total (c := c) k hl hcl hz ((hg 2 (by omega) (by omega) (by omega)).trans (getD_set_ne _ _ _ _ (by omega))) ((hg 3 (by omega) (by omega) (by omega)).trans (getD_set_ne _ _ _ _ (by omega)))
  have h4 : ofB (c.take (20 + h.opts.length)) = 0 := by
    rw [hc, List.take_left' hl1]
    exact ofB_fixL _ 10 (hb2.take _) (by decide) (by rw [List.length_take, List.length_set]; omega)
  have hw : 32768 ≤ w16At c 6 := by
    have e7 := (hg 7 (by omega) (by omega) (by omega)).trans (getD_set_ne b 6 7 v (by omega))
    have b7 := hB.at_ 7
    unfold w16At
    rw [hg 6 (by omega) (by omega) (by omega), getD_set_eq _ _ _ (by omega), e7]
    omega
  refine ⟨by rw [hc]; exact (fixL_byt (hb2.take _) 10).append (hb2.drop _), hcl, ?_⟩
  refine raw_bad (j := 5) (by omega) (fun i hi => ?_) (by show decide (32768 ≤ w16At c 6) = true; exact decide_eq_true hw)
  by_cases hi3 : i < 3
  · exact hlow i hi3
  · rcases (show i = 3 ∨ i = 4 by omega) with rfl | rfl
    · exact h3
    · show (!(ofB (c.take (ipSize c)) == 0)) = false
      rw [hz, h4]
      rfl
end Go.Proofs.YtebeekjcepjcnaaDoor
