/-
  What ip.Write writes is read as it was (plain).
-/
import Derived.Test.YtebeekjcepjcnaaDoorProg
import Derived.WalkKit
import Derived.WalkSpells
import Derived.WalkLawsBesides
import Derived.WalkSmall
import Derived.Lib.Hide
import Derived.Deep.AppendLies
import Derived.Maps.AppendAt
import Derived.Laws.AppendOwnNone
import Derived.Laws.CopyOwn
import Derived.OneCell
import Derived.Lib.SliceRun
import Derived.RangeFuncNested
import Derived.RangeFuncBound
import Derived.RangeFuncCalls
import Derived.RangeFuncLeaves
import Derived.Shelf.Abstract
import Derived.OwnWalkIn
import Derived.TacticsInMore
import Derived.LoopNIn
import Derived.LoopIn
import Derived.Lib.AppendZeros
import Derived.BigRegion
import Derived.ChangeAlike
import Derived.Deep.RegionLaw
import Derived.Deep.DeepCutAuto
import Derived.Test.YtebeekjcepjcnaaDoorGBase
import Derived.Test.YtebeekjcepjcnaaDoorGBits
import Derived.Test.YtebeekjcepjcnaaDoorGCsum
import Derived.Test.YtebeekjcepjcnaaDoorGSum
import Derived.Test.YtebeekjcepjcnaaDoorGFix
import Derived.Test.YtebeekjcepjcnaaDoorGFacts
import Derived.Test.YtebeekjcepjcnaaDoorGPkt
import Derived.Test.YtebeekjcepjcnaaDoorGFold
namespace Go.Proofs.YtebeekjcepjcnaaDoor
open Go.RowKit
/-- The first 20 bytes, with a checksum. -/
def hd20 (h : IpH) (n : Nat) (c : Int) : List Int :=
  [64 + (20 + (h.opts.length : Int)) / 4, h.tos, (20 + h.opts.length + n : Int) / 256 % 256, (20 + h.opts.length + n : Int) % 256, h.id / 256 % 256, h.id % 256, h.word / 256 % 256, h.word % 256, h.ttl, h.proto, c / 256, c % 256,
    h.src / 256 / 256 / 256 % 256, h.src / 256 / 256 % 256, h.src / 256 % 256, h.src % 256, h.dst / 256 / 256 / 256 % 256, h.dst / 256 / 256 % 256, h.dst / 256 % 256, h.dst % 256]
theorem hd20_len (h : IpH) (n : Nat) (c : Int) : (hd20 h n c).length = 20 := rfl
theorem head1_eq (h : IpH) (n : Nat) : head1 h n = hd20 h n 0 ++ List.replicate h.opts.length 0 := by
  unfold head1 head0
  rw [show List.replicate (20 + h.opts.length) (0 : Int) = [0, 0, 0, 0, 0, 0, 0, 0, 0, 0, 0, 0, 0, 0, 0, 0, 0, 0, 0, 0] ++ List.replicate h.opts.length 0 from by rw [show ([0, 0, 0, 0, 0, 0, 0, 0, 0, 0, 0, 0, 0, 0, 0, 0, 0, 0, 0, 0] : List Int) = List.replicate 20 0 from rfl, List.replicate_append_replicate]]
  generalize List.replicate h.opts.length (0 : Int) = z
  simp only [putL, List.cons_append, List.nil_append, List.set_cons_succ, List.set_cons_zero, hd20, Nat.add_zero, Nat.reduceAdd]
  rfl
theorem headS_eq (h : IpH) (n : Nat) : splice (head1 h n) 20 h.opts = hd20 h n 0 ++ h.opts := by
  rw [head1_eq]
  unfold splice
  rw [List.take_left' (hd20_len h n 0), List.drop_eq_nil_of_le (by rw [List.length_append, hd20_len, List.length_replicate]; omega)]
  rw [List.append_nil]
theorem headL_eq (h : IpH) (n : Nat) : headL h n = hd20 h n (ofB (hd20 h n 0 ++ h.opts)) ++ h.opts := by
  unfold headL fixL
  rw [headS_eq]
  have hz : zeroAt (hd20 h n 0 ++ h.opts) 10 = hd20 h n 0 ++ h.opts := rfl
  rw [hz]
  rfl
/-- Two bytes at an even place more: the sum grows by their word. -/
theorem byteSum_eq (a b : List Int) : ∀ k, (∀ i, i < k → a.getD i 0 = b.getD i 0) → byteSum a k = byteSum b k
  | 0, _ => rfl
  | k + 1, h => by
    simp only [byteSum]
    rw [byteSum_eq a b k fun i hi => h i (by omega), h k (by omega)]
theorem byteSum_word (a b : List Int) (at_ : Nat) (c : Int) (hat : at_ % 2 = 0) (h1 : ∀ i, i ≠ at_ → i ≠ at_ + 1 → a.getD i 0 = b.getD i 0) (h2 : 256 * a.getD at_ 0 + a.getD (at_ + 1) 0 = 256 * b.getD at_ 0 + b.getD (at_ + 1) 0 + c) :
    ∀ m, byteSum a (at_ + 2 + m) = byteSum b (at_ + 2 + m) + c
  | 0 => by
    have := byteSum_eq a b at_ fun i hi => h1 i (by omega) (by omega)
    simp only [byteSum]
    rw [this, if_pos hat, if_neg (by omega)]
    omega
  | m + 1 => by
    have ih := byteSum_word a b at_ c hat h1 h2 m
    rw [show at_ + 2 + (m + 1) = at_ + 2 + m + 1 by omega]
    simp only [byteSum]
    rw [ih, h1 (at_ + 2 + m) (by omega) (by omega)]
    omega
/-- A checksum that is fixed is right. -/
theorem foldF_fix {s : Int} (h : 0 ≤ s) : foldF (s + (65535 - foldF s)) = 65535 := by unfold foldF; split <;> split <;> omega
theorem ofB_fixed {a b : List Int} (at_ : Nat) (hb : Byt b) (ha : Byt a) (hl : a.length = b.length) (hat : at_ % 2 = 0) (hlen : at_ + 2 ≤ b.length) (h1 : ∀ i, i ≠ at_ → i ≠ at_ + 1 → a.getD i 0 = b.getD i 0)
    (h2 : 256 * a.getD at_ 0 + a.getD (at_ + 1) 0 = 256 * b.getD at_ 0 + b.getD (at_ + 1) 0 + ofB b) : ofB a = 0 := by
  have := byteSum_word a b at_ _ hat h1 h2 (b.length - (at_ + 2))
  rw [show at_ + 2 + (b.length - (at_ + 2)) = b.length by omega] at this
  have hbd := (byteSum_bd hb b.length).1
  have e : ofB b = 65535 - foldF (byteSum b b.length) := by unfold ofB; rw [sumB_foldF hb]
  show 65535 - sumB a = 0
  rw [sumB_foldF ha, hl, this, e, foldF_fix hbd]
  omega
theorem getD_set_ne (l : List Int) (i j : Nat) (x : Int) (h : i ≠ j) : (l.set i x).getD j 0 = l.getD j 0 := by
  rw [List.getD_eq_getElem?_getD, List.getD_eq_getElem?_getD, List.getElem?_set_ne h]
theorem getD_set_eq (l : List Int) (i : Nat) (x : Int) (h : i < l.length) : (l.set i x).getD i 0 = x := by
  rw [List.getD_eq_getElem?_getD, List.getElem?_set_self h]; rfl
theorem ofB_fixL (bs : List Int) (at_ : Nat) (hb : Byt bs) (hat : at_ % 2 = 0) (hlen : at_ + 2 ≤ bs.length) : ofB (fixL bs at_) = 0 := by
  have hz : Byt (zeroAt bs at_) := zeroAt_byt hb at_
  have hzl := zeroAt_len bs at_
  have hbd := ofB_bd hz
  refine ofB_fixed at_ hz (fixL_byt hb at_) (by rw [fixL_len, hzl]) hat (by omega) ?_ ?_
  · intro i h1 h2
    unfold fixL putSum
    rw [getD_set_ne _ _ _ _ (by omega), getD_set_ne _ _ _ _ (by omega)]
  · have e1 : (fixL bs at_).getD at_ 0 = ofB (zeroAt bs at_) / 256 := by
      unfold fixL putSum
      rw [getD_set_ne _ _ _ _ (by omega), getD_set_eq _ _ _ (by omega)]
    have e2 : (fixL bs at_).getD (at_ + 1) 0 = ofB (zeroAt bs at_) % 256 := by
      unfold fixL putSum
      rw [getD_set_eq _ _ _ (by rw [List.length_set]; omega)]
    have e3 : (zeroAt bs at_).getD at_ 0 = 0 := by
      unfold zeroAt
      rw [getD_set_ne _ _ _ _ (by omega), getD_set_eq _ _ _ (by omega)]
    have e4 : (zeroAt bs at_).getD (at_ + 1) 0 = 0 := by
      unfold zeroAt
      rw [getD_set_eq _ _ _ (by rw [List.length_set]; omega)]
    rw [e1, e2, e3, e4]
    omega
theorem word_bd (h : IpH) (h0 : 0 ≤ h.off) (h1 : h.off ≤ 65528) (h8 : h.off % 8 = 0) : 0 ≤ h.word ∧ h.word < 32768 ∧ 8 * (h.word % 8192) = h.off ∧ (h.word / 16384 % 2 == 1) = h.df ∧ (h.word / 8192 % 2 == 1) = h.mf := by
  unfold IpH.word b01
  cases h.df <;> cases h.mf <;> simp <;> omega
/-- The header that is read. -/
structure IpBack (h : IpH) (n : Nat) (b : List Int) : Prop where
  size : ipSize b = 20 + h.opts.length
  total : ipTotal b = 20 + h.opts.length + n
  hdr : ipHdr b = h
  ver : b.getD 0 0 / 16 = 4
  sum : ofB (b.take (20 + h.opts.length)) = 0
  word : w16At b 6 < 32768
theorem ip_back (h : IpH) (n : Nat) (rest : List Int) (ho : h.Ok) (hR : h.Right n) : IpBack h n (headL h n ++ rest) := by
  obtain ⟨w0, w1, w2, w3, w4⟩ := word_bd h hR.off0 hR.off1 hR.off8
  have hlen := hR.len
  have hlen4 := hR.len4
  have hall := hR.all
  have hsum : ofB ((headL h n ++ rest).take (20 + h.opts.length)) = 0 := by
    rw [List.take_left' (headL_len h n)]
    unfold headL
    refine ofB_fixL _ 10 ?_ rfl ?_
    · exact splice_byt (head1_byt ho hlen n) ho.opts 20
    · rw [headS_len]; omega
  have htake : ((headL h n ++ rest).take (20 + h.opts.length)).drop 20 = h.opts := by
    rw [List.take_left' (headL_len h n), headL_eq, List.drop_left' (hd20_len h n _)]
  rw [headL_eq] at hsum htake ⊢
  have hc := ofB_bd (bs := hd20 h n 0 ++ h.opts) (by
    have := splice_byt (head1_byt ho hlen n) ho.opts 20
    rwa [headS_eq] at this)
  generalize ofB (hd20 h n 0 ++ h.opts) = c at *
  have d0 : (hd20 h n c ++ h.opts ++ rest).getD 0 0 = 64 + (20 + (h.opts.length : Int)) / 4 := rfl
  have hsz : ipSize (hd20 h n c ++ h.opts ++ rest) = 20 + h.opts.length := by unfold ipSize; rw [d0]; omega
  have e6 : w16At (hd20 h n c ++ h.opts ++ rest) 6 = h.word := by
    show 256 * (h.word / 256 % 256) + h.word % 256 = _
    omega
  have := ho.id0
  have := ho.id1
  have := ho.src0
  have := ho.src1
  have := ho.dst0
  have := ho.dst1
  refine ⟨hsz, ?_, ?_, ?_, hsum, by omega⟩
  · unfold ipTotal
    show (256 * ((20 + h.opts.length + n : Int) / 256 % 256) + (20 + h.opts.length + n : Int) % 256).toNat = _
    omega
  · unfold ipHdr
    rw [hsz, htake, e6, w2, w3, w4]
    have i1 : w16At (hd20 h n c ++ h.opts ++ rest) 4 = h.id := by
      show 256 * (h.id / 256 % 256) + h.id % 256 = _
      omega
    have i2 : l32At (hd20 h n c ++ h.opts ++ rest) 12 = h.src := by
      show 65536 * (256 * (h.src / 256 / 256 / 256 % 256) + h.src / 256 / 256 % 256) + (256 * (h.src / 256 % 256) + h.src % 256) = _
      omega
    have i3 : l32At (hd20 h n c ++ h.opts ++ rest) 16 = h.dst := by
      show 65536 * (256 * (h.dst / 256 / 256 / 256 % 256) + h.dst / 256 / 256 % 256) + (256 * (h.dst / 256 % 256) + h.dst % 256) = _
      omega
    rw [i1, i2, i3]
    rfl
  · rw [d0]; omega
theorem right_rightB {h : IpH} {n : Nat} (hR : h.Right n) : h.rightB n = true := by
  have := hR.offn
  unfold IpH.rightB
  cases hm : h.mf
  · simp; omega
  · obtain ⟨h1, h2⟩ := hR.mf hm
    simp [h1, h2]; omega
theorem IpBack.eip {h : IpH} {n : Nat} {b : List Int} (k : IpBack h n b) (hR : h.Right n) (hl : 20 + h.opts.length + n ≤ b.length) : ipE b = 0 := by
  have hN : ipN b = 7 := firstB_all fun j hj => by
    have h1 := k.size
    have h2 := k.total
    rcases (show j = 0 ∨ j = 1 ∨ j = 2 ∨ j = 3 ∨ j = 4 ∨ j = 5 ∨ j = 6 by omega) with rfl | rfl | rfl | rfl | rfl | rfl | rfl
    · simp [ipT]; omega
    · show (b.getD 0 0 / 16 != 4) = false
      rw [k.ver]; rfl
    · simp [ipT, h1]; omega
    · simp [ipT, h1, h2]; omega
    · simp [ipT, h1, k.sum]
    · have := k.word
      simp [ipT]; omega
    · simp only [ipT, k.hdr, h1, h2]
      rw [show 20 + h.opts.length + n - (20 + h.opts.length) = n by omega, right_rightB hR]
      rfl
  unfold ipE
  rw [if_neg (by omega)]
theorem ipData_back (h : IpH) (data behind : List Int) (ho : h.Ok) (hR : h.Right data.length) : ipData (ipWriteL h data ++ behind) = data := by
  have k := ip_back h data.length (data ++ behind) ho hR
  rw [← List.append_assoc] at k
  unfold ipData
  change (List.drop (ipSize (headL h data.length ++ data ++ behind)) (List.take (ipTotal (headL h data.length ++ data ++ behind)) (headL h data.length ++ data ++ behind))) = data
  rw [k.size, k.total, List.take_left' (by rw [List.length_append, headL_len]), List.drop_left' (headL_len h _)]
/-- A packet that is written is read. -/
theorem pkt_back (h : IpH) (data behind : List Int) (ho : h.Ok) (hR : h.Right data.length) :
    pktR (ipWriteL h data ++ behind) = (if h.reason ≠ 0 then h.reason else if h.proto ≠ 6 ∧ h.proto ≠ 17 ∧ h.proto ≠ 1 then 13 else reasonOf (dataE h.proto data))
    ∧ (pktR (ipWriteL h data ++ behind) = 0 → pktF (ipWriteL h data ++ behind) = dataF h.proto (baseF h) data) := by
  have k := ip_back h data.length (data ++ behind) ho hR
  have k2 : IpBack h data.length (ipWriteL h data ++ behind) := by
    unfold ipWriteL
    rwa [List.append_assoc]
  have hE := k2.eip hR (by rw [List.length_append, ipWriteL_len]; omega)
  have hD := ipData_back h data behind ho hR
  constructor
  · unfold pktR
    rw [hE, k2.hdr, hD, if_neg (by omega)]
  · intro h0
    unfold pktF
    rw [if_pos h0, k2.hdr, hD]
end Go.Proofs.YtebeekjcepjcnaaDoor
