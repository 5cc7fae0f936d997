/-
  What build.Answer says of right facts (plain).
  Facts that are not right, and what build says of them (plain).
-/
import Derived.Test.YtebeekjcepjcnaaDoorProg
import Derived.WalkKit
import Derived.WalkSpells
import Derived.WalkLawsBesides
import Derived.WalkSmall
import Derived.Lib.Hide
import Derived.Deep.AppendLies
import Derived.Maps.AppendAt
import Derived.Laws.AppendOwnNone
import Derived.Laws.CopyOwn
import Derived.OneCell
import Derived.Lib.SliceRun
import Derived.RangeFuncNested
import Derived.RangeFuncBound
import Derived.RangeFuncCalls
import Derived.RangeFuncLeaves
import Derived.Shelf.Abstract
import Derived.OwnWalkIn
import Derived.TacticsInMore
import Derived.LoopNIn
import Derived.LoopIn
import Derived.Lib.AppendZeros
import Derived.BigRegion
import Derived.ChangeAlike
import Derived.Deep.RegionLaw
import Derived.Deep.DeepCutAuto
import Derived.Orders
import Derived.RegionTactic
import Derived.Deep.RegionHeld3
import Derived.Still
import Derived.Deep.MidRow
import Derived.MapKept
import Derived.Laws.StructEq
import Derived.Test.YtebeekjcepjcnaaDoorWBase
import Derived.Test.YtebeekjcepjcnaaDoorWBits
import Derived.Test.YtebeekjcepjcnaaDoorWCsum
import Derived.Test.YtebeekjcepjcnaaDoorWSum
import Derived.Test.YtebeekjcepjcnaaDoorWConcat
import Derived.Test.YtebeekjcepjcnaaDoorWFix
import Derived.Test.YtebeekjcepjcnaaDoorWFacts
import Derived.Test.YtebeekjcepjcnaaDoorWIpw
import Derived.Test.YtebeekjcepjcnaaDoorWPkt
import Derived.Test.YtebeekjcepjcnaaDoorWRegion
import Derived.Test.YtebeekjcepjcnaaDoorWWalk
import Derived.Test.YtebeekjcepjcnaaDoorWStep
import Derived.Test.YtebeekjcepjcnaaDoorWTcpw
import Derived.Test.YtebeekjcepjcnaaDoorWUdpw
import Derived.Test.YtebeekjcepjcnaaDoorWData
import Derived.Test.YtebeekjcepjcnaaDoorWMaps
import Derived.Test.YtebeekjcepjcnaaDoorWQuoted
import Derived.Test.YtebeekjcepjcnaaDoorWBuilda
import Derived.Test.YtebeekjcepjcnaaDoorWRerr
import Derived.Test.YtebeekjcepjcnaaDoorWIcmpr
import Derived.Test.YtebeekjcepjcnaaDoorWIprd
import Derived.Test.YtebeekjcepjcnaaDoorWOptsb
import Derived.Test.YtebeekjcepjcnaaDoorWRight
import Derived.Test.YtebeekjcepjcnaaDoorWAnswer
import Derived.Test.YtebeekjcepjcnaaDoorWIpback
import Derived.Test.YtebeekjcepjcnaaDoorWMade9
import Derived.Test.YtebeekjcepjcnaaDoorWLookp
import Derived.Test.YtebeekjcepjcnaaDoorWFailure
import Derived.Test.YtebeekjcepjcnaaDoorWBuildb
import Derived.Test.YtebeekjcepjcnaaDoorWPright
import Derived.Test.YtebeekjcepjcnaaDoorWBuilt
import Derived.Test.YtebeekjcepjcnaaDoorWAnswerb
namespace Go.Proofs.YtebeekjcepjcnaaDoor
open Go.RowKit
theorem RightOk.tcp {f : Facts} (r : RightOk f) (h : f.kind = 1) : f.key.proto = 6 ∧ f.rightTCP = true ∧ f.tcpPart = f := by
  have h1 := r.proto
  have h2 := r.fr
  have h3 := r.part
  unfold Facts.fRight at h2
  unfold Facts.fPart at h3
  rw [if_pos h] at h2 h3
  rw [h] at h1
  exact ⟨h1, h2, h3⟩
theorem RightOk.udp {f : Facts} (r : RightOk f) (h : f.kind = 2) : f.key.proto = 17 ∧ f.rightUDP = true ∧ f.udpPart = f := by
  have h1 := r.proto
  have h2 := r.fr
  have h3 := r.part
  unfold Facts.fRight at h2
  unfold Facts.fPart at h3
  rw [if_neg (by omega), if_pos h] at h2 h3
  rw [h] at h1
  exact ⟨h1, h2, h3⟩
theorem RightOk.qry {f : Facts} (r : RightOk f) (h : f.kind = 3 ∨ f.kind = 4) : f.key.proto = 1 ∧ f.rightQuery = true ∧ f.queryPart = f := by
  have h1 := r.proto
  have h2 := r.fr
  have h3 := r.part
  unfold Facts.fRight at h2
  unfold Facts.fPart at h3
  rw [if_neg (by omega), if_neg (by omega), if_neg (by omega)] at h2 h3
  unfold protoS at h1
  rw [if_neg (by omega), if_neg (by omega)] at h1
  exact ⟨h1, h2, h3⟩
theorem RightOk.err {f : Facts} (r : RightOk f) (h : f.kind = 5) : f.key.proto = 1 ∧ f.rightError = true ∧ f.errorPart = f := by
  have h1 := r.proto
  have h2 := r.fr
  have h3 := r.part
  unfold Facts.fRight at h2
  unfold Facts.fPart at h3
  rw [if_neg (by omega), if_neg (by omega), if_pos h] at h2 h3
  unfold protoS at h1
  rw [if_neg (by omega), if_neg (by omega)] at h1
  exact ⟨h1, h2, h3⟩
/-- Only a segment has flags. -/
theorem RightOk.flags {f : Facts} (r : RightOk f) (h : f.kind ≠ 1) : f.flags = 0 := by
  have h0 := r.k0
  have h1 := r.k1
  rcases (show f.kind = 2 ∨ (f.kind = 3 ∨ f.kind = 4) ∨ f.kind = 5 by omega) with h | h | h
  · rw [← (r.udp h).2.2]; rfl
  · rw [← (r.qry h).2.2]; rfl
  · rw [← (r.err h).2.2]; rfl
end Go.Proofs.YtebeekjcepjcnaaDoor
namespace Go.Proofs.YtebeekjcepjcnaaDoor
open Go.RowKit
theorem bad_of {B : Facts} (h : RightOk B → False) : B.right = false := by
  cases hb : B.right
  · rfl
  · exact (h (right_ok hb)).elim
theorem protoS_cases (k : Int) : protoS k = 6 ∨ protoS k = 17 ∨ protoS k = 1 := by
  unfold protoS
  split
  · exact .inl rfl
  · split
    · exact .inr (.inl rfl)
    · exact .inr (.inr rfl)
theorem badF0 (F : Facts) : ({ F with key := { F.key with src := F.key.dst } } : Facts).right = false := bad_of fun r => by
  have := r.ne
  simp at this
theorem badF1 (F : Facts) (n : Int) (hn : 0 ≤ n) : ({ F with key := { F.key with dst := 3758096384 + n } } : Facts).right = false := bad_of fun r => by
  have := r.dst
  simp only [usualB, Bool.and_eq_true, decide_eq_true_eq] at this
  omega
theorem badF2 (F : Facts) (p : Int) (hp : p ≠ 6 ∧ p ≠ 17 ∧ p ≠ 1) : ({ F with key := { F.key with proto := p } } : Facts).right = false := bad_of fun r => by
  have h : p = protoS F.kind := r.proto
  have := protoS_cases F.kind
  omega
theorem badF3 (F : Facts) (n : Int) (hn : 0 ≤ n) : ({ F with kind := 6 + n } : Facts).right = false := bad_of fun r => by
  have : 6 + n ≤ 5 := r.k1
  omega
theorem sane_or3 : ∀ f, f < 256 → saneB (f ||| 3) = false := by decide +kernel
theorem or3_lt : ∀ f, f < 256 → (f ||| 3) < 256 := by decide +kernel
theorem badF4 (F : Facts) (fl : Nat) (hf : fl < 256) (hk : F.kind = 1) : ({ F with flags := ((fl ||| 3 : Nat) : Int) } : Facts).right = false := bad_of fun r => by
  have h := (r.tcp hk).2.1
  simp only [Facts.rightTCP, Bool.and_eq_true] at h
  have h2 := h.1.1.2
  rw [Int.toNat_natCast, sane_or3 fl hf] at h2
  cases h2
theorem badF5 (F : Facts) (n : Int) (hn : 0 ≤ n) (hk : F.kind = 1) : ({ F with window := -1 - n } : Facts).right = false := bad_of fun r => by
  have h := (r.tcp hk).2.1
  simp only [Facts.rightTCP, betweenB, Bool.and_eq_true, decide_eq_true_eq] at h
  omega
theorem badF6 (F : Facts) (n : Int) (hn : 0 ≤ n) (hk : F.kind = 1) : ({ F with length := 65496 + n } : Facts).right = false := bad_of fun r => by
  have h := (r.tcp hk).2.1
  simp only [Facts.rightTCP, betweenB, Bool.and_eq_true, decide_eq_true_eq] at h
  omega
theorem badF7 (F : Facts) (hk : F.kind = 2) : ({ F with key := { F.key with sp := 0 } } : Facts).right = false := bad_of fun r => by
  have h := (r.udp hk).2.1
  simp only [Facts.rightUDP, Key.ported, Bool.and_eq_true, decide_eq_true_eq] at h
  omega
theorem badF8 (F : Facts) (r0 : RightOk F) (hk : F.kind = 3 ∨ F.kind = 4) : ({ F with key := { F.key with sp := (F.key.sp + 1) % 65536 } } : Facts).right = false := bad_of fun r => by
  have h := (r0.qry hk).2.1
  have h2 := (r.qry hk).2.1
  simp only [Facts.rightQuery, Bool.and_eq_true, beq_iff_eq] at h h2
  have e1 := h.1.2
  have e2 := h2.1.2
  omega
theorem kind_3 : ∀ c, c < 16 → kind1 3 c = 5 := by decide
theorem badF9 (F : Facts) (c : Nat) (hc : c < 16) (hk : F.kind = 3 ∨ F.kind = 4) : ({ F with type := 3, code := c } : Facts).right = false := bad_of fun r => by
  have h := (r.qry hk).2.1
  simp only [Facts.rightQuery, Bool.and_eq_true, beq_iff_eq] at h
  have h2 : kind1 3 ((c : Int)).toNat = F.kind := h.1.1.2
  rw [Int.toNat_natCast, kind_3 c hc] at h2
  omega
theorem badF10 (F : Facts) (n : Int) (hn : 0 ≤ n) (hk : F.kind = 5) : ({ F with length := 27 - n } : Facts).right = false := bad_of fun r => by
  have h := (r.err hk).2.1
  simp only [Facts.rightError, betweenB, Bool.and_eq_true, decide_eq_true_eq] at h
  omega
theorem badF11 (F : Facts) (hk : F.kind = 5) : ({ F with qkind := 5 } : Facts).right = false := bad_of fun r => by
  have h := (r.err hk).2.1
  simp only [Facts.rightError, Bool.and_eq_true] at h
  have h2 : isQ 5 = true := h.1.1.1.1.1.2
  exact absurd h2 (by decide)
theorem badF12 (F : Facts) (p : Int) (hp : p ≠ 6 ∧ p ≠ 17 ∧ p ≠ 1) (hk : F.kind = 5) : ({ F with quoted := { F.quoted with proto := p } } : Facts).right = false := bad_of fun r => by
  have h := (r.err hk).2.1
  simp only [Facts.rightError, Bool.and_eq_true, beq_iff_eq] at h
  have h2 : isQ F.qkind = true := h.1.1.1.1.1.2
  have h3 : p = qProto F.qkind := h.1.1.1.2
  unfold qProto at h3
  rw [if_pos h2] at h3
  have := protoS_cases F.qkind
  omega
theorem badF13 (F : Facts) (n : Int) (hn : 0 ≤ n) (hk : F.kind = 2) : ({ F with seqn := 1 + n } : Facts).right = false := bad_of fun r => by
  have h : (0 : Int) = 1 + n := congrArg Facts.seqn (r.udp hk).2.2
  omega
theorem or18 : ∀ n, n < 256 → (18 ||| n) ≠ 6 ∧ (18 ||| n) ≠ 17 ∧ (18 ||| n) ≠ 1 ∧ (18 ||| n) < 256 := by decide +kernel
theorem or18_bits (n : Int) (h0 : 0 ≤ n) (h1 : n < 256) : ∃ p : Int, bits .or .u8 18 n = p ∧ p ≠ 6 ∧ p ≠ 17 ∧ p ≠ 1 ∧ 0 ≤ p ∧ p < 256 := by
  obtain ⟨m, rfl⟩ : ∃ m : Nat, n = m := ⟨n.toNat, by omega⟩
  have := or18 m (by omega)
  exact ⟨((18 ||| m : Nat) : Int), u8_or_nat 18 m (by omega) (by omega), by omega, by omega, by omega, by omega, by omega⟩
/-- What a type and a code that are no error's give. -/
theorem no_error (n : Nat) : kind1 ([0, 1, 8, 13, 18, 19].getD (n % 6) 0) 0 ≠ 5 := by
  have : ∀ k, k < 6 → kind1 ([0, 1, 8, 13, 18, 19].getD k 0) 0 ≠ 5 := by decide
  exact this _ (Nat.mod_lt _ (by decide))
theorem no_error11 (c : Nat) (h : 2 ≤ c) : kind2 11 c ≠ 0 := by
  unfold kind2
  have e1 : kindN 11 = 5 := rfl
  have e2 : codesN 11 = 1 := rfl
  rw [e1, e2, if_neg (by decide), if_pos (by omega)]
  decide
theorem reject_bad {B : Facts} (h : B.right = false) (k c : Nat) : B.rejectF k c = Facts.zero ∧ B.rejectE k c = 120 := by
  unfold Facts.rejectF Facts.rejectE
  rw [if_pos h, if_pos h]
  exact ⟨rfl, rfl⟩
theorem reject_err {F : Facts} (h : F.right = true) (hk : F.kind = 5) (k c : Nat) : F.rejectF k c = Facts.zero ∧ F.rejectE k c = 6 := by
  have hn : ¬ F.right = false := by rw [h]; decide
  refine ⟨?_, ?_⟩
  · unfold Facts.rejectF; rw [if_neg hn, if_pos hk]
  · unfold Facts.rejectE; rw [if_neg hn, if_pos hk]
theorem reject_not {F : Facts} (h : F.right = true) (hk : F.kind ≠ 5) (k c : Nat) (hkc : ¬ (kind2 k c = 0 ∧ kind1 k c = 5)) : F.rejectF k c = Facts.zero ∧ F.rejectE k c = 2 := by
  have hn : ¬ F.right = false := by rw [h]; decide
  refine ⟨?_, ?_⟩
  · unfold Facts.rejectF; rw [if_neg hn, if_neg hk, if_neg hkc]
  · unfold Facts.rejectE; rw [if_neg hn, if_neg hk, if_neg hkc]
theorem answer_bad {B : Facts} (h : B.right = false) : B.answerF = Facts.zero ∧ B.answerE = 120 := by
  unfold Facts.answerF Facts.answerE
  rw [if_pos h, if_pos h]
  exact ⟨rfl, rfl⟩
end Go.Proofs.YtebeekjcepjcnaaDoor
