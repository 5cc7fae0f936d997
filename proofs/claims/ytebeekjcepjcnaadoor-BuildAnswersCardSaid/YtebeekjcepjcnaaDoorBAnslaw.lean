/-
  What build.Answer says of right facts (plain).
-/
import Derived.Test.YtebeekjcepjcnaaDoorProg
import Derived.WalkKit
import Derived.WalkSpells
import Derived.WalkLawsBesides
import Derived.WalkSmall
import Derived.Lib.Hide
import Derived.Deep.AppendLies
import Derived.Maps.AppendAt
import Derived.Laws.AppendOwnNone
import Derived.Laws.CopyOwn
import Derived.OneCell
import Derived.Lib.SliceRun
import Derived.RangeFuncNested
import Derived.RangeFuncBound
import Derived.RangeFuncCalls
import Derived.RangeFuncLeaves
import Derived.Shelf.Abstract
import Derived.OwnWalkIn
import Derived.TacticsInMore
import Derived.LoopNIn
import Derived.LoopIn
import Derived.Lib.AppendZeros
import Derived.BigRegion
import Derived.ChangeAlike
import Derived.Deep.RegionLaw
import Derived.Deep.DeepCutAuto
import Derived.Orders
import Derived.RegionTactic
import Derived.Deep.RegionHeld3
import Derived.Still
import Derived.Deep.MidRow
import Derived.MapKept
import Derived.Laws.StructEq
import Derived.Test.YtebeekjcepjcnaaDoorBBase
import Derived.Test.YtebeekjcepjcnaaDoorBBits
import Derived.Test.YtebeekjcepjcnaaDoorBCsum
import Derived.Test.YtebeekjcepjcnaaDoorBSum
import Derived.Test.YtebeekjcepjcnaaDoorBConcat
import Derived.Test.YtebeekjcepjcnaaDoorBFix
import Derived.Test.YtebeekjcepjcnaaDoorBFacts
import Derived.Test.YtebeekjcepjcnaaDoorBIpw
import Derived.Test.YtebeekjcepjcnaaDoorBPkt
import Derived.Test.YtebeekjcepjcnaaDoorBRegion
import Derived.Test.YtebeekjcepjcnaaDoorBWalk
import Derived.Test.YtebeekjcepjcnaaDoorBStep
import Derived.Test.YtebeekjcepjcnaaDoorBTcpw
import Derived.Test.YtebeekjcepjcnaaDoorBUdpw
import Derived.Test.YtebeekjcepjcnaaDoorBData
import Derived.Test.YtebeekjcepjcnaaDoorBMaps
import Derived.Test.YtebeekjcepjcnaaDoorBQuoted
import Derived.Test.YtebeekjcepjcnaaDoorBBuilda
import Derived.Test.YtebeekjcepjcnaaDoorBRerr
import Derived.Test.YtebeekjcepjcnaaDoorBIcmpr
import Derived.Test.YtebeekjcepjcnaaDoorBIprd
import Derived.Test.YtebeekjcepjcnaaDoorBOptsb
import Derived.Test.YtebeekjcepjcnaaDoorBRight
import Derived.Test.YtebeekjcepjcnaaDoorBAnswer
import Derived.Test.YtebeekjcepjcnaaDoorBIpback
import Derived.Test.YtebeekjcepjcnaaDoorBMade9
import Derived.Test.YtebeekjcepjcnaaDoorBLookp
import Derived.Test.YtebeekjcepjcnaaDoorBFailure
import Derived.Test.YtebeekjcepjcnaaDoorBBuildb
import Derived.Test.YtebeekjcepjcnaaDoorBPright
import Derived.Test.YtebeekjcepjcnaaDoorBBuilt
import Derived.Test.YtebeekjcepjcnaaDoorBAnswerb
namespace Go.Proofs.YtebeekjcepjcnaaDoor
open Go.RowKit
theorem right_mk {f : Facts} (h : RightOk f) : f.right = true := by
  unfold Facts.right
  rw [h.part, h.src, h.dst, h.ne, h.fr, h.proto, Facts.eqB_iff.2 rfl]
  have h0 := h.k0
  have h1 := h.k1
  simp [h0, h1]
theorem RightOk.tcp {f : Facts} (r : RightOk f) (h : f.kind = 1) : f.key.proto = 6 ∧ f.rightTCP = true ∧ f.tcpPart = f := by
  have h1 := r.proto
  have h2 := r.fr
  have h3 := r.part
  unfold Facts.fRight at h2
  unfold Facts.fPart at h3
  rw [if_pos h] at h2 h3
  rw [h] at h1
  exact ⟨h1, h2, h3⟩
theorem RightOk.udp {f : Facts} (r : RightOk f) (h : f.kind = 2) : f.key.proto = 17 ∧ f.rightUDP = true ∧ f.udpPart = f := by
  have h1 := r.proto
  have h2 := r.fr
  have h3 := r.part
  unfold Facts.fRight at h2
  unfold Facts.fPart at h3
  rw [if_neg (by omega), if_pos h] at h2 h3
  rw [h] at h1
  exact ⟨h1, h2, h3⟩
theorem RightOk.qry {f : Facts} (r : RightOk f) (h : f.kind = 3 ∨ f.kind = 4) : f.key.proto = 1 ∧ f.rightQuery = true ∧ f.queryPart = f := by
  have h1 := r.proto
  have h2 := r.fr
  have h3 := r.part
  unfold Facts.fRight at h2
  unfold Facts.fPart at h3
  rw [if_neg (by omega), if_neg (by omega), if_neg (by omega)] at h2 h3
  unfold protoS at h1
  rw [if_neg (by omega), if_neg (by omega)] at h1
  exact ⟨h1, h2, h3⟩
theorem RightOk.err {f : Facts} (r : RightOk f) (h : f.kind = 5) : f.key.proto = 1 ∧ f.rightError = true ∧ f.errorPart = f := by
  have h1 := r.proto
  have h2 := r.fr
  have h3 := r.part
  unfold Facts.fRight at h2
  unfold Facts.fPart at h3
  rw [if_neg (by omega), if_neg (by omega), if_pos h] at h2 h3
  unfold protoS at h1
  rw [if_neg (by omega), if_neg (by omega)] at h1
  exact ⟨h1, h2, h3⟩
/-- Only a segment has flags. -/
theorem RightOk.flags {f : Facts} (r : RightOk f) (h : f.kind ≠ 1) : f.flags = 0 := by
  have h0 := r.k0
  have h1 := r.k1
  rcases (show f.kind = 2 ∨ (f.kind = 3 ∨ f.kind = 4) ∨ f.kind = 5 by omega) with h | h | h
  · rw [← (r.udp h).2.2]; rfl
  · rw [← (r.qry h).2.2]; rfl
  · rw [← (r.err h).2.2]; rfl
theorem ne_symm {a b : Int} (h : (a == b) = false) : (b == a) = false := by
  simp only [beq_eq_false_iff_ne, ne_eq] at *
  exact fun e => h e.symm
/-- There is no answer. -/
theorem ans_none {f : Facts} (hr : f.right = true) (h : f.kind = 4 ∨ f.kind = 5 ∨ f.rst = true) : f.answerE = 6 ∧ f.answerF = Facts.zero := by
  have r := right_ok hr
  have hk : ¬ (f.kind = 1 ∧ f.rst = false) ∧ f.kind ≠ 2 ∧ f.kind ≠ 3 := by
    rcases h with h | h | h
    · omega
    · omega
    · have h1 : f.kind = 1 := by
        by_cases h1 : f.kind = 1
        · exact h1
        · have := r.flags h1
          unfold Facts.rst at h
          rw [this] at h
          cases h
      refine ⟨fun h2 => ?_, by omega, by omega⟩
      rw [h] at h2
      cases h2.2
  refine ⟨?_, ?_⟩
  · unfold Facts.answerE
    rw [if_neg (by rw [hr]; decide), if_neg hk.2.1, if_neg hk.2.2, if_neg hk.1]
  · unfold Facts.answerF
    rw [if_neg (by rw [hr]; decide), if_neg hk.2.1, if_neg hk.2.2, if_neg hk.1]
/-- The answer to a datagram. -/
theorem ans_udp {f : Facts} (hr : f.right = true) (h : f.kind = 2) : f.answerE = 0 ∧ f.answerF = f.answerB ∧ f.answerB.right = true ∧ f.answerB.answerE = 0 ∧ f.answerB.answerF = f := by
  have r := right_ok hr
  obtain ⟨h1, h2, h3⟩ := r.udp h
  have e1 : f.answerE = 0 := by unfold Facts.answerE; rw [if_neg (by rw [hr]; decide), if_pos h]
  have e2 : f.answerF = f.answerB := by unfold Facts.answerF; rw [if_neg (by rw [hr]; decide), if_pos h]
  simp only [Facts.rightUDP, betweenB, Key.ported, Bool.and_eq_true, decide_eq_true_eq] at h2
  have hg : f.answerB.right = true := right_mk ⟨by show 1 ≤ f.kind; omega, by show f.kind ≤ 5; omega, r.proto, r.dst, r.src, ne_symm r.ne, by
    unfold Facts.fRight
    rw [if_neg (by show ¬ f.kind = 1; omega), if_pos (show f.answerB.kind = 2 from h)]
    simp only [Facts.rightUDP, betweenB, Key.ported, Bool.and_eq_true, decide_eq_true_eq]
    exact ⟨⟨h2.1.2, h2.1.1⟩, h2.2⟩, by
    unfold Facts.fPart
    rw [if_neg (by show ¬ f.kind = 1; omega), if_pos (show f.answerB.kind = 2 from h)]
    rfl⟩
  refine ⟨e1, e2, hg, ?_, ?_⟩
  · unfold Facts.answerE; rw [if_neg (by rw [hg]; decide), if_pos (show f.answerB.kind = 2 from h)]
  · unfold Facts.answerF
    rw [if_neg (by rw [hg]; decide), if_pos (show f.answerB.kind = 2 from h)]
    exact h3
theorem reply_ok : ∀ t, t < 19 → kindN t = 3 → kindN (replyN t).toNat = 4 ∧ codesN (replyN t).toNat = 0 ∧ codesN t = 0 := by decide
/-- The reply to a query, the segment that answers one. -/
def Facts.ansQ (f : Facts) : Facts := ⟨⟨f.key.proto, f.key.dst, f.key.src, f.key.dp, f.key.sp⟩, 4, 0, replyN f.type.toNat, f.code, 0, 0, 0, f.length, Key.zero, 0⟩
def Facts.ansT (f : Facts) : Facts := ⟨⟨f.key.proto, f.key.dst, f.key.src, f.key.dp, f.key.sp⟩, f.kind, if f.opens then 18 else 16, 0, 0, f.ackn, (f.seqn + f.extent) % 4294967296, f.window, 0, Key.zero, 0⟩
/-- The answer to a query. -/
theorem ans_qry {f : Facts} (hr : f.right = true) (h : f.kind = 3) : f.answerE = 0 ∧ f.answerF = f.ansQ ∧ f.ansQ.right = true ∧ f.ansQ.answerE = 6 ∧ f.ansQ.answerF = Facts.zero := by
  have r := right_ok hr
  obtain ⟨h1, h2, h3⟩ := r.qry (.inl h)
  have e1 : f.answerE = 0 := by unfold Facts.answerE; rw [if_neg (by rw [hr]; decide), if_neg (by omega), if_pos h]
  have e2 : f.answerF = f.ansQ := by unfold Facts.answerF; rw [if_neg (by rw [hr]; decide), if_neg (by omega), if_pos h]; rfl
  simp only [Facts.rightQuery, betweenB, Bool.and_eq_true, decide_eq_true_eq, beq_iff_eq] at h2
  obtain ⟨⟨⟨q1, q2⟩, q3⟩, q4⟩ := h2
  have hk : kindN f.type.toNat = 3 := by
    have := kind1_of q1
    rw [q2, h] at this
    exact_mod_cast this.symm
  have ht : f.type.toNat < 19 := by
    by_cases ht : f.type.toNat < 19
    · exact ht
    · rw [kindN_big (by omega)] at hk; cases hk
  obtain ⟨z1, z2, z3⟩ := reply_ok _ ht hk
  have hc : f.code.toNat = 0 := by
    unfold kind2 at q1
    rw [hk, if_neg (by decide), z3] at q1
    by_cases hc : 0 < f.code.toNat
    · rw [if_pos (by omega)] at q1; cases q1
    · omega
  have hg : f.ansQ.right = true := right_mk ⟨show (1 : Int) ≤ 4 by decide, show (4 : Int) ≤ 5 by decide, h1, r.dst, r.src, ne_symm r.ne, by
    unfold Facts.fRight
    show (if (4 : Int) = 1 then _ else if (4 : Int) = 2 then _ else if (4 : Int) = 5 then _ else _) = true
    rw [if_neg (show ¬ (4 : Int) = 1 by decide), if_neg (show ¬ (4 : Int) = 2 by decide), if_neg (show ¬ (4 : Int) = 5 by decide)]
    simp only [Facts.rightQuery, betweenB, Bool.and_eq_true, decide_eq_true_eq, beq_iff_eq]
    refine ⟨⟨⟨?_, ?_⟩, q3.symm⟩, q4⟩
    · show kind2 (replyN f.type.toNat).toNat f.code.toNat = 0
      unfold kind2
      rw [z1, z2, hc, if_neg (by decide), if_neg (by decide)]
    · show kind1 (replyN f.type.toNat).toNat f.code.toNat = 4
      unfold kind1
      rw [z1, z2, hc, if_neg (by decide), if_neg (by decide)], by
    unfold Facts.fPart
    show (if (4 : Int) = 1 then _ else if (4 : Int) = 2 then _ else if (4 : Int) = 5 then _ else _) = f.ansQ
    rw [if_neg (show ¬ (4 : Int) = 1 by decide), if_neg (show ¬ (4 : Int) = 2 by decide), if_neg (show ¬ (4 : Int) = 5 by decide)]
    rfl⟩
  exact ⟨e1, e2, hg, (ans_none hg (.inl rfl)).1, (ans_none hg (.inl rfl)).2⟩
/-- The answer to a segment. -/
theorem ans_tcp {f : Facts} (hr : f.right = true) (h : f.kind = 1) (hrst : f.rst = false) : f.answerE = 0 ∧ f.answerF = f.ansT ∧ f.ansT.right = true ∧ f.ansT.answerE = 0 ∧ f.ansT.answerF = ⟨f.key, f.kind, 16, 0, 0, (f.seqn + f.extent) % 4294967296, (f.ackn + if f.opens then 1 else 0) % 4294967296, f.window, 0, Key.zero, 0⟩ := by
  have r := right_ok hr
  obtain ⟨h1, h2, h3⟩ := r.tcp h
  have e1 : f.answerE = 0 := by unfold Facts.answerE; rw [if_neg (by rw [hr]; decide), if_neg (by omega), if_neg (by omega), if_pos ⟨h, hrst⟩]
  have e2 : f.answerF = f.ansT := by unfold Facts.answerF; rw [if_neg (by rw [hr]; decide), if_neg (by omega), if_neg (by omega), if_pos ⟨h, hrst⟩]; rfl
  simp only [Facts.rightTCP, betweenB, Key.ported, Bool.and_eq_true, decide_eq_true_eq] at h2
  obtain ⟨⟨⟨⟨q1, q2⟩, q3⟩, q4⟩, q5⟩ := h2
  have hfl : f.ansT.flags = if f.opens then 18 else 16 := rfl
  have hg : f.ansT.right = true := right_mk ⟨by show 1 ≤ f.kind; omega, by show f.kind ≤ 5; omega, r.proto, r.dst, r.src, ne_symm r.ne, by
    unfold Facts.fRight
    rw [if_pos (show f.ansT.kind = 1 from h)]
    simp only [Facts.rightTCP, betweenB, Key.ported, Bool.and_eq_true, decide_eq_true_eq]
    refine ⟨⟨⟨⟨⟨q1.2, q1.1⟩, ?_⟩, ?_⟩, q4⟩, show (0 : Int) ≤ 0 by decide, show (0 : Int) ≤ 65495 by decide⟩
    · rw [hfl]; cases f.opens <;> decide
    · rw [hfl]; cases f.opens <;> decide +kernel, by
    unfold Facts.fPart
    rw [if_pos (show f.ansT.kind = 1 from h)]
    rfl⟩
  refine ⟨e1, e2, hg, ?_, ?_⟩
  · unfold Facts.answerE
    rw [if_neg (by rw [hg]; decide), if_neg (by show ¬ f.kind = 2; omega), if_neg (by show ¬ f.kind = 3; omega), if_pos ⟨h, by unfold Facts.rst; rw [hfl]; cases f.opens <;> rfl⟩]
  · have e3 : f.ansT.rst = false := by unfold Facts.rst; rw [hfl]; cases f.opens <;> rfl
    have e4 : f.ansT.opens = false := by
      have key : ∀ b : Bool, ((if b = true then (18 : Int) else 16).toNat / 2 % 2 == 1 && (if b = true then (18 : Int) else 16).toNat / 16 % 2 == 0) = false := by decide
      exact key f.opens
    have e5 : f.ansT.extent = if f.opens then 1 else 0 := by
      unfold Facts.extent
      rw [hfl, show f.ansT.length = 0 from rfl]
      cases f.opens <;> rfl
    unfold Facts.answerF
    rw [if_neg (by rw [hg]; decide), if_neg (by show ¬ f.kind = 2; omega), if_neg (by show ¬ f.kind = 3; omega), if_pos ⟨h, e3⟩, e4, e5]
    rfl
theorem swap_ok {k : Key} (h : k.Ok) : (⟨k.proto, k.dst, k.src, k.dp, k.sp⟩ : Key).Ok := ⟨h.proto0, h.proto1, h.dst0, h.dst1, h.src0, h.src1, h.dp0, h.dp1, h.sp0, h.sp1⟩
theorem zero_key_ok : Key.zero.Ok := ⟨by decide, by decide, by decide, by decide, by decide, by decide, by decide, by decide, by decide, by decide⟩
theorem answerB_ok {f : Facts} (h : f.Ok) : f.answerB.Ok := ⟨swap_ok h.key, h.kind0, h.kind1, show (0 : Int) ≤ 0 by decide, show (0 : Int) < 256 by decide, show (0 : Int) ≤ 0 by decide, show (0 : Int) < 256 by decide, show (0 : Int) ≤ 0 by decide, show (0 : Int) < 256 by decide, show (0 : Int) ≤ 0 by decide, show (0 : Int) < 4294967296 by decide, show (0 : Int) ≤ 0 by decide, show (0 : Int) < 4294967296 by decide, show (-9223372036854775808 : Int) ≤ 0 by decide, show (0 : Int) ≤ 9223372036854775807 by decide, h.length0, h.length1, zero_key_ok, show (0 : Int) ≤ 0 by decide, show (0 : Int) < 256 by decide⟩
theorem replyN_bd (t : Nat) : 0 ≤ replyN t ∧ replyN t < 256 := by
  by_cases h : t < 19
  · have : ∀ k : Fin 19, 0 ≤ replyN k ∧ replyN k < 256 := by decide
    exact this ⟨t, h⟩
  · unfold replyN
    rw [List.getD_eq_getElem?_getD, List.getElem?_eq_none (by simp; omega)]
    decide
theorem ansQ_ok {f : Facts} (h : f.Ok) : f.ansQ.Ok := ⟨swap_ok h.key, show (0 : Int) ≤ 4 by decide, show (4 : Int) < 256 by decide, show (0 : Int) ≤ 0 by decide, show (0 : Int) < 256 by decide, (replyN_bd _).1, (replyN_bd _).2, h.code0, h.code1, show (0 : Int) ≤ 0 by decide, show (0 : Int) < 4294967296 by decide, show (0 : Int) ≤ 0 by decide, show (0 : Int) < 4294967296 by decide, show (-9223372036854775808 : Int) ≤ 0 by decide, show (0 : Int) ≤ 9223372036854775807 by decide, h.length0, h.length1, zero_key_ok, show (0 : Int) ≤ 0 by decide, show (0 : Int) < 256 by decide⟩
theorem ansT_ok {f : Facts} (h : f.Ok) : f.ansT.Ok := ⟨swap_ok h.key, h.kind0, h.kind1, (by show (0 : Int) ≤ if f.opens then 18 else 16; split <;> decide), (by show (if f.opens then (18 : Int) else 16) < 256; split <;> decide), show (0 : Int) ≤ 0 by decide, show (0 : Int) < 256 by decide, show (0 : Int) ≤ 0 by decide, show (0 : Int) < 256 by decide, h.ackn0, h.ackn1, Int.emod_nonneg _ (by decide), Int.emod_lt_of_pos _ (by decide), h.window0, h.window1, show (-9223372036854775808 : Int) ≤ 0 by decide, show (0 : Int) ≤ 9223372036854775807 by decide, zero_key_ok, show (0 : Int) ≤ 0 by decide, show (0 : Int) < 256 by decide⟩
set_option maxRecDepth 100000 in
theorem run_eq_keys (k l : Key) (W : World) : (binOp .eql 25 k.val l.val).run Tryd.prog W = .ok (.bool (k.eqB l)) W := by
  have h := equalIn_key 9998 k l W
  unfold Key.val at *
  rw [run_eql_struct, h]
  rfl
theorem key_eqB_refl (k : Key) : k.eqB k = true := Key.eqB_iff.2 rfl
theorem run_ne_keys (k : Key) (W : World) : (binOp .neq 25 k.val k.val).run Tryd.prog W = .ok (.bool false) W := by
  have h := equalIn_key 9998 k k W
  rw [key_eqB_refl] at h
  unfold Key.val at *
  rw [run_neq_struct, h]
  rfl
end Go.Proofs.YtebeekjcepjcnaaDoor
