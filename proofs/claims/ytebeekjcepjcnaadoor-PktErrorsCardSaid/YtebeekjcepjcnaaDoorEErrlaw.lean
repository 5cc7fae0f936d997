/-
  A packet that is made, with a defect in its data (plain).
  The method udp of pkt's packet.
-/
import Derived.Lib.MinMax
import Derived.WalkKit
import Derived.WalkSpells
import Derived.WalkLawsBesides
import Derived.WalkSmall
import Derived.Lib.Hide
import Derived.Deep.AppendLies
import Derived.Maps.AppendAt
import Derived.Laws.AppendOwnNone
import Derived.Laws.CopyOwn
import Derived.OneCell
import Derived.Test.YtebeekjcepjcnaaDoorProg
import Derived.Lib.SliceRun
import Derived.RangeFuncNested
import Derived.RangeFuncBound
import Derived.RangeFuncCalls
import Derived.RangeFuncLeaves
import Derived.Shelf.Abstract
import Derived.OwnWalkIn
import Derived.TacticsInMore
import Derived.LoopNIn
import Derived.LoopIn
import Derived.Lib.AppendZeros
import Derived.BigRegion
import Derived.ChangeAlike
import Derived.Deep.RegionLaw
import Derived.Deep.DeepCutAuto
import Derived.Orders
import Derived.RegionTactic
import Derived.Still
import Derived.Deep.MidRow
import Derived.Deep.RegionHeld3
import Derived.MapKept
import Derived.RegionIn
import Derived.Laws.StructEq
import Derived.Laws.BitsAllLaws
import Derived.Deep.CutBlock
import Derived.Test.YtebeekjcepjcnaaDoorEBase
import Derived.Test.YtebeekjcepjcnaaDoorEBits
import Derived.Test.YtebeekjcepjcnaaDoorECsum
import Derived.Test.YtebeekjcepjcnaaDoorESum
import Derived.Test.YtebeekjcepjcnaaDoorEConcat
import Derived.Test.YtebeekjcepjcnaaDoorEFix
import Derived.Test.YtebeekjcepjcnaaDoorEFacts
import Derived.Test.YtebeekjcepjcnaaDoorEPkt
import Derived.Test.YtebeekjcepjcnaaDoorERegion
import Derived.Test.YtebeekjcepjcnaaDoorEWalk
import Derived.Test.YtebeekjcepjcnaaDoorEStep
import Derived.Test.YtebeekjcepjcnaaDoorETcpw
import Derived.Test.YtebeekjcepjcnaaDoorEUdpw
import Derived.Test.YtebeekjcepjcnaaDoorEData
import Derived.Test.YtebeekjcepjcnaaDoorEIprd
import Derived.Test.YtebeekjcepjcnaaDoorEFold
import Derived.Test.YtebeekjcepjcnaaDoorEFresh
import Derived.Test.YtebeekjcepjcnaaDoorEIpre
import Derived.Test.YtebeekjcepjcnaaDoorEIpread
import Derived.Test.YtebeekjcepjcnaaDoorEOptsa
import Derived.Test.YtebeekjcepjcnaaDoorEOptsb
import Derived.Test.YtebeekjcepjcnaaDoorEOptsc
import Derived.Test.YtebeekjcepjcnaaDoorEOptsd
import Derived.Test.YtebeekjcepjcnaaDoorETcprd
import Derived.Test.YtebeekjcepjcnaaDoorEEq
import Derived.Test.YtebeekjcepjcnaaDoorEMade8
import Derived.Test.YtebeekjcepjcnaaDoorEIpback
import Derived.Test.YtebeekjcepjcnaaDoorEMade6p
import Derived.Test.YtebeekjcepjcnaaDoorEOptw
import Derived.Test.YtebeekjcepjcnaaDoorEMade10
import Derived.Test.YtebeekjcepjcnaaDoorEMade9
import Derived.Test.YtebeekjcepjcnaaDoorEPright
import Derived.Test.YtebeekjcepjcnaaDoorEPktlen
import Derived.Test.YtebeekjcepjcnaaDoorESm
import Derived.Test.YtebeekjcepjcnaaDoorEUdprd
import Derived.Test.YtebeekjcepjcnaaDoorEIcmprd
import Derived.Test.YtebeekjcepjcnaaDoorEContt
import Derived.Test.YtebeekjcepjcnaaDoorEMade11p
import Derived.Test.YtebeekjcepjcnaaDoorEM11law
namespace Go.Proofs.YtebeekjcepjcnaaDoor
open Go.RowKit
theorem made_bad {h : IpH} {data : List Int} {r : Int} (hOk : h.Ok) (hR : h.Right data.length) (hrs : h.reason = 0) (hp : h.proto = 6 ∨ h.proto = 17 ∨ h.proto = 1) (he : reasonOf (dataE h.proto data) = r) (hr : r ≠ 0) :
    pktR (ipWriteL h data) = r ∧ pktF (ipWriteL h data) = Facts.zero := by
  obtain ⟨p1, _⟩ := pkt_back h data [] hOk hR
  rw [List.append_nil, hrs, if_neg (by simp), if_neg (by omega), he] at p1
  refine ⟨p1, ?_⟩
  unfold pktF
  rw [if_neg (by rw [p1]; exact hr)]
theorem m11_rightn {x : Sm} {p : Int} {os : List OE} {n m : Nat} (h : (m11H x p os).Right n) (hm : m ≤ 1000) : (m11H x p os).Right m := ⟨h.off0, h.off1, h.off8, h.len, h.len4, by have := h.len; omega, by show (0 : Int) + m ≤ 65515; omega, fun h => by simp [m11H] at h⟩
theorem quoN_bad {b : List Int} {j : Nat} (hj : j < 4) (h : quoT b j = true) : quoN b < 4 := by
  rcases Nat.lt_or_ge (quoN b) 4 with h4 | h4
  · exact h4
  · have := firstB_before (quoT b) 4 0 j (by unfold quoN at h4; omega)
    rw [Nat.zero_add, h] at this
    cases this
theorem quoE_bad {b : List Int} {j : Nat} (hj : j < 4) (h : quoT b j = true) : quoE b = 103 := by
  unfold quoE
  rw [if_pos (quoN_bad hj h)]
/-- What is known of a message that is made. -/
theorem cont_icm {k : Nat} {data : List Int} {f : Facts} (hC : Cont k data f) (hk : k = 2 ∨ k = 3) : f.key.proto = 1 ∧ 8 ≤ data.length ∧ data.length ≤ 400 ∧ kind2 (data.getD 0 0).toNat (data.getD 1 0).toNat = 0 ∧ icmpK data = f.kind := by
  have hp : f.key.proto = 1 := by rw [hC.proto]; rcases hk with rfl | rfl <;> rfl
  have hd : icmpE2 data = 0 := by
    have := hC.data
    unfold dataE at this
    rw [if_neg (by omega), if_neg (by omega)] at this
    exact this
  have hl := hC.len
  have he : icmpE data = 0 := by
    unfold icmpE2 at hd
    split at hd
    · rename_i h; exact absurd hd h
    · rename_i h; omega
  have h2 : kind2 (data.getD 0 0).toNat (data.getD 1 0).toNat = 0 := by
    unfold icmpE at he
    rw [if_neg (by omega)] at he
    exact he
  refine ⟨hp, hl.1, hl.2.1, h2, ?_⟩
  have hf := hC.facts ⟨0, 0, false, false, 0, 0, 1, 0, 0, []⟩ hp.symm
  have hf2 := congrArg Facts.kind hf
  unfold dataF at hf2
  rw [if_neg (by omega), if_neg (by omega)] at hf2
  unfold icmpF at hf2
  split at hf2 <;> exact hf2
theorem getD_take {l : List Int} {m i : Nat} (h : i < m) : (l.take m).getD i 0 = l.getD i 0 := by
  rw [List.getD_eq_getElem?_getD, List.getD_eq_getElem?_getD, List.getElem?_take, if_pos h]
/-- A quote that is cut. -/
theorem err0 {data : List Int} {f : Facts} (hC : Cont 3 data f) {n4 pk : Nat} (hs : ipSize (data.drop 8) = 20 + n4) (hpk : pk < 28 + n4) : reasonOf (dataE f.key.proto (data.take (8 + pk))) = 18 := by
  obtain ⟨hp, h8, _, h2, hK⟩ := cont_icm hC (.inr rfl)
  have hk5 := hC.kind.2.2.2 rfl
  have hl : (data.take (8 + pk)).length = min (8 + pk) data.length := List.length_take
  have hq : quoE ((data.take (8 + pk)).drop 8) = 103 := by
    have e : (data.take (8 + pk)).drop 8 = (data.drop 8).take pk := by rw [List.drop_take]; congr 1; omega
    rw [e]
    have hl2 : ((data.drop 8).take pk).length = min pk (data.length - 8) := by rw [List.length_take, List.length_drop]
    by_cases h20 : ((data.drop 8).take pk).length < 20
    · refine quoE_bad (j := 0) (by omega) ?_
      show (decide (_ < 20) || _) = true
      rw [decide_eq_true h20]
      rfl
    · refine quoE_bad (j := 1) (by omega) ?_
      have hz : ipSize ((data.drop 8).take pk) = 20 + n4 := by
        rw [← hs]
        unfold ipSize
        rw [getD_take (by omega)]
      show (decide _ || decide (_ < _)) = true
      rw [hz, decide_eq_true (p := ((data.drop 8).take pk).length < 20 + n4 + 8) (by omega)]
      simp
  have hE : icmpE (data.take (8 + pk)) = 0 := by
    unfold icmpE
    rw [if_neg (by omega), getD_take (by omega), getD_take (by omega), h2]
  have hKt : icmpK (data.take (8 + pk)) = 5 := by
    rw [← hk5, ← hK]
    unfold icmpK
    rw [getD_take (by omega), getD_take (by omega)]
  unfold dataE
  rw [hp, if_neg (by decide), if_neg (by decide)]
  unfold icmpE2
  rw [hE, if_neg (by decide), hKt, if_neg (by decide), hq]
  decide
theorem quo_nest (c z : Nat) (hc : c < 16) (hz : z < 20) (i s : Int) : quoE (ipWriteL ⟨0, 0, false, false, 0, 0, 1, 0, 0, []⟩ (icmpL 3 c i s (zerosL z))) = 104 := by
  obtain ⟨x, y, e⟩ := icmpL_eq 3 c i s (zerosL z)
  have ho : IpH.Ok ⟨0, 0, false, false, 0, 0, 1, 0, 0, []⟩ := ⟨by decide, by decide, by decide, by decide, by decide, by decide, by decide, by decide, by decide, by decide, by decide, by decide, Byt.nil⟩
  have hil : (icmpL 3 c i s (zerosL z)).length = 8 + z := by rw [e]; simp [zerosL_len]; omega
  have hR : IpH.Right ⟨0, 0, false, false, 0, 0, 1, 0, 0, []⟩ (icmpL 3 c i s (zerosL z)).length := ⟨by decide, by decide, rfl, by decide, rfl, by rw [hil]; show 0 + _ ≤ 65515; omega, by rw [hil]; show (0 : Int) + ((8 + z : Nat) : Int) ≤ 65515; omega, fun h => by simp at h⟩
  have k := ip_back _ _ (icmpL 3 c i s (zerosL z)) ho hR
  have hlen := ipWriteL_len ⟨0, 0, false, false, 0, 0, 1, 0, 0, []⟩ (icmpL 3 c i s (zerosL z))
  have hw6 : w16At (ipWriteL ⟨0, 0, false, false, 0, 0, 1, 0, 0, []⟩ (icmpL 3 c i s (zerosL z))) 6 = 0 := by
    unfold ipWriteL
    rw [headL_eq]
    rfl
  have hproto : (ipWriteL ⟨0, 0, false, false, 0, 0, 1, 0, 0, []⟩ (icmpL 3 c i s (zerosL z))).getD 9 0 = 1 := (hdr_proto _).symm.trans (congrArg IpH.proto k.hdr)
  have hdrop : (ipWriteL ⟨0, 0, false, false, 0, 0, 1, 0, 0, []⟩ (icmpL 3 c i s (zerosL z))).drop 20 = icmpL 3 c i s (zerosL z) := List.drop_left' (headL_len _ _)
  have hsz : ipSize (ipWriteL ⟨0, 0, false, false, 0, 0, 1, 0, 0, []⟩ (icmpL 3 c i s (zerosL z))) = 20 := k.size
  have hver := k.ver
  have hsum : ofB ((ipWriteL ⟨0, 0, false, false, 0, 0, 1, 0, 0, []⟩ (icmpL 3 c i s (zerosL z))).take 20) = 0 := k.sum
  have htot := k.total
  have hver2 : (ipWriteL ⟨0, 0, false, false, 0, 0, 1, 0, 0, []⟩ (icmpL 3 c i s (zerosL z))).getD 0 0 / 16 = 4 := hver
  have htot2 : ipTotal (ipWriteL ⟨0, 0, false, false, 0, 0, 1, 0, 0, []⟩ (icmpL 3 c i s (zerosL z))) = 20 + (8 + z) := by rw [← hil]; exact htot
  have h01 : (icmpL 3 c i s (zerosL z)).getD 0 0 = 3 ∧ (icmpL 3 c i s (zerosL z)).getD 1 0 = c := by rw [e]; exact ⟨rfl, rfl⟩
  rw [hil] at hlen
  simp only [List.length_nil] at hlen
  clear k htot hver hR ho e
  generalize ipWriteL ⟨0, 0, false, false, 0, 0, 1, 0, 0, []⟩ (icmpL 3 c i s (zerosL z)) = b at *
  have hN : quoN b = 4 := firstB_all fun j hj => by
    rcases (show j = 0 ∨ j = 1 ∨ j = 2 ∨ j = 3 by omega) with rfl | rfl | rfl | rfl
    · have e1 : decide (b.length < 20) = false := decide_eq_false (by omega)
      show (decide (b.length < 20) || b.getD 0 0 / 16 != 4) = false
      rw [hver2, e1]; rfl
    · simp [quoT, hsz]; omega
    · unfold ipTotal at htot2
      simp [quoT, hsz, hsum]; omega
    · simp [quoT, hw6]
  have hk : quoKind b = 5 := by
    unfold quoKind
    dsimp only
    rw [hproto, if_neg (by omega), if_pos rfl, hsz, hdrop, h01.1, h01.2]
    have : ∀ c, c < 16 → kind1 3 c = 5 := by decide
    exact this c hc
  unfold quoE
  rw [if_neg (by omega), hk, if_neg (by decide), if_pos rfl]
/-- An error that quotes an error. -/
theorem err1 {data q : List Int} {f : Facts} (hC : Cont 3 data f) (hq : quoE q = 104) : reasonOf (dataE f.key.proto (data.take 8 ++ q)) = 19 := by
  obtain ⟨hp, h8, _, h2, hK⟩ := cont_icm hC (.inr rfl)
  have hk5 := hC.kind.2.2.2 rfl
  have hl : (data.take 8).length = 8 := by rw [List.length_take]; omega
  have g0 : ∀ i, i < 8 → (data.take 8 ++ q).getD i 0 = data.getD i 0 := fun i hi => by
    rw [List.getD_eq_getElem?_getD, List.getElem?_append_left (by omega), ← List.getD_eq_getElem?_getD, getD_take hi]
  have hE : icmpE (data.take 8 ++ q) = 0 := by
    unfold icmpE
    rw [if_neg (by rw [List.length_append]; omega), g0 0 (by omega), g0 1 (by omega), h2]
  have hKt : icmpK (data.take 8 ++ q) = 5 := by
    rw [← hk5, ← hK]
    unfold icmpK
    rw [g0 0 (by omega), g0 1 (by omega)]
  unfold dataE
  rw [hp, if_neg (by decide), if_neg (by decide)]
  unfold icmpE2
  rw [hE, if_neg (by decide), hKt, if_neg (by decide), List.drop_left' hl, hq]
  decide
theorem codesN_15 (t : Nat) : codesN t ≤ 15 := by
  by_cases h : t < 19
  · have : ∀ k : Fin 19, codesN k ≤ 15 := by decide
    exact this ⟨t, h⟩
  · unfold codesN
    rw [List.getD_eq_getElem?_getD, List.getElem?_eq_none (by simp; omega)]
    decide
/-- A code that there is not. -/
theorem err2 {data : List Int} {f : Facts} (hC : Cont 3 data f) {c : Int} (hc : 16 ≤ c) : reasonOf (dataE f.key.proto (data.set 1 c)) = 17 := by
  obtain ⟨hp, h8, _, h2, _⟩ := cont_icm hC (.inr rfl)
  have hk : kindN (data.getD 0 0).toNat ≠ 0 := fun h => by
    unfold kind2 at h2
    rw [if_pos h] at h2
    cases h2
  have hE : icmpE (data.set 1 c) = 102 := by
    unfold icmpE
    rw [if_neg (by rw [List.length_set]; omega), getD_set_ne _ _ _ _ (by omega), getD_set_eq _ _ _ (by omega)]
    unfold kind2
    rw [if_neg hk, if_pos (by have := codesN_15 (data.getD 0 0).toNat; omega)]
  unfold dataE
  rw [hp, if_neg (by decide), if_neg (by decide)]
  unfold icmpE2
  rw [hE, if_pos (by decide)]
  decide
/-- A type that there is not. -/
theorem err3 {data : List Int} {f : Facts} (hC : Cont 2 data f) {t : Nat} (ht : kindN t = 0) : reasonOf (dataE f.key.proto (data.set 0 (t : Int))) = 17 := by
  obtain ⟨hp, h8, _, h2, _⟩ := cont_icm hC (.inl rfl)
  have hE : icmpE (data.set 0 (t : Int)) = 101 := by
    unfold icmpE
    rw [if_neg (by rw [List.length_set]; omega), getD_set_eq _ _ _ (by omega)]
    unfold kind2
    rw [Int.toNat_natCast, if_pos ht]
  unfold dataE
  rw [hp, if_neg (by decide), if_neg (by decide)]
  unfold icmpE2
  rw [hE, if_pos (by decide)]
  decide
theorem cont_udq {data : List Int} {f : Facts} (hC : Cont 1 data f) : f.key.proto = 17 ∧ 8 ≤ data.length ∧ ¬ (w16At data 4 < 8 ∨ (data.length : Int) < w16At data 4) := by
  have hp : f.key.proto = 17 := hC.proto
  have hd : udpE2 data = 0 := by
    have := hC.data
    unfold dataE at this
    rw [if_neg (by omega), if_pos hp] at this
    exact this
  have he : udpE data = 0 := by
    unfold udpE2 at hd
    split at hd
    · rename_i h; exact absurd hd h
    · rename_i h; omega
  refine ⟨hp, hC.len.1, fun h => ?_⟩
  unfold udpE at he
  rw [if_neg (by have := hC.len.1; omega), if_pos h] at he
  cases he
/-- A length that is not right. -/
theorem err4 {data : List Int} {f : Facts} (hC : Cont 1 data f) {l : Int} (hl : l < 8) : reasonOf (dataE f.key.proto ((data.set 4 0).set 5 l)) = 14 := by
  obtain ⟨hp, h8, _⟩ := cont_udq hC
  have hw : w16At ((data.set 4 0).set 5 l) 4 = l := by
    unfold w16At
    rw [getD_set_ne _ _ _ _ (by omega), getD_set_eq _ _ _ (by omega), getD_set_eq _ _ _ (by rw [List.length_set]; omega)]
    omega
  have hE : udpE ((data.set 4 0).set 5 l) = 91 := by
    unfold udpE
    rw [if_neg (by rw [List.length_set, List.length_set]; omega), hw, if_pos (.inl hl)]
  unfold dataE
  rw [hp, if_neg (by decide), if_pos rfl]
  unfold udpE2
  rw [hE, if_pos (by decide)]
  decide
/-- A message that is too short. -/
theorem err5 {data : List Int} {f : Facts} (hC : Cont 2 data f) {m : Nat} (hm : m < 8) : reasonOf (dataE f.key.proto (data.take m)) = 14 := by
  obtain ⟨hp, _⟩ := cont_icm hC (.inl rfl)
  have hE : icmpE (data.take m) = 100 := by
    unfold icmpE
    rw [if_pos (by rw [List.length_take]; omega)]
  unfold dataE
  rw [hp, if_neg (by decide), if_neg (by decide)]
  unfold icmpE2
  rw [hE, if_pos (by decide)]
  decide
/-- A port that is 0. -/
theorem err6 {data : List Int} {f : Facts} (hC : Cont 1 data f) (k : Nat) (hk : k = 0 ∨ k = 2) : reasonOf (dataE f.key.proto ((data.set k 0).set (k + 1) 0)) = 16 := by
  obtain ⟨hp, h8, h4⟩ := cont_udq hC
  have hw : w16At ((data.set k 0).set (k + 1) 0) k = 0 := by
    unfold w16At
    rw [getD_set_ne _ _ _ _ (by omega), getD_set_eq _ _ _ (by omega), getD_set_eq _ _ _ (by rw [List.length_set]; omega)]
    omega
  have hw4 : w16At ((data.set k 0).set (k + 1) 0) 4 = w16At data 4 := by
    unfold w16At
    rw [getD_set_ne _ _ _ _ (by omega), getD_set_ne _ _ _ _ (by omega), getD_set_ne _ _ _ _ (by omega), getD_set_ne _ _ _ _ (by omega)]
  have hl : ((data.set k 0).set (k + 1) 0).length = data.length := by rw [List.length_set, List.length_set]
  have hu : udpE ((data.set k 0).set (k + 1) 0) = if w16At ((data.set k 0).set (k + 1) 0) 2 = 0 then 92 else 0 := by
    unfold udpE
    rw [hl, hw4, if_neg (by omega), if_neg h4]
  have hE : udpE2 ((data.set k 0).set (k + 1) 0) = 92 := by
    unfold udpE2
    rw [hu]
    by_cases h : w16At ((data.set k 0).set (k + 1) 0) 2 = 0
    · rw [if_pos h, if_pos (by decide)]
    · have hk0 : k = 0 := by
        rcases hk with rfl | rfl
        · rfl
        · exact absurd hw h
      subst hk0
      rw [if_neg h, if_neg (by decide), if_pos hw]
  unfold dataE
  rw [hp, if_neg (by decide), if_pos rfl, hE]
  decide
end Go.Proofs.YtebeekjcepjcnaaDoor
namespace Go.Proofs.YtebeekjcepjcnaaDoor
open Go.RowKit
theorem UdpOut.open_ {w W : World} {d : List Int} {e : Ending} (h : UdpOut w d e W) (hB : Byt d) : ∃ a0 a1 b2 T, e = .returned (.tuple #[.agg #[.int .u16 a0, .int .u16 a1, .bool b2], .int .i64 T, .int .i64 (udpE d)]) ∧ Below w.heap.size w W ∧ (0 ≤ T ∧ T < 65536) ∧ (udpE d = 0 → a0 = w16At d 0 ∧ a1 = w16At d 2 ∧ T = w16At d 4) := by
  obtain ⟨he, hb⟩ := h
  by_cases h0 : udpE d = 0
  · rw [if_pos h0, if_pos h0] at he
    exact ⟨_, _, _, _, he, hb, w16At_bd hB 4, fun _ => ⟨rfl, rfl, rfl⟩⟩
  · rw [if_neg h0, if_neg h0] at he
    exact ⟨_, _, _, _, he, hb, by omega, fun h => absurd h h0⟩
set_option maxRecDepth 100000 in
set_option maxHeartbeats 8000000 in
theorem pktUdp_any (p s d : Int) (A : Option Addr) (cap n : Nat) (xs : List Int) (g : Nat) (w : World) (hn : xs.length = n) (hcap : n ≤ cap) (hl : n ≤ 1000000) (hB : Byt xs) (hr : Rd w g A .u8 xs) (hb : Blk w g 117 (pkC (.slice A n cap) (baseK p s d))) :
    Calls Tryd.prog 58 #[.pointer (some ⟨g, 0, none⟩)] w fun e W' => e = .returned (.int .i64 (udpE2 xs)) ∧ Below g w W' ∧ w.heap.size ≤ W'.heap.size ∧ (udpE2 xs = 0 → Blk W' g 117 (pkC (.slice A n cap) (udpF (baseK p s d) xs))) := by
  have HT := Lib.hid (udpRead_any A cap n xs w hn hcap hl hB (hr.more (Nat.le_of_lt hb.lt)))
  have HO := Lib.hid (fun e W h => UdpOut.open_ (w := w) (W := W) (d := xs) (e := e) h hB)
  have HF := Lib.hid (show udpF (baseK p s d) xs = ⟨⟨p, s, d, w16At xs 0, w16At xs 2⟩, 2, 0, 0, 0, 0, 0, 0, w16At xs 4 - 8, ⟨0, 0, 0, 0, 0⟩, 0⟩ from rfl)
  have HE2 := Lib.hid (show udpE2 xs = if udpE xs ≠ 0 then udpE xs else if w16At xs 0 = 0 then 92 else 0 from rfl)
  have hb0 : w.cell? ⟨g, 0, none⟩ = some (.slice A n cap) := hb.cell 0
  have hgl := hb.lt
  clear hr hB hn
  generalize udpE2 xs = E2 at *
  generalize udpE xs = E at *
  go_enter Tryd.func58, Tryd.ntmps58
  go_wp2_with fail
  refine HT.out.mono ?_
  intro e w1 hto
  obtain ⟨a0, a1, b2, T, rfl, l1, hT, hEq⟩ := HO.out _ _ hto
  have HEq := Lib.hid hEq
  have b1 := hb.below l1 hgl
  have b10 : w1.cell? ⟨g, 0, none⟩ = some (.slice A n cap) := b1.cell 0
  clear hto hEq hb0
  have hz1 := l1.size
  go_upto_region 3 with (first | ((with_reducible refine look_store ?_); refine wpList_store_new rfl _ _ _ rfl _ _ rfl rfl _ _ rfl (by kernel_rfl) (by simp) (by simp [Value.oneCell']) ?_) | fail)
  refine wp_name1 ?_
  intro w2 hb2 hs2 bh
  have b2' := b1.below hb2 (by omega)
  have hk6 : w2.cell? ⟨g, 6, none⟩ = some (.int .u8 0) := b2'.cell 6
  have hf6 := b2'.frozen 6
  have hk13 : w2.cell? ⟨g, 13, none⟩ = some (.int .i64 0) := b2'.cell 13
  have hf13 := b2'.frozen 13
  have hbx2 := (l1.mono (Nat.le_of_lt hgl)).trans (hb2.mono (by omega : g ≤ w1.heap.size))
  go_wp2_with fail
  have hS0 : St w g [(w1.heap.size, 168, #[.int .u16 a0, .int .u16 a1, .bool b2])] w2 := (St.nil hbx2 (by omega)).cons bh
  have hS1 := (hS0.setFar (p := ⟨g, 6, none⟩) (Nat.le_refl _) (by simp; omega) (.int .u8 2)).setFar (p := ⟨g, 13, none⟩) (Nat.le_refl _) (by simp; omega) (.int .i64 (T - 8))
  have hB1 : Blk ((w2.setCell ⟨g, 6, none⟩ (.int .u8 2)).setCell ⟨g, 13, none⟩ (.int .i64 (T - 8))) g 117 (pkC (.slice A n cap) (pkU p s d (T - 8) a0 a1 2)) := (b2'.set 6 _).set 13 _
  have hS : StN w g [(w1.heap.size, 168, #[.int .u16 a0, .int .u16 a1, .bool b2])] g 117 (fun c => pkC (.slice A n cap) (pkU p s d (T - 8) a0 a1 (c + 2))) 0 _ := ⟨hS1, Nat.le_refl _, by simp; omega, hB1⟩
  clear hS0 hS1 hB1 bh b1 b10 hb2 b2' hk6 hf6 hk13 hf13 hbx2
  refine wp_region_walk0 (by kernel_rfl) (StN w g _ g 117 (fun c => pkC (.slice A n cap) (pkU p s d (T - 8) a0 a1 (c + 2)))) [9, 13] GTop [0, 1, 2, 3, 4, 5, 6, 7, 8, 9, 10, 11, 12, 13] (by kernel_rfl) hS.drew ?_
  iterate 9
    apply Walk.one rfl rfl rfl
    case hrun =>
      intro c W hE hF
      have hsl := (hE.2.2.2.cell 0).trans (pkC_0 _ _)
      have hh := hE.1.get 0 rfl
      have hc0 := hh.cell 0
      have hc1 := hh.cell 1
      go_wp2_with fail
      exact TextPost.mk ⟨GTop.mk, hE⟩
    case hv => rfl
  apply Walk.keep 0 rfl rfl rfl rfl
  case hrun =>
    intro W hE hF
    have hcx : W.cell? ⟨g, 4, none⟩ = some (.int .u16 0) := hE.2.2.2.cell 4
    have hfx := hE.2.2.2.frozen 4
    go_wp2_with fail
    exact TextPost.mk ⟨GTop.mk, hE.set 4 _ rfl⟩
  case hv => rfl
  iterate 3
    apply Walk.one rfl rfl rfl
    case hrun =>
      intro c W hE hF
      have hsl := (hE.2.2.2.cell 0).trans (pkC_0 _ _)
      go_wp2_with fail
      exact TextPost.mk ⟨GTop.mk, hE⟩
    case hv => rfl
  apply Walk.keep 1 rfl rfl rfl rfl
  case hrun =>
    intro W hE hF
    have hcx : W.cell? ⟨g, 5, none⟩ = some (.int .u16 0) := hE.2.2.2.cell 5
    have hfx := hE.2.2.2.frozen 5
    go_wp2_with fail
    exact TextPost.mk ⟨GTop.mk, hE.set 5 _ rfl⟩
  case hv => rfl
  refine Walk.done (fun W hE hF => ?_)
  have hbW := hE.1.1
  have hbR := hE.2.2.2
  have hhl := (hE.1.get 0 rfl).lt
  have hc0 := (hE.1.get 0 rfl).cell 0
  clear hE hF hS
  by_cases hE0 : E = 0
  case neg =>
    have e0 : (E == 0) = false := by simpa using hE0
    have HX := Lib.hid (HE2.out.trans (if_pos hE0))
    have HE0 := Lib.hid hE0
    clear hE0
    go_wp2_with fail
    go_ret
    exact ⟨by rw [HX.out]; rfl, hbW, by omega, fun h => absurd (HX.out ▸ h) HE0.out⟩
  subst hE0
  have HX := Lib.hid (HE2.out.trans (if_neg (by simp)))
  obtain ⟨rfl, rfl, rfl⟩ := HEq.out rfl
  by_cases hz : w16At xs 0 = 0
  · have HX2 := Lib.hid (HX.out.trans (if_pos hz))
    rw [hz] at hc0
    clear hz
    go_wp2_with fail
    go_ret
    exact ⟨by rw [HX2.out]; rfl, hbW, by omega, fun h => by rw [HX2.out] at h; cases h⟩
  · have HX2 := Lib.hid (HX.out.trans (if_neg hz))
    have ez : (w16At xs 0 == 0) = false := by simpa using hz
    have HbR := Lib.hid hbR
    clear hz hbR
    go_wp2_with fail
    go_ret
    refine ⟨by rw [HX2.out]; rfl, hbW, by omega, fun h => ?_⟩
    rw [HF.out]
    exact HbR.out
end Go.Proofs.YtebeekjcepjcnaaDoor
