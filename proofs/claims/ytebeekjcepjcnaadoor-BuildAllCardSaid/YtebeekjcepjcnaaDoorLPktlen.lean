/-
  The facts of a packet are within their types; a packet that is built of them is not longer (plain).
  What is written are bytes (plain).
  bafflelaw12.BuildAll.
-/
import Derived.Test.YtebeekjcepjcnaaDoorProg
import Derived.WalkKit
import Derived.WalkSpells
import Derived.WalkLawsBesides
import Derived.WalkSmall
import Derived.Lib.Hide
import Derived.Deep.AppendLies
import Derived.Maps.AppendAt
import Derived.Laws.AppendOwnNone
import Derived.Laws.CopyOwn
import Derived.OneCell
import Derived.Lib.SliceRun
import Derived.RangeFuncNested
import Derived.RangeFuncBound
import Derived.RangeFuncCalls
import Derived.RangeFuncLeaves
import Derived.Shelf.Abstract
import Derived.OwnWalkIn
import Derived.TacticsInMore
import Derived.LoopNIn
import Derived.LoopIn
import Derived.Lib.AppendZeros
import Derived.BigRegion
import Derived.ChangeAlike
import Derived.Deep.RegionLaw
import Derived.Deep.DeepCutAuto
import Derived.Orders
import Derived.RegionTactic
import Derived.Deep.RegionHeld3
import Derived.Still
import Derived.Deep.MidRow
import Derived.MapKept
import Derived.Laws.StructEq
import Derived.RegionIn
import Derived.Test.YtebeekjcepjcnaaDoorLBase
import Derived.Test.YtebeekjcepjcnaaDoorLMem
import Derived.Test.YtebeekjcepjcnaaDoorLCsum
import Derived.Test.YtebeekjcepjcnaaDoorLSum
import Derived.Test.YtebeekjcepjcnaaDoorLFix
import Derived.Test.YtebeekjcepjcnaaDoorLFacts
import Derived.Test.YtebeekjcepjcnaaDoorLPkt
import Derived.Test.YtebeekjcepjcnaaDoorLRegion
import Derived.Test.YtebeekjcepjcnaaDoorLWalk
import Derived.Test.YtebeekjcepjcnaaDoorLStep
import Derived.Test.YtebeekjcepjcnaaDoorLQuoted
import Derived.Test.YtebeekjcepjcnaaDoorLBuilda
import Derived.Test.YtebeekjcepjcnaaDoorLRerr
import Derived.Test.YtebeekjcepjcnaaDoorLStepb
import Derived.Test.YtebeekjcepjcnaaDoorLTcpw
import Derived.Test.YtebeekjcepjcnaaDoorLUdpw
import Derived.Test.YtebeekjcepjcnaaDoorLData
import Derived.Test.YtebeekjcepjcnaaDoorLQdata
import Derived.Test.YtebeekjcepjcnaaDoorLFailure
import Derived.Test.YtebeekjcepjcnaaDoorLEq
import Derived.Test.YtebeekjcepjcnaaDoorLFold
import Derived.Test.YtebeekjcepjcnaaDoorLBuildb
import Derived.Test.YtebeekjcepjcnaaDoorLAnswer
import Derived.Test.YtebeekjcepjcnaaDoorLAnswerb
import Derived.Test.YtebeekjcepjcnaaDoorLAwake
import Derived.Test.YtebeekjcepjcnaaDoorLOpen
import Derived.Test.YtebeekjcepjcnaaDoorLIprd
import Derived.Test.YtebeekjcepjcnaaDoorLIpre
import Derived.Test.YtebeekjcepjcnaaDoorLTcprd
import Derived.Test.YtebeekjcepjcnaaDoorLUdprd
import Derived.Test.YtebeekjcepjcnaaDoorLIcmprd
import Derived.Test.YtebeekjcepjcnaaDoorLPktn
import Derived.Test.YtebeekjcepjcnaaDoorLQuotc
import Derived.Test.YtebeekjcepjcnaaDoorLPkto
import Derived.Test.YtebeekjcepjcnaaDoorLIpread
import Derived.Test.YtebeekjcepjcnaaDoorLOptsa
import Derived.Test.YtebeekjcepjcnaaDoorLOptsb
import Derived.Test.YtebeekjcepjcnaaDoorLOptsc
import Derived.Test.YtebeekjcepjcnaaDoorLOptsd
import Derived.Test.YtebeekjcepjcnaaDoorLPkta
import Derived.Test.YtebeekjcepjcnaaDoorLPktr
import Derived.Test.YtebeekjcepjcnaaDoorLRip5
import Derived.Test.YtebeekjcepjcnaaDoorLPawake
import Derived.Test.YtebeekjcepjcnaaDoorLIpback
import Derived.Test.YtebeekjcepjcnaaDoorLPright
import Derived.Test.YtebeekjcepjcnaaDoorLBuilt
namespace Go.Proofs.YtebeekjcepjcnaaDoor
open Go.RowKit
theorem kind1_bd (t c : Nat) : 0 ≤ kind1 t c ∧ kind1 t c ≤ 5 := by
  have := kindN_bd t
  unfold kind1; repeat' split <;> omega
theorem key_zero_ok : Key.zero.Ok := ⟨by decide, by decide, by decide, by decide, by decide, by decide, by decide, by decide, by decide, by decide⟩
theorem facts_zero_ok : Facts.zero.Ok := ⟨key_zero_ok, by decide, by decide, by decide, by decide, by decide, by decide, by decide, by decide, by decide, by decide, by decide, by decide, by decide, by decide, by decide, by decide, key_zero_ok, by decide, by decide⟩
theorem quoKey_ok {q : List Int} (hB : Byt q) : (quoKey q).Ok := by
  have a := hB.at_ 9
  have b := l32At_bd hB 12
  have c := l32At_bd hB 16
  have r0 := w16At_bd (hB.drop (ipSize q)) 0
  have r2 := w16At_bd (hB.drop (ipSize q)) 2
  have r4 := w16At_bd (hB.drop (ipSize q)) 4
  unfold quoKey
  dsimp only
  split
  · exact ⟨a.1, a.2, b.1, b.2, c.1, c.2, r0.1, r0.2, r2.1, r2.2⟩
  · split
    · exact ⟨a.1, a.2, b.1, b.2, c.1, c.2, r4.1, r4.2, r4.1, r4.2⟩
    · exact ⟨a.1, a.2, b.1, b.2, c.1, c.2, show (0 : Int) ≤ 0 by decide, show (0 : Int) < 65536 by decide, show (0 : Int) ≤ 0 by decide, show (0 : Int) < 65536 by decide⟩
theorem quoKind_bd (q : List Int) : 0 ≤ quoKind q ∧ quoKind q ≤ 5 := by
  have := kind1_bd ((q.drop (ipSize q)).getD 0 0).toNat ((q.drop (ipSize q)).getD 1 0).toNat
  unfold quoKind
  dsimp only
  repeat' split
  all_goals omega
theorem dataF_ok (p : Int) (h : IpH) (d : List Int) (hB : Byt d) (hl : d.length ≤ 1000000) (h0 : 0 ≤ h.proto ∧ h.proto < 256) (h1 : 0 ≤ h.src ∧ h.src < 4294967296) (h2 : 0 ≤ h.dst ∧ h.dst < 4294967296) : (dataF p (baseF h) d).Ok := by
  have w0 := w16At_bd hB 0
  have w2 := w16At_bd hB 2
  have w4 := w16At_bd hB 4
  have w14 := w16At_bd hB 14
  have l4 := l32At_bd hB 4
  have l8 := l32At_bd hB 8
  have b13 := hB.at_ 13
  have b12 := hB.at_ 12
  have b0 := hB.at_ 0
  have b1 := hB.at_ 1
  have hk := kind1_bd (d.getD 0 0).toNat (d.getD 1 0).toNat
  have hK : icmpK d = kind1 (d.getD 0 0).toNat (d.getD 1 0).toNat := rfl
  have qk := quoKind_bd (d.drop 8)
  unfold dataF
  split
  · have hs : 0 ≤ tcpSize d ∧ tcpSize d ≤ 60 := by unfold tcpSize; omega
    exact ⟨⟨h0.1, h0.2, h1.1, h1.2, h2.1, h2.2, w0.1, w0.2, w2.1, w2.2⟩, show (0 : Int) ≤ 1 by decide, show (1 : Int) < 256 by decide, show 0 ≤ d.getD 13 0 % 64 by omega, show d.getD 13 0 % 64 < 256 by omega, show (0 : Int) ≤ 0 by decide, show (0 : Int) < 256 by decide, show (0 : Int) ≤ 0 by decide, show (0 : Int) < 256 by decide,
      l4.1, l4.2, l8.1, l8.2, show (-9223372036854775808 : Int) ≤ w16At d 14 by omega, show w16At d 14 ≤ 9223372036854775807 by omega, show (-9223372036854775808 : Int) ≤ (d.length : Int) - tcpSize d by omega, show (d.length : Int) - tcpSize d ≤ 9223372036854775807 by omega, key_zero_ok, show (0 : Int) ≤ 0 by decide, show (0 : Int) < 256 by decide⟩
  · split
    · exact ⟨⟨h0.1, h0.2, h1.1, h1.2, h2.1, h2.2, w0.1, w0.2, w2.1, w2.2⟩, show (0 : Int) ≤ 2 by decide, show (2 : Int) < 256 by decide, show (0 : Int) ≤ 0 by decide, show (0 : Int) < 256 by decide, show (0 : Int) ≤ 0 by decide, show (0 : Int) < 256 by decide, show (0 : Int) ≤ 0 by decide, show (0 : Int) < 256 by decide,
        show (0 : Int) ≤ 0 by decide, show (0 : Int) < 4294967296 by decide, show (0 : Int) ≤ 0 by decide, show (0 : Int) < 4294967296 by decide, show (-9223372036854775808 : Int) ≤ 0 by decide, show (0 : Int) ≤ 9223372036854775807 by decide, show (-9223372036854775808 : Int) ≤ w16At d 4 - 8 by omega, show w16At d 4 - 8 ≤ 9223372036854775807 by omega, key_zero_ok, show (0 : Int) ≤ 0 by decide, show (0 : Int) < 256 by decide⟩
    · unfold icmpF
      split
      · exact ⟨⟨h0.1, h0.2, h1.1, h1.2, h2.1, h2.2, w4.1, w4.2, w4.1, w4.2⟩, show 0 ≤ icmpK d by omega, show icmpK d < 256 by omega, show (0 : Int) ≤ 0 by decide, show (0 : Int) < 256 by decide, b0.1, b0.2, b1.1, b1.2,
          show (0 : Int) ≤ 0 by decide, show (0 : Int) < 4294967296 by decide, show (0 : Int) ≤ 0 by decide, show (0 : Int) < 4294967296 by decide, show (-9223372036854775808 : Int) ≤ 0 by decide, show (0 : Int) ≤ 9223372036854775807 by decide, show (-9223372036854775808 : Int) ≤ (d.length : Int) - 8 by omega, show (d.length : Int) - 8 ≤ 9223372036854775807 by omega, key_zero_ok, show (0 : Int) ≤ 0 by decide, show (0 : Int) < 256 by decide⟩
      · exact ⟨⟨h0.1, h0.2, h1.1, h1.2, h2.1, h2.2, show (0 : Int) ≤ 0 by decide, show (0 : Int) < 65536 by decide, show (0 : Int) ≤ 0 by decide, show (0 : Int) < 65536 by decide⟩, show 0 ≤ icmpK d by omega, show icmpK d < 256 by omega, show (0 : Int) ≤ 0 by decide, show (0 : Int) < 256 by decide, b0.1, b0.2, b1.1, b1.2,
          show (0 : Int) ≤ 0 by decide, show (0 : Int) < 4294967296 by decide, show (0 : Int) ≤ 0 by decide, show (0 : Int) < 4294967296 by decide, show (-9223372036854775808 : Int) ≤ 0 by decide, show (0 : Int) ≤ 9223372036854775807 by decide, show (-9223372036854775808 : Int) ≤ (d.length : Int) - 8 by omega, show (d.length : Int) - 8 ≤ 9223372036854775807 by omega, quoKey_ok (hB.drop 8), show 0 ≤ quoKind (d.drop 8) by omega, show quoKind (d.drop 8) < 256 by omega⟩
theorem pktF_ok {b : List Int} (hB : Byt b) (hl : b.length ≤ 1000000) : (pktF b).Ok := by
  unfold pktF
  split
  · refine dataF_ok _ _ _ (ipData_byt hB) ?_ (hB.at_ 9) (l32At_bd hB 12) (l32At_bd hB 16)
    unfold ipData
    rw [List.length_drop, List.length_take]
    omega
  · exact facts_zero_ok
theorem pkt_len {b : List Int} (hB : Byt b) (h : pktR b = 0) : (pktF b).buildL.length ≤ b.length := by
  have k := pkt_open h
  have hs := k.sizes hB
  have hr := pkt_right hB h
  have hd := (dataL_len hr).1
  have e1 : (pktF b).buildL.length = 20 + (pktF b).dataL.length := by
    show (ipWriteL (hdrH (pktF b).key) (pktF b).dataL).length = _
    rw [ipWriteL_len]
    show 20 + 0 + _ = _
    omega
  suffices hx : (if (pktF b).kind = 1 then 20 else 8) + (pktF b).length.toNat ≤ (ipData b).length by omega
  have hE := k.data
  rw [k.facts]
  rcases k.proto with e | e | e <;> rw [e] at hE ⊢
  · have hE2 : tcpE (ipData b) = 0 := hE
    unfold tcpE at hE2
    split at hE2; · omega
    split at hE2; · omega
    show (if (1 : Int) = 1 then 20 else 8) + (((ipData b).length : Int) - tcpSize (ipData b)).toNat ≤ _
    rw [if_pos rfl]
    omega
  · have hE2 : udpE2 (ipData b) = 0 := hE
    have h0 : udpE (ipData b) = 0 := by
      unfold udpE2 at hE2
      split at hE2
      · exact hE2
      · omega
    unfold udpE at h0
    split at h0; · omega
    split at h0; · omega
    show (if (2 : Int) = 1 then 20 else 8) + (w16At (ipData b) 4 - 8).toNat ≤ _
    rw [if_neg (by decide)]
    omega
  · have hE2 : icmpE2 (ipData b) = 0 := hE
    have h0 : icmpE (ipData b) = 0 := by
      unfold icmpE2 at hE2
      split at hE2
      · exact hE2
      · omega
    have h8 : 8 ≤ (ipData b).length := by
      unfold icmpE at h0
      split at h0 <;> omega
    have hF : dataF 1 (baseF (ipHdr b)) (ipData b) = icmpF (baseF (ipHdr b)) (ipData b) := rfl
    rw [hF]
    have hn1 : icmpK (ipData b) ≠ 1 := fun h1 => kind1_three _ _ (.inl h1)
    have hL : (icmpF (baseF (ipHdr b)) (ipData b)).length = ((ipData b).length : Int) - 8 ∧ (icmpF (baseF (ipHdr b)) (ipData b)).kind = icmpK (ipData b) := by
      unfold icmpF
      split <;> exact ⟨rfl, rfl⟩
    rw [hL.1, hL.2, if_neg hn1]
    omega
theorem zero_right : Facts.zero.right = false := by decide +kernel
end Go.Proofs.YtebeekjcepjcnaaDoor
namespace Go.Proofs.YtebeekjcepjcnaaDoor
open Go.RowKit
theorem pseudoL_bd {src dst p n : Int} (s0 : 0 ≤ src) (s1 : src < 4294967296) (d0 : 0 ≤ dst) (d1 : dst < 4294967296) (p0 : 0 ≤ p) (p1 : p < 256) (n0 : 0 ≤ n) (n1 : n ≤ 65535) : 0 ≤ pseudoL src dst p n ∧ pseudoL src dst p n ≤ 65535 := by
  unfold pseudoL
  refine joinL_bd ?_
  intro y hy
  simp at hy
  rcases hy with rfl | rfl | rfl | rfl | rfl | rfl <;> omega
theorem tcpL0_byt {sp dp seqn ackn win urg : Int} {fl : Nat} {opts data : List Int}
    (p0 : 0 ≤ sp) (p1 : sp < 65536) (q0 : 0 ≤ dp) (q1 : dp < 65536) (s0 : 0 ≤ seqn) (s1 : seqn < 4294967296) (a0 : 0 ≤ ackn) (a1 : ackn < 4294967296) (hf : fl < 256)
    (w0 : 0 ≤ win) (w1 : win < 65536) (u0 : 0 ≤ urg) (u1 : urg < 65536) (ho : opts.length ≤ 40) (hob : Byt opts) (hdb : Byt data) : Byt (tcpL0 sp dp seqn ackn fl win urg opts data) := by
  unfold tcpL0 tcpHead
  refine Byt.append (Byt.append (Byt.append (Byt.append (Byt.append (b16s_byt ?_) (b32s_byt ?_)) (Byt.cons (by omega) (by omega) (Byt.cons (by omega) (by omega) Byt.nil))) (b16s_byt ?_)) hob) hdb
  · intro y hy
    simp at hy
    rcases hy with rfl | rfl <;> omega
  · intro y hy
    simp at hy
    rcases hy with rfl | rfl <;> omega
  · intro y hy
    simp at hy
    rcases hy with rfl | rfl | rfl <;> omega
theorem tcpL0_len (sp dp seqn ackn win urg : Int) (fl : Nat) (opts data : List Int) : (tcpL0 sp dp seqn ackn fl win urg opts data).length = 20 + opts.length + data.length := by
  simp [tcpL0, tcpHead, b16s_len, b32s_len]; omega
theorem tcpL_byt {sp dp seqn ackn win urg : Int} {fl : Nat} {opts : List Int} {src dst : Int} {data : List Int}
    (p0 : 0 ≤ sp) (p1 : sp < 65536) (q0 : 0 ≤ dp) (q1 : dp < 65536) (s0 : 0 ≤ seqn) (s1 : seqn < 4294967296) (a0 : 0 ≤ ackn) (a1 : ackn < 4294967296) (hf : fl < 256)
    (w0 : 0 ≤ win) (w1 : win < 65536) (u0 : 0 ≤ urg) (u1 : urg < 65536) (ho : opts.length ≤ 40) (hd : opts.length + data.length ≤ 65495) (x0 : 0 ≤ src) (x1 : src < 4294967296) (y0 : 0 ≤ dst) (y1 : dst < 4294967296) (hob : Byt opts) (hdb : Byt data) :
    Byt (tcpL sp dp seqn ackn fl win urg opts src dst data) := by
  have h0 := tcpL0_byt p0 p1 q0 q1 s0 s1 a0 a1 hf w0 w1 u0 u1 ho hob hdb
  have hl := tcpL0_len sp dp seqn ackn win urg fl opts data
  unfold tcpL tcpSumL
  have hp := pseudoL_bd (p := 6) (n := ((tcpL0 sp dp seqn ackn fl win urg opts data).length : Int)) x0 x1 y0 y1 (by omega) (by omega) (by omega) (by omega)
  have hv := overB_bd h0 hp.1 (by omega)
  refine splice_byt h0 (b16s_byt ?_) 16
  intro y hy
  simp at hy
  subst hy
  omega
theorem udpL_byt {sp dp : Int} {chk : Bool} {src dst : Int} {data : List Int} (p0 : 0 ≤ sp) (p1 : sp < 65536) (q0 : 0 ≤ dp) (q1 : dp < 65536) (hl : data.length ≤ 65507) (x0 : 0 ≤ src) (x1 : src < 4294967296) (y0 : 0 ≤ dst) (y1 : dst < 4294967296) (hdb : Byt data) :
    Byt (udpL sp dp chk src dst data) := by
  have h0 := udp0_byt p0 p1 q0 q1 hl hdb
  have hlen := udp0_len sp dp data
  have hp := pseudoL_bd (p := 17) (n := ((udp0 sp dp data).length : Int)) x0 x1 y0 y1 (by omega) (by omega) (by omega) (by omega)
  have hv := overB_bd h0 hp.1 (by omega)
  have hn : 0 ≤ udpSum src dst (udp0 sp dp data) ∧ udpSum src dst (udp0 sp dp data) ≤ 65535 := by
    unfold udpSum neverB
    split <;> omega
  unfold udpL
  split
  · exact (h0.set 6 (by omega) (by omega)).set 7 (by omega) (by omega)
  · exact h0
theorem icmpW_byt {t c i s : Int} {data : List Int} (t0 : 0 ≤ t) (t1 : t < 256) (c0 : 0 ≤ c) (c1 : c < 256) (i0 : 0 ≤ i) (i1 : i < 65536) (s0 : 0 ≤ s) (s1 : s < 65536) (hdb : Byt data) : Byt (icmpL t c i s data) := by
  unfold icmpL icmpHead
  refine fixL_byt (Byt.append ?_ hdb) 2
  exact .cons (by omega) (by omega) (.cons (by omega) (by omega) (.cons (by omega) (by omega) (.cons (by omega) (by omega) (.cons (by omega) (by omega) (.cons (by omega) (by omega) (.cons (by omega) (by omega) (.cons (by omega) (by omega) .nil)))))))
theorem dataL_byt {f : Facts} (ho : f.Ok) (hr : f.right = true) : Byt f.dataL := by
  have k := right_ok hr
  have hk := ho.key
  have hfr := k.fr
  unfold Facts.fRight at hfr
  unfold Facts.dataL
  split
  · rename_i e
    rw [if_pos e] at hfr
    simp only [Facts.rightTCP, betweenB, Key.ported, Bool.and_eq_true, decide_eq_true_eq] at hfr
    have := ho.flags1
    exact tcpL_byt hk.sp0 hk.sp1 hk.dp0 hk.dp1 ho.seqn0 ho.seqn1 ho.ackn0 ho.ackn1 (by omega) hfr.1.2.1 (by omega) (by omega) (by omega) (by simp) (by rw [zerosL_len]; simp; omega) hk.src0 hk.src1 hk.dst0 hk.dst1 Byt.nil (zerosL_byt _)
  · rename_i e1
    rw [if_neg e1] at hfr
    split
    · rename_i e
      rw [if_pos e] at hfr
      simp only [Facts.rightUDP, betweenB, Key.ported, Bool.and_eq_true, decide_eq_true_eq] at hfr
      exact udpL_byt hk.sp0 hk.sp1 hk.dp0 hk.dp1 (by rw [zerosL_len]; omega) hk.src0 hk.src1 hk.dst0 hk.dst1 (zerosL_byt _)
    · have t0 := ho.type0
      have t1 := ho.type1
      have c0 := ho.code0
      have c1 := ho.code1
      split
      · refine icmpW_byt (by omega) (by omega) (by omega) (by omega) (by omega) (by omega) (by omega) (by omega) ?_
        exact ((headL_byt (hdr_ok ho.quoted) (show 0 ≤ 40 by decide) _).append (qIn_byt ho)).append (Byt.zeros _)
      · exact icmpW_byt t0 t1 c0 c1 hk.sp0 hk.sp1 (by omega) (by omega) (zerosL_byt _)
theorem buildL_byt {f : Facts} (ho : f.Ok) (hr : f.right = true) : Byt f.buildL := ipWriteL_byt (hdr_ok ho.key) (show 0 ≤ 40 by decide) (dataL_byt ho hr)
end Go.Proofs.YtebeekjcepjcnaaDoor
namespace Go.Proofs.YtebeekjcepjcnaaDoor
open Go.RowKit
set_option maxRecDepth 100000 in
set_option maxHeartbeats 8000000 in
theorem buildAll_any (A : Option Addr) (cap n : Nat) (xs : List Int) (w : World) (hn : xs.length = n) (hcap : n ≤ cap) (hB : Byt xs) (hr : Rd w w.heap.size A .u8 xs) (hs : SortsAt w) :
    Calls Tryd.prog 15 #[.slice A n cap] w fun e W => e = .returned (.bool true) ∧ Below w.heap.size w W := by
  have HAw := Lib.hid (awake_any w hs)
  have Hs := Lib.hid (fun (W : World) (h : Below w.heap.size w W) => hs.below h (Nat.le_refl _))
  by_cases h4 : 400 < n
  · have g4 : decide (400 < (n : Int)) = true := by simp; omega
    clear hr hs hB hn
    go_enter Tryd.func15, Tryd.ntmps15
    go_wp2_with fail
    refine HAw.out.mono ?_
    rintro e w1 ⟨rfl, l1⟩
    go_wp2_with fail
    go_ret
    exact ⟨rfl, l1⟩
  have g4 : decide (400 < (n : Int)) = false := by simp; omega
  have H1 := Lib.hid (fun (W : World) (h : Below w.heap.size w W) => pktRead_any A cap n xs W hn (by omega) hcap hB (hr.belows h (Nat.le_refl _)) (Hs.out W h))
  have hok := pktF_ok hB (by omega)
  have HRt := Lib.hid (fun (W : World) (h : SortsAt W) => right_all (pktF xs) W hok h)
  by_cases hR0 : pktR xs = 0
  · have hright := pkt_right hB hR0
    have hbb := built_back hok hright []
    rw [List.append_nil] at hbb
    have hlen := pkt_len hB hR0
    have hML : (pktF xs).madeL = (pktF xs).buildL := if_pos hright
    have hME : (pktF xs).madeE = 0 := if_pos hright
    have hmb : (pktF xs).buildL.length ≤ 400 := by omega
    have HBd := Lib.hid (fun (W : World) (h : SortsAt W) => build_all (pktF xs) W hok h)
    rw [hML, hME] at HBd
    have HRd := Lib.hid (fun (W : World) (A' : Option Addr) (c' : Nat) (ho : Own W W.heap.size (.slice A' (pktF xs).buildL.length c') (pktF xs).buildL) => ho.open_)
    have HByt := buildL_byt hok hright
    have H2 := Lib.hid (fun (W : World) (A' : Option Addr) (c' : Nat) (hc : (pktF xs).buildL.length ≤ c') (ho : Rd W W.heap.size A' .u8 (pktF xs).buildL) (h : Below w.heap.size w W) => pktRead_any A' c' (pktF xs).buildL.length (pktF xs).buildL W rfl (by omega) hc HByt ho (Hs.out W h))
    rw [hbb.1, hbb.2] at H2
    rw [hR0] at H1
    rw [hright] at HRt
    have hle : decide ((pktF xs).buildL.length ≤ n) = true := decide_eq_true (by omega)
    clear hbb hlen hML hME HRd hr hB hn hs hok hright HByt hR0
    generalize (pktF xs).buildL = ys at *
    generalize pktF xs = FF at *
    have HEq := Lib.hid (fun (W : World) => run_eq_facts FF FF W)
    rw [facts_eqB_refl] at HEq
    obtain ⟨⟨k0, k1, k2, k3, k4⟩, f1, f2, f3, f4, f5, f6, f7, f8, ⟨q0, q1, q2, q3, q4⟩, f9⟩ := FF
    rw [show Facts.val ⟨⟨k0, k1, k2, k3, k4⟩, f1, f2, f3, f4, f5, f6, f7, f8, ⟨q0, q1, q2, q3, q4⟩, f9⟩ = .agg #[.int .u8 k0, .int .u32 k1, .int .u32 k2, .int .u16 k3, .int .u16 k4, .int .u8 f1, .int .u8 f2, .int .u8 f3, .int .u8 f4, .int .u32 f5, .int .u32 f6, .int .i64 f7, .int .i64 f8, .int .u8 q0, .int .u32 q1, .int .u32 q2, .int .u16 q3, .int .u16 q4, .int .u8 f9] from rfl] at H1 H2 HRt HBd HEq
    go_enter Tryd.func15, Tryd.ntmps15
    go_wp2_with fail
    refine HAw.out.mono ?_
    rintro e w1 ⟨rfl, l1⟩
    have L1 := Lib.hid l1
    clear l1 HAw
    go_wp2_with fail
    refine (H1.out w1 L1.out).mono ?_
    rintro e w2 ⟨rfl, l2⟩
    have L2 := Lib.hid (L1.out.trans (l2.mono L1.out.size))
    clear l2
    go_upto_region 6 with (first | ((with_reducible refine look_store ?_); refine wpList_store_new rfl _ _ _ rfl _ _ rfl rfl _ _ rfl (by kernel_rfl) (by simp) (by simp [Value.oneCell']) ?_) | fail)
    refine wp_name1 ?_
    intro w3 hb3 hs3 bf
    have L3 := Lib.hid (L2.out.trans (hb3.mono L2.out.size))
    have HB3 := Lib.hid (HBd.out w3 (Hs.out w3 L3.out))
    clear hb3 hs3
    go_wp2_with (first | ((with_reducible refine look_load ?_); refine wpList_load_row rfl _ _ rfl _ rfl _ _ _ _ bf Tryd.underlying27 rfl (by kernel_rfl) ?_) | fail)
    refine HB3.out.mono ?_
    rintro e w4 ⟨A4, c4, rfl, o4, l4⟩
    obtain ⟨A5, c5, he, r4, hc4, _⟩ := o4.open_
    cases he
    have bf4 := bf.below l4 bf.lt
    have L4 := Lib.hid (L3.out.trans (l4.mono L3.out.size))
    have H4 := Lib.hid (H2.out w4 A4 c4 hc4 r4 L4.out)
    clear l4 bf o4 r4 hc4 HB3
    go_wp2_with fail
    refine H4.out.mono ?_
    rintro e w5 ⟨rfl, l5⟩
    have bf5 := bf4.below l5 bf4.lt
    have L5 := Lib.hid (L4.out.trans (l5.mono L4.out.size))
    clear l5 bf4 H4
    go_upto_region 10 with (first | ((with_reducible refine look_store ?_); refine wpList_store_new rfl _ _ _ rfl _ _ rfl rfl _ _ rfl (by kernel_rfl) (by simp) (by simp [Value.oneCell']) ?_) | fail)
    refine wp_name1 ?_
    intro w6 hb6 hs6 bg
    have bf6 := bf5.below hb6 bf5.lt
    have L6 := Lib.hid (L5.out.trans (hb6.mono L5.out.size))
    have HR6 := Lib.hid (HRt.out w6 (Hs.out w6 L6.out))
    clear hb6 hs6 bf5
    go_wp2_with (first | ((with_reducible refine look_load ?_); refine wpList_load_row rfl _ _ rfl _ rfl _ _ _ _ bf6 Tryd.underlying27 rfl (by kernel_rfl) ?_) | ((with_reducible refine look_load ?_); refine wpList_load_guarded (by first | rfl | simp [Region.wanted, yielded]) _ _ rfl _ rfl _ _ _ _ bf6 Tryd.underlying27 rfl (by kernel_rfl) ?_) | fail)
    refine HR6.out.mono ?_
    rintro e w7 ⟨rfl, l7⟩
    have bf7 := bf6.below l7 bf6.lt
    have bg7 := bg.below l7 bg.lt
    have heq := HEq.out w7
    have L7 := Lib.hid (L6.out.trans (l7.mono L6.out.size))
    clear l7 bf6 bg
    go_wp2_with (first | ((with_reducible refine look_load ?_); refine wpList_load_guarded (by first | rfl | simp [Region.wanted, yielded]) _ _ rfl _ rfl _ _ _ _ bg7 Tryd.underlying27 rfl (by kernel_rfl) ?_) | ((with_reducible refine look_load ?_); refine wpList_load_guarded (by first | rfl | simp [Region.wanted, yielded]) _ _ rfl _ rfl _ _ _ _ bf7 Tryd.underlying27 rfl (by kernel_rfl) ?_) | fail)
    go_ret
    exact ⟨rfl, L7.out⟩
  · have hz : pktF xs = Facts.zero := pktF_zero hR0
    have r0 : (pktR xs != 0) = true := by simpa using hR0
    rw [hz] at H1 HRt
    rw [zero_right] at HRt
    clear hr hB hn hs hok hz hR0
    generalize pktR xs = RR at *
    rw [show Facts.val Facts.zero = .agg #[.int .u8 0, .int .u32 0, .int .u32 0, .int .u16 0, .int .u16 0, .int .u8 0, .int .u8 0, .int .u8 0, .int .u8 0, .int .u32 0, .int .u32 0, .int .i64 0, .int .i64 0, .int .u8 0, .int .u32 0, .int .u32 0, .int .u16 0, .int .u16 0, .int .u8 0] from rfl] at H1 HRt
    go_enter Tryd.func15, Tryd.ntmps15
    go_wp2_with fail
    refine HAw.out.mono ?_
    rintro e w1 ⟨rfl, l1⟩
    have L1 := Lib.hid l1
    clear l1 HAw
    go_wp2_with fail
    refine (H1.out w1 L1.out).mono ?_
    rintro e w2 ⟨rfl, l2⟩
    have L2 := Lib.hid (L1.out.trans (l2.mono L1.out.size))
    clear l2
    go_upto_region 6 with (first | ((with_reducible refine look_store ?_); refine wpList_store_new rfl _ _ _ rfl _ _ rfl rfl _ _ rfl (by kernel_rfl) (by simp) (by simp [Value.oneCell']) ?_) | fail)
    refine wp_name1 ?_
    intro w3 hb3 hs3 bf
    have L3 := Lib.hid (L2.out.trans (hb3.mono L2.out.size))
    have HR3 := Lib.hid (HRt.out w3 (Hs.out w3 L3.out))
    clear hb3 hs3
    go_wp2_with (first | ((with_reducible refine look_load ?_); refine wpList_load_row rfl _ _ rfl _ rfl _ _ _ _ bf Tryd.underlying27 rfl (by kernel_rfl) ?_) | fail)
    refine HR3.out.mono ?_
    rintro e w4 ⟨rfl, l4⟩
    go_wp2_with fail
    go_ret
    exact ⟨rfl, L3.out.trans (l4.mono L3.out.size)⟩
end Go.Proofs.YtebeekjcepjcnaaDoor
