/-
  The facts of a packet are within their types; a packet that is built of them is not longer (plain).
  What is written are bytes (plain).
-/
import Derived.Test.YtebeekjcepjcnaaDoorProg
import Derived.WalkKit
import Derived.WalkSpells
import Derived.WalkLawsBesides
import Derived.WalkSmall
import Derived.Lib.Hide
import Derived.Deep.AppendLies
import Derived.Maps.AppendAt
import Derived.Laws.AppendOwnNone
import Derived.Laws.CopyOwn
import Derived.OneCell
import Derived.Lib.SliceRun
import Derived.RangeFuncNested
import Derived.RangeFuncBound
import Derived.RangeFuncCalls
import Derived.RangeFuncLeaves
import Derived.Shelf.Abstract
import Derived.OwnWalkIn
import Derived.TacticsInMore
import Derived.LoopNIn
import Derived.LoopIn
import Derived.Lib.AppendZeros
import Derived.BigRegion
import Derived.ChangeAlike
import Derived.Deep.RegionLaw
import Derived.Deep.DeepCutAuto
import Derived.Orders
import Derived.RegionTactic
import Derived.Deep.RegionHeld3
import Derived.Still
import Derived.Deep.MidRow
import Derived.MapKept
import Derived.Laws.StructEq
import Derived.Test.YtebeekjcepjcnaaDoorEBase
import Derived.Test.YtebeekjcepjcnaaDoorEBits
import Derived.Test.YtebeekjcepjcnaaDoorECsum
import Derived.Test.YtebeekjcepjcnaaDoorESum
import Derived.Test.YtebeekjcepjcnaaDoorEConcat
import Derived.Test.YtebeekjcepjcnaaDoorEFix
import Derived.Test.YtebeekjcepjcnaaDoorEFacts
import Derived.Test.YtebeekjcepjcnaaDoorEPkt
import Derived.Test.YtebeekjcepjcnaaDoorERegion
import Derived.Test.YtebeekjcepjcnaaDoorEWalk
import Derived.Test.YtebeekjcepjcnaaDoorEStep
import Derived.Test.YtebeekjcepjcnaaDoorETcpw
import Derived.Test.YtebeekjcepjcnaaDoorEUdpw
import Derived.Test.YtebeekjcepjcnaaDoorEData
import Derived.Test.YtebeekjcepjcnaaDoorEFold
import Derived.Test.YtebeekjcepjcnaaDoorEEq
import Derived.Test.YtebeekjcepjcnaaDoorEIpback
import Derived.Test.YtebeekjcepjcnaaDoorEMade9
import Derived.Test.YtebeekjcepjcnaaDoorEPright
namespace Go.Proofs.YtebeekjcepjcnaaDoor
open Go.RowKit
theorem kind1_bd (t c : Nat) : 0 ≤ kind1 t c ∧ kind1 t c ≤ 5 := by
  have := kindN_bd t
  unfold kind1; repeat' split <;> omega
theorem key_zero_ok : Key.zero.Ok := ⟨by decide, by decide, by decide, by decide, by decide, by decide, by decide, by decide, by decide, by decide⟩
theorem facts_zero_ok : Facts.zero.Ok := ⟨key_zero_ok, by decide, by decide, by decide, by decide, by decide, by decide, by decide, by decide, by decide, by decide, by decide, by decide, by decide, by decide, by decide, by decide, key_zero_ok, by decide, by decide⟩
theorem quoKey_ok {q : List Int} (hB : Byt q) : (quoKey q).Ok := by
  have a := hB.at_ 9
  have b := l32At_bd hB 12
  have c := l32At_bd hB 16
  have r0 := w16At_bd (hB.drop (ipSize q)) 0
  have r2 := w16At_bd (hB.drop (ipSize q)) 2
  have r4 := w16At_bd (hB.drop (ipSize q)) 4
  unfold quoKey
  dsimp only
  split
  · exact ⟨a.1, a.2, b.1, b.2, c.1, c.2, r0.1, r0.2, r2.1, r2.2⟩
  · split
    · exact ⟨a.1, a.2, b.1, b.2, c.1, c.2, r4.1, r4.2, r4.1, r4.2⟩
    · exact ⟨a.1, a.2, b.1, b.2, c.1, c.2, show (0 : Int) ≤ 0 by decide, show (0 : Int) < 65536 by decide, show (0 : Int) ≤ 0 by decide, show (0 : Int) < 65536 by decide⟩
theorem quoKind_bd (q : List Int) : 0 ≤ quoKind q ∧ quoKind q ≤ 5 := by
  have := kind1_bd ((q.drop (ipSize q)).getD 0 0).toNat ((q.drop (ipSize q)).getD 1 0).toNat
  unfold quoKind
  dsimp only
  repeat' split
  all_goals omega
theorem dataF_ok (p : Int) (h : IpH) (d : List Int) (hB : Byt d) (hl : d.length ≤ 1000000) (h0 : 0 ≤ h.proto ∧ h.proto < 256) (h1 : 0 ≤ h.src ∧ h.src < 4294967296) (h2 : 0 ≤ h.dst ∧ h.dst < 4294967296) : (dataF p (baseF h) d).Ok := by
  have w0 := w16At_bd hB 0
  have w2 := w16At_bd hB 2
  have w4 := w16At_bd hB 4
  have w14 := w16At_bd hB 14
  have l4 := l32At_bd hB 4
  have l8 := l32At_bd hB 8
  have b13 := hB.at_ 13
  have b12 := hB.at_ 12
  have b0 := hB.at_ 0
  have b1 := hB.at_ 1
  have hk := kind1_bd (d.getD 0 0).toNat (d.getD 1 0).toNat
  have hK : icmpK d = kind1 (d.getD 0 0).toNat (d.getD 1 0).toNat := rfl
  have qk := quoKind_bd (d.drop 8)
  unfold dataF
  split
  · have hs : 0 ≤ tcpSize d ∧ tcpSize d ≤ 60 := by unfold tcpSize; omega
    exact ⟨⟨h0.1, h0.2, h1.1, h1.2, h2.1, h2.2, w0.1, w0.2, w2.1, w2.2⟩, show (0 : Int) ≤ 1 by decide, show (1 : Int) < 256 by decide, show 0 ≤ d.getD 13 0 % 64 by omega, show d.getD 13 0 % 64 < 256 by omega, show (0 : Int) ≤ 0 by decide, show (0 : Int) < 256 by decide, show (0 : Int) ≤ 0 by decide, show (0 : Int) < 256 by decide,
      l4.1, l4.2, l8.1, l8.2, show (-9223372036854775808 : Int) ≤ w16At d 14 by omega, show w16At d 14 ≤ 9223372036854775807 by omega, show (-9223372036854775808 : Int) ≤ (d.length : Int) - tcpSize d by omega, show (d.length : Int) - tcpSize d ≤ 9223372036854775807 by omega, key_zero_ok, show (0 : Int) ≤ 0 by decide, show (0 : Int) < 256 by decide⟩
  · split
    · exact ⟨⟨h0.1, h0.2, h1.1, h1.2, h2.1, h2.2, w0.1, w0.2, w2.1, w2.2⟩, show (0 : Int) ≤ 2 by decide, show (2 : Int) < 256 by decide, show (0 : Int) ≤ 0 by decide, show (0 : Int) < 256 by decide, show (0 : Int) ≤ 0 by decide, show (0 : Int) < 256 by decide, show (0 : Int) ≤ 0 by decide, show (0 : Int) < 256 by decide,
        show (0 : Int) ≤ 0 by decide, show (0 : Int) < 4294967296 by decide, show (0 : Int) ≤ 0 by decide, show (0 : Int) < 4294967296 by decide, show (-9223372036854775808 : Int) ≤ 0 by decide, show (0 : Int) ≤ 9223372036854775807 by decide, show (-9223372036854775808 : Int) ≤ w16At d 4 - 8 by omega, show w16At d 4 - 8 ≤ 9223372036854775807 by omega, key_zero_ok, show (0 : Int) ≤ 0 by decide, show (0 : Int) < 256 by decide⟩
    · unfold icmpF
      split
      · exact ⟨⟨h0.1, h0.2, h1.1, h1.2, h2.1, h2.2, w4.1, w4.2, w4.1, w4.2⟩, show 0 ≤ icmpK d by omega, show icmpK d < 256 by omega, show (0 : Int) ≤ 0 by decide, show (0 : Int) < 256 by decide, b0.1, b0.2, b1.1, b1.2,
          show (0 : Int) ≤ 0 by decide, show (0 : Int) < 4294967296 by decide, show (0 : Int) ≤ 0 by decide, show (0 : Int) < 4294967296 by decide, show (-9223372036854775808 : Int) ≤ 0 by decide, show (0 : Int) ≤ 9223372036854775807 by decide, show (-9223372036854775808 : Int) ≤ (d.length : Int) - 8 by omega, show (d.length : Int) - 8 ≤ 9223372036854775807 by omega, key_zero_ok, show (0 : Int) ≤ 0 by decide, show (0 : Int) < 256 by decide⟩
      · exact ⟨⟨h0.1, h0.2, h1.1, h1.2, h2.1, h2.2, show (0 : Int) ≤ 0 by decide, show (0 : Int) < 65536 by decide, show (0 : Int) ≤ 0 by decide, show (0 : Int) < 65536 by decide⟩, show 0 ≤ icmpK d by omega, show icmpK d < 256 by omega, show (0 : Int) ≤ 0 by decide, show (0 : Int) < 256 by decide, b0.1, b0.2, b1.1, b1.2,
          show (0 : Int) ≤ 0 by decide, show (0 : Int) < 4294967296 by decide, show (0 : Int) ≤ 0 by decide, show (0 : Int) < 4294967296 by decide, show (-9223372036854775808 : Int) ≤ 0 by decide, show (0 : Int) ≤ 9223372036854775807 by decide, show (-9223372036854775808 : Int) ≤ (d.length : Int) - 8 by omega, show (d.length : Int) - 8 ≤ 9223372036854775807 by omega, quoKey_ok (hB.drop 8), show 0 ≤ quoKind (d.drop 8) by omega, show quoKind (d.drop 8) < 256 by omega⟩
theorem pktF_ok {b : List Int} (hB : Byt b) (hl : b.length ≤ 1000000) : (pktF b).Ok := by
  unfold pktF
  split
  · refine dataF_ok _ _ _ (ipData_byt hB) ?_ (hB.at_ 9) (l32At_bd hB 12) (l32At_bd hB 16)
    unfold ipData
    rw [List.length_drop, List.length_take]
    omega
  · exact facts_zero_ok
end Go.Proofs.YtebeekjcepjcnaaDoor
namespace Go.Proofs.YtebeekjcepjcnaaDoor
open Go.RowKit
theorem pseudoL_bd {src dst p n : Int} (s0 : 0 ≤ src) (s1 : src < 4294967296) (d0 : 0 ≤ dst) (d1 : dst < 4294967296) (p0 : 0 ≤ p) (p1 : p < 256) (n0 : 0 ≤ n) (n1 : n ≤ 65535) : 0 ≤ pseudoL src dst p n ∧ pseudoL src dst p n ≤ 65535 := by
  unfold pseudoL
  refine joinL_bd ?_
  intro y hy
  simp at hy
  rcases hy with rfl | rfl | rfl | rfl | rfl | rfl <;> omega
theorem tcpL0_byt {sp dp seqn ackn win urg : Int} {fl : Nat} {opts data : List Int}
    (p0 : 0 ≤ sp) (p1 : sp < 65536) (q0 : 0 ≤ dp) (q1 : dp < 65536) (s0 : 0 ≤ seqn) (s1 : seqn < 4294967296) (a0 : 0 ≤ ackn) (a1 : ackn < 4294967296) (hf : fl < 256)
    (w0 : 0 ≤ win) (w1 : win < 65536) (u0 : 0 ≤ urg) (u1 : urg < 65536) (ho : opts.length ≤ 40) (hob : Byt opts) (hdb : Byt data) : Byt (tcpL0 sp dp seqn ackn fl win urg opts data) := by
  unfold tcpL0 tcpHead
  refine Byt.append (Byt.append (Byt.append (Byt.append (Byt.append (b16s_byt ?_) (b32s_byt ?_)) (Byt.cons (by omega) (by omega) (Byt.cons (by omega) (by omega) Byt.nil))) (b16s_byt ?_)) hob) hdb
  · intro y hy
    simp at hy
    rcases hy with rfl | rfl <;> omega
  · intro y hy
    simp at hy
    rcases hy with rfl | rfl <;> omega
  · intro y hy
    simp at hy
    rcases hy with rfl | rfl | rfl <;> omega
theorem tcpL0_len (sp dp seqn ackn win urg : Int) (fl : Nat) (opts data : List Int) : (tcpL0 sp dp seqn ackn fl win urg opts data).length = 20 + opts.length + data.length := by
  simp [tcpL0, tcpHead, b16s_len, b32s_len]; omega
theorem tcpL_byt {sp dp seqn ackn win urg : Int} {fl : Nat} {opts : List Int} {src dst : Int} {data : List Int}
    (p0 : 0 ≤ sp) (p1 : sp < 65536) (q0 : 0 ≤ dp) (q1 : dp < 65536) (s0 : 0 ≤ seqn) (s1 : seqn < 4294967296) (a0 : 0 ≤ ackn) (a1 : ackn < 4294967296) (hf : fl < 256)
    (w0 : 0 ≤ win) (w1 : win < 65536) (u0 : 0 ≤ urg) (u1 : urg < 65536) (ho : opts.length ≤ 40) (hd : opts.length + data.length ≤ 65495) (x0 : 0 ≤ src) (x1 : src < 4294967296) (y0 : 0 ≤ dst) (y1 : dst < 4294967296) (hob : Byt opts) (hdb : Byt data) :
    Byt (tcpL sp dp seqn ackn fl win urg opts src dst data) := by
  have h0 := tcpL0_byt p0 p1 q0 q1 s0 s1 a0 a1 hf w0 w1 u0 u1 ho hob hdb
  have hl := tcpL0_len sp dp seqn ackn win urg fl opts data
  unfold tcpL tcpSumL
  have hp := pseudoL_bd (p := 6) (n := ((tcpL0 sp dp seqn ackn fl win urg opts data).length : Int)) x0 x1 y0 y1 (by omega) (by omega) (by omega) (by omega)
  have hv := overB_bd h0 hp.1 (by omega)
  refine splice_byt h0 (b16s_byt ?_) 16
  intro y hy
  simp at hy
  subst hy
  omega
theorem tcpL_leng (sp dp seqn ackn : Int) (fl : Nat) (win urg : Int) (opts : List Int) (src dst : Int) (data : List Int) : (tcpL sp dp seqn ackn fl win urg opts src dst data).length = 20 + opts.length + data.length := by
  obtain ⟨c, h⟩ := tcpL_eq sp dp seqn ackn fl win urg opts src dst data
  rw [h]; simp; omega
theorem udpL_byt {sp dp : Int} {chk : Bool} {src dst : Int} {data : List Int} (p0 : 0 ≤ sp) (p1 : sp < 65536) (q0 : 0 ≤ dp) (q1 : dp < 65536) (hl : data.length ≤ 65507) (x0 : 0 ≤ src) (x1 : src < 4294967296) (y0 : 0 ≤ dst) (y1 : dst < 4294967296) (hdb : Byt data) :
    Byt (udpL sp dp chk src dst data) := by
  have h0 := udp0_byt p0 p1 q0 q1 hl hdb
  have hlen := udp0_len sp dp data
  have hp := pseudoL_bd (p := 17) (n := ((udp0 sp dp data).length : Int)) x0 x1 y0 y1 (by omega) (by omega) (by omega) (by omega)
  have hv := overB_bd h0 hp.1 (by omega)
  have hn : 0 ≤ udpSum src dst (udp0 sp dp data) ∧ udpSum src dst (udp0 sp dp data) ≤ 65535 := by
    unfold udpSum neverB
    split <;> omega
  unfold udpL
  split
  · exact (h0.set 6 (by omega) (by omega)).set 7 (by omega) (by omega)
  · exact h0
theorem icmpW_byt {t c i s : Int} {data : List Int} (t0 : 0 ≤ t) (t1 : t < 256) (c0 : 0 ≤ c) (c1 : c < 256) (i0 : 0 ≤ i) (i1 : i < 65536) (s0 : 0 ≤ s) (s1 : s < 65536) (hdb : Byt data) : Byt (icmpL t c i s data) := by
  unfold icmpL icmpHead
  refine fixL_byt (Byt.append ?_ hdb) 2
  exact .cons (by omega) (by omega) (.cons (by omega) (by omega) (.cons (by omega) (by omega) (.cons (by omega) (by omega) (.cons (by omega) (by omega) (.cons (by omega) (by omega) (.cons (by omega) (by omega) (.cons (by omega) (by omega) .nil)))))))
end Go.Proofs.YtebeekjcepjcnaaDoor
