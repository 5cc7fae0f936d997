/-
  bafflelaw09.Made.
  The facts of a packet are within their types; a packet that is built of them is not longer (plain).
  What is written are bytes (plain).
  A packet in small numbers, as an argument; what content returns.
  bafflelaw11.content, a datagram.
-/
import Derived.Test.YtebeekjcepjcnaaGreatDoorRMade6p
import Derived.Test.YtebeekjcepjcnaaGreatDoorRMade10
namespace Go.Proofs.YtebeekjcepjcnaaGreatDoor
open Go.RowKit
set_option maxRecDepth 100000 in
set_option maxHeartbeats 2000000 in
theorem made9_any (fr to_ : Int) (chk : Bool) (s d : Int) (A : Option Addr) (cap n m : Nat) (xs : List Int) (w : World) (hn : xs.length = n) (hcap : n ≤ cap) (hm : m = min n 100) (hr : Rd w w.heap.size A .u8 xs) :
    Calls Tryz.prog 39 #[.agg #[.int .u16 fr, .int .u16 to_, .bool chk, .int .u32 s, .int .u32 d, .slice A n cap]] w fun e W => ∃ p : Option Addr × Nat, e = .returned (.tuple #[.agg #[.int .u16 fr, .int .u16 (max to_ 1), .bool chk], .slice p.1 m p.2]) ∧ Own W w.heap.size (.slice p.1 m p.2) (xs.take 100) ∧ Below w.heap.size w W := by
  have hmi : min (n : Int) 100 = (m : Int) := by omega
  have hmc : (m : Int) ≤ cap := by omega
  have HL := Lib.hid (show (xs.take 100).length = m by rw [List.length_take]; omega)
  have HR := Lib.hid (hr.take 100)
  clear hn hm hr hcap
  go_enter Tryz.func39, Tryz.ntmps39
  go_upto_region 1 with fail
  refine wp_name2 ?_
  intro w1 hb1 hs1 b0 b1
  have hSt : St1 w w.heap.size [(w.heap.size, _, _)] (w.heap.size + 1) 115 _ #[.int .u16 fr, .int .u16 (max to_ 1), .bool chk] 0 w1 := ⟨(St.nil hb1 hb1.size).cons b0, by omega, by simp, b1⟩
  have hsz1 : Hid (w.heap.size + 2 ≤ w1.heap.size) := Lib.hid (by omega)
  clear hb1 hs1 b0 b1
  refine wp_region_walk0 (by kernel_rfl) (St1 w w.heap.size _ (w.heap.size + 1) 115 _ #[.int .u16 fr, .int .u16 (max to_ 1), .bool chk]) [17] (GrowR (w.heap.size + 1)) [0, 1, 2, 3, 4, 5, 6, 7, 9, 10, 11, 12, 13, 14, 15, 17, 8, 16, 18] (by kernel_rfl) hSt.drew ?_
  iterate 15
    apply Walk.one rfl rfl rfl
    case hrun =>
      intro c W hE hF
      have hc := (hE.1.get 0 rfl).cell
      go_wp2_with fail
      exact TextPost.mk ⟨GrowR.refl _ _, hE⟩
    case hv => rfl
  apply Walk.keep 0 rfl rfl rfl rfl
  case hrun =>
    intro W2 hE hF
    have hbR := hE.2.2.2
    rw [if_pos rfl] at hbR
    go_wp2_with (first | ((with_reducible refine look_store ?_); refine wpList_store_row rfl _ _ _ rfl _ _ rfl rfl _ _ hbR (by kernel_rfl) (by simp) (by simp [Value.oneCell']) ?_) | fail)
    exact TextPost.mk ⟨grown_setRow _ _ _, hE.put⟩
  case hv => rfl
  refine Walk.anyOf (fun g : Nat => .slice (some ⟨g, 0, none⟩) 0 0) sl_injg (fun g W => Own W (w.heap.size + 1 + 1) (.slice (some ⟨g, 0, none⟩) 0 0) []) (fun _ _ _ h hG => h.growR hG) rfl rfl rfl (by kernel_rfl) (by kernel_rfl) ?_ (fun g => ?_)
  · intro c W hE hF
    have hsz := hE.2.2.2.lt
    go_wp2_with fail
    exact ⟨W.heap.size, rfl, own_lit W (w.heap.size + 1 + 1) 0 [] _ rfl rfl (by simp [maxLen]) (by omega), GrowR.of ((Below.refl _ _).alloc (Nat.le_refl _) _), hE.below ((Below.refl _ _).alloc (Nat.le_refl _) _)⟩
  dsimp only [Act.put]
  simp only [List.setIfInBounds_toArray, List.set_cons_succ, List.set_cons_zero]
  refine Walk.anyOf (fun q : Option Addr × Nat => .slice q.1 m q.2) (sl_inj0 m) (fun q W => Own W (w.heap.size + 1 + 1) (.slice q.1 m q.2) (xs.take 100)) (fun _ _ _ h hG => h.growR hG) rfl rfl rfl (by kernel_rfl) (by kernel_rfl) ?_ (fun q => ?_)
  · intro c W hE hF
    have hsz := hE.2.2.2.lt
    have hO := hF.head
    have hbel := hE.1.1
    go_wp2_with (first | (at_builtin; refine app_fresh rfl _ _ rfl (w.heap.size + 1 + 1) _ rfl hO w.heap.size A m cap (xs.take 100) rfl HL.out.symm (HR.out.below hbel (Nat.le_refl _)) (by have := HL.out; omega) (by omega) ?_; intro v2 w2 o2 l2) | fail)
    obtain ⟨q, rfl⟩ := o2.shape HL.out
    exact ⟨q, rfl, o2, GrowR.of l2, hE.below l2⟩
  dsimp only [Act.put]
  simp only [List.setIfInBounds_toArray, List.set_cons_succ, List.set_cons_zero]
  apply Walk.one rfl rfl rfl
  case hrun =>
    intro c W hE hF
    go_wp2_with fail
    exact TextPost.mk ⟨GrowR.refl _ _, hE⟩
  case hv => rfl
  refine Walk.done (fun W hE hF => ?_)
  have hbR := hE.2.2.2
  have ho := hF.head
  have hbW := hE.1.1
  clear hE hF hSt
  go_wp2_with fail
  exact bodyPost_ret (results_cell_tmp Tryz.results39 _ _ _ _ _ _ _ rfl hbR Tryz.underlying115 rfl (by kernel_rfl)) rfl ⟨q, rfl, ho.base_le (by omega), hbW⟩
end Go.Proofs.YtebeekjcepjcnaaGreatDoor
namespace Go.Proofs.YtebeekjcepjcnaaGreatDoor
open Go.RowKit
theorem kind1_bd (t c : Nat) : 0 ≤ kind1 t c ∧ kind1 t c ≤ 5 := by
  have := kindN_bd t
  unfold kind1; repeat' split <;> omega
theorem key_zero_ok : Key.zero.Ok := ⟨by decide, by decide, by decide, by decide, by decide, by decide, by decide, by decide, by decide, by decide⟩
theorem facts_zero_ok : Facts.zero.Ok := ⟨key_zero_ok, by decide, by decide, by decide, by decide, by decide, by decide, by decide, by decide, by decide, by decide, by decide, by decide, by decide, by decide, by decide, by decide, key_zero_ok, by decide, by decide⟩
theorem quoKey_ok {q : List Int} (hB : Byt q) : (quoKey q).Ok := by
  have a := hB.at_ 9
  have b := l32At_bd hB 12
  have c := l32At_bd hB 16
  have r0 := w16At_bd (hB.drop (ipSize q)) 0
  have r2 := w16At_bd (hB.drop (ipSize q)) 2
  have r4 := w16At_bd (hB.drop (ipSize q)) 4
  unfold quoKey
  dsimp only
  split
  · exact ⟨a.1, a.2, b.1, b.2, c.1, c.2, r0.1, r0.2, r2.1, r2.2⟩
  · split
    · exact ⟨a.1, a.2, b.1, b.2, c.1, c.2, r4.1, r4.2, r4.1, r4.2⟩
    · exact ⟨a.1, a.2, b.1, b.2, c.1, c.2, show (0 : Int) ≤ 0 by decide, show (0 : Int) < 65536 by decide, show (0 : Int) ≤ 0 by decide, show (0 : Int) < 65536 by decide⟩
theorem quoKind_bd (q : List Int) : 0 ≤ quoKind q ∧ quoKind q ≤ 5 := by
  have := kind1_bd ((q.drop (ipSize q)).getD 0 0).toNat ((q.drop (ipSize q)).getD 1 0).toNat
  unfold quoKind
  dsimp only
  repeat' split
  all_goals omega
theorem dataF_ok (p : Int) (h : IpH) (d : List Int) (hB : Byt d) (hl : d.length ≤ 1000000) (h0 : 0 ≤ h.proto ∧ h.proto < 256) (h1 : 0 ≤ h.src ∧ h.src < 4294967296) (h2 : 0 ≤ h.dst ∧ h.dst < 4294967296) : (dataF p (baseF h) d).Ok := by
  have w0 := w16At_bd hB 0
  have w2 := w16At_bd hB 2
  have w4 := w16At_bd hB 4
  have w14 := w16At_bd hB 14
  have l4 := l32At_bd hB 4
  have l8 := l32At_bd hB 8
  have b13 := hB.at_ 13
  have b12 := hB.at_ 12
  have b0 := hB.at_ 0
  have b1 := hB.at_ 1
  have hk := kind1_bd (d.getD 0 0).toNat (d.getD 1 0).toNat
  have hK : icmpK d = kind1 (d.getD 0 0).toNat (d.getD 1 0).toNat := rfl
  have qk := quoKind_bd (d.drop 8)
  unfold dataF
  split
  · have hs : 0 ≤ tcpSize d ∧ tcpSize d ≤ 60 := by unfold tcpSize; omega
    exact ⟨⟨h0.1, h0.2, h1.1, h1.2, h2.1, h2.2, w0.1, w0.2, w2.1, w2.2⟩, show (0 : Int) ≤ 1 by decide, show (1 : Int) < 256 by decide, show 0 ≤ d.getD 13 0 % 64 by omega, show d.getD 13 0 % 64 < 256 by omega, show (0 : Int) ≤ 0 by decide, show (0 : Int) < 256 by decide, show (0 : Int) ≤ 0 by decide, show (0 : Int) < 256 by decide,
      l4.1, l4.2, l8.1, l8.2, show (-9223372036854775808 : Int) ≤ w16At d 14 by omega, show w16At d 14 ≤ 9223372036854775807 by omega, show (-9223372036854775808 : Int) ≤ (d.length : Int) - tcpSize d by omega, show (d.length : Int) - tcpSize d ≤ 9223372036854775807 by omega, key_zero_ok, show (0 : Int) ≤ 0 by decide, show (0 : Int) < 256 by decide⟩
  · split
    · exact ⟨⟨h0.1, h0.2, h1.1, h1.2, h2.1, h2.2, w0.1, w0.2, w2.1, w2.2⟩, show (0 : Int) ≤ 2 by decide, show (2 : Int) < 256 by decide, show (0 : Int) ≤ 0 by decide, show (0 : Int) < 256 by decide, show (0 : Int) ≤ 0 by decide, show (0 : Int) < 256 by decide, show (0 : Int) ≤ 0 by decide, show (0 : Int) < 256 by decide,
        show (0 : Int) ≤ 0 by decide, show (0 : Int) < 4294967296 by decide, show (0 : Int) ≤ 0 by decide, show (0 : Int) < 4294967296 by decide, show (-9223372036854775808 : Int) ≤ 0 by decide, show (0 : Int) ≤ 9223372036854775807 by decide, show (-9223372036854775808 : Int) ≤ w16At d 4 - 8 by omega, show w16At d 4 - 8 ≤ 9223372036854775807 by omega, key_zero_ok, show (0 : Int) ≤ 0 by decide, show (0 : Int) < 256 by decide⟩
    · unfold icmpF
      split
      · exact ⟨⟨h0.1, h0.2, h1.1, h1.2, h2.1, h2.2, w4.1, w4.2, w4.1, w4.2⟩, show 0 ≤ icmpK d by omega, show icmpK d < 256 by omega, show (0 : Int) ≤ 0 by decide, show (0 : Int) < 256 by decide, b0.1, b0.2, b1.1, b1.2,
          show (0 : Int) ≤ 0 by decide, show (0 : Int) < 4294967296 by decide, show (0 : Int) ≤ 0 by decide, show (0 : Int) < 4294967296 by decide, show (-9223372036854775808 : Int) ≤ 0 by decide, show (0 : Int) ≤ 9223372036854775807 by decide, show (-9223372036854775808 : Int) ≤ (d.length : Int) - 8 by omega, show (d.length : Int) - 8 ≤ 9223372036854775807 by omega, key_zero_ok, show (0 : Int) ≤ 0 by decide, show (0 : Int) < 256 by decide⟩
      · exact ⟨⟨h0.1, h0.2, h1.1, h1.2, h2.1, h2.2, show (0 : Int) ≤ 0 by decide, show (0 : Int) < 65536 by decide, show (0 : Int) ≤ 0 by decide, show (0 : Int) < 65536 by decide⟩, show 0 ≤ icmpK d by omega, show icmpK d < 256 by omega, show (0 : Int) ≤ 0 by decide, show (0 : Int) < 256 by decide, b0.1, b0.2, b1.1, b1.2,
          show (0 : Int) ≤ 0 by decide, show (0 : Int) < 4294967296 by decide, show (0 : Int) ≤ 0 by decide, show (0 : Int) < 4294967296 by decide, show (-9223372036854775808 : Int) ≤ 0 by decide, show (0 : Int) ≤ 9223372036854775807 by decide, show (-9223372036854775808 : Int) ≤ (d.length : Int) - 8 by omega, show (d.length : Int) - 8 ≤ 9223372036854775807 by omega, quoKey_ok (hB.drop 8), show 0 ≤ quoKind (d.drop 8) by omega, show quoKind (d.drop 8) < 256 by omega⟩
theorem pktF_ok {b : List Int} (hB : Byt b) (hl : b.length ≤ 1000000) : (pktF b).Ok := by
  unfold pktF
  split
  · refine dataF_ok _ _ _ (ipData_byt hB) ?_ (hB.at_ 9) (l32At_bd hB 12) (l32At_bd hB 16)
    unfold ipData
    rw [List.length_drop, List.length_take]
    omega
  · exact facts_zero_ok
end Go.Proofs.YtebeekjcepjcnaaGreatDoor
namespace Go.Proofs.YtebeekjcepjcnaaGreatDoor
open Go.RowKit
theorem pseudoL_bd {src dst p n : Int} (s0 : 0 ≤ src) (s1 : src < 4294967296) (d0 : 0 ≤ dst) (d1 : dst < 4294967296) (p0 : 0 ≤ p) (p1 : p < 256) (n0 : 0 ≤ n) (n1 : n ≤ 65535) : 0 ≤ pseudoL src dst p n ∧ pseudoL src dst p n ≤ 65535 := by
  unfold pseudoL
  refine joinL_bd ?_
  intro y hy
  simp at hy
  rcases hy with rfl | rfl | rfl | rfl | rfl | rfl <;> omega
theorem tcpL0_byt {sp dp seqn ackn win urg : Int} {fl : Nat} {opts data : List Int}
    (p0 : 0 ≤ sp) (p1 : sp < 65536) (q0 : 0 ≤ dp) (q1 : dp < 65536) (s0 : 0 ≤ seqn) (s1 : seqn < 4294967296) (a0 : 0 ≤ ackn) (a1 : ackn < 4294967296) (hf : fl < 256)
    (w0 : 0 ≤ win) (w1 : win < 65536) (u0 : 0 ≤ urg) (u1 : urg < 65536) (ho : opts.length ≤ 40) (hob : Byt opts) (hdb : Byt data) : Byt (tcpL0 sp dp seqn ackn fl win urg opts data) := by
  unfold tcpL0 tcpHead
  refine Byt.append (Byt.append (Byt.append (Byt.append (Byt.append (b16s_byt ?_) (b32s_byt ?_)) (Byt.cons (by omega) (by omega) (Byt.cons (by omega) (by omega) Byt.nil))) (b16s_byt ?_)) hob) hdb
  · intro y hy
    simp at hy
    rcases hy with rfl | rfl <;> omega
  · intro y hy
    simp at hy
    rcases hy with rfl | rfl <;> omega
  · intro y hy
    simp at hy
    rcases hy with rfl | rfl | rfl <;> omega
theorem tcpL0_len (sp dp seqn ackn win urg : Int) (fl : Nat) (opts data : List Int) : (tcpL0 sp dp seqn ackn fl win urg opts data).length = 20 + opts.length + data.length := by
  simp [tcpL0, tcpHead, b16s_len, b32s_len]; omega
theorem tcpL_byt {sp dp seqn ackn win urg : Int} {fl : Nat} {opts : List Int} {src dst : Int} {data : List Int}
    (p0 : 0 ≤ sp) (p1 : sp < 65536) (q0 : 0 ≤ dp) (q1 : dp < 65536) (s0 : 0 ≤ seqn) (s1 : seqn < 4294967296) (a0 : 0 ≤ ackn) (a1 : ackn < 4294967296) (hf : fl < 256)
    (w0 : 0 ≤ win) (w1 : win < 65536) (u0 : 0 ≤ urg) (u1 : urg < 65536) (ho : opts.length ≤ 40) (hd : opts.length + data.length ≤ 65495) (x0 : 0 ≤ src) (x1 : src < 4294967296) (y0 : 0 ≤ dst) (y1 : dst < 4294967296) (hob : Byt opts) (hdb : Byt data) :
    Byt (tcpL sp dp seqn ackn fl win urg opts src dst data) := by
  have h0 := tcpL0_byt p0 p1 q0 q1 s0 s1 a0 a1 hf w0 w1 u0 u1 ho hob hdb
  have hl := tcpL0_len sp dp seqn ackn win urg fl opts data
  unfold tcpL tcpSumL
  have hp := pseudoL_bd (p := 6) (n := ((tcpL0 sp dp seqn ackn fl win urg opts data).length : Int)) x0 x1 y0 y1 (by omega) (by omega) (by omega) (by omega)
  have hv := overB_bd h0 hp.1 (by omega)
  refine splice_byt h0 (b16s_byt ?_) 16
  intro y hy
  simp at hy
  subst hy
  omega
theorem tcpL_leng (sp dp seqn ackn : Int) (fl : Nat) (win urg : Int) (opts : List Int) (src dst : Int) (data : List Int) : (tcpL sp dp seqn ackn fl win urg opts src dst data).length = 20 + opts.length + data.length := by
  obtain ⟨c, h⟩ := tcpL_eq sp dp seqn ackn fl win urg opts src dst data
  rw [h]; simp; omega
theorem udpL_byt {sp dp : Int} {chk : Bool} {src dst : Int} {data : List Int} (p0 : 0 ≤ sp) (p1 : sp < 65536) (q0 : 0 ≤ dp) (q1 : dp < 65536) (hl : data.length ≤ 65507) (x0 : 0 ≤ src) (x1 : src < 4294967296) (y0 : 0 ≤ dst) (y1 : dst < 4294967296) (hdb : Byt data) :
    Byt (udpL sp dp chk src dst data) := by
  have h0 := udp0_byt p0 p1 q0 q1 hl hdb
  have hlen := udp0_len sp dp data
  have hp := pseudoL_bd (p := 17) (n := ((udp0 sp dp data).length : Int)) x0 x1 y0 y1 (by omega) (by omega) (by omega) (by omega)
  have hv := overB_bd h0 hp.1 (by omega)
  have hn : 0 ≤ udpSum src dst (udp0 sp dp data) ∧ udpSum src dst (udp0 sp dp data) ≤ 65535 := by
    unfold udpSum neverB
    split <;> omega
  unfold udpL
  split
  · exact (h0.set 6 (by omega) (by omega)).set 7 (by omega) (by omega)
  · exact h0
theorem icmpW_byt {t c i s : Int} {data : List Int} (t0 : 0 ≤ t) (t1 : t < 256) (c0 : 0 ≤ c) (c1 : c < 256) (i0 : 0 ≤ i) (i1 : i < 65536) (s0 : 0 ≤ s) (s1 : s < 65536) (hdb : Byt data) : Byt (icmpL t c i s data) := by
  unfold icmpL icmpHead
  refine fixL_byt (Byt.append ?_ hdb) 2
  exact .cons (by omega) (by omega) (.cons (by omega) (by omega) (.cons (by omega) (by omega) (.cons (by omega) (by omega) (.cons (by omega) (by omega) (.cons (by omega) (by omega) (.cons (by omega) (by omega) (.cons (by omega) (by omega) .nil)))))))
theorem dataL_byt {f : Facts} (ho : f.Ok) (hr : f.right = true) : Byt f.dataL := by
  have k := right_ok hr
  have hk := ho.key
  have hfr := k.fr
  unfold Facts.fRight at hfr
  unfold Facts.dataL
  split
  · rename_i e
    rw [if_pos e] at hfr
    simp only [Facts.rightTCP, betweenB, Key.ported, Bool.and_eq_true, decide_eq_true_eq] at hfr
    have := ho.flags1
    exact tcpL_byt hk.sp0 hk.sp1 hk.dp0 hk.dp1 ho.seqn0 ho.seqn1 ho.ackn0 ho.ackn1 (by omega) hfr.1.2.1 (by omega) (by omega) (by omega) (by simp) (by rw [zerosL_len]; simp; omega) hk.src0 hk.src1 hk.dst0 hk.dst1 Byt.nil (zerosL_byt _)
  · rename_i e1
    rw [if_neg e1] at hfr
    split
    · rename_i e
      rw [if_pos e] at hfr
      simp only [Facts.rightUDP, betweenB, Key.ported, Bool.and_eq_true, decide_eq_true_eq] at hfr
      exact udpL_byt hk.sp0 hk.sp1 hk.dp0 hk.dp1 (by rw [zerosL_len]; omega) hk.src0 hk.src1 hk.dst0 hk.dst1 (zerosL_byt _)
    · have t0 := ho.type0
      have t1 := ho.type1
      have c0 := ho.code0
      have c1 := ho.code1
      split
      · refine icmpW_byt (by omega) (by omega) (by omega) (by omega) (by omega) (by omega) (by omega) (by omega) ?_
        exact ((headL_byt (hdr_ok ho.quoted) (show 0 ≤ 40 by decide) _).append (qIn_byt ho)).append (Byt.zeros _)
      · exact icmpW_byt t0 t1 c0 c1 hk.sp0 hk.sp1 (by omega) (by omega) (zerosL_byt _)
theorem buildL_byt {f : Facts} (ho : f.Ok) (hr : f.right = true) : Byt f.buildL := ipWriteL_byt (hdr_ok ho.key) (show 0 ≤ 40 by decide) (dataL_byt ho hr)
end Go.Proofs.YtebeekjcepjcnaaGreatDoor
namespace Go.Proofs.YtebeekjcepjcnaaGreatDoor
open Go.RowKit
structure Sm where
  kind : Int
  tos : Int
  ttl : Int
  id : Int
  df : Bool
  src : Int
  dst : Int
  oA : Option Addr
  on : Nat
  oc : Nat
  os : List OSm
  h0 : Int
  h1 : Int
  h2 : Int
  h3 : Int
  h4 : Int
  h5 : Int
  h6 : Int
  h7 : Int
  h8 : Int
  h9 : Int
  h10 : Int
  h11 : Int
  h12 : Int
  h13 : Int
  h14 : Int
  h15 : Int
  tf : Int
  tm : Int
  tw : Int
  ts : Int
  td : Int
  tA : Option Addr
  tn : Nat
  tc : Nat
  tb : List Int
  ufr : Int
  uto : Int
  uck : Bool
  us : Int
  ud : Int
  uA : Option Addr
  un : Nat
  uc : Nat
  ub : List Int
  ity : Int
  ico : Int
  iid : Int
  isq : Int
  iA : Option Addr
  inn : Nat
  ic : Nat
  ib : List Int
def Sm.hd (x : Sm) : List Int := [x.h0, x.h1, x.h2, x.h3, x.h4, x.h5, x.h6, x.h7, x.h8, x.h9, x.h10, x.h11, x.h12, x.h13, x.h14, x.h15]
def Sm.cells (x : Sm) : List Value := [.int .u8 x.kind, .int .u8 x.tos, .int .u8 x.ttl, .int .u16 x.id, .bool x.df, .int .u32 x.src, .int .u32 x.dst, .slice x.oA x.on x.oc, .int .u8 x.h0, .int .u8 x.h1, .int .u8 x.h2, .int .u8 x.h3, .int .u8 x.h4, .int .u8 x.h5, .int .u8 x.h6, .int .u8 x.h7, .int .u8 x.h8, .int .u8 x.h9, .int .u8 x.h10, .int .u8 x.h11, .int .u8 x.h12, .int .u8 x.h13, .int .u8 x.h14, .int .u8 x.h15, .int .u8 x.tf, .int .u8 x.tm, .int .u8 x.tw, .int .u32 x.ts, .int .u32 x.td, .slice x.tA x.tn x.tc, .int .u16 x.ufr, .int .u16 x.uto, .bool x.uck, .int .u32 x.us, .int .u32 x.ud, .slice x.uA x.un x.uc, .int .u8 x.ity, .int .u8 x.ico, .int .u16 x.iid, .int .u16 x.isq, .slice x.iA x.inn x.ic]
def Sm.val (x : Sm) : Value := .agg x.cells.toArray
structure Sm.Ok (x : Sm) : Prop where
  kind : 0 ≤ x.kind ∧ x.kind < 256
  tos : 0 ≤ x.tos ∧ x.tos < 256
  ttl : 0 ≤ x.ttl ∧ x.ttl < 256
  id : 0 ≤ x.id ∧ x.id < 65536
  src : 0 ≤ x.src ∧ x.src < 4294967296
  dst : 0 ≤ x.dst ∧ x.dst < 4294967296
  ol : x.os.length = x.on ∧ x.on ≤ x.oc
  hd : Byt x.hd
  tf : 0 ≤ x.tf ∧ x.tf < 256
  tm : 0 ≤ x.tm ∧ x.tm < 256
  tw : 0 ≤ x.tw ∧ x.tw < 256
  tl : x.tb.length = x.tn ∧ x.tn ≤ x.tc ∧ Byt x.tb
  ufr : 0 ≤ x.ufr ∧ x.ufr < 65536
  uto : 0 ≤ x.uto ∧ x.uto < 65536
  ul : x.ub.length = x.un ∧ x.un ≤ x.uc ∧ Byt x.ub
  ity : 0 ≤ x.ity ∧ x.ity < 256
  ico : 0 ≤ x.ico ∧ x.ico < 256
  iid : 0 ≤ x.iid ∧ x.iid < 65536
  isq : 0 ≤ x.isq ∧ x.isq < 65536
  il : x.ib.length = x.inn ∧ x.inn ≤ x.ic ∧ Byt x.ib
structure SmAt (W : World) (B : Nat) (x : Sm) : Prop where
  os : OSmAt W B x.oA x.os
  tb : Rd W B x.tA .u8 x.tb
  ub : Rd W B x.uA .u8 x.ub
  ib : Rd W B x.iA .u8 x.ib
theorem SmAt.below {W W' : World} {B C : Nat} {x : Sm} (h : SmAt W B x) (hb : Below C W W') (hC : B ≤ C) : SmAt W' B x := ⟨h.os.below hb hC, h.tb.below hb hC, h.ub.below hb hC, h.ib.below hb hC⟩
/-- What the data of a packet and its facts without addresses are. -/
structure Cont (k : Nat) (b : List Int) (f : Facts) : Prop where
  byt : Byt b
  len : 8 ≤ b.length ∧ b.length ≤ 400 ∧ (k ≠ 3 → b.length ≤ 200)
  proto : f.key.proto = [6, 17, 1, 1].getD k 0
  src : f.key.src = 0
  dst : f.key.dst = 0
  data : dataE f.key.proto b = 0
  facts : ∀ h : IpH, h.proto = f.key.proto → dataF f.key.proto (baseF h) b = { f with key := { f.key with src := h.src, dst := h.dst } }
  kind : (k = 0 → f.kind = 1) ∧ (k = 1 → f.kind = 2) ∧ (k = 2 → f.kind = 3 ∨ f.kind = 4) ∧ (k = 3 → f.kind = 5)
def ContPost (k : Nat) (w : World) (e : Ending) (W : World) : Prop := ∃ (b : List Int) (p : Option Addr × Nat) (f : Facts), e = .returned (.tuple #[.slice p.1 b.length p.2, f.val]) ∧ Own W w.heap.size (.slice p.1 b.length p.2) b ∧ Cont k b f ∧ Below w.heap.size w W
theorem cont_udp {sp dp : Int} {chk : Bool} {src dst : Int} {data : List Int} (p0 : 0 < sp) (p1 : sp < 65536) (q0 : 0 < dp) (q1 : dp < 65536) (hl : data.length ≤ 100) (x0 : 0 ≤ src) (x1 : src < 4294967296) (y0 : 0 ≤ dst) (y1 : dst < 4294967296) (hb : Byt data) :
    Cont 1 (udpL sp dp chk src dst data) { Facts.zero with key := ⟨17, 0, 0, sp, dp⟩, kind := 2, length := data.length } := by
  have hlen := udpL_len sp dp chk src dst data
  obtain ⟨x, y, e⟩ := udpL_eq sp dp chk src dst data
  obtain ⟨a1, a2⟩ := udp_back sp dp x y data p0 p1 q0 q1 (by omega)
  refine ⟨udpL_byt (by omega) p1 (by omega) q1 (by omega) x0 x1 y0 y1 hb, by omega, rfl, rfl, rfl, ?_, fun h hp => ?_, (fun h => absurd h (by decide)), fun _ => rfl, (fun h => absurd h (by decide)), (fun h => absurd h (by decide))⟩
  · rw [e]; exact a1
  · rw [e]
    show udpF (baseF h) _ = _
    rw [a2]
    have hp' : h.proto = 17 := hp
    simp [baseF, Facts.zero, hp']
theorem cont_tcp {sp dp seqn ackn win urg : Int} {fl : Nat} {opts : List Int} {src dst : Int} {data : List Int} (p0 : 0 < sp) (p1 : sp < 65536) (q0 : 0 < dp) (q1 : dp < 65536) (s0 : 0 ≤ seqn) (s1 : seqn < 4294967296) (a0 : 0 ≤ ackn) (a1 : ackn < 4294967296) (hf : fl < 256) (hsane : saneB fl = true)
    (w0 : 0 ≤ win) (w1 : win < 65536) (u0 : 0 ≤ urg) (u1 : urg < 65536) (ho : opts.length ≤ 40) (ho4 : opts.length % 4 = 0) (hd : data.length ≤ 100) (x0 : 0 ≤ src) (x1 : src < 4294967296) (y0 : 0 ≤ dst) (y1 : dst < 4294967296) (hob : Byt opts) (hdb : Byt data) :
    Cont 0 (tcpL sp dp seqn ackn fl win urg opts src dst data) { Facts.zero with key := ⟨6, 0, 0, sp, dp⟩, kind := 1, flags := (fl : Int) % 64, seqn := seqn, ackn := ackn, window := win, length := data.length } := by
  have hlen := tcpL_leng sp dp seqn ackn fl win urg opts src dst data
  obtain ⟨b1, b2⟩ := tcp_back sp dp seqn ackn win urg fl opts src dst data p0 p1 q0 q1 s0 s1 a0 a1 hf hsane w0 w1 ho ho4
  refine ⟨tcpL_byt (by omega) p1 (by omega) q1 s0 s1 a0 a1 hf w0 w1 u0 u1 ho (by omega) x0 x1 y0 y1 hob hdb, by omega, rfl, rfl, rfl, b1, fun h hp => ?_, fun _ => rfl, (fun h => absurd h (by decide)), (fun h => absurd h (by decide)), (fun h => absurd h (by decide))⟩
  show tcpF (baseF h) _ = _
  rw [b2]
  have hp' : h.proto = 6 := hp
  simp [baseF, Facts.zero, hp']
theorem cont_icmp {t c : Nat} {i s : Int} {data : List Int} (ht : t < 256) (hc : c < 256) (i0 : 0 ≤ i) (i1 : i < 65536) (s0 : 0 ≤ s) (s1 : s < 65536) (hk : kind2 t c = 0) (h34 : kind1 t c = 3 ∨ kind1 t c = 4) (hl : data.length ≤ 100) (hb : Byt data) :
    Cont 2 (icmpL t c i s data) { Facts.zero with key := ⟨1, 0, 0, i, i⟩, kind := kind1 t c, type := t, code := c, length := data.length } := by
  obtain ⟨x, y, e⟩ := icmpL_eq t c i s data
  obtain ⟨a1, a2, a3, a4, a5, a6, a7⟩ := icmp_back t c x y i s data hk _ e
  have hK : icmpK (icmpL t c i s data) ≠ 5 := by rw [a2]; omega
  refine ⟨icmpW_byt (by omega) (by omega) (by omega) (by omega) i0 i1 s0 s1 hb, by omega, rfl, rfl, rfl, ?_, fun h hp => ?_, (fun h => absurd h (by decide)), (fun h => absurd h (by decide)), fun _ => h34, (fun h => absurd h (by decide))⟩
  · show icmpE2 _ = 0
    unfold icmpE2
    rw [if_neg (by omega), if_pos hK]
  · show icmpF (baseF h) _ = _
    unfold icmpF
    rw [if_pos hK, a2, a4, a5, a6, a7]
    have hp' : h.proto = 1 := hp
    have h3 : (((8 + data.length : Nat)) : Int) - 8 = data.length := by omega
    rw [h3]
    simp [baseF, Facts.zero, hp']
end Go.Proofs.YtebeekjcepjcnaaGreatDoor
namespace Go.Proofs.YtebeekjcepjcnaaGreatDoor
open Go.RowKit
theorem results_tmp_cell {P : Program} {fn : Func} {p q : Tmp} {ty : TypeId} (h : fn.results = #[.tmp q, .cell p ty]) (tmps : Array Value) (w : World) (g : Nat) (t : TypeId) (cs : Array Value) (fr : Nat × Nat) (d : TypeDesc)
    (hp : tmps.getD p undef = .pointer (some ⟨g, 0, none⟩)) (hg : w.heap[g]? = some (.cells cs t fr))
    (hu : P.underlying ty = some d) (hd : (match d with | .struct _ | .array _ _ => true | _ => false) = true) (hi : (P.info? ty).map (·.size) = some cs.size) :
    (results fn tmps).run P w = .ok (.tuple #[tmps.getD q undef, .agg cs]) w := by
  have hp' : tmps[p]?.getD undef = .pointer (some ⟨g, 0, none⟩) := by simpa using hp
  simp [results, h, hp', asAddr, run_loadVar_row w g t ty cs fr d hg hu hd hi]
set_option maxRecDepth 100000 in
set_option maxHeartbeats 4000000 in
theorem content_udp (x : Sm) (hx : x.Ok) (src dst : Int) (w : World) (x0 : 0 ≤ src) (x1 : src < 4294967296) (y0 : 0 ≤ dst) (y1 : dst < 4294967296) (hA : SmAt w w.heap.size x) :
    Calls Tryz.prog 19 #[x.val, .int .u8 1, .int .u32 src, .int .u32 dst] w (ContPost 1 w) := by
  obtain ⟨f0, f1⟩ := hx.ufr
  obtain ⟨t0, t1⟩ := hx.uto
  obtain ⟨ul, uc, ub⟩ := hx.ul
  have hU := hA.ub
  have hm0 : min x.un 100 = min x.un 100 := rfl
  have hml : (x.ub.take 100).length = min x.un 100 := by rw [List.length_take]; omega
  have hmb : Byt (x.ub.take 100) := ub.take 100
  have hm1 : min x.un 100 ≤ 100 := by omega
  have HM := Lib.hid (fun w' (hb : Below w.heap.size w w') => made9_any x.ufr x.uto x.uck x.us x.ud x.uA x.uc x.un (min x.un 100) x.ub w' ul uc rfl (hU.belows hb (Nat.le_refl _)))
  clear hA hx
  dsimp only [Sm.val, Sm.cells]
  generalize x.ufr = fr at *
  generalize x.uto = to_ at *
  generalize x.ub.take 100 = data at *
  generalize min x.un 100 = m at *
  go_enter Tryz.func19, Tryz.ntmps19
  go_upto_region 1 with fail
  refine wp_name2 ?_
  intro w1 hb1 hs1 bx bf
  have hru := bx.range 30 (l := [.int .u16 fr, .int .u16 to_, .bool x.uck, .int .u32 x.us, .int .u32 x.ud, .slice x.uA x.un x.uc]) (by simp)
  go_upto_region 8 with (first | ((with_reducible refine look_load ?_); refine wpList_load_mid rfl _ _ rfl _ _ rfl _ _ hru Tryz.underlying30 rfl (by kernel_rfl) ?_) | (go_at_call 39; refine (HM.out _ hb1).mono ?_; rintro e w2 ⟨p, rfl, ho2, hl2⟩) | ((with_reducible refine look_store ?_); refine wpList_store_new rfl _ _ _ rfl _ _ rfl rfl _ _ rfl (by kernel_rfl) (by simp) (by simp [Value.oneCell']) ?_) | fail)
  try dsimp only [Act.put]
  refine wp_name1 ?_
  intro w3 hb3 hs3 bh
  have hch := bh.cell
  have hfh := bh.frozen
  have hb1' := hb1
  clear hru bx HM
  go_upto_region 9 with fail
  try dsimp only [Act.put]
  have bh4 : Blk (w3.setCell ⟨w2.heap.size, 0, none⟩ (.int .u16 (max fr 1))) w2.heap.size 115 #[.int .u16 (max fr 1), .int .u16 (max to_ 1), .bool x.uck] := bh.set 0 _
  have hb4 := hb3.setCell (p := ⟨w2.heap.size, 0, none⟩) (Nat.le_refl _) (.int .u16 (max fr 1))
  have hs4 : (w3.setCell ⟨w2.heap.size, 0, none⟩ (.int .u16 (max fr 1))).heap.size = w2.heap.size + 1 := by simp [hs3]
  clear hch hfh bh hb3 hs3
  revert bh4 hb4 hs4
  generalize w3.setCell ⟨w2.heap.size, 0, none⟩ (.int .u16 (max fr 1)) = w4
  intro bh4 hb4 hs4
  have bf4 := (bf.below hl2 bf.lt).below hb4 (bf.below hl2 bf.lt).lt
  have ho4 := ho2.below hb4 (Nat.le_refl _)
  have hbw := (hb1.trans (hl2.mono hb1.size)).trans (hb4.mono (Nat.le_trans hb1.size hl2.size))
  have hg4 : w.heap.size + 1 < w4.heap.size := bf4.lt
  have hne : w2.heap.size ≠ w.heap.size + 1 := by have := bf.lt; have := hl2.size; omega
  have HW := Lib.hid (udpWrite_any (max fr 1) (max to_ 1) x.uck src dst p.1 p.2 m data w4 (by omega) (by omega) (by omega) (by omega) hml (by omega) x0 x1 y0 y1 hmb ho4.rd)
  have HC := Lib.hid (cont_udp (chk := x.uck) (src := src) (dst := dst) (data := data) (sp := max fr 1) (dp := max to_ 1) (by omega) (by omega) (by omega) (by omega) (by omega) x0 x1 y0 y1 hmb)
  have hbl : w.heap.size ≤ w4.heap.size := hbw.size
  clear hl2 hb4 bf ho2 hb1 ho4 hb1'
  go_upto_region 10 with (first | ((with_reducible refine look_load ?_); refine wpList_load_row rfl _ _ rfl _ rfl _ _ _ _ bh4 Tryz.underlying115 rfl (by kernel_rfl) ?_) | (go_at_call 40; refine HW.out.mono ?_; rintro e w5 ⟨v, rfl, ho5, hl5⟩) | fail)
  try dsimp only [Act.put]
  obtain ⟨q, rfl⟩ := ho5.shape rfl
  have bh5 := bh4.below hl5 bh4.lt
  have bf5 := bf4.below hl5 bf4.lt
  have hbw5 := hbw.trans (hl5.mono hbl)
  clear HW hl5 bh4 bf4 hbw
  generalize max fr 1 = sp at *
  generalize max to_ 1 = dp at *
  have hSt : St1 w w.heap.size [(w2.heap.size, _, _)] (w.heap.size + 1) 41 _ #[.int .u8 17, .int .u32 0, .int .u32 0, .int .u16 sp, .int .u16 dp, .int .u8 2, .int .u8 0, .int .u8 0, .int .u8 0, .int .u32 0, .int .u32 0, .int .i64 0, .int .i64 m, .int .u8 0, .int .u32 0, .int .u32 0, .int .u16 0, .int .u16 0, .int .u8 0] 0 w5 := ⟨(St.nil hbw5 hbw5.size).cons bh5, by omega, by simp; omega, bf5⟩
  clear hbw5 bh5 bf5
  have hO := ho5.base_le (show w.heap.size + 1 + 1 ≤ w4.heap.size by omega)
  have hml' := Lib.hid (show (m : Int) = data.length by omega)
  have HC' := Lib.hid HC.out
  clear ho5 HC
  generalize udpL sp dp x.uck src dst data = ys at *
  generalize hyl : ys.length = k at *
  refine wp_region_walk0 (by kernel_rfl) (fun c W => St1 w w.heap.size _ (w.heap.size + 1) 41 _ #[.int .u8 17, .int .u32 0, .int .u32 0, .int .u16 sp, .int .u16 dp, .int .u8 2, .int .u8 0, .int .u8 0, .int .u8 0, .int .u32 0, .int .u32 0, .int .i64 0, .int .i64 m, .int .u8 0, .int .u32 0, .int .u32 0, .int .u16 0, .int .u16 0, .int .u8 0] c W ∧ Own W (w.heap.size + 1 + 1) (.slice q.1 k q.2) ys) [10] (GrowR (w.heap.size + 1)) [0, 1, 2, 3, 4, 5, 6, 7, 8, 9, 10] (by kernel_rfl) ⟨hSt.drew, hO.drew⟩ ?_
  iterate 10
    apply Walk.one rfl rfl rfl
    case hrun =>
      intro c W hE hF
      have hc := (hE.1.1.get 0 rfl).cell
      go_wp2_with fail
      exact TextPost.mk ⟨GrowR.refl _ _, hE⟩
    case hv => rfl
  apply Walk.keep 0 rfl rfl rfl rfl
  case hrun =>
    intro W2 hE hF
    have hbR := hE.1.2.2.2
    rw [if_pos rfl] at hbR
    go_wp2_with (first | ((with_reducible refine look_store ?_); refine wpList_store_row rfl _ _ _ rfl _ _ rfl rfl _ _ hbR (by kernel_rfl) (by simp) (by simp [Value.oneCell']) ?_) | fail)
    exact TextPost.mk ⟨grown_setRow _ _ _, hE.1.put, hE.2.growR (grown_setRow _ _ _)⟩
  case hv => rfl
  refine Walk.done (fun W hE hF => ?_)
  have hbR := hE.1.2.2.2
  have hbW := hE.1.1.1
  have ho := hE.2
  clear hE hF hSt hO
  go_wp2_with fail
  refine bodyPost_ret (results_tmp_cell Tryz.results19 _ _ _ _ _ _ _ rfl hbR Tryz.underlying41 rfl (by kernel_rfl)) rfl ⟨ys, q, _, ?_, ?_, HC'.out, hbW⟩
  · rw [← hml'.out, hyl]
    rfl
  · rw [hyl]; exact ho.base_le (by omega)
end Go.Proofs.YtebeekjcepjcnaaGreatDoor
