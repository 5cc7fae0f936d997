/-
  bafflelaw09.Made.
  What tcp.Write, udp.Write and icmp.Write write is read as it was; so is what an error quotes (plain).
  What pkt reads depends on the first 136 bytes and the length alone (plain).
  Package build: Build.
-/
import Derived.Lib.MinMax
import Derived.WalkKit
import Derived.WalkSpells
import Derived.WalkLawsBesides
import Derived.WalkSmall
import Derived.Lib.Hide
import Derived.Deep.AppendLies
import Derived.Maps.AppendAt
import Derived.Laws.AppendOwnNone
import Derived.Laws.CopyOwn
import Derived.OneCell
import Derived.Test.YtebeekjcepjcnaaDoorProg
import Derived.Lib.SliceRun
import Derived.RangeFuncNested
import Derived.RangeFuncBound
import Derived.RangeFuncCalls
import Derived.RangeFuncLeaves
import Derived.Shelf.Abstract
import Derived.OwnWalkIn
import Derived.TacticsInMore
import Derived.LoopNIn
import Derived.LoopIn
import Derived.Lib.AppendZeros
import Derived.BigRegion
import Derived.ChangeAlike
import Derived.Deep.RegionLaw
import Derived.Deep.DeepCutAuto
import Derived.Orders
import Derived.RegionTactic
import Derived.Still
import Derived.Deep.MidRow
import Derived.Deep.RegionHeld3
import Derived.MapKept
import Derived.Laws.StructEq
import Derived.Test.YtebeekjcepjcnaaDoorGBase
import Derived.Test.YtebeekjcepjcnaaDoorGBits
import Derived.Test.YtebeekjcepjcnaaDoorGCsum
import Derived.Test.YtebeekjcepjcnaaDoorGSum
import Derived.Test.YtebeekjcepjcnaaDoorGFix
import Derived.Test.YtebeekjcepjcnaaDoorGFacts
import Derived.Test.YtebeekjcepjcnaaDoorGPkt
import Derived.Test.YtebeekjcepjcnaaDoorGWalk
import Derived.Test.YtebeekjcepjcnaaDoorGStep
import Derived.Test.YtebeekjcepjcnaaDoorGTcpw
import Derived.Test.YtebeekjcepjcnaaDoorGUdpw
import Derived.Test.YtebeekjcepjcnaaDoorGData
import Derived.Test.YtebeekjcepjcnaaDoorGIprd
import Derived.Test.YtebeekjcepjcnaaDoorGFold
import Derived.Test.YtebeekjcepjcnaaDoorGFresh
import Derived.Test.YtebeekjcepjcnaaDoorGEq
import Derived.Test.YtebeekjcepjcnaaDoorGIpback
namespace Go.Proofs.YtebeekjcepjcnaaDoor
open Go.RowKit
set_option maxRecDepth 100000 in
set_option maxHeartbeats 2000000 in
theorem made9_any (fr to_ : Int) (chk : Bool) (s d : Int) (A : Option Addr) (cap n m : Nat) (xs : List Int) (w : World) (hn : xs.length = n) (hcap : n ≤ cap) (hm : m = min n 100) (hr : Rd w w.heap.size A .u8 xs) :
    Calls Tryd.prog 117 #[.agg #[.int .u16 fr, .int .u16 to_, .bool chk, .int .u32 s, .int .u32 d, .slice A n cap]] w fun e W => ∃ p : Option Addr × Nat, e = .returned (.tuple #[.agg #[.int .u16 fr, .int .u16 (max to_ 1), .bool chk], .slice p.1 m p.2]) ∧ Own W w.heap.size (.slice p.1 m p.2) (xs.take 100) ∧ Below w.heap.size w W := by
  have hmi : min (n : Int) 100 = (m : Int) := by omega
  have hmc : (m : Int) ≤ cap := by omega
  have HL := Lib.hid (show (xs.take 100).length = m by rw [List.length_take]; omega)
  have HR := Lib.hid (hr.take 100)
  clear hn hm hr hcap
  go_enter Tryd.func117, Tryd.ntmps117
  go_upto_region 1 with fail
  refine wp_name2 ?_
  intro w1 hb1 hs1 b0 b1
  have hSt : St1 w w.heap.size [(w.heap.size, _, _)] (w.heap.size + 1) 168 _ #[.int .u16 fr, .int .u16 (max to_ 1), .bool chk] 0 w1 := ⟨(St.nil hb1 hb1.size).cons b0, by omega, by simp, b1⟩
  have hsz1 : Hid (w.heap.size + 2 ≤ w1.heap.size) := Lib.hid (by omega)
  clear hb1 hs1 b0 b1
  refine wp_region_walk0 (by kernel_rfl) (St1 w w.heap.size _ (w.heap.size + 1) 168 _ #[.int .u16 fr, .int .u16 (max to_ 1), .bool chk]) [17] (GrowR (w.heap.size + 1)) [0, 1, 2, 3, 4, 5, 6, 7, 9, 10, 11, 12, 13, 14, 15, 17, 8, 16, 18] (by kernel_rfl) hSt.drew ?_
  iterate 15
    apply Walk.one rfl rfl rfl
    case hrun =>
      intro c W hE hF
      have hc := (hE.1.get 0 rfl).cell
      go_wp2_with fail
      exact TextPost.mk ⟨GrowR.refl _ _, hE⟩
    case hv => rfl
  apply Walk.keep 0 rfl rfl rfl rfl
  case hrun =>
    intro W2 hE hF
    have hbR := hE.2.2.2
    rw [if_pos rfl] at hbR
    go_wp2_with (first | ((with_reducible refine look_store ?_); refine wpList_store_row rfl _ _ _ rfl _ _ rfl rfl _ _ hbR (by kernel_rfl) (by simp) (by simp [Value.oneCell']) ?_) | fail)
    exact TextPost.mk ⟨grown_setRow _ _ _, hE.put⟩
  case hv => rfl
  refine Walk.anyOf (fun g : Nat => .slice (some ⟨g, 0, none⟩) 0 0) sl_injg (fun g W => Own W (w.heap.size + 1 + 1) (.slice (some ⟨g, 0, none⟩) 0 0) []) (fun _ _ _ h hG => h.growR hG) rfl rfl rfl (by kernel_rfl) (by kernel_rfl) ?_ (fun g => ?_)
  · intro c W hE hF
    have hsz := hE.2.2.2.lt
    go_wp2_with fail
    exact ⟨W.heap.size, rfl, own_lit W (w.heap.size + 1 + 1) 0 [] _ rfl rfl (by simp [maxLen]) (by omega), GrowR.of ((Below.refl _ _).alloc (Nat.le_refl _) _), hE.below ((Below.refl _ _).alloc (Nat.le_refl _) _)⟩
  dsimp only [Act.put]
  simp only [List.setIfInBounds_toArray, List.set_cons_succ, List.set_cons_zero]
  refine Walk.anyOf (fun q : Option Addr × Nat => .slice q.1 m q.2) (sl_inj0 m) (fun q W => Own W (w.heap.size + 1 + 1) (.slice q.1 m q.2) (xs.take 100)) (fun _ _ _ h hG => h.growR hG) rfl rfl rfl (by kernel_rfl) (by kernel_rfl) ?_ (fun q => ?_)
  · intro c W hE hF
    have hsz := hE.2.2.2.lt
    have hO := hF.head
    have hbel := hE.1.1
    go_wp2_with (first | (at_builtin; refine app_fresh rfl _ _ rfl (w.heap.size + 1 + 1) _ rfl hO w.heap.size A m cap (xs.take 100) rfl HL.out.symm (HR.out.below hbel (Nat.le_refl _)) (by have := HL.out; omega) (by omega) ?_; intro v2 w2 o2 l2) | fail)
    obtain ⟨q, rfl⟩ := o2.shape HL.out
    exact ⟨q, rfl, o2, GrowR.of l2, hE.below l2⟩
  dsimp only [Act.put]
  simp only [List.setIfInBounds_toArray, List.set_cons_succ, List.set_cons_zero]
  apply Walk.one rfl rfl rfl
  case hrun =>
    intro c W hE hF
    go_wp2_with fail
    exact TextPost.mk ⟨GrowR.refl _ _, hE⟩
  case hv => rfl
  refine Walk.done (fun W hE hF => ?_)
  have hbR := hE.2.2.2
  have ho := hF.head
  have hbW := hE.1.1
  clear hE hF hSt
  go_wp2_with fail
  exact bodyPost_ret (results_cell_tmp Tryd.results117 _ _ _ _ _ _ _ rfl hbR Tryd.underlying168 rfl (by kernel_rfl)) rfl ⟨q, rfl, ho.base_le (by omega), hbW⟩
end Go.Proofs.YtebeekjcepjcnaaDoor
namespace Go.Proofs.YtebeekjcepjcnaaDoor
open Go.RowKit
theorem tcpL_eq (sp dp seqn ackn : Int) (fl : Nat) (win urg : Int) (opts : List Int) (src dst : Int) (data : List Int) : ∃ c : Int,
    tcpL sp dp seqn ackn fl win urg opts src dst data = [sp / 256, sp % 256, dp / 256, dp % 256, seqn / 65536 / 256, seqn / 65536 % 256, seqn % 65536 / 256, seqn % 65536 % 256, ackn / 65536 / 256, ackn / 65536 % 256, ackn % 65536 / 256, ackn % 65536 % 256,
      (20 + (opts.length : Int)) / 4 * 16, (fl : Int), win / 256, win % 256, c / 256, c % 256, urg / 256, urg % 256] ++ (opts ++ data) := by
  refine ⟨overB (pseudoL src dst 6 (tcpL0 sp dp seqn ackn fl win urg opts data).length) (tcpL0 sp dp seqn ackn fl win urg opts data), ?_⟩
  unfold tcpL tcpSumL
  generalize overB (pseudoL src dst 6 (tcpL0 sp dp seqn ackn fl win urg opts data).length) (tcpL0 sp dp seqn ackn fl win urg opts data) = c
  unfold tcpL0
  rw [List.append_assoc]
  rfl
theorem tcp_back (sp dp seqn ackn win urg : Int) (fl : Nat) (opts : List Int) (src dst : Int) (data : List Int)
    (p0 : 0 < sp) (p1 : sp < 65536) (q0 : 0 < dp) (q1 : dp < 65536) (_s0 : 0 ≤ seqn) (_s1 : seqn < 4294967296) (_a0 : 0 ≤ ackn) (_a1 : ackn < 4294967296) (_hf : fl < 256) (hsane : saneB fl = true)
    (_w0 : 0 ≤ win) (_w1 : win < 65536) (ho : opts.length ≤ 40) (ho4 : opts.length % 4 = 0) :
    tcpE (tcpL sp dp seqn ackn fl win urg opts src dst data) = 0 ∧ ∀ f, tcpF f (tcpL sp dp seqn ackn fl win urg opts src dst data) = { f with key := { f.key with sp := sp, dp := dp }, kind := 1, flags := (fl : Int) % 64, seqn := seqn, ackn := ackn, window := win, length := data.length } := by
  obtain ⟨c, h⟩ := tcpL_eq sp dp seqn ackn fl win urg opts src dst data
  rw [h]
  generalize hb : ([sp / 256, sp % 256, dp / 256, dp % 256, seqn / 65536 / 256, seqn / 65536 % 256, seqn % 65536 / 256, seqn % 65536 % 256, ackn / 65536 / 256, ackn / 65536 % 256, ackn % 65536 / 256, ackn % 65536 % 256,
      (20 + (opts.length : Int)) / 4 * 16, (fl : Int), win / 256, win % 256, c / 256, c % 256, urg / 256, urg % 256] ++ (opts ++ data) : List Int) = b
  have hl : b.length = 20 + (opts.length + data.length) := by rw [← hb]; simp; omega
  have e0 : w16At b 0 = sp := by rw [← hb]; show 256 * (sp / 256) + sp % 256 = sp; omega
  have e2 : w16At b 2 = dp := by rw [← hb]; show 256 * (dp / 256) + dp % 256 = dp; omega
  have e12 : b.getD 12 0 = (20 + (opts.length : Int)) / 4 * 16 := by rw [← hb]; rfl
  have e13 : b.getD 13 0 = fl := by rw [← hb]; rfl
  have e14 : w16At b 14 = win := by rw [← hb]; show 256 * (win / 256) + win % 256 = win; omega
  have e4 : l32At b 4 = seqn := by rw [← hb]; show 65536 * (256 * (seqn / 65536 / 256) + seqn / 65536 % 256) + (256 * (seqn % 65536 / 256) + seqn % 65536 % 256) = seqn; omega
  have e8 : l32At b 8 = ackn := by rw [← hb]; show 65536 * (256 * (ackn / 65536 / 256) + ackn / 65536 % 256) + (256 * (ackn % 65536 / 256) + ackn % 65536 % 256) = ackn; omega
  have es : tcpSize b = 20 + opts.length := by unfold tcpSize; rw [e12]; omega
  constructor
  · unfold tcpE
    rw [es, e12, e13, e0, e2, hl, Int.toNat_natCast, hsane]
    rw [if_neg (by omega), if_neg (by omega), if_neg (by simp), if_neg (by omega)]
  · intro f
    unfold tcpF
    rw [es, e0, e2, e13, e4, e8, e14, hl]
    simp
    omega
theorem udpL_eq (sp dp : Int) (chk : Bool) (src dst : Int) (data : List Int) : ∃ x y : Int, udpL sp dp chk src dst data = [sp / 256, sp % 256, dp / 256, dp % 256, (8 + (data.length : Int)) / 256, (8 + (data.length : Int)) % 256, x, y] ++ data := by
  unfold udpL
  split
  · exact ⟨_, _, rfl⟩
  · exact ⟨_, _, rfl⟩
theorem udp_back (sp dp x y : Int) (data : List Int) (p0 : 0 < sp) (_p1 : sp < 65536) (q0 : 0 < dp) (_q1 : dp < 65536) (hl : data.length ≤ 65507) :
    udpE2 ([sp / 256, sp % 256, dp / 256, dp % 256, (8 + (data.length : Int)) / 256, (8 + (data.length : Int)) % 256, x, y] ++ data) = 0
    ∧ ∀ f, udpF f ([sp / 256, sp % 256, dp / 256, dp % 256, (8 + (data.length : Int)) / 256, (8 + (data.length : Int)) % 256, x, y] ++ data) = { f with key := { f.key with sp := sp, dp := dp }, kind := 2, length := data.length } := by
  generalize hb : ([sp / 256, sp % 256, dp / 256, dp % 256, (8 + (data.length : Int)) / 256, (8 + (data.length : Int)) % 256, x, y] ++ data : List Int) = b
  have hlb : b.length = 8 + data.length := by rw [← hb]; simp; omega
  have e0 : w16At b 0 = sp := by rw [← hb]; show 256 * (sp / 256) + sp % 256 = sp; omega
  have e2 : w16At b 2 = dp := by rw [← hb]; show 256 * (dp / 256) + dp % 256 = dp; omega
  have e4 : w16At b 4 = 8 + data.length := by rw [← hb]; show 256 * ((8 + (data.length : Int)) / 256) + (8 + (data.length : Int)) % 256 = _; omega
  constructor
  · have hE : udpE b = 0 := by
      unfold udpE
      rw [e2, e4, hlb, if_neg (by omega), if_neg (by omega), if_neg (by omega)]
    unfold udpE2
    rw [hE, e0, if_neg (by omega), if_neg (by omega)]
  · intro f
    unfold udpF
    rw [e0, e2, e4]
    simp
    omega
theorem icmpL_eq (t c i s : Int) (data : List Int) : ∃ x y : Int, icmpL t c i s data = [t, c, x, y, i / 256, i % 256, s / 256, s % 256] ++ data := ⟨_, _, rfl⟩
theorem icmp_back (t c : Nat) (x y i s : Int) (data : List Int) (hk : kind2 t c = 0) (b : List Int) (hb : b = [(t : Int), (c : Int), x, y, i / 256, i % 256, s / 256, s % 256] ++ data) :
    icmpE b = 0 ∧ icmpK b = kind1 t c ∧ b.drop 8 = data ∧ w16At b 4 = i ∧ b.getD 0 0 = t ∧ b.getD 1 0 = c ∧ b.length = 8 + data.length := by
  have hlb : b.length = 8 + data.length := by rw [hb]; simp; omega
  have e0 : b.getD 0 0 = t := by rw [hb]; rfl
  have e1 : b.getD 1 0 = c := by rw [hb]; rfl
  have e4 : w16At b 4 = i := by rw [hb]; show 256 * (i / 256) + i % 256 = i; omega
  refine ⟨?_, ?_, by rw [hb]; rfl, e4, e0, e1, hlb⟩
  · unfold icmpE
    rw [e0, e1, hlb, Int.toNat_natCast, Int.toNat_natCast, hk, if_neg (by omega)]
  · unfold icmpK
    rw [e0, e1, Int.toNat_natCast, Int.toNat_natCast]
theorem kind1_pos {t c : Nat} (h : kind2 t c = 0) : 1 ≤ kind1 t c ∧ kind1 t c ≤ 5 := by
  have hb := kindN_bd t
  unfold kind2 at h
  unfold kind1
  split at h
  · omega
  · split at h
    · omega
    · rename_i h1 h2
      rw [if_neg h1, if_neg h2]
      omega
theorem kind1_three (t c : Nat) (h : kind1 t c = 1 ∨ kind1 t c = 2) : False := by
  have : ∀ t : Nat, kindN t ≠ 1 ∧ kindN t ≠ 2 := by
    intro t
    by_cases ht : t < 19
    · have hall : ∀ t, t < 19 → kindN t ≠ 1 ∧ kindN t ≠ 2 := by decide
      exact hall t ht
    · rw [kindN_big (by omega)]; omega
  have h2 := this t
  unfold kind1 at h
  split at h
  · omega
  · split at h <;> omega
theorem hdr_proto (b : List Int) : (ipHdr b).proto = b.getD 9 0 := rfl
theorem hdr_src (b : List Int) : (ipHdr b).src = l32At b 12 := rfl
theorem hdr_dst (b : List Int) : (ipHdr b).dst = l32At b 16 := rfl
/-- The packet that an error quotes: what its first 8 bytes of data tell. -/
theorem quo_back (h : IpH) (n : Nat) (rest d : List Int) (ho : h.Ok) (hR : h.Right n) (hoff : h.off = 0) (hn : 8 ≤ n) (h8 : 8 ≤ rest.length) (hpre : ∀ i, i < 8 → rest.getD i 0 = d.getD i 0)
    (hp : h.proto = 6 ∨ h.proto = 17 ∨ h.proto = 1) (hE : dataE h.proto d = 0) (hk : (dataF h.proto (baseF h) d).kind ≠ 5) :
    quoE (headL h n ++ rest) = 0 ∧ quoKey (headL h n ++ rest) = (dataF h.proto (baseF h) d).key ∧ quoKind (headL h n ++ rest) = (dataF h.proto (baseF h) d).kind := by
  have k := ip_back h n rest ho hR
  have hlen : (headL h n ++ rest).length = 20 + h.opts.length + rest.length := by rw [List.length_append, headL_len]
  have hdrop : (headL h n ++ rest).drop (20 + h.opts.length) = rest := List.drop_left' (headL_len h n)
  have htot : w16At (headL h n ++ rest) 2 = 20 + h.opts.length + n := by
    have h1 := k.total
    unfold ipTotal at h1
    omega
  have hw := k.word
  have hw6 : w16At (headL h n ++ rest) 6 = h.word := by
    have h1 := word_bd h hR.off0 hR.off1 hR.off8
    have e : w16At (headL h n ++ rest) 6 = 256 * (h.word / 256 % 256) + h.word % 256 := by
      rw [headL_eq]
      rfl
    rw [e]
    omega
  have hproto : (headL h n ++ rest).getD 9 0 = h.proto := (hdr_proto _).symm.trans (congrArg IpH.proto k.hdr)
  have hsrc : l32At (headL h n ++ rest) 12 = h.src := (hdr_src _).symm.trans (congrArg IpH.src k.hdr)
  have hdst : l32At (headL h n ++ rest) 16 = h.dst := (hdr_dst _).symm.trans (congrArg IpH.dst k.hdr)
  have hsz := k.size
  have hver := k.ver
  have hsum := k.sum
  generalize headL h n ++ rest = b at *
  have hN : quoN b = 4 := firstB_all fun j hj => by
    rcases (show j = 0 ∨ j = 1 ∨ j = 2 ∨ j = 3 by omega) with rfl | rfl | rfl | rfl
    · have e1 : decide (b.length < 20) = false := decide_eq_false (by omega)
      show (decide (b.length < 20) || b.getD 0 0 / 16 != 4) = false
      rw [hver, e1]; rfl
    · simp [quoT, hsz]; omega
    · simp [quoT, hsz, hsum]; omega
    · have : h.word % 8192 = 0 := by
        have h1 := word_bd h hR.off0 hR.off1 hR.off8
        omega
      simp [quoT, hw6, this]; omega
  have r0 : w16At rest 0 = w16At d 0 := by unfold w16At; rw [hpre 0 (by omega), hpre 1 (by omega)]
  have r2 : w16At rest 2 = w16At d 2 := by unfold w16At; rw [hpre 2 (by omega), hpre 3 (by omega)]
  have r4 : w16At rest 4 = w16At d 4 := by unfold w16At; rw [hpre 4 (by omega), hpre 5 (by omega)]
  have main : quoKey b = (dataF h.proto (baseF h) d).key ∧ quoKind b = (dataF h.proto (baseF h) d).kind ∧ quoKind b ≠ 0 := by
    unfold quoKey quoKind
    dsimp only
    rw [hproto, hsrc, hdst, hsz, hdrop, r0, r2, r4, hpre 0 (by omega), hpre 1 (by omega)]
    rcases hp with e | e | e <;> rw [e] at hE hk ⊢
    · have hE2 : tcpE d = 0 := hE
      have hz : ¬ (w16At d 0 = 0 ∨ w16At d 2 = 0) := by
        unfold tcpE at hE2
        split at hE2; · omega
        split at hE2; · omega
        split at hE2; · omega
        split at hE2
        · omega
        · assumption
      refine ⟨by simp [dataF, tcpF, baseF, Facts.zero, e], ?_, ?_⟩
      · rw [if_pos (by omega), if_neg hz]; rfl
      · rw [if_pos (by omega), if_neg hz]; decide
    · have hE2 : udpE2 d = 0 := hE
      have hz : ¬ (w16At d 0 = 0 ∨ w16At d 2 = 0) := by
        unfold udpE2 at hE2
        split at hE2
        · rename_i h1
          exact absurd hE2 h1
        · rename_i h1
          split at hE2
          · omega
          · rename_i h2
            intro h3
            rcases h3 with h3 | h3
            · exact h2 h3
            · apply h1
              unfold udpE
              split
              · decide
              · split
                · decide
                · first | omega | (rw [if_pos h3]; decide)
      refine ⟨by simp [dataF, udpF, baseF, Facts.zero, e], ?_, ?_⟩
      · rw [if_pos (by omega), if_neg hz]; rfl
      · rw [if_pos (by omega), if_neg hz]; decide
    · have hE2 : icmpE2 d = 0 := hE
      have hE3 : icmpE d = 0 := by
        unfold icmpE2 at hE2
        split at hE2
        · exact hE2
        · rename_i h1; omega
      have hk2 : kind2 (d.getD 0 0).toNat (d.getD 1 0).toNat = 0 := by
        unfold icmpE at hE3
        split at hE3
        · omega
        · exact hE3
      have hk3 := kind1_pos hk2
      have hk4 : icmpK d ≠ 5 := by
        intro h5
        apply hk
        show (icmpF (baseF h) d).kind = 5
        unfold icmpF
        rw [if_neg (by simp [h5])]
        exact h5
      have hf : dataF 1 (baseF h) d = icmpF (baseF h) d := rfl
      unfold icmpF at hf
      rw [if_pos hk4] at hf
      rw [hf]
      refine ⟨by simp [baseF, Facts.zero, e], ?_, ?_⟩
      · rw [if_neg (by omega), if_pos (by omega)]; rfl
      · rw [if_neg (by omega), if_pos (by omega)]; omega
  refine ⟨?_, main.1, main.2.1⟩
  unfold quoE
  rw [hN, if_neg (by omega), if_neg main.2.2, if_neg (by rw [main.2.1]; exact hk)]
end Go.Proofs.YtebeekjcepjcnaaDoor
namespace Go.Proofs.YtebeekjcepjcnaaDoor
open Go.RowKit
def Eqn (k : Nat) (xs ys : List Int) : Prop := xs.length = ys.length ∧ xs.take k = ys.take k
theorem Eqn.at_ {k : Nat} {xs ys : List Int} (h : Eqn k xs ys) (i : Nat) (hi : i < k) : xs.getD i 0 = ys.getD i 0 := by
  rw [List.getD_eq_getElem?_getD, List.getD_eq_getElem?_getD, ← List.getElem?_take_of_lt hi, h.2, List.getElem?_take_of_lt hi]
theorem Eqn.w16 {k : Nat} {xs ys : List Int} (h : Eqn k xs ys) (i : Nat) (hi : i + 1 < k) : w16At xs i = w16At ys i := by
  unfold w16At; rw [h.at_ i (by omega), h.at_ (i + 1) hi]
theorem Eqn.take {k : Nat} {xs ys : List Int} (h : Eqn k xs ys) (j : Nat) (hj : j ≤ k) : xs.take j = ys.take j := by
  have := congrArg (List.take j) h.2
  rwa [List.take_take, List.take_take, Nat.min_eq_left hj] at this
theorem Eqn.drop {k : Nat} {xs ys : List Int} (h : Eqn k xs ys) (j m : Nat) (hj : j + m ≤ k) : Eqn m (xs.drop j) (ys.drop j) := by
  refine ⟨by rw [List.length_drop, List.length_drop, h.1], ?_⟩
  rw [List.take_drop, List.take_drop, h.take (j + m) hj]
theorem Eqn.cut {k : Nat} {xs ys : List Int} (h : Eqn k xs ys) (n : Nat) : Eqn k (xs.take n) (ys.take n) := by
  refine ⟨by rw [List.length_take, List.length_take, h.1], ?_⟩
  rw [List.take_take, List.take_take]
  exact h.take _ (Nat.min_le_left _ _)
theorem Eqn.size {k : Nat} {xs ys : List Int} (h : Eqn k xs ys) (hk : 0 < k) : ipSize xs = ipSize ys := by
  unfold ipSize; rw [h.at_ 0 hk]
theorem reason_bd (h : IpH) : 0 ≤ h.reason ∧ h.reason ≤ 12 := by
  unfold IpH.reason
  repeat' split
  all_goals omega
end Go.Proofs.YtebeekjcepjcnaaDoor
namespace Go.Proofs.YtebeekjcepjcnaaDoor
open Go.RowKit

theorem udpL_len (sp dp : Int) (chk : Bool) (src dst : Int) (data : List Int) : (udpL sp dp chk src dst data).length = 8 + data.length := by
  unfold udpL
  split <;> simp [udp0_len]
end Go.Proofs.YtebeekjcepjcnaaDoor
