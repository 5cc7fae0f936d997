/-
  A packet that is built is read with the facts it was built of (plain).
  icmp.word, Read, Answer.
-/
import Derived.Test.YtebeekjcepjcnaaGreatDoorRBuildb
namespace Go.Proofs.YtebeekjcepjcnaaGreatDoor
open Go.RowKit
structure RightOk (f : Facts) : Prop where
  k0 : 1 ≤ f.kind
  k1 : f.kind ≤ 5
  proto : f.key.proto = protoS f.kind
  src : usualB f.key.src = true
  dst : usualB f.key.dst = true
  ne : (f.key.src == f.key.dst) = false
  fr : f.fRight = true
  part : f.fPart = f
theorem right_ok {f : Facts} (h : f.right = true) : RightOk f := by
  unfold Facts.right at h
  simp only [Bool.and_eq_true, decide_eq_true_eq, beq_iff_eq, Bool.not_eq_true', Facts.eqB_iff] at h
  obtain ⟨⟨⟨⟨⟨⟨⟨h1, h2⟩, h3⟩, h4⟩, h5⟩, h6⟩, h7⟩, h8⟩ := h
  exact ⟨h1, h2, h3, h4, h5, by simpa using h6, h7, h8⟩
theorem hdr_reason {k : Key} (hs : usualB k.src = true) (hd : usualB k.dst = true) (hne : (k.src == k.dst) = false) : (hdrH k).reason = 0 := by
  unfold IpH.reason
  have h1 : optRead (hdrH k).opts = ([], 0) := rfl
  have h2 : strangeB (hdrH k).src = false := strange_of hs
  have h3 : strangeB (hdrH k).dst = false := strange_of hd
  have h4 : ((hdrH k).src == (hdrH k).dst) = false := hne
  rw [h1, h2, h3, h4]
  simp [hdrH, routedB]
theorem hdr_ok {k : Key} (h : k.Ok) : (hdrH k).Ok := ⟨show (0 : Int) ≤ 0 by decide, show (0 : Int) < 256 by decide, show (0 : Int) ≤ 0 by decide, show (0 : Int) < 65536 by decide, show (0 : Int) ≤ 64 by decide, show (64 : Int) < 256 by decide, h.proto0, h.proto1, h.src0, h.src1, h.dst0, h.dst1, Byt.nil⟩
theorem hdr_right {k : Key} {n : Nat} (h : n ≤ 65515) : (hdrH k).Right n := ⟨show (0 : Int) ≤ 0 by decide, show (0 : Int) ≤ 65528 by decide, rfl, show 0 ≤ 40 by decide, rfl, by simp [hdrH]; omega, by simp [hdrH]; omega, fun h => by simp [hdrH] at h⟩
/-- What a segment, a datagram, a message of given facts is read as. -/
theorem seg_back {f : Facts} (ho : f.Ok) (hr : f.rightTCP = true) (b : Facts) : tcpE f.segL = 0 ∧ tcpF b f.segL = { b with key := { b.key with sp := f.key.sp, dp := f.key.dp }, kind := 1, flags := f.flags, seqn := f.seqn, ackn := f.ackn, window := f.window, length := f.length } := by
  simp only [Facts.rightTCP, betweenB, Key.ported, Bool.and_eq_true, decide_eq_true_eq] at hr
  have hk := ho.key
  obtain ⟨e1, e2⟩ := tcp_back f.key.sp f.key.dp f.seqn f.ackn f.window 0 f.flags.toNat [] f.key.src f.key.dst (zerosL f.length.toNat) hr.1.1.1.1.1 hk.sp1 hr.1.1.1.1.2 hk.dp1 ho.seqn0 ho.seqn1 ho.ackn0 ho.ackn1
    (by have := ho.flags0; have := ho.flags1; omega) hr.1.1.2 hr.1.2.1 (by omega) (by simp) rfl
  refine ⟨e1, ?_⟩
  show tcpF b (tcpL _ _ _ _ _ _ _ _ _ _ _) = _
  rw [e2 b, zerosL_len]
  have h1 : ((f.flags.toNat : Int)) % 64 = f.flags := by have := ho.flags0; omega
  have h2 : ((f.length.toNat : Nat) : Int) = f.length := by omega
  rw [h1, h2]
theorem dat_back {f : Facts} (ho : f.Ok) (hr : f.rightUDP = true) (b : Facts) : udpE2 f.datL = 0 ∧ udpF b f.datL = { b with key := { b.key with sp := f.key.sp, dp := f.key.dp }, kind := 2, length := f.length }
    ∧ udpE2 ((f.datL.set 6 0).set 7 0) = 0 ∧ udpF b ((f.datL.set 6 0).set 7 0) = { b with key := { b.key with sp := f.key.sp, dp := f.key.dp }, kind := 2, length := f.length } := by
  simp only [Facts.rightUDP, betweenB, Key.ported, Bool.and_eq_true, decide_eq_true_eq] at hr
  have hk := ho.key
  obtain ⟨x, y, e⟩ := udpL_eq f.key.sp f.key.dp true f.key.src f.key.dst (zerosL f.length.toNat)
  have e' : f.datL = _ := e
  have h2 : ((f.length.toNat : Nat) : Int) = f.length := by omega
  have hl : (zerosL f.length.toNat).length ≤ 65507 := by rw [zerosL_len]; omega
  obtain ⟨a1, a2⟩ := udp_back f.key.sp f.key.dp x y (zerosL f.length.toNat) hr.1.1 hk.sp1 hr.1.2 hk.dp1 hl
  obtain ⟨b1, b2⟩ := udp_back f.key.sp f.key.dp 0 0 (zerosL f.length.toNat) hr.1.1 hk.sp1 hr.1.2 hk.dp1 hl
  have e3 : (f.datL.set 6 0).set 7 0 = [f.key.sp / 256, f.key.sp % 256, f.key.dp / 256, f.key.dp % 256, (8 + ((zerosL f.length.toNat).length : Int)) / 256, (8 + ((zerosL f.length.toNat).length : Int)) % 256, 0, 0] ++ zerosL f.length.toNat := by
    rw [e']; rfl
  rw [e3, e', a2 b, b2 b, zerosL_len, h2]
  rw [zerosL_len, h2] at a1 b1
  exact ⟨a1, rfl, b1, rfl⟩
theorem msg_back {f : Facts} (ho : f.Ok) (hr : f.rightQuery = true) (hk5 : f.kind ≠ 5) (b : Facts) : icmpE2 f.msgL = 0 ∧ icmpF b f.msgL = { b with key := { b.key with sp := f.key.sp, dp := f.key.sp }, kind := f.kind, type := f.type, code := f.code, length := f.length } := by
  simp only [Facts.rightQuery, betweenB, Bool.and_eq_true, decide_eq_true_eq, beq_iff_eq] at hr
  obtain ⟨⟨⟨r1, r2⟩, r3⟩, r4⟩ := hr
  have t0 := ho.type0
  have c0 := ho.code0
  obtain ⟨x, y, e⟩ := icmpL_eq f.type f.code f.key.sp 0 (zerosL f.length.toNat)
  have e' : f.msgL = [((f.type.toNat : Nat) : Int), ((f.code.toNat : Nat) : Int), x, y, f.key.sp / 256, f.key.sp % 256, (0 : Int) / 256, (0 : Int) % 256] ++ zerosL f.length.toNat := by
    rw [show ((f.type.toNat : Nat) : Int) = f.type by omega, show ((f.code.toNat : Nat) : Int) = f.code by omega]
    exact e
  obtain ⟨a1, a2, a3, a4, a5, a6, a7⟩ := icmp_back f.type.toNat f.code.toNat x y f.key.sp 0 (zerosL f.length.toNat) r1 f.msgL e'
  have hK : icmpK f.msgL ≠ 5 := by rw [a2, r2]; exact hk5
  constructor
  · unfold icmpE2
    rw [if_neg (by omega), if_pos hK]
  · unfold icmpF
    rw [if_pos hK, a2, r2, a4, a5, a6, a7, zerosL_len]
    have h1 : ((f.type.toNat : Nat) : Int) = f.type := by omega
    have h2 : ((f.code.toNat : Nat) : Int) = f.code := by omega
    have h3 : (((8 + f.length.toNat : Nat)) : Int) - 8 = f.length := by omega
    rw [h1, h2, h3]
theorem qIn_back {f : Facts} (ho : f.Ok) (hq : isQ f.qkind = true) (hr : f.qRight = true) (hp : f.quoted.proto = qProto f.qkind) :
    (f.quoted.proto = 6 ∨ f.quoted.proto = 17 ∨ f.quoted.proto = 1) ∧ dataE f.quoted.proto f.qIn = 0 ∧ (dataF f.quoted.proto (baseF (hdrH f.quoted)) f.qIn).key = f.quoted ∧ (dataF f.quoted.proto (baseF (hdrH f.quoted)) f.qIn).kind = f.qkind := by
  have hO := quotedF_ok ho
  have hi : 1 ≤ f.qkind ∧ f.qkind ≤ 4 := by simpa [isQ] using hq
  unfold qProto at hp
  rw [if_pos hq] at hp
  unfold Facts.qRight at hr
  unfold Facts.qIn Facts.qL
  have hkey : f.quotedF.key = f.quoted := rfl
  rcases (show f.qkind = 1 ∨ f.qkind = 2 ∨ f.qkind = 3 ∨ f.qkind = 4 by omega) with e | e | e | e
  · rw [if_pos e] at hr
    rw [if_neg (by omega), if_pos e, hp, e]
    obtain ⟨a, b⟩ := seg_back hO hr (baseF (hdrH f.quoted))
    refine ⟨.inl rfl, a, ?_, ?_⟩
    · show (tcpF (baseF (hdrH f.quoted)) f.quotedF.segL).key = _
      rw [b]; rfl
    · show (tcpF (baseF (hdrH f.quoted)) f.quotedF.segL).kind = _
      rw [b]
  · rw [if_neg (by omega), if_neg (by omega)] at hr
    rw [if_pos e, if_neg (by omega), if_pos e, hp, e]
    obtain ⟨_, _, a, b⟩ := dat_back hO hr (baseF (hdrH f.quoted))
    refine ⟨.inr (.inl rfl), a, ?_, ?_⟩
    · show (udpF (baseF (hdrH f.quoted)) _).key = _
      rw [b]; rfl
    · show (udpF (baseF (hdrH f.quoted)) _).kind = _
      rw [b]
  all_goals
    rw [if_neg (by omega), if_pos (by omega)] at hr
    rw [if_neg (by omega), if_neg (by omega), if_neg (by omega), hp, e]
    have hsp : f.quoted.sp = f.quoted.dp := by
      simp only [Facts.rightQuery, betweenB, Bool.and_eq_true, decide_eq_true_eq, beq_iff_eq] at hr
      exact hr.1.2
    have hkk : f.quotedF.kind = f.qkind := rfl
    obtain ⟨a, b⟩ := msg_back hO hr (by rw [hkk]; omega) (baseF (hdrH f.quoted))
    refine ⟨.inr (.inr rfl), a, ?_, ?_⟩
    · show (icmpF (baseF (hdrH f.quoted)) f.quotedF.msgL).key = _
      rw [b, hkey, hsp]; exact congrArg (fun s => Key.mk f.quoted.proto f.quoted.src f.quoted.dst s f.quoted.dp) hsp.symm
    · show (icmpF (baseF (hdrH f.quoted)) f.quotedF.msgL).kind = _
      rw [b, hkk, e]
theorem fail_back {f : Facts} (ho : f.Ok) (hr : f.rightError = true) (hk : f.kind = 5) (b : Facts) : icmpE2 f.failL = 0 ∧ icmpF b f.failL = { b with kind := 5, type := f.type, code := f.code, length := f.length, quoted := f.quoted, qkind := f.qkind } := by
  simp only [Facts.rightError, betweenB, Bool.and_eq_true, decide_eq_true_eq, beq_iff_eq] at hr
  obtain ⟨⟨⟨⟨⟨⟨⟨r1, r2⟩, r3⟩, r4⟩, r5⟩, r6⟩, r7⟩, r8⟩ := hr
  have t0 := ho.type0
  have c0 := ho.code0
  have hq8 := qL_len (quotedF_length f)
  have hql := qIn_len f
  obtain ⟨q1, q2, q3, q4⟩ := qIn_back ho r3 r4 r5
  have hi : 1 ≤ f.qkind ∧ f.qkind ≤ 4 := by simpa [isQ] using r3
  have hz : (List.replicate (f.length.toNat - 28) (0 : Int)).length = f.length.toNat - 28 := List.length_replicate
  have ht : (f.qIn.take 8).length = 8 := by rw [List.length_take]; omega
  obtain ⟨x, y, e⟩ := icmpL_eq ((f.type.toNat : Nat) : Int) ((f.code.toNat : Nat) : Int) 0 0 (headL (hdrH f.quoted) f.qIn.length ++ f.qIn.take 8 ++ List.replicate (f.length.toNat - 28) 0)
  obtain ⟨a1, a2, a3, a4, a5, a6, a7⟩ := icmp_back f.type.toNat f.code.toNat x y 0 0 (headL (hdrH f.quoted) f.qIn.length ++ f.qIn.take 8 ++ List.replicate (f.length.toNat - 28) 0) r1 f.failL e
  rw [List.append_assoc] at a3
  have hlen : f.failL.length = 8 + f.length.toNat := by
    rw [a7, List.length_append, List.length_append, headL_len, ht, hz]
    show 8 + (20 + 0 + 8 + (f.length.toNat - 28)) = _
    omega
  obtain ⟨b1, b2, b3⟩ := quo_back (hdrH f.quoted) f.qIn.length (f.qIn.take 8 ++ List.replicate (f.length.toNat - 28) 0) f.qIn (hdr_ok ho.quoted) (hdr_right (by omega)) rfl (by omega) (by rw [List.length_append, ht]; omega)
    (fun i hi8 => by rw [List.getD_eq_getElem?_getD, List.getD_eq_getElem?_getD, List.getElem?_append_left (by omega), List.getElem?_take_of_lt hi8]) q1 q2 (by rw [show (dataF (hdrH f.quoted).proto (baseF (hdrH f.quoted)) f.qIn).kind = f.qkind from q4]; omega)
  have hK : icmpK f.failL = 5 := by rw [a2, r2, hk]
  constructor
  · unfold icmpE2
    rw [if_neg (by omega), if_neg (by omega), a3, b1]
  · unfold icmpF
    rw [if_neg (by omega), a3, b2, b3, hK, a5, a6, hlen]
    have h1 : ((f.type.toNat : Nat) : Int) = f.type := by omega
    have h2 : ((f.code.toNat : Nat) : Int) = f.code := by omega
    have h3 : (((8 + f.length.toNat : Nat)) : Int) - 8 = f.length := by omega
    have q3' : (dataF (hdrH f.quoted).proto (baseF (hdrH f.quoted)) f.qIn).key = f.quoted := q3
    have q4' : (dataF (hdrH f.quoted).proto (baseF (hdrH f.quoted)) f.qIn).kind = f.qkind := q4
    rw [h1, h2, h3, q3', q4']
/-- The data of right facts is read as these facts. -/
theorem data_back {f : Facts} (ho : f.Ok) (hr : f.right = true) : dataE f.key.proto f.dataL = 0 ∧ dataF f.key.proto (baseF (hdrH f.key)) f.dataL = f := by
  have k := right_ok hr
  have k0 := k.k0
  have k1 := k.k1
  have hp := k.proto
  have hfr := k.fr
  have hpt := k.part
  unfold Facts.fRight at hfr
  unfold Facts.fPart at hpt
  unfold Facts.dataL
  rcases (show f.kind = 1 ∨ f.kind = 2 ∨ f.kind = 5 ∨ f.kind = 3 ∨ f.kind = 4 by omega) with e | e | e | e | e
  · rw [if_pos e] at hfr hpt
    rw [if_pos e, hp, e]
    obtain ⟨a, b⟩ := seg_back ho hfr (baseF (hdrH f.key))
    refine ⟨a, ?_⟩
    show tcpF (baseF (hdrH f.key)) f.segL = f
    rw [b]
    refine Eq.trans ?_ hpt
    rw [← e]; rfl
  · rw [if_neg (by omega), if_pos e] at hfr hpt
    rw [if_neg (by omega), if_pos e, hp, e]
    obtain ⟨a, b, _⟩ := dat_back ho hfr (baseF (hdrH f.key))
    refine ⟨a, ?_⟩
    show udpF (baseF (hdrH f.key)) f.datL = f
    rw [b]
    refine Eq.trans ?_ hpt
    rw [← e]; rfl
  · rw [if_neg (by omega), if_neg (by omega), if_pos e] at hfr hpt
    rw [if_neg (by omega), if_neg (by omega), if_pos e, hp, e]
    obtain ⟨a, b⟩ := fail_back ho hfr e (baseF (hdrH f.key))
    refine ⟨a, ?_⟩
    show icmpF (baseF (hdrH f.key)) f.failL = f
    rw [b]
    simp only [Facts.rightError, Bool.and_eq_true, beq_iff_eq] at hfr
    have s1 := hfr.1.1.2
    have s2 := hfr.1.2
    refine Eq.trans ?_ hpt
    unfold Facts.errorPart
    obtain ⟨⟨p, s, d, sp, dp⟩, kind, flags, type, code, seqn, ackn, window, length, quoted, qkind⟩ := f
    simp only at e s1 s2
    subst e s1 s2
    rfl
  all_goals
    rw [if_neg (by omega), if_neg (by omega), if_neg (by omega)] at hfr hpt
    rw [if_neg (by omega), if_neg (by omega), if_neg (by omega), hp, e]
    obtain ⟨a, b⟩ := msg_back ho hfr (by omega) (baseF (hdrH f.key))
    refine ⟨a, ?_⟩
    show icmpF (baseF (hdrH f.key)) f.msgL = f
    rw [b]
    simp only [Facts.rightQuery, Bool.and_eq_true, beq_iff_eq] at hfr
    have s1 := hfr.1.2
    refine Eq.trans ?_ hpt
    unfold Facts.queryPart
    obtain ⟨⟨p, s, d, sp, dp⟩, kind, flags, type, code, seqn, ackn, window, length, quoted, qkind⟩ := f
    simp only at s1
    subst s1
    rfl
theorem built_back {f : Facts} (ho : f.Ok) (hr : f.right = true) (behind : List Int) : pktR (f.buildL ++ behind) = 0 ∧ pktF (f.buildL ++ behind) = f := by
  have k := right_ok hr
  obtain ⟨h1, h2⟩ := data_back ho hr
  have hl := (dataL_len hr).2
  obtain ⟨a, b⟩ := pkt_back (hdrH f.key) f.dataL behind (hdr_ok ho.key) (hdr_right hl)
  have hR : pktR (f.buildL ++ behind) = 0 := by
    show pktR (ipWriteL (hdrH f.key) f.dataL ++ behind) = 0
    rw [a, hdr_reason k.src k.dst k.ne, if_neg (by decide)]
    have e : (hdrH f.key).proto = f.key.proto := rfl
    rw [e, h1]
    have hp : ¬ (f.key.proto ≠ 6 ∧ f.key.proto ≠ 17 ∧ f.key.proto ≠ 1) := by
      rw [k.proto]; unfold protoS; repeat' split <;> omega
    rw [if_neg hp]
    rfl
  refine ⟨hR, ?_⟩
  have := b hR
  rw [show ipWriteL (hdrH f.key) f.dataL ++ behind = f.buildL ++ behind from rfl] at this
  rw [this]
  exact h2
end Go.Proofs.YtebeekjcepjcnaaGreatDoor
namespace Go.Proofs.YtebeekjcepjcnaaGreatDoor
open Go.RowKit

def w16 (a b : Int) : Int := 256 * a + b
theorem or_word (a b : Int) (a0 : 0 ≤ a) (a1 : a < 256) (b0 : 0 ≤ b) (b1 : b < 256) : bits .or .u16 (a * 256) b = w16 a b := or_u16_word a b a0 a1 b0 b1

set_option maxRecDepth 100000 in
set_option maxHeartbeats 1000000 in
theorem icmpWord_any (A : Option Addr) (cap n : Nat) (xs : List Int) (w : World) (hn : xs.length = n) (hl : 2 ≤ n) (hb : Byt xs) (hr : Rd w w.heap.size A .u8 xs) :
    Calls Tryz.prog 71 #[.slice A n cap] w fun e w' => e = .returned (.int .u16 (w16 (xs.getD 0 0) (xs.getD 1 0))) ∧ Below w.heap.size w w' := by
  obtain ⟨b, off, rfl, hbl, hc⟩ := hr.at0 (by omega)
  have c0 := hc 0 (by omega)
  have c1 := hc 1 (by omega)
  obtain ⟨x0, x1⟩ := hb.at_ 0
  obtain ⟨y0, y1⟩ := hb.at_ 1
  have ho := or_word (xs.getD 0 0) (xs.getD 1 0) x0 x1 y0 y1
  clear hr hc hn
  generalize w16 (xs.getD 0 0) (xs.getD 1 0) = R at *
  generalize xs.getD 0 0 = x at *
  generalize xs.getD 1 0 = y at *
  rw [Nat.add_zero] at c0
  go_enter Tryz.func71, Tryz.ntmps71
  go_wp2_with fail
  refine wp_region_walk0 (by kernel_rfl) (fun _ W => St w w.heap.size [] W) [] Grow [0, 1, 2, 3, 4, 5, 6, 7, 8, 9, 10] (by kernel_rfl) (St.nil (Below.refl _ w) (Nat.le_refl _)).drew ?_
  iterate 11
    apply Walk.one rfl rfl rfl
    case hrun =>
      intro c W hE hF
      have d0 := (hE.1.cell (p := ⟨b, off, none⟩) hbl).trans c0
      have d1 := (hE.1.cell (p := ⟨b, off + 1, none⟩) hbl).trans c1
      go_wp2_with fail
      exact TextPost.mk ⟨Grow.refl _, hE⟩
    case hv => rfl
  refine Walk.done (fun W hE hF => ?_)
  have hbW := hE.1
  clear hE hF
  go_wp2_with fail
  go_ret
  exact ⟨rfl, hbW⟩

theorem Rd.word {w : World} {B : Nat} {b off : Nat} {xs : List Int} (h : Rd w B (some ⟨b, off, none⟩) .u8 xs) (k : Nat) : Rd w B (some ⟨b, off + k, none⟩) .u8 (xs.drop k) :=
  h.drop k (fun _ b' off' e => by
    simp only [Option.some.injEq, Addr.mk.injEq, and_true] at e
    obtain ⟨rfl, rfl⟩ := e
    rfl)
theorem getD_drop0 (xs : List Int) (k j : Nat) : (xs.drop k).getD j 0 = xs.getD (k + j) 0 := by simp [List.getD_eq_getElem?_getD]

set_option maxRecDepth 100000 in
set_option maxHeartbeats 2000000 in
theorem icmpRead_any (A : Option Addr) (cap n : Nat) (xs : List Int) (w : World) (hn : xs.length = n) (hl : 8 ≤ n) (hcap : n ≤ cap) (hb : Byt xs) (hr : Rd w w.heap.size A .u8 xs) (hs : SortsAt w) (hk : kind2 (xs.getD 0 0).toNat (xs.getD 1 0).toNat = 0) :
    Calls Tryz.prog 33 #[.slice A n cap] w fun e w' => e = .returned (.tuple #[.agg #[.int .u8 (xs.getD 0 0), .int .u8 (xs.getD 1 0), .int .u16 (w16 (xs.getD 4 0) (xs.getD 5 0)), .int .u16 (w16 (xs.getD 6 0) (xs.getD 7 0))], .int .i64 0]) ∧ Below w.heap.size w w' := by
  obtain ⟨b, off, rfl, hbl, hc⟩ := hr.at0 (by omega)
  have c0 := hc 0 (by omega)
  have c1 := hc 1 (by omega)
  rw [Nat.add_zero] at c0
  obtain ⟨x0, x1⟩ := hb.at_ 0
  obtain ⟨y0, y1⟩ := hb.at_ 1
  have HK := Lib.hid (fun (W : World) (h : SortsAt W) => kindI_any (xs.getD 0 0) (xs.getD 1 0) W x0 x1 y0 h)
  rw [hk] at HK
  have H4 := Lib.hid (fun (W : World) (h : Rd W W.heap.size (some ⟨b, off, none⟩) .u8 xs) => icmpWord_any (some ⟨b, off + 4, none⟩) (cap - 4) (n - 4) (xs.drop 4) W (by simp [hn]) (by omega) (hb.drop 4) (h.word 4))
  have H6 := Lib.hid (fun (W : World) (h : Rd W W.heap.size (some ⟨b, off, none⟩) .u8 xs) => icmpWord_any (some ⟨b, off + 6, none⟩) (cap - 6) (n - 6) (xs.drop 6) W (by simp [hn]) (by omega) (hb.drop 6) (h.word 6))
  simp only [getD_drop0, Nat.reduceAdd] at H4 H6
  have Hr := Lib.hid hr
  have Hs := Lib.hid hs
  clear hr hc hn hb hs hk
  generalize w16 (xs.getD 4 0) (xs.getD 5 0) = v4 at *
  generalize w16 (xs.getD 6 0) (xs.getD 7 0) = v6 at *
  generalize kind1 (xs.getD 0 0).toNat (xs.getD 1 0).toNat = e1 at *
  generalize xs.getD 0 0 = x at *
  generalize xs.getD 1 0 = y at *
  have hd : decide ((n : Int) < 8) = false := by simp; omega
  go_enter Tryz.func33, Tryz.ntmps33
  go_wp2_with fail
  refine wp_name1 ?_
  intro w1 hb1 hs1 bR
  have hSt := (St.nil hb1 hb1.size).cons bR
  refine wp_region_walk0 (by kernel_rfl) (fun _ W => St w w.heap.size _ W) [] Grow [0, 1, 2, 3, 4, 5, 6, 7, 8, 9, 10, 11] (by kernel_rfl) hSt.drew ?_
  iterate 12
    apply Walk.one rfl rfl rfl
    case hrun =>
      intro c W hE hF
      have d0 := (hE.1.cell (p := ⟨b, off, none⟩) hbl).trans c0
      have d1 := (hE.1.cell (p := ⟨b, off + 1, none⟩) hbl).trans c1
      have Hs2 := Lib.hid (Hs.out.below hE.1 (Nat.le_refl _))
      go_wp2_with (first | (go_at_call 20; refine (HK.out _ Hs2.out).mono ?_; rintro e wk ⟨rfl, rfl⟩) | fail)
      exact TextPost.mk ⟨Grow.refl _, hE⟩
    case hv => rfl
  refine Walk.done (fun W hE hF => ?_)
  have bR2 := hE.get 0 rfl
  have hbW := hE.1
  clear hE hF hSt bR hb1 hs1
  go_wp2_with fail
  have hlt := bR2.lt
  have hSt2 : St1 w w.heap.size [] w.heap.size 98 _ #[.int .u8 x, .int .u8 y, .int .u16 v4, .int .u16 v6] 0 W := ⟨St.nil hbW hbW.size, Nat.le_refl _, by simp, bR2⟩
  refine wp_region_walk0 (by kernel_rfl) (St1 w w.heap.size [] w.heap.size 98 _ #[.int .u8 x, .int .u8 y, .int .u16 v4, .int .u16 v6]) [13] GTop [0, 1, 2, 3, 4, 5, 6, 7, 8, 9, 10, 11, 12, 13, 14] (by kernel_rfl) hSt2.drew ?_
  iterate 13
    apply Walk.one rfl rfl rfl
    case hrun =>
      intro c W2 hE hF
      have d0 := (hE.1.1.cell (p := ⟨b, off, none⟩) hbl).trans c0
      have d1 := (hE.1.1.cell (p := ⟨b, off + 1, none⟩) hbl).trans c1
      have Hr2 := Lib.hid ((Hr.out.below hE.1.1 (Nat.le_refl _)).more hE.1.1.size)
      go_wp2_with (first | ((with_reducible refine (H4.out _ Hr2.out).mono ?_); rintro e wk ⟨rfl, lk⟩) | ((with_reducible refine (H6.out _ Hr2.out).mono ?_); rintro e wk ⟨rfl, lk⟩) | fail)
      first
        | exact TextPost.mk ⟨GTop.mk, hE⟩
        | exact TextPost.mk ⟨GTop.mk, hE.below lk⟩
    case hv => rfl
  apply Walk.keep 0 rfl rfl rfl rfl
  case hrun =>
    intro W2 hE hF
    have hbR := hE.2.2.2
    refine wpList_store_row rfl _ _ _ rfl _ _ rfl rfl _ _ hbR (by kernel_rfl) (by simp) (by simp [Value.oneCell']) ?_
    go_wp2_with fail
    exact TextPost.mk ⟨GTop.mk, hE.put⟩
  case hv => rfl
  apply Walk.one rfl rfl rfl
  case hrun =>
    intro c W2 hE hF
    go_wp2_with fail
    exact TextPost.mk ⟨GTop.mk, hE⟩
  case hv => rfl
  refine Walk.done (fun W2 hE hF => ?_)
  have hbR := hE.2.2.2
  have hbW2 := hE.1.1
  clear hE hF hSt2
  go_wp2_with fail
  exact bodyPost_ret (results_cell_tmp Tryz.results33 _ _ _ _ _ _ _ rfl hbR Tryz.underlying98 rfl (by kernel_rfl)) rfl ⟨rfl, hbW2⟩

set_option maxRecDepth 100000 in
set_option maxHeartbeats 2000000 in
theorem icmpAnswer_any (A : Option Addr) (cap n : Nat) (xs : List Int) (w : World) (hn : xs.length = n) (hl : 8 ≤ n) (hl2 : n ≤ 1000000) (hcap : n ≤ cap) (hb : Byt xs) (hr : Rd w w.heap.size A .u8 xs) (hs : SortsAt w) (hk : kind2 (xs.getD 0 0).toNat (xs.getD 1 0).toNat = 0) (hq : kindN (xs.getD 0 0).toNat = 3) :
    Calls Tryz.prog 32 #[.slice A n cap] w fun e w' => ∃ v, e = .returned (.tuple #[v, .int .i64 0]) ∧ Own w' w.heap.size v (fixL (xs.set 0 (replyN (xs.getD 0 0).toNat)) 2) ∧ Below w.heap.size w w' := by
  have HRd := Lib.hid (icmpRead_any A cap n xs w hn hl hcap hb hr hs hk)
  have HC := Lib.hid (fun (W : World) (h : Rd W W.heap.size A .u8 xs) => clone_any A cap xs W h (by omega))
  rw [hn] at HC
  obtain ⟨b, off, rfl, hbl, hc⟩ := hr.at0 (by omega)
  have c0 := hc 0 (by omega)
  rw [Nat.add_zero] at c0
  obtain ⟨x0, x1⟩ := hb.at_ 0
  have Hr := Lib.hid hr
  have Hs := Lib.hid hs
  have Hn := Lib.hid hn
  have ht19 : (xs.getD 0 0).toNat < 19 := by
    rcases Nat.lt_or_ge (xs.getD 0 0).toNat 19 with h | h
    · exact h
    · rw [kindN_big h] at hq; cases hq
  have hrb : 0 ≤ replyN (xs.getD 0 0).toNat ∧ replyN (xs.getD 0 0).toNat < 256 := by
    have : ∀ k : Fin 19, 0 ≤ replyN k ∧ replyN k < 256 := by decide
    exact this ⟨_, ht19⟩
  have Hyb := Lib.hid (hb.set 0 hrb.1 hrb.2)
  have hsk := fun (W : World) (h : SortsAt W) => h _ ht19
  rw [hq] at hsk
  have Hsk := Lib.hid hsk
  clear hr hc hn hs hk hq hb hsk
  generalize w16 (xs.getD 4 0) (xs.getD 5 0) = v4 at *
  generalize w16 (xs.getD 6 0) (xs.getD 7 0) = v6 at *
  generalize xs.getD 1 0 = y at *
  generalize xs.getD 0 0 = x at *
  obtain ⟨t, rfl⟩ : ∃ t : Nat, x = t := ⟨x.toNat, by omega⟩
  rw [Int.toNat_natCast] at *
  generalize replyN t = rep at *
  go_enter Tryz.func32, Tryz.ntmps32
  go_wp2_with fail
  refine HRd.out.mono ?_
  rintro e w1 ⟨rfl, l1⟩
  have hsz1 := l1.size
  go_upto_region 4 with (first | ((with_reducible refine look_store ?_); refine wpList_store_new rfl _ _ _ rfl _ _ rfl rfl _ _ rfl (by kernel_rfl) (by simp) (by simp [Value.oneCell']) ?_) | fail)
  refine wp_name1 ?_
  intro w2 hb2 hs2 bm
  have hbw := l1.trans (hb2.mono hsz1)
  have d0 := (hbw.cell (p := ⟨b, off, none⟩) hbl).trans c0
  obtain ⟨s0, s1, s2⟩ := Hsk.out w2 (Hs.out.below hbw (Nat.le_refl _))
  have Hr2 := Lib.hid ((Hr.out.below hbw (Nat.le_refl _)).more hbw.size)
  go_wp2_with fail
  refine (HC.out _ Hr2.out).mono ?_
  rintro e w3 ⟨v3, rfl, o3, l3⟩
  obtain ⟨g, cap', rfl, hg0, hg1, _, _⟩ := o3.form (by rw [Hn.out]; omega)
  have hb3 := hbw.trans (l3.mono hbw.size)
  have d0' := (hb3.cell (p := ⟨b, off, none⟩) hbl).trans c0
  obtain ⟨s0', s1', s2'⟩ := Hsk.out w3 (Hs.out.below hb3 (Nat.le_refl _))
  have cg : w3.cell? ⟨g, 0, none⟩ = some (.int .u8 (xs.getD 0 0)) := o3.cell 0 (by rw [Hn.out]; omega)
  have fg : w3.frozen? ⟨g, 0, none⟩ = false := o3.free 0
  have Ho := Lib.hid (o3.set 0 rep)
  have hln := Hn.out
  have Hl3 := Lib.hid (show (xs.set 0 rep).length = n by simp [hln])
  rw [hln] at Ho
  clear hln o3 s0 s1 s2 d0 l3 hb2
  generalize xs.getD 0 0 = zz at *
  rw [Hn.out]
  go_wp2_with fail
  have hfx := fix_any (some ⟨g, 0, none⟩) cap' (xs.set 0 rep) 2 _ Hyb.out (by rw [Hl3.out]; exact hl2) Ho.out.rd (by omega) (by rw [Hl3.out]; omega)
  rw [Hl3.out] at hfx
  refine hfx.mono ?_
  rintro e w4 ⟨v, rfl, o4, l4⟩
  have hb4 : Below w.heap.size w (w3.setCell ⟨g, 0, none⟩ (.int .u8 rep)) := hb3.setCell (p := ⟨g, 0, none⟩) (by have := hbw.size; show w.heap.size ≤ g; omega) _
  have hz4 := hb4.size
  go_wp2_with fail
  go_ret2
  exact ⟨v, rfl, o4.base_le hz4, hb4.trans (l4.mono hz4)⟩

end Go.Proofs.YtebeekjcepjcnaaGreatDoor
