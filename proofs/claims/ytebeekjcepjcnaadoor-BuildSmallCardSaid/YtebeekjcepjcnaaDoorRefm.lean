/-
  The reference of layer 12: Right, whatever the facts: the program's word.
  The reference of layer 12: whole, content.
  The reference of layer 12: content, each kind.
  The reference of layer 12: content at facts that are right; Build of facts that are no error.
-/
import Derived.Test.YtebeekjcepjcnaaDoorRefr1
import Derived.Test.YtebeekjcepjcnaaDoorRefr2
import Derived.Test.YtebeekjcepjcnaaDoorRefr3
import Derived.Test.YtebeekjcepjcnaaDoorRefr4
import Derived.Test.YtebeekjcepjcnaaDoorRefr5
import Derived.Test.YtebeekjcepjcnaaDoorRefro
import Derived.Test.YtebeekjcepjcnaaDoorReff
import Derived.Test.YtebeekjcepjcnaaDoorRefe
import Derived.Test.YtebeekjcepjcnaaDoorBuildb
namespace Go.Proofs.YtebeekjcepjcnaaDoor
open Go.RowKit Go.Shelf

theorem not_lt_dec (a b : Int) : (!decide (a < b)) = decide (b ≤ a) := by
  rw [Bool.eq_iff_iff]; simp
set_option maxHeartbeats 1000000 in
theorem rRight_any (f : Facts) (w : World) (ho : f.Ok) : Calls Tryd.prog 44 #[f.val] w fun e w' => e = .returned (.bool f.right) ∧ Below w.heap.size w w' := by
  rw [← rRight_right f ho]
  have HU1 := fun W => rUsual_any f.key.src W ho.key.src0
  have HU2 := fun W => rUsual_any f.key.dst W ho.key.dst0
  have HS := fun W => rSound_any f.key f.kind W
  have HSq := fun W => rSound_any f.quoted f.qkind W
  have HN := fun W => run_ne_key f.quoted Key.zero W
  have HK := fun W => rKindI_any f.type f.code W ho.type0 ho.code0
  have HSn : ∀ W, Calls Tryd.prog 78 #[.int .u8 f.flags] W fun e w' => e = .returned (.bool (saneB f.flags.toNat)) ∧ W = w' := fun W => by
    have h := rSane_any f.flags.toNat W (by have := ho.flags1; have := ho.flags0; omega)
    rwa [show ((f.flags.toNat : Nat) : Int) = f.flags by have := ho.flags0; omega] at h
  have hk0 := ho.kind0
  have Ho := Lib.hid ho
  clear ho
  obtain ⟨⟨k0, k1, k2, k3, k4⟩, kind, flags, type, code, seqn, ackn, window, length, ⟨q0, q1, q2, q3, q4⟩, qkind⟩ := f
  by_cases h1 : kind = 1
  · subst h1
    exact rRight_1 _ _ _ _ _ _ _ _ _ _ _ _ _ _ _ _ _ _ _ _ _ _ _ _ _ _ _ _ _ _ _ _ _ _ _ w HU1 HU2 rfl rfl rfl HN HS rfl rfl HK rfl HSn rfl rfl rfl (by
      simp only [Facts.rRight, Facts.rRightK, not_lt_dec, bne, Bool.not_not]; simp [Bool.and_assoc])
  by_cases h2 : kind = 2
  · subst h2
    exact rRight_2 _ _ _ _ _ _ _ _ _ _ _ _ _ _ _ _ _ _ _ _ _ _ _ _ _ _ _ _ _ _ _ _ _ _ _ w HU1 HU2 rfl rfl rfl rfl rfl rfl rfl HN HS rfl rfl HK rfl (by
      simp only [Facts.rRight, Facts.rRightK, not_lt_dec, bne, Bool.not_not]; simp [Bool.and_assoc])
  by_cases h3 : kind = 3
  · subst h3
    exact rRight_3 _ _ _ _ _ _ _ _ _ _ _ _ _ _ _ _ _ _ _ _ _ _ _ _ _ _ _ _ _ _ _ _ _ _ _ w HU1 HU2 rfl rfl rfl rfl rfl rfl rfl HN HS HK rfl rfl rfl (by
      simp only [Facts.rRight, Facts.rRightK, not_lt_dec, bne, Bool.not_not]; simp [Bool.and_assoc])
  by_cases h4 : kind = 4
  · subst h4
    exact rRight_4 _ _ _ _ _ _ _ _ _ _ _ _ _ _ _ _ _ _ _ _ _ _ _ _ _ _ _ _ _ _ _ _ _ _ _ w HU1 HU2 rfl rfl rfl rfl rfl rfl rfl HN HS HK rfl rfl rfl (by
      simp only [Facts.rRight, Facts.rRightK, not_lt_dec, bne, Bool.not_not]; simp [Bool.and_assoc])
  by_cases h5 : kind = 5
  · subst h5
    exact rRight_5 _ _ _ _ _ _ _ _ _ _ _ _ _ _ _ _ _ _ _ _ _ _ _ _ _ _ _ _ _ _ _ _ _ _ _ _ _ w HU1 HU2 rfl rfl rfl rfl rfl rfl HK rfl rfl rfl HSq rfl rfl rfl rfl (by
      simp only [Facts.rRight, Facts.rRightK, not_lt_dec, bne, Bool.not_not]; simp [Bool.and_assoc])
  · have hsd : soundB ⟨k0, k1, k2, k3, k4⟩ kind = false := by simp [soundB, h1, h2, h3, h4]
    rw [hsd] at HS
    exact rRight_o _ _ _ _ _ _ _ _ _ _ _ _ _ _ _ _ _ _ _ _ _ _ _ _ _ _ _ _ _ _ w HU1 HU2 rfl rfl rfl rfl rfl rfl rfl HN HS (by simpa using h1) (by simpa using h5) (by
      simp [Facts.rRight, Facts.rRightK, h1, h2, h3, h4, h5])

end Go.Proofs.YtebeekjcepjcnaaDoor

namespace Go.Proofs.YtebeekjcepjcnaaDoor
open Go.RowKit Go.Shelf

set_option maxHeartbeats 1000000 in
theorem rWhole_any (k : Key) (D : Option Addr) (dcap dl : Nat) (data : List Int) (w : World) (ho : k.Ok) (hdl : data.length = dl) (hd : dl ≤ 65515) (hrD : Rd w w.heap.size D .u8 data) :
    Calls Tryd.prog 47 #[k.val, .slice D dl dcap] w fun e w' => ∃ v, e = .returned v ∧ Own w' w.heap.size v (ipWriteL (hdrH k) data) ∧ Below w.heap.size w w' := by
  have HW := Lib.hid (fun W (h : Rd W W.heap.size D .u8 data) => rIpWrite_any k D dcap dl data W ho hdl hd h)
  obtain ⟨k0, k1, k2, k3, k4⟩ := k
  dsimp only [Key.val, Key.cells] at *
  generalize ipWriteL (hdrH ⟨k0, k1, k2, k3, k4⟩) data = R at *
  clear hdl ho
  go_enter Tryd.func47, Tryd.ntmps47
  go_upto_region 1 with (fail)
  refine wp_name1 ?_
  intro w1 hb1 hs1 b0
  have hc0 := b0.cell
  have hr1 := (hrD.below hb1 (Nat.le_refl _)).more hb1.size
  go_wp2_with (go_at_call 87; refine (HW.out _ hr1).mono ?_; rintro e w2 ⟨v, rfl, hown, l2⟩)
  go_ret
  exact ⟨_, rfl, hown.base_le hb1.size, hb1.trans (l2.mono hb1.size)⟩

/-- The data of a segment, a datagram, a query or a reply. -/
def Facts.contL (f : Facts) (chk : Bool) : List Int :=
  if f.kind = 1 then f.segL else if f.kind = 2 then udpL f.key.sp f.key.dp chk f.key.src f.key.dst (zerosL f.length.toNat) else icmpL f.type f.code f.key.sp 0 (zerosL f.length.toNat)

end Go.Proofs.YtebeekjcepjcnaaDoor

namespace Go.Proofs.YtebeekjcepjcnaaDoor
open Go.RowKit Go.Shelf

set_option maxRecDepth 100000 in
set_option maxHeartbeats 2000000 in
theorem rContent_tcp (f : Facts) (chk : Bool) (w : World) (ho : f.Ok) (hk : f.kind = 1) (p0 : 0 < f.key.sp) (p1 : 0 < f.key.dp) (hsane : saneB f.flags.toNat = true) (w0 : 0 ≤ f.window) (w1' : f.window ≤ 65535) (l0 : 0 ≤ f.length) (l1 : f.length ≤ 65495) :
    Calls Tryd.prog 48 #[f.val, .bool chk] w fun e w' => ∃ v, e = .returned v ∧ Own w' w.heap.size v f.segL ∧ Below w.heap.size w w' := by
  obtain ⟨⟨k0, k1, k2, k3, k4⟩, kind, flags, type, code, seqn, ackn, window, length, ⟨q0, q1, q2, q3, q4⟩, qkind⟩ := f
  obtain ⟨a0, a1⟩ := And.intro ho.flags0 ho.flags1
  obtain ⟨s0, s1⟩ := And.intro ho.seqn0 ho.seqn1
  obtain ⟨c0, c1⟩ := And.intro ho.ackn0 ho.ackn1
  obtain ⟨g0, g1⟩ := And.intro ho.key.src0 ho.key.src1
  obtain ⟨d0, d1⟩ := And.intro ho.key.dst0 ho.key.dst1
  have sp1 := ho.key.sp1
  have dp1 := ho.key.dp1
  clear ho
  dsimp only at *
  subst hk
  obtain ⟨fl, rfl⟩ : ∃ n : Nat, flags = n := ⟨flags.toNat, by omega⟩
  obtain ⟨n, rfl⟩ : ∃ n : Nat, length = n := ⟨length.toNat, by omega⟩
  rw [Int.toNat_natCast] at hsane
  have HW := Lib.hid (fun D W h => rTcpWrite_any k3 k4 seqn ackn window fl k1 k2 D n n (zerosL n) W p0 sp1 p1 dp1 s0 s1 c0 c1 (by omega) hsane w0 (by omega) (zerosL_len n) (by omega) g0 g1 d0 d1 (zerosL_byt n) h)
  have HL := Lib.hid (show (⟨⟨k0, k1, k2, k3, k4⟩, 1, fl, type, code, seqn, ackn, window, n, ⟨q0, q1, q2, q3, q4⟩, qkind⟩ : Facts).segL = tcpL k3 k4 seqn ackn fl window 0 [] k1 k2 (zerosL n) by simp [Facts.segL])
  rw [← HL.out] at HW
  generalize (⟨⟨k0, k1, k2, k3, k4⟩, 1, fl, type, code, seqn, ackn, window, n, ⟨q0, q1, q2, q3, q4⟩, qkind⟩ : Facts).segL = R at *
  have hwp : IntKind.u16.wrap window = window := by rw [IntKind.wrap_u16]; omega
  clear hsane HL p0 p1 sp1 dp1 s0 s1 c0 c1 g0 g1 d0 d1 a0 a1
  dsimp only [Facts.val, Facts.cells, Key.cells, List.cons_append, List.nil_append]
  go_enter Tryd.func48, Tryd.ntmps48
  go_upto_region 1 with (fail)
  refine wp_name1 ?_
  intro w1 hb1 hs1 b0
  clear hs1
  have hc0 := b0.cell
  go_upto_region 3 with (first | (at_make; refine make_own rfl _ _ rfl w1.heap.size _ _ _ _ n n rfl rfl rfl rfl (Nat.le_refl _) (by omega) (Nat.le_refl _) ?_; intro w2 hown hb2 hlt2) | fail)
  have b0' := b0.below hb2 b0.lt
  have hc0' := b0'.cell
  have rd := hown.rd
  have hbb := hb1.trans (hb2.mono hb1.size)
  have hsz := hbb.size
  clear hown b0 b0' hc0 hb1 hb2
  go_wp2_with (go_at_call 88; refine (HW.out _ _ rd).mono ?_; rintro e w3 ⟨v, rfl, own3, l3⟩)
  go_ret
  exact ⟨v, rfl, own3.base_le hsz, hbb.trans (l3.mono hsz)⟩

set_option maxRecDepth 100000 in
set_option maxHeartbeats 2000000 in
theorem rContent_udp (f : Facts) (chk : Bool) (w : World) (ho : f.Ok) (hk : f.kind = 2) (p1 : 0 < f.key.dp) (l0 : 0 ≤ f.length) (l1 : f.length ≤ 65507) :
    Calls Tryd.prog 48 #[f.val, .bool chk] w fun e w' => ∃ v, e = .returned v ∧ Own w' w.heap.size v (udpL f.key.sp f.key.dp chk f.key.src f.key.dst (zerosL f.length.toNat)) ∧ Below w.heap.size w w' := by
  obtain ⟨⟨k0, k1, k2, k3, k4⟩, kind, flags, type, code, seqn, ackn, window, length, ⟨q0, q1, q2, q3, q4⟩, qkind⟩ := f
  obtain ⟨g0, g1⟩ := And.intro ho.key.src0 ho.key.src1
  obtain ⟨d0, d1⟩ := And.intro ho.key.dst0 ho.key.dst1
  have sp0 := ho.key.sp0
  have sp1 := ho.key.sp1
  have dp1 := ho.key.dp1
  clear ho
  dsimp only at *
  subst hk
  obtain ⟨n, rfl⟩ : ∃ n : Nat, length = n := ⟨length.toNat, by omega⟩
  rw [Int.toNat_natCast]
  have HW := Lib.hid (fun D W h => rUdpWrite_any k3 k4 chk k1 k2 D n n (zerosL n) W sp0 sp1 p1 dp1 (zerosL_len n) (by omega) g0 g1 d0 d1 (zerosL_byt n) h)
  generalize udpL k3 k4 chk k1 k2 (zerosL n) = R at *
  clear p1 sp0 sp1 dp1 g0 g1 d0 d1
  dsimp only [Facts.val, Facts.cells, Key.cells, List.cons_append, List.nil_append]
  go_enter Tryd.func48, Tryd.ntmps48
  go_upto_region 1 with (fail)
  refine wp_name1 ?_
  intro w1 hb1 hs1 b0
  clear hs1
  have hc0 := b0.cell
  go_upto_region 3 with (first | (at_make; refine make_own rfl _ _ rfl w1.heap.size _ _ _ _ n n rfl rfl rfl rfl (Nat.le_refl _) (by omega) (Nat.le_refl _) ?_; intro w2 hown hb2 hlt2) | fail)
  have b0' := b0.below hb2 b0.lt
  have hc0' := b0'.cell
  have rd := hown.rd
  have hbb := hb1.trans (hb2.mono hb1.size)
  have hsz := hbb.size
  clear hown b0 b0' hc0 hb1 hb2
  go_wp2_with (go_at_call 89; refine (HW.out _ _ rd).mono ?_; rintro e w3 ⟨v, rfl, own3, l3⟩)
  go_ret
  exact ⟨v, rfl, own3.base_le hsz, hbb.trans (l3.mono hsz)⟩

set_option maxRecDepth 100000 in
set_option maxHeartbeats 2000000 in
theorem rContent_icmp (f : Facts) (chk : Bool) (w : World) (ho : f.Ok) (hk1 : f.kind ≠ 1) (hk2 : f.kind ≠ 2) (hkd : kind2 f.type.toNat f.code.toNat = 0) (l0 : 0 ≤ f.length) (l1 : f.length ≤ 65507) :
    Calls Tryd.prog 48 #[f.val, .bool chk] w fun e w' => ∃ v, e = .returned v ∧ Own w' w.heap.size v f.msgL ∧ Below w.heap.size w w' := by
  obtain ⟨⟨k0, k1, k2, k3, k4⟩, kind, flags, type, code, seqn, ackn, window, length, ⟨q0, q1, q2, q3, q4⟩, qkind⟩ := f
  obtain ⟨t0, t1⟩ := And.intro ho.type0 ho.type1
  obtain ⟨c0, c1⟩ := And.intro ho.code0 ho.code1
  have sp0 := ho.key.sp0
  have sp1 := ho.key.sp1
  clear ho
  dsimp only at *
  have e1 : (kind == 1) = false := by simpa using hk1
  have e2 : (kind == 2) = false := by simpa using hk2
  clear hk1 hk2
  obtain ⟨n, rfl⟩ : ∃ n : Nat, length = n := ⟨length.toNat, by omega⟩
  have HW := Lib.hid (fun D W h => rIcmpWrite_any type code k3 D n n (zerosL n) W t0 t1 c0 c1 sp0 sp1 hkd (zerosL_len n) (by omega) (zerosL_byt n) h)
  have HL := Lib.hid (show (⟨⟨k0, k1, k2, k3, k4⟩, kind, flags, type, code, seqn, ackn, window, n, ⟨q0, q1, q2, q3, q4⟩, qkind⟩ : Facts).msgL = icmpL type code k3 0 (zerosL n) by simp [Facts.msgL])
  rw [← HL.out] at HW
  generalize (⟨⟨k0, k1, k2, k3, k4⟩, kind, flags, type, code, seqn, ackn, window, n, ⟨q0, q1, q2, q3, q4⟩, qkind⟩ : Facts).msgL = R at *
  clear hkd HL sp0 sp1 t0 t1 c0 c1
  dsimp only [Facts.val, Facts.cells, Key.cells, List.cons_append, List.nil_append]
  go_enter Tryd.func48, Tryd.ntmps48
  go_upto_region 1 with (fail)
  refine wp_name1 ?_
  intro w1 hb1 hs1 b0
  clear hs1
  have hc0 := b0.cell
  go_upto_region 3 with (first | (at_make; refine make_own rfl _ _ rfl w1.heap.size _ _ _ _ n n rfl rfl rfl rfl (Nat.le_refl _) (by omega) (Nat.le_refl _) ?_; intro w2 hown hb2 hlt2) | fail)
  have b0' := b0.below hb2 b0.lt
  have hc0' := b0'.cell
  have rd := hown.rd
  have hbb := hb1.trans (hb2.mono hb1.size)
  have hsz := hbb.size
  clear hown b0 b0' hc0 hb1 hb2
  go_wp2_with (go_at_call 49; refine (HW.out _ _ rd).mono ?_; rintro e w3 ⟨v, rfl, own3, l3⟩)
  go_ret
  exact ⟨v, rfl, own3.base_le hsz, hbb.trans (l3.mono hsz)⟩

end Go.Proofs.YtebeekjcepjcnaaDoor

namespace Go.Proofs.YtebeekjcepjcnaaDoor
open Go.RowKit Go.Shelf

theorem rContent_right (f : Facts) (w : World) (ho : f.Ok) (hr : f.right = true) (h5 : f.kind ≠ 5) :
    Calls Tryd.prog 48 #[f.val, .bool true] w fun e w' => ∃ v, e = .returned v ∧ Own w' w.heap.size v f.dataL ∧ Below w.heap.size w w' := by
  obtain ⟨_, _, hf⟩ := right_parts hr
  unfold Facts.fRight at hf
  unfold Facts.dataL
  by_cases h1 : f.kind = 1
  · rw [if_pos h1] at hf ⊢
    simp only [Facts.rightTCP, Key.ported, betweenB, Bool.and_eq_true, decide_eq_true_eq] at hf
    exact rContent_tcp f true w ho h1 hf.1.1.1.1.1 hf.1.1.1.1.2 hf.1.1.2 hf.1.2.1 hf.1.2.2 hf.2.1 hf.2.2
  · rw [if_neg h1] at hf ⊢
    by_cases h2 : f.kind = 2
    · rw [if_pos h2] at hf ⊢
      simp only [Facts.rightUDP, Key.ported, betweenB, Bool.and_eq_true, decide_eq_true_eq] at hf
      exact rContent_udp f true w ho h2 hf.1.2 hf.2.1 hf.2.2
    · rw [if_neg h2, if_neg h5] at hf ⊢
      simp only [Facts.rightQuery, betweenB, Bool.and_eq_true, decide_eq_true_eq, beq_iff_eq] at hf
      exact rContent_icmp f true w ho h1 h2 hf.1.1.1 hf.2.1 hf.2.2

theorem udp0_clear (sp dp : Int) (data : List Int) (a b : Int) : ((((udp0 sp dp data).set 6 a).set 7 b).set 6 0).set 7 0 = udp0 sp dp data := rfl
theorem rContent_q (f : Facts) (w : World) (ho : f.Ok) (hq : isQ f.qkind = true) (hr : f.qRight = true) :
    Calls Tryd.prog 48 #[f.quotedF.val, .bool false] w fun e w' => ∃ v, e = .returned v ∧ Own w' w.heap.size v f.qIn ∧ Below w.heap.size w w' := by
  have hO := quotedF_ok ho
  have hl : f.quotedF.length = 0 := rfl
  have hk : f.quotedF.kind = f.qkind := rfl
  simp only [isQ, Bool.and_eq_true, decide_eq_true_eq] at hq
  unfold Facts.qRight at hr
  unfold Facts.qIn Facts.qL
  by_cases h1 : f.qkind = 1
  · rw [if_pos h1] at hr
    rw [if_neg (by omega), if_pos h1]
    simp only [Facts.rightTCP, Key.ported, betweenB, Bool.and_eq_true, decide_eq_true_eq] at hr
    exact rContent_tcp f.quotedF false w hO (hk.trans h1) hr.1.1.1.1.1 hr.1.1.1.1.2 hr.1.1.2 hr.1.2.1 hr.1.2.2 hr.2.1 hr.2.2
  · rw [if_neg h1] at hr
    by_cases h2 : f.qkind = 2
    · rw [if_neg (by omega)] at hr
      rw [if_pos h2, if_neg h1, if_pos h2]
      simp only [Facts.rightUDP, Key.ported, betweenB, Bool.and_eq_true, decide_eq_true_eq] at hr
      have h := rContent_udp f.quotedF false w hO (hk.trans h2) hr.1.2 hr.2.1 hr.2.2
      unfold Facts.datL
      unfold udpL at h ⊢
      rw [if_pos rfl, udp0_clear]
      simpa using h
    · rw [if_pos (by omega)] at hr
      rw [if_neg h2, if_neg h1, if_neg h2]
      simp only [Facts.rightQuery, betweenB, Bool.and_eq_true, decide_eq_true_eq, beq_iff_eq] at hr
      exact rContent_icmp f.quotedF false w hO (by rw [hk]; exact h1) (by rw [hk]; exact h2) hr.1.1.1 hr.2.1 hr.2.2

set_option maxRecDepth 100000 in
set_option maxHeartbeats 2000000 in
theorem rBuild_no (f : Facts) (w : World) (ho : f.Ok) (hr : f.right = false) :
    Calls Tryd.prog 21 #[f.val] w fun e w' => e = .returned (.tuple #[.slice none 0 0, .int .i64 120]) ∧ Below w.heap.size w w' := by
  have HR := Lib.hid (fun W => rRight_any f W ho)
  rw [hr] at HR
  clear ho hr
  obtain ⟨⟨k0, k1, k2, k3, k4⟩, kind, flags, type, code, seqn, ackn, window, length, ⟨q0, q1, q2, q3, q4⟩, qkind⟩ := f
  dsimp only [Facts.val, Facts.cells, Key.cells, List.cons_append, List.nil_append]
  dsimp only [Facts.val, Facts.cells, Key.cells, List.cons_append, List.nil_append] at HR
  go_enter Tryd.func21, Tryd.ntmps21
  go_upto_region 1 with (fail)
  refine wp_name1 ?_
  intro w1 hb1 hs1 b0
  clear hs1
  go_wp2_with (first | ((with_reducible refine look_load ?_); refine wpList_load_row rfl _ _ rfl _ rfl _ _ _ _ b0 Tryd.underlying27 rfl (by kernel_rfl) ?_) | (go_at_call 44; refine (HR.out _).mono ?_; rintro e w2 ⟨rfl, l2⟩) | fail)
  go_ret2
  exact ⟨rfl, hb1.trans (l2.mono hb1.size)⟩

set_option maxRecDepth 100000 in
set_option maxHeartbeats 2000000 in
theorem rBuild_plain (f : Facts) (w : World) (ho : f.Ok) (hr : f.right = true) (h5 : f.kind ≠ 5) :
    Calls Tryd.prog 21 #[f.val] w fun e w' => ∃ v, e = .returned (.tuple #[v, .int .i64 0]) ∧ Own w' w.heap.size v f.buildL ∧ Below w.heap.size w w' := by
  have HR := Lib.hid (fun W => rRight_any f W ho)
  rw [hr] at HR
  have HD := Lib.hid (fun W => rContent_right f W ho hr h5)
  have hl := (dataL_len hr).2
  have HH := Lib.hid (fun A dcap W h => rWhole_any f.key A dcap _ f.dataL W ho.key rfl hl h)
  have HB := Lib.hid (show ipWriteL (hdrH f.key) f.dataL = f.buildL from rfl)
  rw [HB.out] at HH
  clear ho hr HB hl
  generalize f.buildL = R at *
  generalize f.dataL = DL at *
  obtain ⟨⟨k0, k1, k2, k3, k4⟩, kind, flags, type, code, seqn, ackn, window, length, ⟨q0, q1, q2, q3, q4⟩, qkind⟩ := f
  dsimp only [Facts.val, Facts.cells, Key.val, Key.cells, List.cons_append, List.nil_append]
  dsimp only [Facts.val, Facts.cells, Key.val, Key.cells, List.cons_append, List.nil_append] at HR HD HH
  have hk5 : (kind != 5) = true := by simpa using h5
  clear h5
  go_enter Tryd.func21, Tryd.ntmps21
  go_upto_region 1 with (fail)
  refine wp_name1 ?_
  intro w1 hb1 hs1 b0
  clear hs1
  go_upto_region 3 with (first | ((with_reducible refine look_load ?_); refine wpList_load_row rfl _ _ rfl _ rfl _ _ _ _ b0 Tryd.underlying27 rfl (by kernel_rfl) ?_) | (go_at_call 44; refine (HR.out _).mono ?_; rintro e w2 ⟨rfl, l2⟩) | fail)
  have b0' := b0.below l2 b0.lt
  have hb2 := hb1.trans (l2.mono hb1.size)
  have hc0 := b0'.cell
  clear b0 l2 hb1
  go_upto_region 4 with (fail)
  clear hc0
  have hSt := (St.nil hb2 hb2.size).cons b0'
  clear b0' hb2
  refine wp_region_walk0 (by kernel_rfl) (fun _ W => St w w.heap.size _ W) [] Grow [0, 1, 2, 3, 4, 5, 6] (by kernel_rfl) hSt.drew ?_
  iterate 2
    apply Walk.one rfl rfl rfl
    case hrun =>
      intro c W hE hF
      have hc0 := (hE.get 0 rfl).cell
      go_wp2_with fail
      exact TextPost.mk ⟨Grow.refl _, hE⟩
    case hv => rfl
  apply Walk.one rfl rfl rfl
  case hrun =>
    intro c W hE hF
    have hbp := hE.get 0 rfl
    go_wp2_with (first | ((with_reducible refine look_load ?_); refine wpList_load_row rfl _ _ rfl _ rfl _ _ _ _ hbp Tryd.underlying27 rfl (by kernel_rfl) ?_) | fail)
    exact TextPost.mk ⟨Grow.refl _, hE⟩
  case hv => rfl
  refine Walk.anyOf (fun v => v) (fun _ _ h => h) (fun v W => Own W w.heap.size v DL) (fun _ _ _ h hG => h.keep hG) rfl rfl rfl (by kernel_rfl) (by kernel_rfl) ?_ (fun v => ?_)
  · intro c W hE hF
    go_wp2_with fail
    refine (HD.out W).mono ?_
    rintro e W2 ⟨v, rfl, hown, l⟩
    go_wp2_with fail
    exact ⟨v, rfl, hown.base_le hE.2.1, l, hE.below l⟩
  dsimp only [Act.put]
  simp only [List.setIfInBounds_toArray, List.set_cons_succ, List.set_cons_zero]
  refine Walk.anyOf (fun v => v) (fun _ _ h => h) (fun v W => Own W w.heap.size v R) (fun _ _ _ h hG => h.keep hG) rfl rfl rfl (by kernel_rfl) (by kernel_rfl) ?_ (fun v2 => ?_)
  · intro c W hE hF
    obtain ⟨A, cap, rfl, hrd, _, _⟩ := hF.head.open_
    go_wp2_with fail
    refine (HH.out A cap W hrd).mono ?_
    rintro e W2 ⟨v, rfl, hown, l⟩
    go_wp2_with fail
    exact ⟨v, rfl, hown.base_le hE.2.1, l, hE.below l⟩
  dsimp only [Act.put]
  simp only [List.setIfInBounds_toArray, List.set_cons_succ, List.set_cons_zero]
  iterate 2
    apply Walk.one rfl rfl rfl
    case hrun =>
      intro c W hE hF
      go_wp2_with fail
      exact TextPost.mk ⟨Grow.refl _, hE⟩
    case hv => rfl
  refine Walk.done (fun W hE hF => ?_)
  have ho := hF.head
  have hbW := hE.1
  clear hSt hE hF
  go_wp2_with fail
  go_ret2
  exact ⟨_, rfl, ho, hbW⟩

end Go.Proofs.YtebeekjcepjcnaaDoor
