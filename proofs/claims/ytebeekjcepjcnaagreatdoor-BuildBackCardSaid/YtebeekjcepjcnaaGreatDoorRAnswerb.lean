/-
  Package build: Answer, whatever the facts.
  What build.Answer says of right facts (plain).
  Facts on bits at the numbers by which packets are read.
-/
import Derived.Test.YtebeekjcepjcnaaGreatDoorRAnswer
namespace Go.Proofs.YtebeekjcepjcnaaGreatDoor
open Go.RowKit

theorem and_4 (f : Nat) (h : f < 256) : (bits .and .u8 (f : Int) 4 == 0) = !(f / 4 % 2 == 1) := by
  rw [show bits .and .u8 (f : Int) 4 = ((f &&& 4 : Nat) : Int) from u8_and_nat f 4 h (by omega)]
  have : ∀ x : Fin 256, (((x.val &&& 4 : Nat) : Int) == 0) = !(x.val / 4 % 2 == 1) := by decide +kernel
  exact this ⟨f, h⟩
theorem and_18 (f : Nat) (h : f < 256) : (bits .and .u8 (f : Int) 18 == 2) = (f / 2 % 2 == 1 && f / 16 % 2 == 0) := by
  rw [show bits .and .u8 (f : Int) 18 = ((f &&& 18 : Nat) : Int) from u8_and_nat f 18 h (by omega)]
  have : ∀ x : Fin 256, (((x.val &&& 18 : Nat) : Int) == 2) = (x.val / 2 % 2 == 1 && x.val / 16 % 2 == 0) := by decide +kernel
  exact this ⟨f, h⟩
theorem kind1_of {t c : Nat} (h : kind2 t c = 0) : kind1 t c = kindN t := by
  unfold kind2 at h
  unfold kind1
  split
  · rename_i h0; rw [if_pos h0] at h; cases h
  · rename_i h0
    rw [if_neg h0] at h
    split
    · rename_i h1; rw [if_pos h1] at h; cases h
    · rfl

set_option maxHeartbeats 1000000 in
theorem answer_all (f : Facts) (w : World) (ho : f.Ok) (hs : SortsAt w) : Calls Tryz.prog 13 #[f.val] w fun e w' => e = .returned (.tuple #[f.answerF.val, .int .i64 f.answerE]) ∧ Below w.heap.size w w' := by
  have HR := fun W h => right_all f W ho h
  cases hr : f.right with
  | false =>
    rw [hr] at HR
    have e1 : f.answerF = Facts.zero := if_pos hr
    have e2 : f.answerE = 120 := if_pos hr
    rw [e1, e2]
    obtain ⟨⟨k0, k1, k2, k3, k4⟩, kind, flags, type, code, seqn, ackn, window, length, ⟨q0, q1, q2, q3, q4⟩, qkind⟩ := f
    exact answer_no k0 k1 k2 k3 k4 kind flags type code seqn ackn window length q0 q1 q2 q3 q4 qkind w hs HR
  | true =>
    rw [hr] at HR
    have hrt : ¬ f.right = false := by rw [hr]; simp
    have hfr : f.fRight = true := by
      unfold Facts.right at hr
      simp only [Bool.and_eq_true] at hr
      exact hr.1.2
    by_cases h2 : f.kind = 2
    · have e1 : f.answerF = f.answerB := by unfold Facts.answerF; rw [if_neg hrt, if_pos h2]
      have e2 : f.answerE = 0 := by unfold Facts.answerE; rw [if_neg hrt, if_pos h2]
      rw [e1, e2]
      obtain ⟨⟨k0, k1, k2, k3, k4⟩, kind, flags, type, code, seqn, ackn, window, length, ⟨q0, q1, q2, q3, q4⟩, qkind⟩ := f
      dsimp only at h2
      subst h2
      exact answer_udp k0 k1 k2 k3 k4 flags type code seqn ackn window length q0 q1 q2 q3 q4 qkind w hs HR
    · by_cases h3 : f.kind = 3
      · have e1 : f.answerF = { f.answerB with kind := 4, type := replyN f.type.toNat, code := f.code } := by unfold Facts.answerF; rw [if_neg hrt, if_neg h2, if_pos h3]
        have e2 : f.answerE = 0 := by unfold Facts.answerE; rw [if_neg hrt, if_neg h2, if_pos h3]
        rw [e1, e2]
        have hq : f.rightQuery = true := by
          unfold Facts.fRight at hfr
          rwa [if_neg (by omega), if_neg h2, if_neg (by omega)] at hfr
        simp only [Facts.rightQuery, Bool.and_eq_true, beq_iff_eq] at hq
        have hk2 := hq.1.1.1
        have hk1 := hq.1.1.2
        rw [kind1_of hk2, h3] at hk1
        obtain ⟨hc, _⟩ := query_facts _ _ hk2 hk1
        have t0 := ho.type0
        have c0 := ho.code0
        obtain ⟨⟨k0, k1, k2, k3, k4⟩, kind, flags, type, code, seqn, ackn, window, length, ⟨q0, q1, q2, q3, q4⟩, qkind⟩ := f
        dsimp only at *
        subst h3
        obtain ⟨ty, rfl⟩ : ∃ n : Nat, type = n := ⟨type.toNat, by omega⟩
        obtain rfl : code = 0 := by omega
        rw [Int.toNat_natCast] at *
        exact answer_query k0 k1 k2 k3 k4 flags seqn ackn window length q0 q1 q2 q3 q4 qkind ty w hs hk2 hk1 HR
      · by_cases h1 : f.kind = 1
        · have hq : f.rightTCP = true := by
            unfold Facts.fRight at hfr
            rwa [if_pos h1] at hfr
          simp only [Facts.rightTCP, betweenB, Bool.and_eq_true, decide_eq_true_eq] at hq
          have hl0 := hq.2.1
          have hl1 := hq.2.2
          have a0 := ho.flags0
          have a1 := ho.flags1
          cases hrs : f.rst with
          | true =>
            have e1 : f.answerF = Facts.zero := by unfold Facts.answerF; rw [if_neg hrt, if_neg h2, if_neg h3, if_neg (by rw [hrs]; simp)]
            have e2 : f.answerE = 6 := by unfold Facts.answerE; rw [if_neg hrt, if_neg h2, if_neg h3, if_neg (by rw [hrs]; simp)]
            rw [e1, e2]
            unfold Facts.rst at hrs
            obtain ⟨⟨k0, k1, k2, k3, k4⟩, kind, flags, type, code, seqn, ackn, window, length, ⟨q0, q1, q2, q3, q4⟩, qkind⟩ := f
            dsimp only at *
            subst h1
            obtain ⟨fl, rfl⟩ : ∃ n : Nat, flags = n := ⟨flags.toNat, by omega⟩
            rw [Int.toNat_natCast] at hrs
            exact answer_rst k0 k1 k2 k3 k4 fl type code seqn ackn window length q0 q1 q2 q3 q4 qkind w hs (by rw [and_4 fl (by omega), hrs]; rfl) HR
          | false =>
            have e1 : f.answerF = { f.answerB with flags := if f.opens then 18 else 16, seqn := f.ackn, ackn := (f.seqn + f.extent) % 4294967296, window := f.window, length := 0 } := by unfold Facts.answerF; rw [if_neg hrt, if_neg h2, if_neg h3, if_pos ⟨h1, hrs⟩]
            have e2 : f.answerE = 0 := by unfold Facts.answerE; rw [if_neg hrt, if_neg h2, if_neg h3, if_pos ⟨h1, hrs⟩]
            rw [e1, e2]
            unfold Facts.rst at hrs
            obtain ⟨⟨k0, k1, k2, k3, k4⟩, kind, flags, type, code, seqn, ackn, window, length, ⟨q0, q1, q2, q3, q4⟩, qkind⟩ := f
            dsimp only at *
            subst h1
            obtain ⟨fl, rfl⟩ : ∃ n : Nat, flags = n := ⟨flags.toNat, by omega⟩
            rw [Int.toNat_natCast] at hrs
            exact answer_tcp k0 k1 k2 k3 k4 type code seqn ackn window length q0 q1 q2 q3 q4 qkind _ fl _ w hs (by rw [and_4 fl (by omega), hrs]; rfl) (by rw [and_18 fl (by omega)]; simp [Facts.opens]) (by omega) hl0 (by omega) rfl HR
        · have e1 : f.answerF = Facts.zero := by unfold Facts.answerF; rw [if_neg hrt, if_neg h2, if_neg h3, if_neg (by simp [h1])]
          have e2 : f.answerE = 6 := by unfold Facts.answerE; rw [if_neg hrt, if_neg h2, if_neg h3, if_neg (by simp [h1])]
          rw [e1, e2]
          obtain ⟨⟨k0, k1, k2, k3, k4⟩, kind, flags, type, code, seqn, ackn, window, length, ⟨q0, q1, q2, q3, q4⟩, qkind⟩ := f
          exact answer_none k0 k1 k2 k3 k4 kind flags type code seqn ackn window length q0 q1 q2 q3 q4 qkind w hs (by simpa using h2) (by simpa using h3) (by simpa using h1) HR

end Go.Proofs.YtebeekjcepjcnaaGreatDoor
namespace Go.Proofs.YtebeekjcepjcnaaGreatDoor
open Go.RowKit
theorem right_mk {f : Facts} (h : RightOk f) : f.right = true := by
  unfold Facts.right
  rw [h.part, h.src, h.dst, h.ne, h.fr, h.proto, Facts.eqB_iff.2 rfl]
  have h0 := h.k0
  have h1 := h.k1
  simp [h0, h1]
theorem RightOk.tcp {f : Facts} (r : RightOk f) (h : f.kind = 1) : f.key.proto = 6 ∧ f.rightTCP = true ∧ f.tcpPart = f := by
  have h1 := r.proto
  have h2 := r.fr
  have h3 := r.part
  unfold Facts.fRight at h2
  unfold Facts.fPart at h3
  rw [if_pos h] at h2 h3
  rw [h] at h1
  exact ⟨h1, h2, h3⟩
theorem RightOk.udp {f : Facts} (r : RightOk f) (h : f.kind = 2) : f.key.proto = 17 ∧ f.rightUDP = true ∧ f.udpPart = f := by
  have h1 := r.proto
  have h2 := r.fr
  have h3 := r.part
  unfold Facts.fRight at h2
  unfold Facts.fPart at h3
  rw [if_neg (by omega), if_pos h] at h2 h3
  rw [h] at h1
  exact ⟨h1, h2, h3⟩
theorem RightOk.qry {f : Facts} (r : RightOk f) (h : f.kind = 3 ∨ f.kind = 4) : f.key.proto = 1 ∧ f.rightQuery = true ∧ f.queryPart = f := by
  have h1 := r.proto
  have h2 := r.fr
  have h3 := r.part
  unfold Facts.fRight at h2
  unfold Facts.fPart at h3
  rw [if_neg (by omega), if_neg (by omega), if_neg (by omega)] at h2 h3
  unfold protoS at h1
  rw [if_neg (by omega), if_neg (by omega)] at h1
  exact ⟨h1, h2, h3⟩
theorem RightOk.err {f : Facts} (r : RightOk f) (h : f.kind = 5) : f.key.proto = 1 ∧ f.rightError = true ∧ f.errorPart = f := by
  have h1 := r.proto
  have h2 := r.fr
  have h3 := r.part
  unfold Facts.fRight at h2
  unfold Facts.fPart at h3
  rw [if_neg (by omega), if_neg (by omega), if_pos h] at h2 h3
  unfold protoS at h1
  rw [if_neg (by omega), if_neg (by omega)] at h1
  exact ⟨h1, h2, h3⟩
/-- Only a segment has flags. -/
theorem RightOk.flags {f : Facts} (r : RightOk f) (h : f.kind ≠ 1) : f.flags = 0 := by
  have h0 := r.k0
  have h1 := r.k1
  rcases (show f.kind = 2 ∨ (f.kind = 3 ∨ f.kind = 4) ∨ f.kind = 5 by omega) with h | h | h
  · rw [← (r.udp h).2.2]; rfl
  · rw [← (r.qry h).2.2]; rfl
  · rw [← (r.err h).2.2]; rfl
theorem ne_symm {a b : Int} (h : (a == b) = false) : (b == a) = false := by
  simp only [beq_eq_false_iff_ne, ne_eq] at *
  exact fun e => h e.symm
set_option maxRecDepth 100000 in
theorem run_eq_keys (k l : Key) (W : World) : (binOp .eql 39 k.val l.val).run Tryz.prog W = .ok (.bool (k.eqB l)) W := by
  have h := equalIn_key 9998 k l W
  unfold Key.val at *
  rw [run_eql_struct, h]
  rfl
theorem key_eqB_refl (k : Key) : k.eqB k = true := Key.eqB_iff.2 rfl
end Go.Proofs.YtebeekjcepjcnaaGreatDoor
namespace Go.Proofs.YtebeekjcepjcnaaGreatDoor
open Go.RowKit
theorem or_i64_word (a b : Int) (a0 : 0 ≤ a) (a1 : a < 256) (b0 : 0 ≤ b) (b1 : b < 256) : bits .or .i64 (a * 256) b = 256 * a + b := by
  rw [bits_join .i64 62 (by decide) wraps_i64_8 8 (a * 256) b (by omega) (by omega) (by omega) b0 (by omega) (by omega)]; omega
theorem or_u32_long (a b : Int) (a0 : 0 ≤ a) (a1 : a < 65536) (b0 : 0 ≤ b) (b1 : b < 65536) : bits .or .u32 (a * 65536) b = 65536 * a + b := by
  rw [bits_join .u32 32 (by decide) wraps_u32_32 16 (a * 65536) b (by omega) (by omega) (by omega) b0 (by omega) (by omega)]; omega
theorem and_nat_i64 (x m : Nat) (hx : x < 65536) (hm : m < 65536) : bits .and .i64 (x : Int) (m : Int) = ((x &&& m : Nat) : Int) :=
  (bits_nat .i64 62 (by decide) wraps_i64_8 x m (by omega) (by omega)).1
theorem and_bit (x i : Nat) : x &&& 2 ^ i = 2 ^ i * (x / 2 ^ i % 2) := by
  apply Nat.eq_of_testBit_eq
  intro j
  rw [Nat.testBit_and, Nat.testBit_two_pow]
  by_cases h : i = j
  · subst h
    rw [Nat.testBit_two_pow_mul]
    simp [Nat.testBit_eq_decide_div_mod_eq]
  · rw [Nat.testBit_two_pow_mul]
    have : decide (i = j) = false := by simpa using h
    rw [this, Bool.and_false]
    by_cases hj : j ≥ i
    · have h2 : 0 < j - i := by omega
      have : (x / 2 ^ i % 2).testBit (j - i) = false := Nat.testBit_lt_two_pow (Nat.lt_of_lt_of_le (Nat.mod_lt _ (by decide)) (by
        have := Nat.pow_le_pow_right (n := 2) (by decide) h2
        simpa using this))
      simp [this]
    · simp [hj]
theorem and_i64_32768 (x : Int) (h0 : 0 ≤ x) (h1 : x < 65536) : (bits .and .i64 x 32768 != 0) = decide (32768 ≤ x) := by
  obtain ⟨n, rfl⟩ : ∃ n : Nat, x = n := ⟨x.toNat, by omega⟩
  have e := and_nat_i64 n 32768 (by omega) (by omega)
  have e2 : (n &&& 32768) = 32768 * (n / 32768 % 2) := and_bit n 15
  rw [e2, show ((32768 : Nat) : Int) = 32768 from rfl] at e
  rw [e]
  rcases (show n / 32768 % 2 = 0 ∨ n / 32768 % 2 = 1 by omega) with h | h
  · rw [h]
    have : ¬ (32768 ≤ (n : Int)) := by omega
    simp [this]
  · rw [h]
    have : 32768 ≤ (n : Int) := by omega
    simp [this]
theorem and_i64_16384 (x : Int) (h0 : 0 ≤ x) (h1 : x < 65536) : (bits .and .i64 x 16384 != 0) = (x / 16384 % 2 == 1) := by
  obtain ⟨n, rfl⟩ : ∃ n : Nat, x = n := ⟨x.toNat, by omega⟩
  have e := and_nat_i64 n 16384 (by omega) (by omega)
  have e2 : (n &&& 16384) = 16384 * (n / 16384 % 2) := and_bit n 14
  rw [e2, show ((16384 : Nat) : Int) = 16384 from rfl] at e
  rw [e]
  rcases (show n / 16384 % 2 = 0 ∨ n / 16384 % 2 = 1 by omega) with h | h
  · rw [h]
    have : (n : Int) / 16384 % 2 = 0 := by omega
    rw [this]; rfl
  · rw [h]
    have : (n : Int) / 16384 % 2 = 1 := by omega
    rw [this]; rfl
theorem and_i64_8192 (x : Int) (h0 : 0 ≤ x) (h1 : x < 65536) : (bits .and .i64 x 8192 != 0) = (x / 8192 % 2 == 1) := by
  obtain ⟨n, rfl⟩ : ∃ n : Nat, x = n := ⟨x.toNat, by omega⟩
  have e := and_nat_i64 n 8192 (by omega) (by omega)
  have e2 : (n &&& 8192) = 8192 * (n / 8192 % 2) := and_bit n 13
  rw [e2, show ((8192 : Nat) : Int) = 8192 from rfl] at e
  rw [e]
  rcases (show n / 8192 % 2 = 0 ∨ n / 8192 % 2 = 1 by omega) with h | h
  · rw [h]
    have : (n : Int) / 8192 % 2 = 0 := by omega
    rw [this]; rfl
  · rw [h]
    have : (n : Int) / 8192 % 2 = 1 := by omega
    rw [this]; rfl
theorem and_i64_8191 (x : Int) (h0 : 0 ≤ x) (h1 : x < 65536) : bits .and .i64 x 8191 = x % 8192 := by
  obtain ⟨n, rfl⟩ := Int.eq_ofNat_of_zero_le h0
  have := and_nat_i64 n 8191 (by omega) (by omega)
  rw [show ((8191 : Nat) : Int) = 8191 from rfl] at this
  rw [this]
  have : (n &&& 8191) = n % 8192 := Nat.and_two_pow_sub_one_eq_mod n 13
  rw [this]; omega
theorem and_u8_15 (x : Int) (h0 : 0 ≤ x) (h1 : x < 256) : bits .and .u8 x 15 = x % 16 := by
  rw [u8_and x 15 h0 h1 (by decide) (by decide)]
  have : (x.toNat &&& (15 : Int).toNat) = x.toNat % 16 := Nat.and_two_pow_sub_one_eq_mod x.toNat 4
  rw [this]; omega
theorem and_u8_63 (x : Int) (h0 : 0 ≤ x) (h1 : x < 256) : bits .and .u8 x 63 = x % 64 := by
  rw [u8_and x 63 h0 h1 (by decide) (by decide)]
  have : (x.toNat &&& (63 : Int).toNat) = x.toNat % 64 := Nat.and_two_pow_sub_one_eq_mod x.toNat 6
  rw [this]; omega
theorem andNot_u16_24576 (x : Int) (h0 : 0 ≤ x) (h1 : x < 65536) : (bits .andNot .u16 x 24576 != 0) = !(decide (x < 32768) && x % 8192 == 0) := by
  obtain ⟨n, rfl⟩ : ∃ n : Nat, x = n := ⟨x.toNat, by omega⟩
  have e := u16_andNot_nat n 24576 (by omega) (by omega)
  rw [show ((24576 : Nat) : Int) = 24576 from rfl] at e
  rw [e, show 65535 - 24576 = 32768 ||| 8191 from rfl, Nat.and_or_distrib_left]
  have e1 : (n &&& 8191) = n % 8192 := Nat.and_two_pow_sub_one_eq_mod n 13
  have e2 : (n &&& 32768) = 32768 * (n / 32768 % 2) := and_bit n 15
  rw [e1, e2]
  by_cases a : n < 32768
  · have a1 : n / 32768 % 2 = 0 := by omega
    rw [a1, Nat.mul_zero, Nat.zero_or]
    have a2 : ((n : Int) < 32768) := by omega
    by_cases b : n % 8192 = 0
    · have b2 : (n : Int) % 8192 = 0 := by omega
      simp [b, a2, b2]
    · have b2 : ¬ (n : Int) % 8192 = 0 := by omega
      have c1 : ((n % 8192 : Nat) : Int) = (n : Int) % 8192 := by omega
      rw [c1, show ((n : Int) % 8192 != 0) = true by simpa using b2, show ((n : Int) % 8192 == 0) = false by simpa using b2, Bool.and_false]; rfl
  · have a2 : ¬ ((n : Int) < 32768) := by omega
    have a1 : n / 32768 % 2 = 1 := by omega
    rw [a1, Nat.mul_one]
    have hne : (32768 ||| n % 8192) ≠ 0 := by
      have := @Nat.left_le_or 32768 (n % 8192)
      omega
    have : ((32768 ||| n % 8192 : Nat) : Int) ≠ 0 := by omega
    simp only [a2, decide_false, Bool.false_and, Bool.not_false, bne_iff_ne, ne_eq]
    exact this
end Go.Proofs.YtebeekjcepjcnaaGreatDoor
