/-
  Package build: Answer, whatever the facts.
-/
import Derived.Test.YtebeekjcepjcnaaDoorAnswer
namespace Go.Proofs.YtebeekjcepjcnaaDoor
open Go.RowKit

theorem and_4 (f : Nat) (h : f < 256) : (bits .and .u8 (f : Int) 4 == 0) = !(f / 4 % 2 == 1) := by
  rw [show bits .and .u8 (f : Int) 4 = ((f &&& 4 : Nat) : Int) from u8_and_nat f 4 h (by omega)]
  have : ∀ x : Fin 256, (((x.val &&& 4 : Nat) : Int) == 0) = !(x.val / 4 % 2 == 1) := by decide +kernel
  exact this ⟨f, h⟩
theorem and_18 (f : Nat) (h : f < 256) : (bits .and .u8 (f : Int) 18 == 2) = (f / 2 % 2 == 1 && f / 16 % 2 == 0) := by
  rw [show bits .and .u8 (f : Int) 18 = ((f &&& 18 : Nat) : Int) from u8_and_nat f 18 h (by omega)]
  have : ∀ x : Fin 256, (((x.val &&& 18 : Nat) : Int) == 2) = (x.val / 2 % 2 == 1 && x.val / 16 % 2 == 0) := by decide +kernel
  exact this ⟨f, h⟩
theorem kind1_of {t c : Nat} (h : kind2 t c = 0) : kind1 t c = kindN t := by
  unfold kind2 at h
  unfold kind1
  split
  · rename_i h0; rw [if_pos h0] at h; cases h
  · rename_i h0
    rw [if_neg h0] at h
    split
    · rename_i h1; rw [if_pos h1] at h; cases h
    · rfl

set_option maxHeartbeats 1000000 in
theorem answer_all (f : Facts) (w : World) (ho : f.Ok) (hs : SortsAt w) : Calls Tryd.prog 33 #[f.val] w fun e w' => e = .returned (.tuple #[f.answerF.val, .int .i64 f.answerE]) ∧ Below w.heap.size w w' := by
  have HR := fun W h => right_all f W ho h
  cases hr : f.right with
  | false =>
    rw [hr] at HR
    have e1 : f.answerF = Facts.zero := if_pos hr
    have e2 : f.answerE = 120 := if_pos hr
    rw [e1, e2]
    obtain ⟨⟨k0, k1, k2, k3, k4⟩, kind, flags, type, code, seqn, ackn, window, length, ⟨q0, q1, q2, q3, q4⟩, qkind⟩ := f
    exact answer_no k0 k1 k2 k3 k4 kind flags type code seqn ackn window length q0 q1 q2 q3 q4 qkind w hs HR
  | true =>
    rw [hr] at HR
    have hrt : ¬ f.right = false := by rw [hr]; simp
    have hfr : f.fRight = true := by
      unfold Facts.right at hr
      simp only [Bool.and_eq_true] at hr
      exact hr.1.2
    by_cases h2 : f.kind = 2
    · have e1 : f.answerF = f.answerB := by unfold Facts.answerF; rw [if_neg hrt, if_pos h2]
      have e2 : f.answerE = 0 := by unfold Facts.answerE; rw [if_neg hrt, if_pos h2]
      rw [e1, e2]
      obtain ⟨⟨k0, k1, k2, k3, k4⟩, kind, flags, type, code, seqn, ackn, window, length, ⟨q0, q1, q2, q3, q4⟩, qkind⟩ := f
      dsimp only at h2
      subst h2
      exact answer_udp k0 k1 k2 k3 k4 flags type code seqn ackn window length q0 q1 q2 q3 q4 qkind w hs HR
    · by_cases h3 : f.kind = 3
      · have e1 : f.answerF = { f.answerB with kind := 4, type := replyN f.type.toNat, code := f.code } := by unfold Facts.answerF; rw [if_neg hrt, if_neg h2, if_pos h3]
        have e2 : f.answerE = 0 := by unfold Facts.answerE; rw [if_neg hrt, if_neg h2, if_pos h3]
        rw [e1, e2]
        have hq : f.rightQuery = true := by
          unfold Facts.fRight at hfr
          rwa [if_neg (by omega), if_neg h2, if_neg (by omega)] at hfr
        simp only [Facts.rightQuery, Bool.and_eq_true, beq_iff_eq] at hq
        have hk2 := hq.1.1.1
        have hk1 := hq.1.1.2
        rw [kind1_of hk2, h3] at hk1
        obtain ⟨hc, _⟩ := query_facts _ _ hk2 hk1
        have t0 := ho.type0
        have c0 := ho.code0
        obtain ⟨⟨k0, k1, k2, k3, k4⟩, kind, flags, type, code, seqn, ackn, window, length, ⟨q0, q1, q2, q3, q4⟩, qkind⟩ := f
        dsimp only at *
        subst h3
        obtain ⟨ty, rfl⟩ : ∃ n : Nat, type = n := ⟨type.toNat, by omega⟩
        obtain rfl : code = 0 := by omega
        rw [Int.toNat_natCast] at *
        exact answer_query k0 k1 k2 k3 k4 flags seqn ackn window length q0 q1 q2 q3 q4 qkind ty w hs hk2 hk1 HR
      · by_cases h1 : f.kind = 1
        · have hq : f.rightTCP = true := by
            unfold Facts.fRight at hfr
            rwa [if_pos h1] at hfr
          simp only [Facts.rightTCP, betweenB, Bool.and_eq_true, decide_eq_true_eq] at hq
          have hl0 := hq.2.1
          have hl1 := hq.2.2
          have a0 := ho.flags0
          have a1 := ho.flags1
          cases hrs : f.rst with
          | true =>
            have e1 : f.answerF = Facts.zero := by unfold Facts.answerF; rw [if_neg hrt, if_neg h2, if_neg h3, if_neg (by rw [hrs]; simp)]
            have e2 : f.answerE = 6 := by unfold Facts.answerE; rw [if_neg hrt, if_neg h2, if_neg h3, if_neg (by rw [hrs]; simp)]
            rw [e1, e2]
            unfold Facts.rst at hrs
            obtain ⟨⟨k0, k1, k2, k3, k4⟩, kind, flags, type, code, seqn, ackn, window, length, ⟨q0, q1, q2, q3, q4⟩, qkind⟩ := f
            dsimp only at *
            subst h1
            obtain ⟨fl, rfl⟩ : ∃ n : Nat, flags = n := ⟨flags.toNat, by omega⟩
            rw [Int.toNat_natCast] at hrs
            exact answer_rst k0 k1 k2 k3 k4 fl type code seqn ackn window length q0 q1 q2 q3 q4 qkind w hs (by rw [and_4 fl (by omega), hrs]; rfl) HR
          | false =>
            have e1 : f.answerF = { f.answerB with flags := if f.opens then 18 else 16, seqn := f.ackn, ackn := (f.seqn + f.extent) % 4294967296, window := f.window, length := 0 } := by unfold Facts.answerF; rw [if_neg hrt, if_neg h2, if_neg h3, if_pos ⟨h1, hrs⟩]
            have e2 : f.answerE = 0 := by unfold Facts.answerE; rw [if_neg hrt, if_neg h2, if_neg h3, if_pos ⟨h1, hrs⟩]
            rw [e1, e2]
            unfold Facts.rst at hrs
            obtain ⟨⟨k0, k1, k2, k3, k4⟩, kind, flags, type, code, seqn, ackn, window, length, ⟨q0, q1, q2, q3, q4⟩, qkind⟩ := f
            dsimp only at *
            subst h1
            obtain ⟨fl, rfl⟩ : ∃ n : Nat, flags = n := ⟨flags.toNat, by omega⟩
            rw [Int.toNat_natCast] at hrs
            exact answer_tcp k0 k1 k2 k3 k4 type code seqn ackn window length q0 q1 q2 q3 q4 qkind _ fl _ w hs (by rw [and_4 fl (by omega), hrs]; rfl) (by rw [and_18 fl (by omega)]; simp [Facts.opens]) (by omega) hl0 (by omega) rfl HR
        · have e1 : f.answerF = Facts.zero := by unfold Facts.answerF; rw [if_neg hrt, if_neg h2, if_neg h3, if_neg (by simp [h1])]
          have e2 : f.answerE = 6 := by unfold Facts.answerE; rw [if_neg hrt, if_neg h2, if_neg h3, if_neg (by simp [h1])]
          rw [e1, e2]
          obtain ⟨⟨k0, k1, k2, k3, k4⟩, kind, flags, type, code, seqn, ackn, window, length, ⟨q0, q1, q2, q3, q4⟩, qkind⟩ := f
          exact answer_none k0 k1 k2 k3 k4 kind flags type code seqn ackn window length q0 q1 q2 q3 q4 qkind w hs (by simpa using h2) (by simpa using h3) (by simpa using h1) HR

end Go.Proofs.YtebeekjcepjcnaaDoor
