/-
  An error about a packet, and a built packet after some hops, as they are read (plain).
-/
import Derived.Test.YtebeekjcepjcnaaGreatDoorRM11law
namespace Go.Proofs.YtebeekjcepjcnaaGreatDoor
open Go.RowKit
theorem Own.formL {w : World} {base : Nat} {v : Value} {xs : List Int} (h : Own w base v xs) (n : Nat) (hn : xs.length = n) (h0 : 0 < n) : ∃ g cap, v = .slice (some ⟨g, 0, none⟩) n cap ∧ base ≤ g ∧ g < w.heap.size ∧ n ≤ cap ∧ cap ≤ maxLen := by
  subst hn
  exact h.form h0
theorem rej_q {f : Facts} (hr : f.right = true) (hk : f.kind ≠ 5) (k c : Nat) : (f.rejectOk k c).qRight = true := by
  have r := right_ok hr
  have k0 := r.k0
  have k1 := r.k1
  unfold Facts.qRight
  rcases (show f.kind = 1 ∨ f.kind = 2 ∨ f.kind = 3 ∨ f.kind = 4 by omega) with e | e | e | e
  · rw [if_pos (show (f.rejectOk k c).qkind = 1 from e)]
    have h := (r.tcp e).2.1
    have hf : (f.rejectOk k c).quotedF = { Facts.zero with key := f.key, kind := 1, flags := 16 } := by simp [Facts.quotedF, Facts.rejectOk, e, Facts.zero]
    rw [hf]
    simp only [Facts.rightTCP, Bool.and_eq_true] at h
    show (f.key.ported && decide ((16 : Int) < 64) && saneB (16 : Int).toNat && betweenB 0 0 65535 && betweenB 0 0 65495) = true
    rw [h.1.1.1.1]
    decide
  · rw [if_neg (show ¬ (f.rejectOk k c).qkind = 1 from by show ¬ f.kind = 1; omega), if_neg (by show ¬ (f.kind = 3 ∨ f.kind = 4); omega)]
    have h := (r.udp e).2.1
    simp only [Facts.rightUDP, Bool.and_eq_true] at h
    show (f.key.ported && betweenB 0 0 65507) = true
    rw [h.1]
    decide
  all_goals
    rw [if_neg (show ¬ (f.rejectOk k c).qkind = 1 from by show ¬ f.kind = 1; omega), if_pos (by show f.kind = 3 ∨ f.kind = 4; omega)]
    have h := (r.qry (by omega)).2.1
    simp only [Facts.rightQuery, Bool.and_eq_true] at h
  · have hf : (f.rejectOk k c).quotedF = { Facts.zero with key := f.key, kind := 3, type := 8 } := by simp [Facts.quotedF, Facts.rejectOk, e, Facts.zero]
    rw [hf]
    show ((kind2 8 0 == 0) && (kind1 8 0 == 3) && (f.key.sp == f.key.dp) && betweenB 0 0 65507) = true
    rw [h.1.2]
    decide
  · have hf : (f.rejectOk k c).quotedF = { Facts.zero with key := f.key, kind := 4 } := by simp [Facts.quotedF, Facts.rejectOk, e, Facts.zero]
    rw [hf]
    show ((kind2 0 0 == 0) && (kind1 0 0 == 4) && (f.key.sp == f.key.dp) && betweenB 0 0 65507) = true
    rw [h.1.2]
    decide
theorem rej_right {f : Facts} (hr : f.right = true) (hk : f.kind ≠ 5) {k c : Nat} (h2 : kind2 k c = 0) (h1 : kind1 k c = 5) : (f.rejectOk k c).right = true := by
  have r := right_ok hr
  have k0 := r.k0
  have k1 := r.k1
  have hq := rej_q hr hk k c
  have hi : isQ f.kind = true := by simp [isQ]; omega
  have hp : (f.key.proto == qProto f.kind) = true := by
    unfold qProto
    rw [if_pos hi, r.proto]
    exact beq_self_eq_true _
  refine right_mk ⟨show (1 : Int) ≤ 5 by decide, show (5 : Int) ≤ 5 by decide, rfl, r.dst, r.src, ne_symm r.ne, ?_, rfl⟩
  show (f.rejectOk k c).rightError = true
  have e1 : (f.rejectOk k c).type.toNat = k := Int.toNat_natCast k
  have e2 : (f.rejectOk k c).code.toNat = c := Int.toNat_natCast c
  unfold Facts.rightError
  rw [e1, e2, h2, h1, hq, show (f.rejectOk k c).qkind = f.kind from rfl, hi, show (f.rejectOk k c).quoted.proto = f.key.proto from rfl, hp]
  rfl
/-- What build.Reject makes of right facts, and how that is read. -/
structure RejOk (f : Facts) (k c : Nat) : Prop where
  ok : (f.rejectOk k c).Ok
  right : (f.rejectOk k c).right = true
  f1 : f.rejectF k c = f.rejectOk k c
  e1 : f.rejectE k c = 0
  made : (f.rejectOk k c).madeL = (f.rejectOk k c).buildL ∧ (f.rejectOk k c).madeE = 0
  len : (f.rejectOk k c).buildL.length = 56
  byt : Byt (f.rejectOk k c).buildL
  back : pktR (f.rejectOk k c).buildL = 0 ∧ pktF (f.rejectOk k c).buildL = f.rejectOk k c
  again : (f.rejectOk k c).rejectE 3 0 = 6
theorem rej_ok {f : Facts} (ho : f.Ok) (hr : f.right = true) (hk : f.kind ≠ 5) {k c : Nat} (hk2 : k < 256) (hc2 : c < 256) (h2 : kind2 k c = 0) (h1 : kind1 k c = 5) : RejOk f k c := by
  have hR := rej_right hr hk h2 h1
  have hn : ¬ f.right = false := by rw [hr]; decide
  have hm : ¬ (f.rejectOk k c).right = false := by rw [hR]; decide
  have hO : (f.rejectOk k c).Ok := ⟨⟨show (0 : Int) ≤ 1 by decide, show (1 : Int) < 256 by decide, ho.key.dst0, ho.key.dst1, ho.key.src0, ho.key.src1, show (0 : Int) ≤ 0 by decide, show (0 : Int) < 65536 by decide, show (0 : Int) ≤ 0 by decide, show (0 : Int) < 65536 by decide⟩, show (0 : Int) ≤ 5 by decide, show (5 : Int) < 256 by decide, show (0 : Int) ≤ 0 by decide, show (0 : Int) < 256 by decide,
    (by show (0 : Int) ≤ (k : Int); omega), (by show (k : Int) < 256; omega), (by show (0 : Int) ≤ (c : Int); omega), (by show (c : Int) < 256; omega), show (0 : Int) ≤ 0 by decide, show (0 : Int) < 4294967296 by decide, show (0 : Int) ≤ 0 by decide, show (0 : Int) < 4294967296 by decide, show (-9223372036854775808 : Int) ≤ 0 by decide, show (0 : Int) ≤ 9223372036854775807 by decide, show (-9223372036854775808 : Int) ≤ 28 by decide, show (28 : Int) ≤ 9223372036854775807 by decide, ho.key, ho.kind0, ho.kind1⟩
  have hb := built_back hO hR []
  rw [List.append_nil] at hb
  have hl := dataL_len hR
  have e28 : (f.rejectOk k c).length.toNat = 28 := rfl
  rw [if_neg (show ¬ (f.rejectOk k c).kind = 1 from by show ¬ (5 : Int) = 1; decide), e28] at hl
  refine ⟨hO, hR, ?_, ?_, ⟨?_, ?_⟩, ?_, ?_, hb, ?_⟩
  · unfold Facts.rejectF; rw [if_neg hn, if_neg hk, if_pos ⟨h2, h1⟩]
  · unfold Facts.rejectE; rw [if_neg hn, if_neg hk, if_pos ⟨h2, h1⟩]
  · unfold Facts.madeL; rw [if_pos hR]
  · unfold Facts.madeE; rw [if_pos hR]
  · unfold Facts.buildL
    rw [ipWriteL_len, hl.1]
    rfl
  · exact buildL_byt hO hR
  · unfold Facts.rejectE; rw [if_neg hm, if_pos (show (f.rejectOk k c).kind = 5 from rfl)]
theorem rej_five {f : Facts} (hr : f.right = true) (hk : f.kind = 5) (k c : Nat) : f.rejectF k c = Facts.zero ∧ f.rejectE k c = 6 := by
  have hn : ¬ f.right = false := by rw [hr]; decide
  unfold Facts.rejectF Facts.rejectE
  rw [if_neg hn, if_pos hk, if_neg hn, if_pos hk]
  exact ⟨rfl, rfl⟩
/-- A built packet after some hops. -/
theorem built_down {f : Facts} (ho : f.Ok) (hr : f.right = true) {j : Nat} (hj : j < 64) (behind : List Int) : pktR (ipWriteL ((hdrH f.key).down j) f.dataL ++ behind) = 0 ∧ pktF (ipWriteL ((hdrH f.key).down j) f.dataL ++ behind) = f := by
  have k := right_ok hr
  obtain ⟨h1, h2⟩ := data_back ho hr
  have hl := (dataL_len hr).2
  have ht : (hdrH f.key).ttl = 64 := rfl
  obtain ⟨a, b⟩ := pkt_back ((hdrH f.key).down j) f.dataL behind (down_ok (hdr_ok ho.key) (by omega)) (down_right (hdr_right hl) j)
  have e : ((hdrH f.key).down j).proto = f.key.proto := rfl
  have hR : pktR (ipWriteL ((hdrH f.key).down j) f.dataL ++ behind) = 0 := by
    rw [a, down_reason (hdr_reason k.src k.dst k.ne) (by omega), if_neg (by decide)]
    rw [e, h1]
    have hp : ¬ (f.key.proto ≠ 6 ∧ f.key.proto ≠ 17 ∧ f.key.proto ≠ 1) := by
      rw [k.proto]; unfold protoS; repeat' split <;> omega
    rw [if_neg hp]
    rfl
  refine ⟨hR, ?_⟩
  rw [b hR, e]
  exact h2
/-- The types of errors, and their codes. -/
def errT : List (Int × Int) := [(3, 15), (4, 0), (5, 3), (11, 1), (12, 2)]
theorem errT_ok : ∀ j : Nat, j < 5 → ∀ n : Nat, n < 16 → (n : Int) ≤ (errT.getD j (0, 0)).2 → kind2 (errT.getD j (0, 0)).1.toNat n = 0 ∧ kind1 (errT.getD j (0, 0)).1.toNat n = 5 := by decide
end Go.Proofs.YtebeekjcepjcnaaGreatDoor
