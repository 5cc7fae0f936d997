/-
  The reference's word on which facts are right, and the program's: the same. No program in sight.
  The reference of layer 12: usual, sound, Right.
  The reference of layer 12: Right.
-/
import Derived.Test.YtebeekjcepjcnaaDoorFailure
import Derived.Test.YtebeekjcepjcnaaDoorRight
import Derived.Test.YtebeekjcepjcnaaDoorRefe
import Derived.Test.YtebeekjcepjcnaaDoorEq
namespace Go.Proofs.YtebeekjcepjcnaaDoor
open Go.RowKit

/-- The reference's word on a key and a kind. -/
def soundB (k : Key) (kind : Int) : Bool :=
  if kind = 1 then (k.proto == 6) && !(k.sp == 0) && !(k.dp == 0) else if kind = 2 then (k.proto == 17) && !(k.sp == 0) && !(k.dp == 0) else
  if kind = 3 ∨ kind = 4 then (k.proto == 1) && (k.sp == k.dp) else false
/-- What each kind asks for besides. -/
def Facts.rRightK (f : Facts) : Bool :=
  if f.kind = 1 then decide (f.flags < 64) && saneB f.flags.toNat && decide (0 ≤ f.window) && decide (f.window < 65536) && decide (f.length ≤ 65495) else
  if f.kind = 2 then decide (f.length ≤ 65507) else
  if f.kind = 3 ∨ f.kind = 4 then (kind2 f.type.toNat f.code.toNat == 0) && (kind1 f.type.toNat f.code.toNat == f.kind) && decide (f.length ≤ 65507) else
  if f.kind = 5 then (f.key.proto == 1) && (f.key.sp == 0) && (f.key.dp == 0) && soundB f.quoted f.qkind && (kind2 f.type.toNat f.code.toNat == 0) && (kind1 f.type.toNat f.code.toNat == 5) && decide (28 ≤ f.length) && decide (f.length ≤ 65507) else false
/-- The reference's word on facts. -/
def Facts.rRight (f : Facts) : Bool :=
  usualB f.key.src && usualB f.key.dst && !(f.key.src == f.key.dst) && decide (0 ≤ f.length) &&
  (decide (f.kind = 1) || ((f.flags == 0) && (f.seqn == 0) && (f.ackn == 0) && (f.window == 0))) &&
  (decide (f.kind = 5) || ((f.qkind == 0) && f.quoted.eqB Key.zero && soundB f.key f.kind)) &&
  (decide (3 ≤ f.kind) || ((f.type == 0) && (f.code == 0))) && f.rRightK

theorem qRight_eq (f : Facts) (ho : f.quoted.Ok) : (isQ f.qkind && f.qRight && (f.quoted.proto == qProto f.qkind)) = soundB f.quoted f.qkind := by
  obtain ⟨a0, a1, b0, b1, c0, c1, d0, d1, e0, e1⟩ := ho
  have hs : saneB 16 = true := by decide
  have h8 : kind2 8 0 = 0 ∧ kind1 8 0 = 3 ∧ kind2 0 0 = 0 ∧ kind1 0 0 = 4 := by decide
  obtain ⟨h81, h82, h83, h84⟩ := h8
  by_cases h1 : f.qkind = 1
  · rw [Bool.eq_iff_iff]; simp [Facts.qRight, soundB, isQ, qProto, protoS, h1, Facts.quotedF, Facts.rightTCP, Key.ported, betweenB, Facts.zero, hs]; omega
  by_cases h2 : f.qkind = 2
  · rw [Bool.eq_iff_iff]; simp [Facts.qRight, soundB, isQ, qProto, protoS, h2, Facts.quotedF, Facts.rightUDP, Key.ported, betweenB, Facts.zero]; omega
  by_cases h3 : f.qkind = 3
  · rw [Bool.eq_iff_iff]; simp [Facts.qRight, soundB, isQ, qProto, protoS, h3, Facts.quotedF, Facts.rightQuery, betweenB, Facts.zero, h81, h82]; omega
  by_cases h4 : f.qkind = 4
  · rw [Bool.eq_iff_iff]; simp [Facts.qRight, soundB, isQ, qProto, protoS, h4, Facts.quotedF, Facts.rightQuery, betweenB, Facts.zero, h83, h84]; omega
  · have : isQ f.qkind = false := by simp [isQ]; omega
    simp [this, soundB, h1, h2, h3, h4]

theorem eqB_refl (k : Key) : k.eqB k = true := by simp [Key.eqB]
theorem eqB_comm (k l : Key) : k.eqB l = l.eqB k := by simp [Key.eqB, Bool.beq_comm]
theorem rRight_right (f : Facts) (ho : f.Ok) : f.rRight = f.right := by
  have hq := qRight_eq f ho.quoted
  obtain ⟨a0, a1, b0, b1, c0, c1, d0, d1, e0, e1⟩ := ho.key
  by_cases h1 : f.kind = 1
  · rw [Bool.eq_iff_iff]; simp [Facts.rRight, Facts.rRightK, Facts.right, soundB, protoS, h1, Facts.fRight, Facts.fPart, Facts.tcpPart, Facts.rightTCP, Facts.eqB, eqB_refl, Key.ported, betweenB, Facts.zero, eqB_comm Key.zero]; grind
  by_cases h2 : f.kind = 2
  · rw [Bool.eq_iff_iff]; simp [Facts.rRight, Facts.rRightK, Facts.right, soundB, protoS, h2, Facts.fRight, Facts.fPart, Facts.udpPart, Facts.rightUDP, Facts.eqB, eqB_refl, Key.ported, betweenB, Facts.zero, eqB_comm Key.zero]; grind
  by_cases h3 : f.kind = 3
  · rw [Bool.eq_iff_iff]; simp [Facts.rRight, Facts.rRightK, Facts.right, soundB, protoS, h3, Facts.fRight, Facts.fPart, Facts.queryPart, Facts.rightQuery, Facts.eqB, eqB_refl, betweenB, Facts.zero, eqB_comm Key.zero]; grind
  by_cases h4 : f.kind = 4
  · rw [Bool.eq_iff_iff]; simp [Facts.rRight, Facts.rRightK, Facts.right, soundB, protoS, h4, Facts.fRight, Facts.fPart, Facts.queryPart, Facts.rightQuery, Facts.eqB, eqB_refl, betweenB, Facts.zero, eqB_comm Key.zero]; grind
  by_cases h5 : f.kind = 5
  · rw [Bool.eq_iff_iff]; simp [Facts.rRight, Facts.rRightK, Facts.right, ← hq, protoS, h5, Facts.fRight, Facts.fPart, Facts.errorPart, Facts.rightError, Facts.eqB, eqB_refl, betweenB, Facts.zero]; grind
  · have : f.rRightK = false := by simp [Facts.rRightK, h1, h2, h3, h4, h5]
    have hr : f.right = false := by
      simp [Facts.right]; omega
    simp [Facts.rRight, this, hr]

end Go.Proofs.YtebeekjcepjcnaaDoor

namespace Go.Proofs.YtebeekjcepjcnaaDoor
open Go.RowKit Go.Shelf

set_option maxHeartbeats 400000 in
theorem rUsual_any (a : Int) (w : World) (h0 : 0 ≤ a) : Calls Tryd.prog 76 #[.int .u32 a] w fun e w' => e = .returned (.bool (usualB a)) ∧ w = w' := by
  unfold usualB
  by_cases h1 : 0 < a
  · have Hr := Lib.hid (show (decide (0 < a) && decide (a < 3758096384)) = decide (a < 3758096384) by simp [h1])
    rw [Hr.out]
    have hb : (a != 0) = true := by simp; omega
    clear h0 h1
    go_enter Tryd.func76, Tryd.ntmps76
    go_wp2_with fail
    go_ret
    exact ⟨rfl, rfl⟩
  · have Hr := Lib.hid (show (decide (0 < a) && decide (a < 3758096384)) = false by simp [h1])
    rw [Hr.out]
    have hb : (a != 0) = false := by simp; omega
    clear h0 h1
    go_enter Tryd.func76, Tryd.ntmps76
    go_wp2_with fail
    go_ret
    exact ⟨rfl, rfl⟩

set_option maxHeartbeats 1000000 in
theorem rSound_any (k : Key) (kind : Int) (w : World) : Calls Tryd.prog 77 #[k.val, .int .u8 kind] w fun e w' => e = .returned (.bool (soundB k kind)) ∧ Below w.heap.size w w' := by
  obtain ⟨k0, k1, k2, k3, k4⟩ := k
  dsimp only [Key.val, Key.cells]
  by_cases h1 : kind = 1
  · subst h1
    have Hr : ∀ a b c : Bool, (k0 == 6) = a → (k3 != 0) = b → (k4 != 0) = c → soundB ⟨k0, k1, k2, k3, k4⟩ 1 = (a && b && c) := by
      rintro a b c rfl rfl rfl
      simp [soundB, bne]
    obtain ⟨a, ha⟩ : ∃ a, (k0 == 6) = a := ⟨_, rfl⟩
    obtain ⟨b, hb⟩ : ∃ b, (k3 != 0) = b := ⟨_, rfl⟩
    obtain ⟨c, hc⟩ : ∃ c, (k4 != 0) = c := ⟨_, rfl⟩
    rw [Hr a b c ha hb hc]
    clear Hr
    cases a <;> cases b
    all_goals
      go_enter Tryd.func77, Tryd.ntmps77
      go_wp2_with fail
      go_ret
      exact ⟨by simp, (Below.refl _ _).alloc (Nat.le_refl _) _⟩
  by_cases h2 : kind = 2
  · subst h2
    have Hr : ∀ a b c : Bool, (k0 == 17) = a → (k3 != 0) = b → (k4 != 0) = c → soundB ⟨k0, k1, k2, k3, k4⟩ 2 = (a && b && c) := by
      rintro a b c rfl rfl rfl
      simp [soundB, bne]
    obtain ⟨a, ha⟩ : ∃ a, (k0 == 17) = a := ⟨_, rfl⟩
    obtain ⟨b, hb⟩ : ∃ b, (k3 != 0) = b := ⟨_, rfl⟩
    obtain ⟨c, hc⟩ : ∃ c, (k4 != 0) = c := ⟨_, rfl⟩
    rw [Hr a b c ha hb hc]
    clear Hr
    cases a <;> cases b
    all_goals
      go_enter Tryd.func77, Tryd.ntmps77
      go_wp2_with fail
      go_ret
      exact ⟨by simp, (Below.refl _ _).alloc (Nat.le_refl _) _⟩
  by_cases h3 : kind = 3
  · subst h3
    have Hr : ∀ a b : Bool, (k0 == 1) = a → (k3 == k4) = b → soundB ⟨k0, k1, k2, k3, k4⟩ 3 = (a && b) := by
      rintro a b rfl rfl
      simp [soundB]
    obtain ⟨a, ha⟩ : ∃ a, (k0 == 1) = a := ⟨_, rfl⟩
    obtain ⟨b, hb⟩ : ∃ b, (k3 == k4) = b := ⟨_, rfl⟩
    rw [Hr a b ha hb]
    clear Hr
    cases a
    all_goals
      go_enter Tryd.func77, Tryd.ntmps77
      go_wp2_with fail
      go_ret
      exact ⟨by simp, (Below.refl _ _).alloc (Nat.le_refl _) _⟩
  by_cases h4 : kind = 4
  · subst h4
    have Hr : ∀ a b : Bool, (k0 == 1) = a → (k3 == k4) = b → soundB ⟨k0, k1, k2, k3, k4⟩ 4 = (a && b) := by
      rintro a b rfl rfl
      simp [soundB]
    obtain ⟨a, ha⟩ : ∃ a, (k0 == 1) = a := ⟨_, rfl⟩
    obtain ⟨b, hb⟩ : ∃ b, (k3 == k4) = b := ⟨_, rfl⟩
    rw [Hr a b ha hb]
    clear Hr
    cases a
    all_goals
      go_enter Tryd.func77, Tryd.ntmps77
      go_wp2_with fail
      go_ret
      exact ⟨by simp, (Below.refl _ _).alloc (Nat.le_refl _) _⟩
  have Hr : soundB ⟨k0, k1, k2, k3, k4⟩ kind = false := by simp [soundB, h1, h2, h3, h4]
  rw [Hr]
  have b1 : (kind == 1) = false := by simpa using h1
  have b2 : (kind == 2) = false := by simpa using h2
  have b3 : (kind == 3) = false := by simpa using h3
  have b4 : (kind == 4) = false := by simpa using h4
  clear h1 h2 h3 h4 Hr
  go_enter Tryd.func77, Tryd.ntmps77
  go_wp2_with fail
  go_ret
  exact ⟨rfl, (Below.refl _ _).alloc (Nat.le_refl _) _⟩

end Go.Proofs.YtebeekjcepjcnaaDoor

namespace Go.Proofs.YtebeekjcepjcnaaDoor
open Go.RowKit Go.Shelf

theorem run_ne_key (k l : Key) (W : World) : (binOp .neq 25 k.val l.val).run Tryd.prog W = .ok (.bool (!(k.eqB l))) W := by
  have h := equalIn_key 9998 k l W
  unfold Key.val at h ⊢
  rw [run_neq_struct, h]
  rfl

end Go.Proofs.YtebeekjcepjcnaaDoor
