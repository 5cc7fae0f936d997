/-
  Package build: Answer, whatever the facts.
  Package build: Reject.
  The reference of layer 12: Build of an error's facts.
  bafflekit.SameBytes at equal bytes; the examples of the chapters 11 and 12. bafflelaw12.tells: the program and the reference say the same of any facts.
-/
import Derived.WalkKit
import Derived.WalkSpells
import Derived.WalkLawsBesides
import Derived.WalkSmall
import Derived.Lib.Hide
import Derived.Deep.AppendLies
import Derived.Maps.AppendAt
import Derived.Laws.AppendOwnNone
import Derived.Laws.CopyOwn
import Derived.OneCell
import Derived.Orders
import Derived.RegionTactic
import Derived.Still
import Derived.Test.YtebeekjcepjcnaaDoorProg
import Derived.Deep.MidRow
import Derived.Lib.SliceRun
import Derived.RangeFuncNested
import Derived.RangeFuncBound
import Derived.RangeFuncCalls
import Derived.RangeFuncLeaves
import Derived.Shelf.Abstract
import Derived.OwnWalkIn
import Derived.TacticsInMore
import Derived.LoopNIn
import Derived.LoopIn
import Derived.Lib.AppendZeros
import Derived.MapKept
import Derived.Deep.DeepCutAuto
import Derived.Laws.StructEq
import Derived.Deep.RegionLaw
import Derived.Deep.RegionHeld3
import Derived.BigRegion
import Derived.ChangeAlike
import Derived.Test.YtebeekjcepjcnaaDoorWBase
import Derived.Test.YtebeekjcepjcnaaDoorWBits
import Derived.Test.YtebeekjcepjcnaaDoorWCsum
import Derived.Test.YtebeekjcepjcnaaDoorWSum
import Derived.Test.YtebeekjcepjcnaaDoorWConcat
import Derived.Test.YtebeekjcepjcnaaDoorWFix
import Derived.Test.YtebeekjcepjcnaaDoorWFacts
import Derived.Test.YtebeekjcepjcnaaDoorWIpw
import Derived.Test.YtebeekjcepjcnaaDoorWRegion
import Derived.Test.YtebeekjcepjcnaaDoorWWalk
import Derived.Test.YtebeekjcepjcnaaDoorWStep
import Derived.Test.YtebeekjcepjcnaaDoorWTcpw
import Derived.Test.YtebeekjcepjcnaaDoorWUdpw
import Derived.Test.YtebeekjcepjcnaaDoorWData
import Derived.Test.YtebeekjcepjcnaaDoorWMaps
import Derived.Test.YtebeekjcepjcnaaDoorWQuoted
import Derived.Test.YtebeekjcepjcnaaDoorWBuilda
import Derived.Test.YtebeekjcepjcnaaDoorWRerr
import Derived.Test.YtebeekjcepjcnaaDoorWIcmpr
import Derived.Test.YtebeekjcepjcnaaDoorWIprd
import Derived.Test.YtebeekjcepjcnaaDoorWOptsb
import Derived.Test.YtebeekjcepjcnaaDoorWRight
import Derived.Test.YtebeekjcepjcnaaDoorWAnswer
import Derived.Test.YtebeekjcepjcnaaDoorWLookp
import Derived.Test.YtebeekjcepjcnaaDoorWFailure
import Derived.Test.YtebeekjcepjcnaaDoorWBuildb
namespace Go.Proofs.YtebeekjcepjcnaaDoor
open Go.RowKit

theorem and_4 (f : Nat) (h : f < 256) : (bits .and .u8 (f : Int) 4 == 0) = !(f / 4 % 2 == 1) := by
  rw [show bits .and .u8 (f : Int) 4 = ((f &&& 4 : Nat) : Int) from u8_and_nat f 4 h (by omega)]
  have : ∀ x : Fin 256, (((x.val &&& 4 : Nat) : Int) == 0) = !(x.val / 4 % 2 == 1) := by decide +kernel
  exact this ⟨f, h⟩
theorem and_18 (f : Nat) (h : f < 256) : (bits .and .u8 (f : Int) 18 == 2) = (f / 2 % 2 == 1 && f / 16 % 2 == 0) := by
  rw [show bits .and .u8 (f : Int) 18 = ((f &&& 18 : Nat) : Int) from u8_and_nat f 18 h (by omega)]
  have : ∀ x : Fin 256, (((x.val &&& 18 : Nat) : Int) == 2) = (x.val / 2 % 2 == 1 && x.val / 16 % 2 == 0) := by decide +kernel
  exact this ⟨f, h⟩
theorem kind1_of {t c : Nat} (h : kind2 t c = 0) : kind1 t c = kindN t := by
  unfold kind2 at h
  unfold kind1
  split
  · rename_i h0; rw [if_pos h0] at h; cases h
  · rename_i h0
    rw [if_neg h0] at h
    split
    · rename_i h1; rw [if_pos h1] at h; cases h
    · rfl

set_option maxHeartbeats 1000000 in
theorem answer_all (f : Facts) (w : World) (ho : f.Ok) (hs : SortsAt w) : Calls Tryd.prog 33 #[f.val] w fun e w' => e = .returned (.tuple #[f.answerF.val, .int .i64 f.answerE]) ∧ Below w.heap.size w w' := by
  have HR := fun W h => right_all f W ho h
  cases hr : f.right with
  | false =>
    rw [hr] at HR
    have e1 : f.answerF = Facts.zero := if_pos hr
    have e2 : f.answerE = 120 := if_pos hr
    rw [e1, e2]
    obtain ⟨⟨k0, k1, k2, k3, k4⟩, kind, flags, type, code, seqn, ackn, window, length, ⟨q0, q1, q2, q3, q4⟩, qkind⟩ := f
    exact answer_no k0 k1 k2 k3 k4 kind flags type code seqn ackn window length q0 q1 q2 q3 q4 qkind w hs HR
  | true =>
    rw [hr] at HR
    have hrt : ¬ f.right = false := by rw [hr]; simp
    have hfr : f.fRight = true := by
      unfold Facts.right at hr
      simp only [Bool.and_eq_true] at hr
      exact hr.1.2
    by_cases h2 : f.kind = 2
    · have e1 : f.answerF = f.answerB := by unfold Facts.answerF; rw [if_neg hrt, if_pos h2]
      have e2 : f.answerE = 0 := by unfold Facts.answerE; rw [if_neg hrt, if_pos h2]
      rw [e1, e2]
      obtain ⟨⟨k0, k1, k2, k3, k4⟩, kind, flags, type, code, seqn, ackn, window, length, ⟨q0, q1, q2, q3, q4⟩, qkind⟩ := f
      dsimp only at h2
      subst h2
      exact answer_udp k0 k1 k2 k3 k4 flags type code seqn ackn window length q0 q1 q2 q3 q4 qkind w hs HR
    · by_cases h3 : f.kind = 3
      · have e1 : f.answerF = { f.answerB with kind := 4, type := replyN f.type.toNat, code := f.code } := by unfold Facts.answerF; rw [if_neg hrt, if_neg h2, if_pos h3]
        have e2 : f.answerE = 0 := by unfold Facts.answerE; rw [if_neg hrt, if_neg h2, if_pos h3]
        rw [e1, e2]
        have hq : f.rightQuery = true := by
          unfold Facts.fRight at hfr
          rwa [if_neg (by omega), if_neg h2, if_neg (by omega)] at hfr
        simp only [Facts.rightQuery, Bool.and_eq_true, beq_iff_eq] at hq
        have hk2 := hq.1.1.1
        have hk1 := hq.1.1.2
        rw [kind1_of hk2, h3] at hk1
        obtain ⟨hc, _⟩ := query_facts _ _ hk2 hk1
        have t0 := ho.type0
        have c0 := ho.code0
        obtain ⟨⟨k0, k1, k2, k3, k4⟩, kind, flags, type, code, seqn, ackn, window, length, ⟨q0, q1, q2, q3, q4⟩, qkind⟩ := f
        dsimp only at *
        subst h3
        obtain ⟨ty, rfl⟩ : ∃ n : Nat, type = n := ⟨type.toNat, by omega⟩
        obtain rfl : code = 0 := by omega
        rw [Int.toNat_natCast] at *
        exact answer_query k0 k1 k2 k3 k4 flags seqn ackn window length q0 q1 q2 q3 q4 qkind ty w hs hk2 hk1 HR
      · by_cases h1 : f.kind = 1
        · have hq : f.rightTCP = true := by
            unfold Facts.fRight at hfr
            rwa [if_pos h1] at hfr
          simp only [Facts.rightTCP, betweenB, Bool.and_eq_true, decide_eq_true_eq] at hq
          have hl0 := hq.2.1
          have hl1 := hq.2.2
          have a0 := ho.flags0
          have a1 := ho.flags1
          cases hrs : f.rst with
          | true =>
            have e1 : f.answerF = Facts.zero := by unfold Facts.answerF; rw [if_neg hrt, if_neg h2, if_neg h3, if_neg (by rw [hrs]; simp)]
            have e2 : f.answerE = 6 := by unfold Facts.answerE; rw [if_neg hrt, if_neg h2, if_neg h3, if_neg (by rw [hrs]; simp)]
            rw [e1, e2]
            unfold Facts.rst at hrs
            obtain ⟨⟨k0, k1, k2, k3, k4⟩, kind, flags, type, code, seqn, ackn, window, length, ⟨q0, q1, q2, q3, q4⟩, qkind⟩ := f
            dsimp only at *
            subst h1
            obtain ⟨fl, rfl⟩ : ∃ n : Nat, flags = n := ⟨flags.toNat, by omega⟩
            rw [Int.toNat_natCast] at hrs
            exact answer_rst k0 k1 k2 k3 k4 fl type code seqn ackn window length q0 q1 q2 q3 q4 qkind w hs (by rw [and_4 fl (by omega), hrs]; rfl) HR
          | false =>
            have e1 : f.answerF = { f.answerB with flags := if f.opens then 18 else 16, seqn := f.ackn, ackn := (f.seqn + f.extent) % 4294967296, window := f.window, length := 0 } := by unfold Facts.answerF; rw [if_neg hrt, if_neg h2, if_neg h3, if_pos ⟨h1, hrs⟩]
            have e2 : f.answerE = 0 := by unfold Facts.answerE; rw [if_neg hrt, if_neg h2, if_neg h3, if_pos ⟨h1, hrs⟩]
            rw [e1, e2]
            unfold Facts.rst at hrs
            obtain ⟨⟨k0, k1, k2, k3, k4⟩, kind, flags, type, code, seqn, ackn, window, length, ⟨q0, q1, q2, q3, q4⟩, qkind⟩ := f
            dsimp only at *
            subst h1
            obtain ⟨fl, rfl⟩ : ∃ n : Nat, flags = n := ⟨flags.toNat, by omega⟩
            rw [Int.toNat_natCast] at hrs
            exact answer_tcp k0 k1 k2 k3 k4 type code seqn ackn window length q0 q1 q2 q3 q4 qkind _ fl _ w hs (by rw [and_4 fl (by omega), hrs]; rfl) (by rw [and_18 fl (by omega)]; simp [Facts.opens]) (by omega) hl0 (by omega) rfl HR
        · have e1 : f.answerF = Facts.zero := by unfold Facts.answerF; rw [if_neg hrt, if_neg h2, if_neg h3, if_neg (by simp [h1])]
          have e2 : f.answerE = 6 := by unfold Facts.answerE; rw [if_neg hrt, if_neg h2, if_neg h3, if_neg (by simp [h1])]
          rw [e1, e2]
          obtain ⟨⟨k0, k1, k2, k3, k4⟩, kind, flags, type, code, seqn, ackn, window, length, ⟨q0, q1, q2, q3, q4⟩, qkind⟩ := f
          exact answer_none k0 k1 k2 k3 k4 kind flags type code seqn ackn window length q0 q1 q2 q3 q4 qkind w hs (by simpa using h2) (by simpa using h3) (by simpa using h1) HR

end Go.Proofs.YtebeekjcepjcnaaDoor
namespace Go.Proofs.YtebeekjcepjcnaaDoor
open Go.RowKit

def Facts.rejectOk (f : Facts) (k c : Nat) : Facts := { Facts.zero with key := ⟨1, f.key.dst, f.key.src, 0, 0⟩, kind := 5, type := k, code := c, length := 28, quoted := f.key, qkind := f.kind }
def Facts.rejectF (f : Facts) (k c : Nat) : Facts := if f.right = false then Facts.zero else if f.kind = 5 then Facts.zero else if kind2 k c = 0 ∧ kind1 k c = 5 then f.rejectOk k c else Facts.zero
def Facts.rejectE (f : Facts) (k c : Nat) : Int := if f.right = false then 120 else if f.kind = 5 then 6 else if kind2 k c = 0 ∧ kind1 k c = 5 then 0 else 2

set_option maxRecDepth 100000 in
set_option maxHeartbeats 4000000 in
theorem reject_any (f : Facts) (k c : Nat) (w : World) (ho : f.Ok) (hs : SortsAt w) (hk : k < 256) :
    Calls Tryd.prog 35 #[f.val, .int .u8 k, .int .u8 c] w fun e w' => e = .returned (.tuple #[(f.rejectF k c).val, .int .i64 (f.rejectE k c)]) ∧ Below w.heap.size w w' := by
  have HR := Lib.hid (fun W h => right_all f W ho h)
  have HK := Lib.hid (fun (W : World) (h : SortsAt W) => kind_any k c W hk h)
  have Hs := Lib.hid hs
  have Hpost : ∀ b1 : Bool, f.right = b1 → ∀ b2 : Bool, (f.kind == 5) = b2 → ∀ b3 : Bool, (kind2 k c != 0) = b3 → ∀ b4 : Bool, (kind1 k c != 5) = b4 →
      f.rejectF k c = (if b1 = false then Facts.zero else if b2 then Facts.zero else if b3 = false ∧ b4 = false then f.rejectOk k c else Facts.zero) ∧ f.rejectE k c = (if b1 = false then 120 else if b2 then 6 else if b3 = false ∧ b4 = false then 0 else 2) := by
    rintro b1 rfl b2 rfl b3 rfl b4 rfl
    simp [Facts.rejectF, Facts.rejectE, bne]
  obtain ⟨b1, h1⟩ : ∃ b, f.right = b := ⟨_, rfl⟩
  obtain ⟨b2, h2⟩ : ∃ b, (f.kind == 5) = b := ⟨_, rfl⟩
  obtain ⟨b3, h3⟩ : ∃ b, (kind2 k c != 0) = b := ⟨_, rfl⟩
  obtain ⟨b4, h4⟩ : ∃ b, (kind1 k c != 5) = b := ⟨_, rfl⟩
  obtain ⟨hf, he⟩ := Hpost b1 h1 b2 h2 b3 h3 b4 h4
  rw [hf, he]
  rw [h1] at HR
  clear ho hs hk Hpost hf he h1
  generalize kind1 k c = e1 at *
  generalize kind2 k c = e2 at *
  obtain ⟨⟨k0, k1, k2, k3, k4⟩, kind, flags, type, code, seqn, ackn, window, length, ⟨q0, q1, q2, q3, q4⟩, qkind⟩ := f
  dsimp only [Facts.val, Facts.cells, Key.cells, List.cons_append, List.nil_append] at HR
  try dsimp only at h2
  have hV : (⟨⟨k0, k1, k2, k3, k4⟩, kind, flags, type, code, seqn, ackn, window, length, ⟨q0, q1, q2, q3, q4⟩, qkind⟩ : Facts).val = .agg #[.int .u8 k0, .int .u32 k1, .int .u32 k2, .int .u16 k3, .int .u16 k4, .int .u8 kind, .int .u8 flags, .int .u8 type, .int .u8 code, .int .u32 seqn, .int .u32 ackn, .int .i64 window, .int .i64 length, .int .u8 q0, .int .u32 q1, .int .u32 q2, .int .u16 q3, .int .u16 q4, .int .u8 qkind] := rfl
  rw [hV]
  clear hV
  cases b1
  · simp only [if_true]
    go_enter Tryd.func35, Tryd.ntmps35
    go_upto_region 1 with (fail)
    refine wp_name2 ?_
    intro w1 hb1 hs1 b0 bR
    have Hs1 := Lib.hid (Hs.out.below hb1 (Nat.le_refl _))
    go_upto_region 2 with (first | ((with_reducible refine look_load ?_); refine wpList_load_row rfl _ _ rfl _ rfl _ _ _ _ b0 Tryd.underlying27 rfl (by kernel_rfl) ?_) | (go_at_call 34; refine (HR.out _ Hs1.out).mono ?_; rintro e w2 ⟨rfl, l2⟩) | fail)
    have bR' := bR.below l2 bR.lt
    have hb2 := hb1.trans (l2.mono hb1.size)
    clear b0 bR l2 hb1 Hs1
    go_wp2_with (first | ((with_reducible refine look_store ?_); refine wpList_store_row rfl _ _ _ rfl _ _ rfl rfl _ _ bR' (by kernel_rfl) (by simp) (by simp [Value.oneCell']) ?_) | fail)
    exact bodyPost_ret (results_cell_tmp Tryd.results35 _ _ _ _ _ _ _ rfl (setRow_heap _ _ _ _ _ _ bR') Tryd.underlying27 rfl (by kernel_rfl)) rfl ⟨rfl, below_setRow hb2 (by omega) _⟩
  · simp only [Bool.true_eq_false, if_false]
    go_enter Tryd.func35, Tryd.ntmps35
    go_upto_region 1 with (fail)
    refine wp_name2 ?_
    intro w1 hb1 hs1 b0 bR
    have Hs1 := Lib.hid (Hs.out.below hb1 (Nat.le_refl _))
    go_upto_region 3 with (first | ((with_reducible refine look_load ?_); refine wpList_load_row rfl _ _ rfl _ rfl _ _ _ _ b0 Tryd.underlying27 rfl (by kernel_rfl) ?_) | (go_at_call 34; refine (HR.out _ Hs1.out).mono ?_; rintro e w2 ⟨rfl, l2⟩) | fail)
    have bR' := bR.below l2 bR.lt
    have b0' := b0.below l2 b0.lt
    have hb2 := hb1.trans (l2.mono hb1.size)
    have Hs2 := Lib.hid (Hs1.out.below l2 (Nat.le_refl _))
    clear b0 bR l2 hb1 Hs1
    have hc0 := b0'.cell
    cases b2
    · cases b3
      · cases b4
        · go_wp2_with (first | ((with_reducible refine look_store ?_); refine wpList_store_row rfl _ _ _ rfl _ _ rfl rfl _ _ bR' (by kernel_rfl) (by simp) (by simp [Value.oneCell']) ?_) | (go_at_call 68; refine (HK.out _ Hs2.out).mono ?_; rintro e wk ⟨rfl, rfl⟩) | fail)
          exact bodyPost_ret (results_cell_tmp Tryd.results35 _ _ _ _ _ _ _ rfl (setRow_heap _ _ _ _ _ _ bR') Tryd.underlying27 rfl (by kernel_rfl)) rfl ⟨rfl, below_setRow hb2 (by omega) _⟩
        · go_wp2_with (first | ((with_reducible refine look_store ?_); refine wpList_store_row rfl _ _ _ rfl _ _ rfl rfl _ _ bR' (by kernel_rfl) (by simp) (by simp [Value.oneCell']) ?_) | (go_at_call 68; refine (HK.out _ Hs2.out).mono ?_; rintro e wk ⟨rfl, rfl⟩) | fail)
          exact bodyPost_ret (results_cell_tmp Tryd.results35 _ _ _ _ _ _ _ rfl (setRow_heap _ _ _ _ _ _ bR') Tryd.underlying27 rfl (by kernel_rfl)) rfl ⟨rfl, below_setRow hb2 (by omega) _⟩
      · go_wp2_with (first | ((with_reducible refine look_store ?_); refine wpList_store_row rfl _ _ _ rfl _ _ rfl rfl _ _ bR' (by kernel_rfl) (by simp) (by simp [Value.oneCell']) ?_) | (go_at_call 68; refine (HK.out _ Hs2.out).mono ?_; rintro e wk ⟨rfl, rfl⟩) | fail)
        exact bodyPost_ret (results_cell_tmp Tryd.results35 _ _ _ _ _ _ _ rfl (setRow_heap _ _ _ _ _ _ bR') Tryd.underlying27 rfl (by kernel_rfl)) rfl ⟨rfl, below_setRow hb2 (by omega) _⟩
    · go_wp2_with (first | ((with_reducible refine look_store ?_); refine wpList_store_row rfl _ _ _ rfl _ _ rfl rfl _ _ bR' (by kernel_rfl) (by simp) (by simp [Value.oneCell']) ?_) | fail)
      exact bodyPost_ret (results_cell_tmp Tryd.results35 _ _ _ _ _ _ _ rfl (setRow_heap _ _ _ _ _ _ bR') Tryd.underlying27 rfl (by kernel_rfl)) rfl ⟨rfl, below_setRow hb2 (by omega) _⟩

end Go.Proofs.YtebeekjcepjcnaaDoor
namespace Go.Proofs.YtebeekjcepjcnaaDoor
open Go.RowKit Go.Shelf

def sLen : Value → Nat
  | .slice _ n _ => n
  | _ => 0
end Go.Proofs.YtebeekjcepjcnaaDoor
namespace Go.Proofs.YtebeekjcepjcnaaDoor
open Go.RowKit Go.Shelf

def SameE (w0 : World) (p q : Addr) (x : Value) (_ : Nat) (W : World) : Prop := Below w0.heap.size w0 W ∧ W.cell? p = some x ∧ W.cell? q = some x
set_option maxRecDepth 100000 in
set_option maxHeartbeats 1000000 in
theorem same_any (A B : Option Addr) (ca cb n : Nat) (xs : List Int) (w : World) (hn : xs.length = n) (hl : n ≤ 1000000) (hA : Rd w w.heap.size A .u8 xs) (hB : Rd w w.heap.size B .u8 xs) :
    Calls Tryd.prog 22 #[.slice A n ca, .slice B n cb] w fun e w' => e = .returned (.bool true) ∧ Below w.heap.size w w' := by
  have Hn := Lib.hid hn
  clear hn
  go_enter Tryd.func22, Tryd.ntmps22
  go_wp2_with fail
  go_loopw [5] (fun i wr => ∃ k : Nat, k ≤ n ∧ i = .int .i64 k ∧ Below w.heap.size w wr) (fun i _ => n - (intOf i).toNat)
  case atStart => exact ⟨0, by omega, rfl, Below.refl _ _⟩
  case round =>
    obtain ⟨k, hk, rfl, hbw⟩ := hrel
    by_cases hlt : k < n
    · obtain ⟨b1, o1, rfl, hb1, hc1⟩ := hA k (by rw [Hn.out]; exact hlt)
      obtain ⟨b2, o2, rfl, hb2, hc2⟩ := hB k (by rw [Hn.out]; exact hlt)
      have d1 : wr.cell? ⟨b1, o1 + k, none⟩ = some (.int .u8 (xs.getD k 0)) := (hbw.cell (p := ⟨b1, o1 + k, none⟩) hb1).trans hc1
      have d2 : wr.cell? ⟨b2, o2 + k, none⟩ = some (.int .u8 (xs.getD k 0)) := (hbw.cell (p := ⟨b2, o2 + k, none⟩) hb2).trans hc2
      generalize xs.getD k 0 = x at *
      have hE0 : SameE w ⟨b1, o1 + k, none⟩ ⟨b2, o2 + k, none⟩ (.int .u8 x) 0 wr.drew := ⟨hbw.drew, d1, d2⟩
      clear hc1 hc2 hA hB d1 d2 hb1 hb2
      go_wp2_with fail
      refine wp_region_walk0 (by kernel_rfl) (SameE w ⟨b1, o1 + k, none⟩ ⟨b2, o2 + k, none⟩ (.int .u8 x)) [] (fun _ _ => GTop w w) [0, 1, 2, 3, 4, 5, 6, 7, 8] (by kernel_rfl) hE0 ?_
      iterate 9
        apply Walk.one rfl rfl rfl
        case hrun =>
          intro c W hE hF
          have hca := hE.2.1
          have hcb := hE.2.2
          go_wp2_with fail
          exact TextPost.mk ⟨GTop.mk, hE⟩
        case hv => rfl
      refine Walk.done (fun W hE hF => ?_)
      have hbW := hE.1
      clear hE hF hE0
      go_wp2_with fail
      go_roundw
      case rel => exact ⟨k + 1, by omega, by go_num, hbW⟩
      case measure => simp [intOf]; omega
    · obtain rfl : k = n := by omega
      go_wp2_with fail
      go_ret
      exact ⟨rfl, hbw⟩

/-- The facts of the chapter's examples. -/
def exF : Facts := ⟨⟨6, 167772161, 167772162, 1024, 80⟩, 1, 2, 0, 0, 1, 0, 512, 0, Key.zero, 0⟩
set_option maxRecDepth 100000 in
set_option maxHeartbeats 1000000 in
theorem ex12_any (w : World) : Calls Tryd.prog 18 #[] w fun e w' => e = .returned exF.val ∧ Below w.heap.size w w' := by
  go_enter Tryd.func18, Tryd.ntmps18
  go_upto_region 1 with (fail)
  refine wp_name1 ?_
  intro w1 hb1 hs1 bR
  go_wp2_with (first | ((with_reducible refine look_store ?_); refine wpList_store_row rfl _ _ _ rfl _ _ rfl rfl _ _ bR (by kernel_rfl) (by simp) (by simp [Value.oneCell']) ?_) | fail)
  exact bodyPost_ret (results_cell_row Tryd.results18 _ _ _ _ _ _ _ rfl (setRow_heap _ _ _ _ _ _ bR) Tryd.underlying27 rfl (by kernel_rfl)) rfl ⟨rfl, below_setRow hb1 (by omega) _⟩

/-- The packet of the chapter's examples. -/
def exB : List Int := [69, 0, 0, 40, 0, 0, 0, 0, 64, 6, 102, 206, 10, 0, 0, 1, 10, 0, 0, 2, 4, 0, 0, 80, 0, 0, 0, 1, 0, 0, 0, 0, 80, 2, 2, 0, 149, 143, 0, 0]
set_option maxRecDepth 100000 in
set_option maxHeartbeats 1000000 in
theorem ex11_any (w : World) : Calls Tryd.prog 29 #[] w fun e w' => ∃ g, e = .returned (.slice (some ⟨g, 0, none⟩) 40 40) ∧ Own w' w.heap.size (.slice (some ⟨g, 0, none⟩) 40 40) exB ∧ Below w.heap.size w w' := by
  go_enter Tryd.func29, Tryd.ntmps29
  go_wp2_with fail
  go_ret
  exact ⟨_, rfl, own_lit w w.heap.size 40 exB _ rfl rfl (by simp [maxLen]) (Nat.le_refl _), (Below.refl _ _).alloc (Nat.le_refl _) _⟩

end Go.Proofs.YtebeekjcepjcnaaDoor

namespace Go.Proofs.YtebeekjcepjcnaaDoor
open Go.RowKit Go.Shelf

theorem facts_eqB_refl (f : Facts) : f.eqB f = true := Facts.eqB_iff.2 rfl
/-- What both make of facts. -/
def Facts.madeL (f : Facts) : List Int := if f.right then f.buildL else []
def Facts.madeE (f : Facts) : Int := if f.right then 0 else 120
theorem build_all (f : Facts) (w : World) (ho : f.Ok) (hs : SortsAt w) : Calls Tryd.prog 20 #[f.val] w fun e w' => ∃ A cap, e = .returned (.tuple #[.slice A f.madeL.length cap, .int .i64 f.madeE]) ∧ Own w' w.heap.size (.slice A f.madeL.length cap) f.madeL ∧ Below w.heap.size w w' := by
  unfold Facts.madeL Facts.madeE
  cases hr : f.right with
  | true =>
    refine (build_yes f w ho hr hs).mono ?_
    rintro e w' ⟨v, rfl, o, l⟩
    obtain ⟨A, cap, rfl, _⟩ := o.open_
    exact ⟨A, cap, rfl, o, l⟩
  | false =>
    refine (build_no f w ho hr hs).mono ?_
    rintro e w' ⟨rfl, l⟩
    exact ⟨none, 0, rfl, Own.nil_ _ _, l⟩
end Go.Proofs.YtebeekjcepjcnaaDoor
