/-
  The reference of layer 10: codes, Kind, Write.
  The references of layers 8 and 9: Sane, Extent, and both Writes. The reference of layer 9: Write. The reference of layer 8: Write, at a header that is right and has no options.
  icmp.word, Read, Answer.
  Package build: Answer.
  bafflekit.SameBytes at equal bytes; the examples of the chapters 11 and 12. bafflelaw12.tells: the program and the reference say the same of any facts.
  Facts as an argument: opened to data, and shut again; the table of package icmp, read off the heap as it was laid.
-/
import Derived.Test.YtebeekjcepjcnaaDoorProg
import Derived.WalkKit
import Derived.WalkSpells
import Derived.WalkLawsBesides
import Derived.WalkSmall
import Derived.Lib.Hide
import Derived.Deep.AppendLies
import Derived.Maps.AppendAt
import Derived.Laws.AppendOwnNone
import Derived.Laws.CopyOwn
import Derived.OneCell
import Derived.Lib.SliceRun
import Derived.RangeFuncNested
import Derived.RangeFuncBound
import Derived.RangeFuncCalls
import Derived.RangeFuncLeaves
import Derived.Shelf.Abstract
import Derived.OwnWalkIn
import Derived.TacticsInMore
import Derived.LoopNIn
import Derived.LoopIn
import Derived.Orders
import Derived.RegionTactic
import Derived.Still
import Derived.Deep.MidRow
import Derived.Deep.DeepCutAuto
import Derived.Lib.AppendZeros
import Derived.Deep.RegionLaw
import Derived.Deep.RegionHeld3
import Derived.BigRegion
import Derived.ChangeAlike
import Derived.MapKept
import Derived.Laws.StructEq
import Derived.Test.YtebeekjcepjcnaaDoorRows
import Derived.ProofKit
import Derived.LaidMore
import Derived.OpenShut
import Derived.Lay
import Derived.Deep.Strs
import Derived.Test.YtebeekjcepjcnaaDoorKBase
import Derived.Test.YtebeekjcepjcnaaDoorKWalk
import Derived.Test.YtebeekjcepjcnaaDoorKMem
import Derived.Test.YtebeekjcepjcnaaDoorKSum
import Derived.Test.YtebeekjcepjcnaaDoorKMaps
import Derived.Test.YtebeekjcepjcnaaDoorKEq
namespace Go.Proofs.YtebeekjcepjcnaaDoor
open Go.RowKit Go.Shelf

theorem codes_none {t : Nat} (h : t ≠ 0 ∧ t ≠ 3 ∧ t ≠ 4 ∧ t ≠ 5 ∧ t ≠ 8 ∧ t ≠ 11 ∧ t ≠ 12 ∧ t ≠ 13 ∧ t ≠ 14 ∧ t ≠ 17 ∧ t ≠ 18) : kindN t = 0 ∧ codesN t = 0 := by
  rcases Nat.lt_or_ge t 19 with hl | hl
  · have : ∀ x : Fin 19, (x.val ≠ 0 ∧ x.val ≠ 3 ∧ x.val ≠ 4 ∧ x.val ≠ 5 ∧ x.val ≠ 8 ∧ x.val ≠ 11 ∧ x.val ≠ 12 ∧ x.val ≠ 13 ∧ x.val ≠ 14 ∧ x.val ≠ 17 ∧ x.val ≠ 18) → kindN x.val = 0 ∧ codesN x.val = 0 := by decide
    exact this ⟨t, hl⟩ h
  · refine ⟨kindN_big hl, ?_⟩
    unfold codesN
    rw [List.getD_eq_getElem?_getD, List.getElem?_eq_none (by simpa using hl)]
    rfl
set_option maxHeartbeats 1000000 in
theorem rCodes_any (t : Nat) (w : World) : Calls Tryd.prog 123 #[.int .u8 t] w fun e w' => e = .returned (.tuple #[.int .u8 (codesN t), .int .u8 (kindN t)]) ∧ w = w' := by
  rcases (show t = 0 ∨ t = 3 ∨ t = 4 ∨ t = 5 ∨ t = 8 ∨ t = 11 ∨ t = 12 ∨ t = 13 ∨ t = 14 ∨ t = 17 ∨ t = 18 ∨ (t ≠ 0 ∧ t ≠ 3 ∧ t ≠ 4 ∧ t ≠ 5 ∧ t ≠ 8 ∧ t ≠ 11 ∧ t ≠ 12 ∧ t ≠ 13 ∧ t ≠ 14 ∧ t ≠ 17 ∧ t ≠ 18) by omega) with rfl | rfl | rfl | rfl | rfl | rfl | rfl | rfl | rfl | rfl | rfl | hn
  case inr.inr.inr.inr.inr.inr.inr.inr.inr.inr.inr =>
    obtain ⟨e1, e2⟩ := codes_none hn
    rw [e1, e2]
    obtain ⟨n0, n3, n4, n5, n8, n11, n12, n13, n14, n17, n18⟩ := hn
    have b0 : ((t : Int) == 0) = false := by simp; omega
    have b3 : ((t : Int) == 3) = false := by simp; omega
    have b4 : ((t : Int) == 4) = false := by simp; omega
    have b5 : ((t : Int) == 5) = false := by simp; omega
    have b8 : ((t : Int) == 8) = false := by simp; omega
    have b11 : ((t : Int) == 11) = false := by simp; omega
    have b12 : ((t : Int) == 12) = false := by simp; omega
    have b13 : ((t : Int) == 13) = false := by simp; omega
    have b14 : ((t : Int) == 14) = false := by simp; omega
    have b17 : ((t : Int) == 17) = false := by simp; omega
    have b18 : ((t : Int) == 18) = false := by simp; omega
    clear n0 n3 n4 n5 n8 n11 n12 n13 n14 n17 n18 e1 e2
    go_enter Tryd.func123, Tryd.ntmps123
    go_wp2_with fail
    go_ret2
    exact ⟨rfl, rfl⟩
  all_goals
    go_enter Tryd.func123, Tryd.ntmps123
    go_wp2_with fail
    go_ret2
    exact ⟨rfl, rfl⟩

set_option maxHeartbeats 1000000 in
theorem rKind_any (t c : Nat) (w : World) : Calls Tryd.prog 75 #[.int .u8 t, .int .u8 c] w fun e w' => e = .returned (.tuple #[.int .u8 (kind1 t c), .int .i64 (kind2 t c)]) ∧ w = w' := by
  have HC := Lib.hid (fun W => rCodes_any t W)
  by_cases h0 : kindN t = 0
  · have Hk := Lib.hid (show kind1 t c = 0 ∧ kind2 t c = 101 from ⟨if_pos h0, if_pos h0⟩)
    rw [Hk.out.1, Hk.out.2]
    have b : (kindN t == 0) = true := by simpa using h0
    clear h0
    generalize kindN t = K at *
    generalize codesN t = C at *
    go_enter Tryd.func75, Tryd.ntmps75
    go_wp2_with (go_at_call 123; refine (HC.out _).mono ?_; rintro e w' ⟨rfl, rfl⟩)
    go_ret2
    exact ⟨rfl, rfl⟩
  · have b : (kindN t == 0) = false := by simpa using h0
    by_cases h1 : codesN t < (c : Int)
    · have Hk := Lib.hid (show kind1 t c = 0 ∧ kind2 t c = 102 from ⟨by unfold kind1; rw [if_neg h0, if_pos h1], by unfold kind2; rw [if_neg h0, if_pos h1]⟩)
      rw [Hk.out.1, Hk.out.2]
      have b1 : decide (codesN t < (c : Int)) = true := by simpa using h1
      clear h0 h1
      generalize kindN t = K at *
      generalize codesN t = C at *
      go_enter Tryd.func75, Tryd.ntmps75
      go_wp2_with (go_at_call 123; refine (HC.out _).mono ?_; rintro e w' ⟨rfl, rfl⟩)
      go_ret2
      exact ⟨rfl, rfl⟩
    · have Hk := Lib.hid (show kind1 t c = kindN t ∧ kind2 t c = 0 from ⟨by unfold kind1; rw [if_neg h0, if_neg h1], by unfold kind2; rw [if_neg h0, if_neg h1]⟩)
      rw [Hk.out.1, Hk.out.2]
      have b1 : decide (codesN t < (c : Int)) = false := by simpa using h1
      clear h0 h1
      generalize kindN t = K at *
      generalize codesN t = C at *
      go_enter Tryd.func75, Tryd.ntmps75
      go_wp2_with (go_at_call 123; refine (HC.out _).mono ?_; rintro e w' ⟨rfl, rfl⟩)
      go_ret2
      exact ⟨rfl, rfl⟩
theorem rKindI_any (t c : Int) (w : World) (h0 : 0 ≤ t) (g0 : 0 ≤ c) : Calls Tryd.prog 75 #[.int .u8 t, .int .u8 c] w fun e w' => e = .returned (.tuple #[.int .u8 (kind1 t.toNat c.toNat), .int .i64 (kind2 t.toNat c.toNat)]) ∧ w = w' := by
  obtain ⟨n, rfl⟩ : ∃ n : Nat, t = n := ⟨t.toNat, by omega⟩
  obtain ⟨m, rfl⟩ : ∃ n : Nat, c = n := ⟨c.toNat, by omega⟩
  rw [Int.toNat_natCast, Int.toNat_natCast]
  exact rKind_any n m w

end Go.Proofs.YtebeekjcepjcnaaDoor
namespace Go.Proofs.YtebeekjcepjcnaaDoor
open Go.RowKit Go.Shelf

theorem saneB_bits (f : Nat) (h : f < 256) : saneB f = (if (f / 2 % 2 == 1) && (f / 4 % 2 == 1) || (f / 2 % 2 == 1) && (f % 2 == 1) || (f / 4 % 2 == 1) && (f % 2 == 1) then false else (f / 2 % 2 == 1) || (f / 4 % 2 == 1) || (f / 16 % 2 == 1)) := by
  have : ∀ x : Fin 256, saneB x.val = (if (x.val / 2 % 2 == 1) && (x.val / 4 % 2 == 1) || (x.val / 2 % 2 == 1) && (x.val % 2 == 1) || (x.val / 4 % 2 == 1) && (x.val % 2 == 1) then false else (x.val / 2 % 2 == 1) || (x.val / 4 % 2 == 1) || (x.val / 16 % 2 == 1)) := by decide +kernel
  exact this ⟨f, h⟩
theorem natbit (f k : Nat) : (((f : Int) / (k : Int) % 2) == 1) = (f / k % 2 == 1) := by
  rw [Bool.eq_iff_iff]
  simp only [beq_iff_eq]
  omega
set_option maxHeartbeats 1000000 in
theorem rSane_any (f : Nat) (w : World) (hf : f < 256) : Calls Tryd.prog 78 #[.int .u8 f] w fun e w' => e = .returned (.bool (saneB f)) ∧ w = w' := by
  rw [saneB_bits f hf]
  have h2 : (((f : Int) / 2 % 2) == 1) = (f / 2 % 2 == 1) := natbit f 2
  have h4 : (((f : Int) / 4 % 2) == 1) = (f / 4 % 2 == 1) := natbit f 4
  have h16 : (((f : Int) / 16 % 2) == 1) = (f / 16 % 2 == 1) := natbit f 16
  have h1 : (((f : Int) % 2) == 1) = (f % 2 == 1) := by
    rw [Bool.eq_iff_iff]
    simp only [beq_iff_eq]
    omega
  generalize (f / 2 % 2 == 1) = a2 at *
  generalize (f / 4 % 2 == 1) = a4 at *
  generalize (f / 16 % 2 == 1) = a16 at *
  generalize (f % 2 == 1) = a1 at *
  cases a1 <;> cases a2 <;> cases a4
  all_goals
    simp only [Bool.and_self, Bool.and_false, Bool.and_true, Bool.or_false, Bool.or_true, Bool.or_self, if_true, if_false, Bool.false_eq_true, Bool.true_or, Bool.false_or]
    go_enter Tryd.func78, Tryd.ntmps78
    go_wp2_with fail
    go_ret
    exact ⟨rfl, rfl⟩

end Go.Proofs.YtebeekjcepjcnaaDoor

namespace Go.Proofs.YtebeekjcepjcnaaDoor
open Go.RowKit Go.Shelf

end Go.Proofs.YtebeekjcepjcnaaDoor

namespace Go.Proofs.YtebeekjcepjcnaaDoor
open Go.RowKit Go.Shelf

end Go.Proofs.YtebeekjcepjcnaaDoor
namespace Go.Proofs.YtebeekjcepjcnaaDoor
open Go.RowKit

def w16 (a b : Int) : Int := 256 * a + b
theorem or_word (a b : Int) (a0 : 0 ≤ a) (a1 : a < 256) (b0 : 0 ≤ b) (b1 : b < 256) : bits .or .u16 (a * 256) b = w16 a b := or_u16_word a b a0 a1 b0 b1

set_option maxRecDepth 100000 in
set_option maxHeartbeats 1000000 in
theorem icmpWord_any (A : Option Addr) (cap n : Nat) (xs : List Int) (w : World) (hn : xs.length = n) (hl : 2 ≤ n) (hb : Byt xs) (hr : Rd w w.heap.size A .u8 xs) :
    Calls Tryd.prog 120 #[.slice A n cap] w fun e w' => e = .returned (.int .u16 (w16 (xs.getD 0 0) (xs.getD 1 0))) ∧ Below w.heap.size w w' := by
  obtain ⟨b, off, rfl, hbl, hc⟩ := hr.at0 (by omega)
  have c0 := hc 0 (by omega)
  have c1 := hc 1 (by omega)
  obtain ⟨x0, x1⟩ := hb.at_ 0
  obtain ⟨y0, y1⟩ := hb.at_ 1
  have ho := or_word (xs.getD 0 0) (xs.getD 1 0) x0 x1 y0 y1
  clear hr hc hn
  generalize w16 (xs.getD 0 0) (xs.getD 1 0) = R at *
  generalize xs.getD 0 0 = x at *
  generalize xs.getD 1 0 = y at *
  rw [Nat.add_zero] at c0
  go_enter Tryd.func120, Tryd.ntmps120
  go_wp2_with fail
  refine wp_region_walk0 (by kernel_rfl) (fun _ W => St w w.heap.size [] W) [] Grow [0, 1, 2, 3, 4, 5, 6, 7, 8, 9, 10] (by kernel_rfl) (St.nil (Below.refl _ w) (Nat.le_refl _)).drew ?_
  iterate 11
    apply Walk.one rfl rfl rfl
    case hrun =>
      intro c W hE hF
      have d0 := (hE.1.cell (p := ⟨b, off, none⟩) hbl).trans c0
      have d1 := (hE.1.cell (p := ⟨b, off + 1, none⟩) hbl).trans c1
      go_wp2_with fail
      exact TextPost.mk ⟨Grow.refl _, hE⟩
    case hv => rfl
  refine Walk.done (fun W hE hF => ?_)
  have hbW := hE.1
  clear hE hF
  go_wp2_with fail
  go_ret
  exact ⟨rfl, hbW⟩

theorem Rd.word {w : World} {B : Nat} {b off : Nat} {xs : List Int} (h : Rd w B (some ⟨b, off, none⟩) .u8 xs) (k : Nat) : Rd w B (some ⟨b, off + k, none⟩) .u8 (xs.drop k) :=
  h.drop k (fun _ b' off' e => by
    simp only [Option.some.injEq, Addr.mk.injEq, and_true] at e
    obtain ⟨rfl, rfl⟩ := e
    rfl)
theorem getD_drop0 (xs : List Int) (k j : Nat) : (xs.drop k).getD j 0 = xs.getD (k + j) 0 := by simp [List.getD_eq_getElem?_getD]

set_option maxRecDepth 100000 in
set_option maxHeartbeats 2000000 in
theorem icmpRead_any (A : Option Addr) (cap n : Nat) (xs : List Int) (w : World) (hn : xs.length = n) (hl : 8 ≤ n) (hcap : n ≤ cap) (hb : Byt xs) (hr : Rd w w.heap.size A .u8 xs) (hs : SortsAt w) (hk : kind2 (xs.getD 0 0).toNat (xs.getD 1 0).toNat = 0) :
    Calls Tryd.prog 65 #[.slice A n cap] w fun e w' => e = .returned (.tuple #[.agg #[.int .u8 (xs.getD 0 0), .int .u8 (xs.getD 1 0), .int .u16 (w16 (xs.getD 4 0) (xs.getD 5 0)), .int .u16 (w16 (xs.getD 6 0) (xs.getD 7 0))], .int .i64 0]) ∧ Below w.heap.size w w' := by
  obtain ⟨b, off, rfl, hbl, hc⟩ := hr.at0 (by omega)
  have c0 := hc 0 (by omega)
  have c1 := hc 1 (by omega)
  rw [Nat.add_zero] at c0
  obtain ⟨x0, x1⟩ := hb.at_ 0
  obtain ⟨y0, y1⟩ := hb.at_ 1
  have HK := Lib.hid (fun (W : World) (h : SortsAt W) => kindI_any (xs.getD 0 0) (xs.getD 1 0) W x0 x1 y0 h)
  rw [hk] at HK
  have H4 := Lib.hid (fun (W : World) (h : Rd W W.heap.size (some ⟨b, off, none⟩) .u8 xs) => icmpWord_any (some ⟨b, off + 4, none⟩) (cap - 4) (n - 4) (xs.drop 4) W (by simp [hn]) (by omega) (hb.drop 4) (h.word 4))
  have H6 := Lib.hid (fun (W : World) (h : Rd W W.heap.size (some ⟨b, off, none⟩) .u8 xs) => icmpWord_any (some ⟨b, off + 6, none⟩) (cap - 6) (n - 6) (xs.drop 6) W (by simp [hn]) (by omega) (hb.drop 6) (h.word 6))
  simp only [getD_drop0, Nat.reduceAdd] at H4 H6
  have Hr := Lib.hid hr
  have Hs := Lib.hid hs
  clear hr hc hn hb hs hk
  generalize w16 (xs.getD 4 0) (xs.getD 5 0) = v4 at *
  generalize w16 (xs.getD 6 0) (xs.getD 7 0) = v6 at *
  generalize kind1 (xs.getD 0 0).toNat (xs.getD 1 0).toNat = e1 at *
  generalize xs.getD 0 0 = x at *
  generalize xs.getD 1 0 = y at *
  have hd : decide ((n : Int) < 8) = false := by simp; omega
  go_enter Tryd.func65, Tryd.ntmps65
  go_wp2_with fail
  refine wp_name1 ?_
  intro w1 hb1 hs1 bR
  have hSt := (St.nil hb1 hb1.size).cons bR
  refine wp_region_walk0 (by kernel_rfl) (fun _ W => St w w.heap.size _ W) [] Grow [0, 1, 2, 3, 4, 5, 6, 7, 8, 9, 10, 11] (by kernel_rfl) hSt.drew ?_
  iterate 12
    apply Walk.one rfl rfl rfl
    case hrun =>
      intro c W hE hF
      have d0 := (hE.1.cell (p := ⟨b, off, none⟩) hbl).trans c0
      have d1 := (hE.1.cell (p := ⟨b, off + 1, none⟩) hbl).trans c1
      have Hs2 := Lib.hid (Hs.out.below hE.1 (Nat.le_refl _))
      go_wp2_with (first | (go_at_call 68; refine (HK.out _ Hs2.out).mono ?_; rintro e wk ⟨rfl, rfl⟩) | fail)
      exact TextPost.mk ⟨Grow.refl _, hE⟩
    case hv => rfl
  refine Walk.done (fun W hE hF => ?_)
  have bR2 := hE.get 0 rfl
  have hbW := hE.1
  clear hE hF hSt bR hb1 hs1
  go_wp2_with fail
  have hlt := bR2.lt
  have hSt2 : St1 w w.heap.size [] w.heap.size 84 _ #[.int .u8 x, .int .u8 y, .int .u16 v4, .int .u16 v6] 0 W := ⟨St.nil hbW hbW.size, Nat.le_refl _, by simp, bR2⟩
  refine wp_region_walk0 (by kernel_rfl) (St1 w w.heap.size [] w.heap.size 84 _ #[.int .u8 x, .int .u8 y, .int .u16 v4, .int .u16 v6]) [13] GTop [0, 1, 2, 3, 4, 5, 6, 7, 8, 9, 10, 11, 12, 13, 14] (by kernel_rfl) hSt2.drew ?_
  iterate 13
    apply Walk.one rfl rfl rfl
    case hrun =>
      intro c W2 hE hF
      have d0 := (hE.1.1.cell (p := ⟨b, off, none⟩) hbl).trans c0
      have d1 := (hE.1.1.cell (p := ⟨b, off + 1, none⟩) hbl).trans c1
      have Hr2 := Lib.hid ((Hr.out.below hE.1.1 (Nat.le_refl _)).more hE.1.1.size)
      go_wp2_with (first | ((with_reducible refine (H4.out _ Hr2.out).mono ?_); rintro e wk ⟨rfl, lk⟩) | ((with_reducible refine (H6.out _ Hr2.out).mono ?_); rintro e wk ⟨rfl, lk⟩) | fail)
      first
        | exact TextPost.mk ⟨GTop.mk, hE⟩
        | exact TextPost.mk ⟨GTop.mk, hE.below lk⟩
    case hv => rfl
  apply Walk.keep 0 rfl rfl rfl rfl
  case hrun =>
    intro W2 hE hF
    have hbR := hE.2.2.2
    refine wpList_store_row rfl _ _ _ rfl _ _ rfl rfl _ _ hbR (by kernel_rfl) (by simp) (by simp [Value.oneCell']) ?_
    go_wp2_with fail
    exact TextPost.mk ⟨GTop.mk, hE.put⟩
  case hv => rfl
  apply Walk.one rfl rfl rfl
  case hrun =>
    intro c W2 hE hF
    go_wp2_with fail
    exact TextPost.mk ⟨GTop.mk, hE⟩
  case hv => rfl
  refine Walk.done (fun W2 hE hF => ?_)
  have hbR := hE.2.2.2
  have hbW2 := hE.1.1
  clear hE hF hSt2
  go_wp2_with fail
  exact bodyPost_ret (results_cell_tmp Tryd.results65 _ _ _ _ _ _ _ rfl hbR Tryd.underlying84 rfl (by kernel_rfl)) rfl ⟨rfl, hbW2⟩

end Go.Proofs.YtebeekjcepjcnaaDoor
namespace Go.Proofs.YtebeekjcepjcnaaDoor
open Go.RowKit

/-- A block into which a region stores in a chain. -/
def StN (w : World) (B : Nat) (L : List (Nat × TypeId × Array Value)) (R : Nat) (t : TypeId) (cs : Nat → Array Value) (c : Nat) (W : World) : Prop := St w B L W ∧ B ≤ R ∧ (∀ x ∈ L, x.1 ≠ R) ∧ Blk W R t (cs c)
theorem StN.drew {w W : World} {B : Nat} {L : List (Nat × TypeId × Array Value)} {R : Nat} {t : TypeId} {cs : Nat → Array Value} {c : Nat} (h : StN w B L R t cs c W) : StN w B L R t cs c W.drew := ⟨h.1.drew, h.2.1, h.2.2.1, h.2.2.2.drew⟩
theorem StN.set {w W : World} {B : Nat} {L : List (Nat × TypeId × Array Value)} {R : Nat} {t : TypeId} {cs : Nat → Array Value} {c : Nat} (h : StN w B L R t cs c W) (i : Nat) (u : Value) (hc : (cs c).setIfInBounds i u = cs (c + 1)) : StN w B L R t cs (c + 1) (W.setCell ⟨R, i, none⟩ u) :=
  ⟨h.1.setFar (p := ⟨R, i, none⟩) h.2.1 h.2.2.1 u, h.2.1, h.2.2.1, by rw [← hc]; exact h.2.2.2.set i u⟩

end Go.Proofs.YtebeekjcepjcnaaDoor
namespace Go.Proofs.YtebeekjcepjcnaaDoor
open Go.RowKit Go.Shelf

end Go.Proofs.YtebeekjcepjcnaaDoor

namespace Go.Proofs.YtebeekjcepjcnaaDoor
open Go.RowKit Go.Shelf

theorem facts_eqB_refl (f : Facts) : f.eqB f = true := Facts.eqB_iff.2 rfl
theorem run_ne_facts (f : Facts) (W : World) : (binOp .neq 27 f.val f.val).run Tryd.prog W = .ok (.bool false) W := by
  have h := run_eq_facts f f W
  rw [facts_eqB_refl] at h
  unfold Facts.val at h ⊢
  rw [run_eql_struct] at h
  rw [run_neq_struct]
  cases hr : (Op.equalIn 10000 27 (.agg f.cells.toArray) (.agg f.cells.toArray)).run Tryd.prog W with
  | ok b w' =>
    rw [hr] at h
    simp only [Result.andThen_ok, Result.ok.injEq, Value.bool.injEq] at h
    obtain ⟨rfl, rfl⟩ := h
    rfl
  | halt x w' =>
    rw [hr] at h
    cases h
end Go.Proofs.YtebeekjcepjcnaaDoor
namespace Go.Proofs.YtebeekjcepjcnaaDoor
open Go.ChangeShapes Go.WideShapes Go.ChangeAt Go.RowKit

section
variable {H : Type} {enc : TypeId × Value → H} {w : World} {base : Nat} {spare : Nat → Bool} {held : Bool}
theorem wf_u8 {n : Int} : (Lit.int .u8 n).wf = true ↔ 0 ≤ n ∧ n < 256 := by simp [Lit.wf, IntKind.min, IntKind.max, IntKind.signed, IntKind.bits]; omega
theorem cOne8 : Tryd.prog.cellsOf 5 = 1 := by kernel_rfl
/-- One number among the cells. -/
theorem one_int {t : TypeId} {k : IntKind} {n off : Nat} {cs : List Value} {c : Value} {y : DataW H × List MemPlace} (ht : Tryd.prog.underlying t = some (.int k)) (hc : Tryd.prog.cellsOf t = 1) (h1 : (cs.drop off).take 1 = [c])
    (h : DataW.trod enc Tryd.prog w base spare held n t ((cs.drop off).take (Tryd.prog.cellsOf t)) = some y) : ∃ x, c = .int k x ∧ y = (.lit (.int k x), []) ∧ (Lit.int k x).wf = true := by
  rw [hc, h1] at h
  obtain ⟨x, e1, e2, e3⟩ := DataW.trod_int ht h
  simp only [List.cons.injEq, and_true] at e1
  exact ⟨x, e1, e2, e3⟩
end

theorem gSorts : Tryd.prog.globalNamed "baffle/icmp.sorts" = some 1 := by kernel_rfl
theorem tSorts : (Tryd.prog.globals[1]?).map (·.type) = some 189 := by kernel_rfl
theorem cSort : Tryd.prog.cellsOf 188 = 3 := by kernel_rfl
theorem nth_of_take {l : List Value} {a : Nat} {c : Value} (h : (l.drop a).take 1 = [c]) : l[a]? = some c := by
  have h2 : ((l.drop a).take 1)[0]? = some c := by rw [h]; rfl
  rwa [List.getElem?_take_of_lt (by omega), List.getElem?_drop, Nat.add_zero] at h2
theorem sorts_dat {H : Type} (k : Nat) (hk : k < 19) : ∃ l : List (DataW H), Rows.laid_baffle_icmp_sorts = .agg l ∧ l[k]? = some (.agg [.lit (.int .u8 (kindN k)), .lit (.int .u8 (codesN k)), .lit (.int .u8 (replyN k))]) := by
  refine ⟨_, rfl, ?_⟩
  rcases (show k = 0 ∨ k = 1 ∨ k = 2 ∨ k = 3 ∨ k = 4 ∨ k = 5 ∨ k = 6 ∨ k = 7 ∨ k = 8 ∨ k = 9 ∨ k = 10 ∨ k = 11 ∨ k = 12 ∨ k = 13 ∨ k = 14 ∨ k = 15 ∨ k = 16 ∨ k = 17 ∨ k = 18 by omega) with rfl | rfl | rfl | rfl | rfl | rfl | rfl | rfl | rfl | rfl | rfl | rfl | rfl | rfl | rfl | rfl | rfl | rfl | rfl <;> rfl
end Go.Proofs.YtebeekjcepjcnaaDoor
