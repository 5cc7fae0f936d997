/-
  icmp.word, Read, Answer.
-/
import Derived.WalkKit
import Derived.WalkSpells
import Derived.WalkLawsBesides
import Derived.WalkSmall
import Derived.Lib.Hide
import Derived.Deep.AppendLies
import Derived.Maps.AppendAt
import Derived.Laws.AppendOwnNone
import Derived.Laws.CopyOwn
import Derived.OneCell
import Derived.Orders
import Derived.RegionTactic
import Derived.Still
import Derived.Test.YtebeekjcepjcnaaDoorProg
import Derived.Deep.MidRow
import Derived.Lib.SliceRun
import Derived.RangeFuncNested
import Derived.RangeFuncBound
import Derived.RangeFuncCalls
import Derived.RangeFuncLeaves
import Derived.Shelf.Abstract
import Derived.OwnWalkIn
import Derived.TacticsInMore
import Derived.LoopNIn
import Derived.LoopIn
import Derived.Lib.AppendZeros
import Derived.Deep.RegionLaw
import Derived.Deep.RegionHeld3
import Derived.Deep.DeepCutAuto
import Derived.BigRegion
import Derived.ChangeAlike
import Derived.MapKept
import Derived.Test.YtebeekjcepjcnaaDoorWBase
import Derived.Test.YtebeekjcepjcnaaDoorWBits
import Derived.Test.YtebeekjcepjcnaaDoorWCsum
import Derived.Test.YtebeekjcepjcnaaDoorWSum
import Derived.Test.YtebeekjcepjcnaaDoorWConcat
import Derived.Test.YtebeekjcepjcnaaDoorWFix
import Derived.Test.YtebeekjcepjcnaaDoorWFacts
import Derived.Test.YtebeekjcepjcnaaDoorWIpw
import Derived.Test.YtebeekjcepjcnaaDoorWRegion
import Derived.Test.YtebeekjcepjcnaaDoorWWalk
import Derived.Test.YtebeekjcepjcnaaDoorWStep
import Derived.Test.YtebeekjcepjcnaaDoorWTcpw
import Derived.Test.YtebeekjcepjcnaaDoorWUdpw
import Derived.Test.YtebeekjcepjcnaaDoorWData
import Derived.Test.YtebeekjcepjcnaaDoorWMaps
import Derived.Test.YtebeekjcepjcnaaDoorWQuoted
import Derived.Test.YtebeekjcepjcnaaDoorWBuilda
import Derived.Test.YtebeekjcepjcnaaDoorWRerr
namespace Go.Proofs.YtebeekjcepjcnaaDoor
open Go.RowKit

def w16 (a b : Int) : Int := 256 * a + b
theorem or_word (a b : Int) (a0 : 0 ≤ a) (a1 : a < 256) (b0 : 0 ≤ b) (b1 : b < 256) : bits .or .u16 (a * 256) b = w16 a b := or_u16_word a b a0 a1 b0 b1

set_option maxRecDepth 100000 in
set_option maxHeartbeats 1000000 in
theorem icmpWord_any (A : Option Addr) (cap n : Nat) (xs : List Int) (w : World) (hn : xs.length = n) (hl : 2 ≤ n) (hb : Byt xs) (hr : Rd w w.heap.size A .u8 xs) :
    Calls Tryd.prog 120 #[.slice A n cap] w fun e w' => e = .returned (.int .u16 (w16 (xs.getD 0 0) (xs.getD 1 0))) ∧ Below w.heap.size w w' := by
  obtain ⟨b, off, rfl, hbl, hc⟩ := hr.at0 (by omega)
  have c0 := hc 0 (by omega)
  have c1 := hc 1 (by omega)
  obtain ⟨x0, x1⟩ := hb.at_ 0
  obtain ⟨y0, y1⟩ := hb.at_ 1
  have ho := or_word (xs.getD 0 0) (xs.getD 1 0) x0 x1 y0 y1
  clear hr hc hn
  generalize w16 (xs.getD 0 0) (xs.getD 1 0) = R at *
  generalize xs.getD 0 0 = x at *
  generalize xs.getD 1 0 = y at *
  rw [Nat.add_zero] at c0
  go_enter Tryd.func120, Tryd.ntmps120
  go_wp2_with fail
  refine wp_region_walk0 (by kernel_rfl) (fun _ W => St w w.heap.size [] W) [] Grow [0, 1, 2, 3, 4, 5, 6, 7, 8, 9, 10] (by kernel_rfl) (St.nil (Below.refl _ w) (Nat.le_refl _)).drew ?_
  iterate 11
    apply Walk.one rfl rfl rfl
    case hrun =>
      intro c W hE hF
      have d0 := (hE.1.cell (p := ⟨b, off, none⟩) hbl).trans c0
      have d1 := (hE.1.cell (p := ⟨b, off + 1, none⟩) hbl).trans c1
      go_wp2_with fail
      exact TextPost.mk ⟨Grow.refl _, hE⟩
    case hv => rfl
  refine Walk.done (fun W hE hF => ?_)
  have hbW := hE.1
  clear hE hF
  go_wp2_with fail
  go_ret
  exact ⟨rfl, hbW⟩

theorem Rd.word {w : World} {B : Nat} {b off : Nat} {xs : List Int} (h : Rd w B (some ⟨b, off, none⟩) .u8 xs) (k : Nat) : Rd w B (some ⟨b, off + k, none⟩) .u8 (xs.drop k) :=
  h.drop k (fun _ b' off' e => by
    simp only [Option.some.injEq, Addr.mk.injEq, and_true] at e
    obtain ⟨rfl, rfl⟩ := e
    rfl)
theorem getD_drop0 (xs : List Int) (k j : Nat) : (xs.drop k).getD j 0 = xs.getD (k + j) 0 := by simp [List.getD_eq_getElem?_getD]

set_option maxRecDepth 100000 in
set_option maxHeartbeats 2000000 in
theorem icmpRead_any (A : Option Addr) (cap n : Nat) (xs : List Int) (w : World) (hn : xs.length = n) (hl : 8 ≤ n) (hcap : n ≤ cap) (hb : Byt xs) (hr : Rd w w.heap.size A .u8 xs) (hs : SortsAt w) (hk : kind2 (xs.getD 0 0).toNat (xs.getD 1 0).toNat = 0) :
    Calls Tryd.prog 65 #[.slice A n cap] w fun e w' => e = .returned (.tuple #[.agg #[.int .u8 (xs.getD 0 0), .int .u8 (xs.getD 1 0), .int .u16 (w16 (xs.getD 4 0) (xs.getD 5 0)), .int .u16 (w16 (xs.getD 6 0) (xs.getD 7 0))], .int .i64 0]) ∧ Below w.heap.size w w' := by
  obtain ⟨b, off, rfl, hbl, hc⟩ := hr.at0 (by omega)
  have c0 := hc 0 (by omega)
  have c1 := hc 1 (by omega)
  rw [Nat.add_zero] at c0
  obtain ⟨x0, x1⟩ := hb.at_ 0
  obtain ⟨y0, y1⟩ := hb.at_ 1
  have HK := Lib.hid (fun (W : World) (h : SortsAt W) => kindI_any (xs.getD 0 0) (xs.getD 1 0) W x0 x1 y0 h)
  rw [hk] at HK
  have H4 := Lib.hid (fun (W : World) (h : Rd W W.heap.size (some ⟨b, off, none⟩) .u8 xs) => icmpWord_any (some ⟨b, off + 4, none⟩) (cap - 4) (n - 4) (xs.drop 4) W (by simp [hn]) (by omega) (hb.drop 4) (h.word 4))
  have H6 := Lib.hid (fun (W : World) (h : Rd W W.heap.size (some ⟨b, off, none⟩) .u8 xs) => icmpWord_any (some ⟨b, off + 6, none⟩) (cap - 6) (n - 6) (xs.drop 6) W (by simp [hn]) (by omega) (hb.drop 6) (h.word 6))
  simp only [getD_drop0, Nat.reduceAdd] at H4 H6
  have Hr := Lib.hid hr
  have Hs := Lib.hid hs
  clear hr hc hn hb hs hk
  generalize w16 (xs.getD 4 0) (xs.getD 5 0) = v4 at *
  generalize w16 (xs.getD 6 0) (xs.getD 7 0) = v6 at *
  generalize kind1 (xs.getD 0 0).toNat (xs.getD 1 0).toNat = e1 at *
  generalize xs.getD 0 0 = x at *
  generalize xs.getD 1 0 = y at *
  have hd : decide ((n : Int) < 8) = false := by simp; omega
  go_enter Tryd.func65, Tryd.ntmps65
  go_wp2_with fail
  refine wp_name1 ?_
  intro w1 hb1 hs1 bR
  have hSt := (St.nil hb1 hb1.size).cons bR
  refine wp_region_walk0 (by kernel_rfl) (fun _ W => St w w.heap.size _ W) [] Grow [0, 1, 2, 3, 4, 5, 6, 7, 8, 9, 10, 11] (by kernel_rfl) hSt.drew ?_
  iterate 12
    apply Walk.one rfl rfl rfl
    case hrun =>
      intro c W hE hF
      have d0 := (hE.1.cell (p := ⟨b, off, none⟩) hbl).trans c0
      have d1 := (hE.1.cell (p := ⟨b, off + 1, none⟩) hbl).trans c1
      have Hs2 := Lib.hid (Hs.out.below hE.1 (Nat.le_refl _))
      go_wp2_with (first | (go_at_call 68; refine (HK.out _ Hs2.out).mono ?_; rintro e wk ⟨rfl, rfl⟩) | fail)
      exact TextPost.mk ⟨Grow.refl _, hE⟩
    case hv => rfl
  refine Walk.done (fun W hE hF => ?_)
  have bR2 := hE.get 0 rfl
  have hbW := hE.1
  clear hE hF hSt bR hb1 hs1
  go_wp2_with fail
  have hlt := bR2.lt
  have hSt2 : St1 w w.heap.size [] w.heap.size 84 _ #[.int .u8 x, .int .u8 y, .int .u16 v4, .int .u16 v6] 0 W := ⟨St.nil hbW hbW.size, Nat.le_refl _, by simp, bR2⟩
  refine wp_region_walk0 (by kernel_rfl) (St1 w w.heap.size [] w.heap.size 84 _ #[.int .u8 x, .int .u8 y, .int .u16 v4, .int .u16 v6]) [13] GTop [0, 1, 2, 3, 4, 5, 6, 7, 8, 9, 10, 11, 12, 13, 14] (by kernel_rfl) hSt2.drew ?_
  iterate 13
    apply Walk.one rfl rfl rfl
    case hrun =>
      intro c W2 hE hF
      have d0 := (hE.1.1.cell (p := ⟨b, off, none⟩) hbl).trans c0
      have d1 := (hE.1.1.cell (p := ⟨b, off + 1, none⟩) hbl).trans c1
      have Hr2 := Lib.hid ((Hr.out.below hE.1.1 (Nat.le_refl _)).more hE.1.1.size)
      go_wp2_with (first | ((with_reducible refine (H4.out _ Hr2.out).mono ?_); rintro e wk ⟨rfl, lk⟩) | ((with_reducible refine (H6.out _ Hr2.out).mono ?_); rintro e wk ⟨rfl, lk⟩) | fail)
      first
        | exact TextPost.mk ⟨GTop.mk, hE⟩
        | exact TextPost.mk ⟨GTop.mk, hE.below lk⟩
    case hv => rfl
  apply Walk.keep 0 rfl rfl rfl rfl
  case hrun =>
    intro W2 hE hF
    have hbR := hE.2.2.2
    refine wpList_store_row rfl _ _ _ rfl _ _ rfl rfl _ _ hbR (by kernel_rfl) (by simp) (by simp [Value.oneCell']) ?_
    go_wp2_with fail
    exact TextPost.mk ⟨GTop.mk, hE.put⟩
  case hv => rfl
  apply Walk.one rfl rfl rfl
  case hrun =>
    intro c W2 hE hF
    go_wp2_with fail
    exact TextPost.mk ⟨GTop.mk, hE⟩
  case hv => rfl
  refine Walk.done (fun W2 hE hF => ?_)
  have hbR := hE.2.2.2
  have hbW2 := hE.1.1
  clear hE hF hSt2
  go_wp2_with fail
  exact bodyPost_ret (results_cell_tmp Tryd.results65 _ _ _ _ _ _ _ rfl hbR Tryd.underlying84 rfl (by kernel_rfl)) rfl ⟨rfl, hbW2⟩

set_option maxRecDepth 100000 in
set_option maxHeartbeats 2000000 in
theorem icmpAnswer_any (A : Option Addr) (cap n : Nat) (xs : List Int) (w : World) (hn : xs.length = n) (hl : 8 ≤ n) (hl2 : n ≤ 1000000) (hcap : n ≤ cap) (hb : Byt xs) (hr : Rd w w.heap.size A .u8 xs) (hs : SortsAt w) (hk : kind2 (xs.getD 0 0).toNat (xs.getD 1 0).toNat = 0) (hq : kindN (xs.getD 0 0).toNat = 3) :
    Calls Tryd.prog 64 #[.slice A n cap] w fun e w' => ∃ v, e = .returned (.tuple #[v, .int .i64 0]) ∧ Own w' w.heap.size v (fixL (xs.set 0 (replyN (xs.getD 0 0).toNat)) 2) ∧ Below w.heap.size w w' := by
  have HRd := Lib.hid (icmpRead_any A cap n xs w hn hl hcap hb hr hs hk)
  have HC := Lib.hid (fun (W : World) (h : Rd W W.heap.size A .u8 xs) => clone_any A cap xs W h (by omega))
  rw [hn] at HC
  obtain ⟨b, off, rfl, hbl, hc⟩ := hr.at0 (by omega)
  have c0 := hc 0 (by omega)
  rw [Nat.add_zero] at c0
  obtain ⟨x0, x1⟩ := hb.at_ 0
  have Hr := Lib.hid hr
  have Hs := Lib.hid hs
  have Hn := Lib.hid hn
  have ht19 : (xs.getD 0 0).toNat < 19 := by
    rcases Nat.lt_or_ge (xs.getD 0 0).toNat 19 with h | h
    · exact h
    · rw [kindN_big h] at hq; cases hq
  have hrb : 0 ≤ replyN (xs.getD 0 0).toNat ∧ replyN (xs.getD 0 0).toNat < 256 := by
    have : ∀ k : Fin 19, 0 ≤ replyN k ∧ replyN k < 256 := by decide
    exact this ⟨_, ht19⟩
  have Hyb := Lib.hid (hb.set 0 hrb.1 hrb.2)
  have hsk := fun (W : World) (h : SortsAt W) => h _ ht19
  rw [hq] at hsk
  have Hsk := Lib.hid hsk
  clear hr hc hn hs hk hq hb hsk
  generalize w16 (xs.getD 4 0) (xs.getD 5 0) = v4 at *
  generalize w16 (xs.getD 6 0) (xs.getD 7 0) = v6 at *
  generalize xs.getD 1 0 = y at *
  generalize xs.getD 0 0 = x at *
  obtain ⟨t, rfl⟩ : ∃ t : Nat, x = t := ⟨x.toNat, by omega⟩
  rw [Int.toNat_natCast] at *
  generalize replyN t = rep at *
  go_enter Tryd.func64, Tryd.ntmps64
  go_wp2_with fail
  refine HRd.out.mono ?_
  rintro e w1 ⟨rfl, l1⟩
  have hsz1 := l1.size
  go_upto_region 4 with (first | ((with_reducible refine look_store ?_); refine wpList_store_new rfl _ _ _ rfl _ _ rfl rfl _ _ rfl (by kernel_rfl) (by simp) (by simp [Value.oneCell']) ?_) | fail)
  refine wp_name1 ?_
  intro w2 hb2 hs2 bm
  have hbw := l1.trans (hb2.mono hsz1)
  have d0 := (hbw.cell (p := ⟨b, off, none⟩) hbl).trans c0
  obtain ⟨s0, s1, s2⟩ := Hsk.out w2 (Hs.out.below hbw (Nat.le_refl _))
  have Hr2 := Lib.hid ((Hr.out.below hbw (Nat.le_refl _)).more hbw.size)
  go_wp2_with fail
  refine (HC.out _ Hr2.out).mono ?_
  rintro e w3 ⟨v3, rfl, o3, l3⟩
  obtain ⟨g, cap', rfl, hg0, hg1, _, _⟩ := o3.form (by rw [Hn.out]; omega)
  have hb3 := hbw.trans (l3.mono hbw.size)
  have d0' := (hb3.cell (p := ⟨b, off, none⟩) hbl).trans c0
  obtain ⟨s0', s1', s2'⟩ := Hsk.out w3 (Hs.out.below hb3 (Nat.le_refl _))
  have cg : w3.cell? ⟨g, 0, none⟩ = some (.int .u8 (xs.getD 0 0)) := o3.cell 0 (by rw [Hn.out]; omega)
  have fg : w3.frozen? ⟨g, 0, none⟩ = false := o3.free 0
  have Ho := Lib.hid (o3.set 0 rep)
  have hln := Hn.out
  have Hl3 := Lib.hid (show (xs.set 0 rep).length = n by simp [hln])
  rw [hln] at Ho
  clear hln o3 s0 s1 s2 d0 l3 hb2
  generalize xs.getD 0 0 = zz at *
  rw [Hn.out]
  go_wp2_with fail
  have hfx := fix_any (some ⟨g, 0, none⟩) cap' (xs.set 0 rep) 2 _ Hyb.out (by rw [Hl3.out]; exact hl2) Ho.out.rd (by omega) (by rw [Hl3.out]; omega)
  rw [Hl3.out] at hfx
  refine hfx.mono ?_
  rintro e w4 ⟨v, rfl, o4, l4⟩
  have hb4 : Below w.heap.size w (w3.setCell ⟨g, 0, none⟩ (.int .u8 rep)) := hb3.setCell (p := ⟨g, 0, none⟩) (by have := hbw.size; show w.heap.size ≤ g; omega) _
  have hz4 := hb4.size
  go_wp2_with fail
  go_ret2
  exact ⟨v, rfl, o4.base_le hz4, hb4.trans (l4.mono hz4)⟩

end Go.Proofs.YtebeekjcepjcnaaDoor
