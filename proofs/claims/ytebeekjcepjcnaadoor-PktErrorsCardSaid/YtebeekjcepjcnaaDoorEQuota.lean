/-
  icmp.Quote: its four tests.
  icmp.Quote: the relation of its loop.
-/
import Derived.Test.YtebeekjcepjcnaaDoorProg
import Derived.WalkKit
import Derived.WalkSpells
import Derived.WalkLawsBesides
import Derived.WalkSmall
import Derived.Lib.Hide
import Derived.Deep.AppendLies
import Derived.Maps.AppendAt
import Derived.Laws.AppendOwnNone
import Derived.Laws.CopyOwn
import Derived.OneCell
import Derived.Lib.SliceRun
import Derived.RangeFuncNested
import Derived.RangeFuncBound
import Derived.RangeFuncCalls
import Derived.RangeFuncLeaves
import Derived.Shelf.Abstract
import Derived.OwnWalkIn
import Derived.TacticsInMore
import Derived.LoopNIn
import Derived.LoopIn
import Derived.Lib.AppendZeros
import Derived.BigRegion
import Derived.ChangeAlike
import Derived.Deep.RegionLaw
import Derived.Deep.DeepCutAuto
import Derived.Orders
import Derived.RegionTactic
import Derived.Still
import Derived.Deep.MidRow
import Derived.Deep.RegionHeld3
import Derived.MapKept
import Derived.Test.YtebeekjcepjcnaaDoorEBase
import Derived.Test.YtebeekjcepjcnaaDoorEBits
import Derived.Test.YtebeekjcepjcnaaDoorECsum
import Derived.Test.YtebeekjcepjcnaaDoorESum
import Derived.Test.YtebeekjcepjcnaaDoorEConcat
import Derived.Test.YtebeekjcepjcnaaDoorEFix
import Derived.Test.YtebeekjcepjcnaaDoorEFacts
import Derived.Test.YtebeekjcepjcnaaDoorEPkt
import Derived.Test.YtebeekjcepjcnaaDoorERegion
import Derived.Test.YtebeekjcepjcnaaDoorEWalk
import Derived.Test.YtebeekjcepjcnaaDoorEStep
import Derived.Test.YtebeekjcepjcnaaDoorETcpw
import Derived.Test.YtebeekjcepjcnaaDoorEUdpw
import Derived.Test.YtebeekjcepjcnaaDoorEData
import Derived.Test.YtebeekjcepjcnaaDoorEIprd
import Derived.Test.YtebeekjcepjcnaaDoorEIpre
import Derived.Test.YtebeekjcepjcnaaDoorETcprd
import Derived.Test.YtebeekjcepjcnaaDoorEIcmprd
namespace Go.Proofs.YtebeekjcepjcnaaDoor
open Go.RowKit
theorem w16_at (xs : List Int) (k : Nat) : w16 ((xs.drop k).getD 0 0) ((xs.drop k).getD 1 0) = w16At xs k := by
  simp [w16, w16At, List.getD_eq_getElem?_getD]
/-- icmp.word at a place of what is quoted. -/
theorem quoWord_any (b off cap n k : Nat) (xs : List Int) (w : World) (hn : xs.length = n) (hk : k + 2 ≤ n) (hB : Byt xs) (hr : Rd w w.heap.size (some ⟨b, off, none⟩) .u8 xs) :
    Calls Tryd.prog 120 #[.slice (some ⟨b, off + k, none⟩) (n - k) cap] w fun e w' => e = .returned (.int .u16 (w16At xs k)) ∧ Below w.heap.size w w' := by
  rw [← w16_at]
  refine icmpWord_any _ cap (n - k) (xs.drop k) w (by rw [List.length_drop, hn]) (by omega) (hB.drop k) (hr.drop k fun _ b2 o2 h => ?_)
  simp only [Option.some.injEq, Addr.mk.injEq] at h
  obtain ⟨rfl, rfl, _⟩ := h
  rfl
section
variable (A : Option Addr) (cap n : Nat) (xs : List Int) (w : World) (gb gs : Nat)
set_option maxRecDepth 100000 in
theorem quote1_any (hn : xs.length = n) (hB : Byt xs) (hb : Blk w gb 34 #[.slice A n cap]) (hr : Rd w w.heap.size A .u8 xs) : Calls Tryd.prog 151 #[.pointer (some ⟨gb, 0, none⟩)] w fun e w' => e = .returned (.bool (quoT xs 0)) ∧ Below w.heap.size w w' := by
  have hc := hb.cell 0
  by_cases h : n < 20
  · have Hg := Lib.hid (show quoT xs 0 = true by simp only [quoT]; rw [hn, decide_eq_true h, Bool.true_or])
    rw [Hg.out]
    have g1 : decide ((n : Int) < 20) = true := decide_eq_true (by omega)
    clear hn h Hg
    go_enter Tryd.func151, Tryd.ntmps151
    go_wp2_with fail
    go_ret
    exact ⟨rfl, Below.refl _ _⟩
  · have Hg := Lib.hid (show quoT xs 0 = (xs.getD 0 0 / 16 != 4) by simp only [quoT]; rw [hn, decide_eq_false h, Bool.false_or])
    rw [Hg.out]
    have g1 : decide ((n : Int) < 20) = false := decide_eq_false (by omega)
    obtain ⟨b, off, rfl, hbl, hcc⟩ := hr.at0 (by omega)
    have c0 := hcc 0 (by omega)
    rw [Nat.add_zero] at c0
    have hi : (0 : Int) < n := by omega
    obtain ⟨x0, x1⟩ := hB.at_ 0
    clear hn h Hg hcc hr hB
    generalize xs.getD 0 0 = x at *
    go_enter Tryd.func151, Tryd.ntmps151
    go_wp2_with fail
    go_ret
    exact ⟨rfl, Below.refl _ _⟩
set_option maxRecDepth 100000 in
theorem quote2_any (hn : xs.length = n) (h0 : 0 < n) (hl : n ≤ 1000000) (hB : Byt xs) (hb : Blk w gb 34 #[.slice A n cap]) (s : Value) (hs : Blk w gs 3 #[s]) (hne : gb ≠ gs) (hr : Rd w w.heap.size A .u8 xs) : Calls Tryd.prog 152 #[.pointer (some ⟨gb, 0, none⟩), .pointer (some ⟨gs, 0, none⟩)] w fun e w' => e = .returned (.bool (quoT xs 1)) ∧ Blk w' gs 3 #[.int .i64 (ipSize xs)] ∧ w.grownBy w' (some gs) := by
  have hc := hb.cell 0
  have hsc := hs.cell 0
  have hsf := hs.frozen 0
  obtain ⟨b, off, rfl, hbl, hcc⟩ := hr.at0 (by omega)
  have c0 := hcc 0 (by omega)
  rw [Nat.add_zero] at c0
  obtain ⟨x0, x1⟩ := hB.at_ 0
  have ha := and_u8_15 (xs.getD 0 0) x0 x1
  have Hs := Lib.hid (show (ipSize xs : Int) = 4 * (xs.getD 0 0 % 16) by unfold ipSize; omega)
  have Hg := Lib.hid (show quoT xs 1 = (decide (4 * (xs.getD 0 0 % 16) < 20) || decide ((n : Int) < 4 * (xs.getD 0 0 % 16) + 8)) by
    simp only [quoT]; rw [hn, ← Hs.out, Bool.eq_iff_iff]; simp; omega)
  rw [Hg.out, Hs.out]
  clear hcc hr hB hn
  generalize xs.getD 0 0 = x at *
  have hi : (0 : Int) < n := by omega
  obtain ⟨y0, y1⟩ : 0 ≤ x % 16 ∧ x % 16 < 16 := by omega
  have hq := Lib.hid (hs.set 0 (.int .i64 (4 * (x % 16))))
  have hG := Lib.hid (only_setCell (grown_of_below (row := some gs) (Below.refl _ w)) (p := ⟨gs, 0, none⟩) (.inl rfl) (.int .i64 (4 * (x % 16))))
  clear x0 x1 Hg Hs hs hb
  have ha2 := Lib.hid ha
  clear ha
  have ha := ha2.out
  clear ha2
  generalize x % 16 = y at *
  by_cases g : 4 * y < 20
  · have g1 : decide (4 * y < 20) = true := decide_eq_true g
    rw [g1, Bool.true_or]
    go_enter Tryd.func152, Tryd.ntmps152
    go_wp2_with fail
    go_ret
    exact ⟨rfl, hq.out, hG.out⟩
  · have g1 : decide (4 * y < 20) = false := decide_eq_false g
    rw [g1, Bool.false_or]
    go_enter Tryd.func152, Tryd.ntmps152
    go_wp2_with fail
    go_ret
    exact ⟨rfl, hq.out, hG.out⟩
set_option maxRecDepth 100000 in
theorem quote4_any (hn : xs.length = n) (h8 : 8 ≤ n) (hcap : n ≤ cap) (hB : Byt xs) (hb : Blk w gb 34 #[.slice A n cap]) (hr : Rd w w.heap.size A .u8 xs) : Calls Tryd.prog 154 #[.pointer (some ⟨gb, 0, none⟩)] w fun e w' => e = .returned (.bool (quoT xs 3)) ∧ Below w.heap.size w w' := by
  have hc := hb.cell 0
  obtain ⟨b, off, rfl, hbl, hcc⟩ := hr.at0 (by omega)
  have H := Lib.hid (quoWord_any b off (cap - 6) n 6 xs w hn (by omega) hB hr)
  obtain ⟨x0, x1⟩ := w16At_bd hB 6
  have ha := andNot_u16_24576 (w16At xs 6) x0 x1
  simp only [quoT, Bool.not_and]
  clear hr hB hn hcc
  generalize w16At xs 6 = x at *
  have hc6 : cap ≠ 6 := by omega
  have i1 : (6 : Int) ≤ n := by omega
  have i2 : (n : Int) ≤ cap := by omega
  go_enter Tryd.func154, Tryd.ntmps154
  go_wp2_with fail
  refine H.out.mono ?_
  rintro e w1 ⟨rfl, l1⟩
  go_wp2_with fail
  go_ret
  exact ⟨rfl, l1⟩
end
set_option maxRecDepth 100000 in
set_option maxHeartbeats 1000000 in
theorem quote3_any (A : Option Addr) (cap n : Nat) (xs : List Int) (w : World) (gb gs sz : Nat) (hn : xs.length = n) (hl : n ≤ 1000000) (hcap : n ≤ cap) (hB : Byt xs) (hb : Blk w gb 34 #[.slice A n cap]) (hsz : ipSize xs = sz) (hs : Blk w gs 3 #[.int .i64 sz]) (h20 : 20 ≤ sz) (h8 : sz + 8 ≤ n) (hr : Rd w w.heap.size A .u8 xs) :
    Calls Tryd.prog 153 #[.pointer (some ⟨gb, 0, none⟩), .pointer (some ⟨gs, 0, none⟩)] w fun e w' => e = .returned (.bool (quoT xs 2)) ∧ Below w.heap.size w w' := by
  have hlen : (xs.take sz).length = sz := by rw [List.length_take]; omega
  obtain ⟨b, off, rfl, hbl, _⟩ := hr.at0 (by omega)
  have HR := Lib.hid (fun (W : World) (h : Below w.heap.size w W) (hz : w.heap.size ≤ W.heap.size) => right_any (some ⟨b, off, none⟩) cap (xs.take sz) W (hB.take sz) (by omega) (((hr.take sz).below h (Nat.le_refl _)).more hz))
  rw [hlen] at HR
  have HW := Lib.hid (fun (W : World) (h : Below w.heap.size w W) (hz : w.heap.size ≤ W.heap.size) => quoWord_any b off (cap - 2) n 2 xs W hn (by omega) hB ((hr.below h (Nat.le_refl _)).more hz))
  have Hg := Lib.hid (show quoT xs 2 = (!(ofB (xs.take sz) == 0) || decide (w16At xs 2 < (sz : Int) + 8)) by simp only [quoT]; rw [hsz])
  obtain ⟨x0, x1⟩ := w16At_bd hB 2
  rw [Hg.out]
  clear hr hB hn Hg hlen hsz
  generalize w16At xs 2 = x at *
  have hSt := (St.nil (Below.refl w.heap.size w) (Nat.le_refl _)).cons hs |>.cons hb
  have hi : (sz : Int) ≤ cap := by omega
  have hi2 : (2 : Int) ≤ n := by omega
  have hi3 : (n : Int) ≤ cap := by omega
  have hc2 : cap ≠ 2 := by omega
  have hs0 : (0 : Int) ≤ sz := by omega
  have hs1 : (sz : Int) < 1000001 := by omega
  clear hb hs h20 h8 hl hcap
  generalize hBB : (ofB (xs.take sz) == 0) = B at *
  rcases B with _ | _
  · go_enter Tryd.func153, Tryd.ntmps153
    go_upto_region 1 with (fail)
    refine wp_region_walk0 (by kernel_rfl) (fun _ W => St w w.heap.size _ W) [] GTop [0, 1, 2, 3, 4, 5, 6, 7, 8, 9, 10, 11, 12, 13, 14] (by kernel_rfl) hSt.drew ?_
    iterate 3
      apply Walk.one rfl rfl rfl
      case hrun =>
        intro c W hE hF
        have hc0 := (hE.get 0 rfl).cell 0
        have hc1 := (hE.get 1 rfl).cell 0
        go_wp2_with fail
        exact TextPost.mk ⟨GTop.mk, hE⟩
      case hv => rfl
    apply Walk.one rfl rfl rfl
    case hrun =>
      intro c W hE hF
      go_wp2_with fail
      refine (HR.out W hE.1 hE.2.1).mono ?_
      rintro e W2 ⟨rfl, l2⟩
      go_wp2_with fail
      exact TextPost.mk ⟨GTop.mk, hE.below l2⟩
    case hv => rfl
    iterate 11
      apply Walk.one rfl rfl rfl
      case hrun =>
        intro c W hE hF
        go_wp2_with fail
        exact TextPost.mk ⟨GTop.mk, hE⟩
      case hv => rfl
    refine Walk.done (fun W hE hF => ?_)
    have hbW := hE.1
    clear hE hF hSt
    go_wp2_with fail
    go_ret
    exact ⟨rfl, hbW⟩
  · go_enter Tryd.func153, Tryd.ntmps153
    go_upto_region 1 with (fail)
    refine wp_region_walk0 (by kernel_rfl) (fun _ W => St w w.heap.size _ W) [] GTop [0, 1, 2, 3, 4, 5, 6, 7, 8, 9, 10, 11, 12, 13, 14] (by kernel_rfl) hSt.drew ?_
    iterate 3
      apply Walk.one rfl rfl rfl
      case hrun =>
        intro c W hE hF
        have hc0 := (hE.get 0 rfl).cell 0
        have hc1 := (hE.get 1 rfl).cell 0
        go_wp2_with fail
        exact TextPost.mk ⟨GTop.mk, hE⟩
      case hv => rfl
    apply Walk.one rfl rfl rfl
    case hrun =>
      intro c W hE hF
      go_wp2_with fail
      refine (HR.out W hE.1 hE.2.1).mono ?_
      rintro e W2 ⟨rfl, l2⟩
      go_wp2_with fail
      exact TextPost.mk ⟨GTop.mk, hE.below l2⟩
    case hv => rfl
    iterate 4
      apply Walk.one rfl rfl rfl
      case hrun =>
        intro c W hE hF
        have hc0 := (hE.get 0 rfl).cell 0
        go_wp2_with fail
        exact TextPost.mk ⟨GTop.mk, hE⟩
      case hv => rfl
    apply Walk.one rfl rfl rfl
    case hrun =>
      intro c W hE hF
      go_wp2_with fail
      refine (HW.out W hE.1 hE.2.1).mono ?_
      rintro e W2 ⟨rfl, l2⟩
      go_wp2_with fail
      exact TextPost.mk ⟨GTop.mk, hE.below l2⟩
    case hv => rfl
    iterate 6
      apply Walk.one rfl rfl rfl
      case hrun =>
        intro c W hE hF
        have hc1 := (hE.get 1 rfl).cell 0
        go_wp2_with fail
        exact TextPost.mk ⟨GTop.mk, hE⟩
      case hv => rfl
    refine Walk.done (fun W hE hF => ?_)
    have hbW := hE.1
    clear hE hF hSt
    go_wp2_with fail
    go_ret
    exact ⟨rfl, hbW⟩
end Go.Proofs.YtebeekjcepjcnaaDoor
namespace Go.Proofs.YtebeekjcepjcnaaDoor
open Go.RowKit
def keyZ : Array Value := #[.int .u8 0, .int .u32 0, .int .u32 0, .int .u16 0, .int .u16 0]
def quoFn : Nat → Nat
  | 0 => 151 | 1 => 152 | 2 => 153 | _ => 154
def quoCap (g : Nat) : Nat → Array Value
  | 0 => #[.pointer (some ⟨g, 0, none⟩)] | 1 => #[.pointer (some ⟨g, 0, none⟩), .pointer (some ⟨g + 2, 0, none⟩)] | 2 => #[.pointer (some ⟨g, 0, none⟩), .pointer (some ⟨g + 2, 0, none⟩)] | _ => #[.pointer (some ⟨g, 0, none⟩)]
def quoArr (g : Nat) : Array Value := #[.func (.func 151) #[] (quoCap g 0), .func (.func 152) #[] (quoCap g 1), .func (.func 153) #[] (quoCap g 2), .func (.func 154) #[] (quoCap g 3)]
/-- icmp.Quote: its boxes, when the tests before k are done. -/
structure QuSt (w : World) (A : Option Addr) (n cap : Nat) (xs : List Int) (T : TypeId) (k : Nat) (W : World) : Prop where
  below : Below w.heap.size w W
  size : w.heap.size + 4 ≤ W.heap.size
  b : Blk W w.heap.size 34 #[.slice A n cap]
  r : Blk W (w.heap.size + 1) 25 keyZ
  s : ∃ s, Blk W (w.heap.size + 2) 3 #[s] ∧ (2 ≤ k → s = .int .i64 (ipSize xs))
  f : Blk W (w.heap.size + 3) T (quoArr w.heap.size)
section
variable {w W W' : World} {A : Option Addr} {n cap : Nat} {xs : List Int} {k : Nat} {T : TypeId}
theorem QuSt.grow (h : QuSt w A n cap xs T k W) (hb : Below W.heap.size W W') : QuSt w A n cap xs T k W' := by
  have hz := h.size
  obtain ⟨s, s1, s2⟩ := h.s
  exact ⟨h.below.trans (hb.mono (by omega)), Nat.le_trans hz hb.size, h.b.below hb h.b.lt, h.r.below hb h.r.lt, ⟨s, s1.below hb s1.lt, s2⟩, h.f.below hb h.f.lt⟩
theorem QuSt.next (h : QuSt w A n cap xs T k W) (hk : k ≠ 1) : QuSt w A n cap xs T (k + 1) W :=
  ⟨h.below, h.size, h.b, h.r, by
    obtain ⟨s, s1, s2⟩ := h.s
    exact ⟨s, s1, fun hk2 => s2 (by omega)⟩, h.f⟩
theorem QuSt.setS (h : QuSt w A n cap xs T 1 W) (hs : Blk W' (w.heap.size + 2) 3 #[.int .i64 (ipSize xs)]) (hg : W.grownBy W' (some (w.heap.size + 2))) : QuSt w A n cap xs T 2 W' := by
  have hz := h.size
  exact ⟨h.below.grown hg (by omega) (fun g e => by injection e with e; omega), Nat.le_trans hz hg.size, h.b.grown hg (by simp), h.r.grown hg (by simp), ⟨_, hs, fun _ => rfl⟩, h.f.grown hg (by simp)⟩
end
/-- Test number k. -/
theorem quoTest_any (A : Option Addr) (cap n k : Nat) (xs : List Int) (T : TypeId) (w W : World) (hk : k < 4) (hn : xs.length = n) (hl : n ≤ 1000000) (hcap : n ≤ cap) (hB : Byt xs) (hr : Rd w w.heap.size A .u8 xs) (hS : QuSt w A n cap xs T k W) (hT : ∀ j, j < k → quoT xs j = false) :
    Calls Tryd.prog (quoFn k) (quoCap w.heap.size k) W fun e W' => e = .returned (.bool (quoT xs k)) ∧ QuSt w A n cap xs T (k + 1) W' := by
  have hz := hS.size
  have hr2 : Rd W W.heap.size A .u8 xs := (hr.below hS.below (Nat.le_refl _)).more (by omega)
  have e0 : 0 < k → 20 ≤ n := fun h => by have := hT 0 h; simp only [quoT, Bool.or_eq_false_iff, decide_eq_false_iff_not] at this; omega
  have e1 : 1 < k → 20 ≤ ipSize xs ∧ ipSize xs + 8 ≤ n := fun h => by have := hT 1 h; simp only [quoT, Bool.or_eq_false_iff, decide_eq_false_iff_not] at this; omega
  obtain ⟨s, s1, s2⟩ := hS.s
  rcases (show k = 0 ∨ k = 1 ∨ k = 2 ∨ k = 3 by omega) with rfl | rfl | rfl | rfl
  · exact (quote1_any A cap n xs W _ hn hB hS.b hr2).mono fun e W' ⟨he, hb⟩ => ⟨he, (hS.grow hb).next (by decide)⟩
  · exact (quote2_any A cap n xs W _ _ hn (by have := e0 (by omega); omega) hl hB hS.b s s1 (by omega) hr2).mono fun e W' ⟨he, hb, hg⟩ => ⟨he, hS.setS hb hg⟩
  · obtain rfl := s2 (by omega)
    exact (quote3_any A cap n xs W _ _ _ hn hl hcap hB hS.b rfl s1 (e1 (by omega)).1 (e1 (by omega)).2 hr2).mono fun e W' ⟨he, hb⟩ => ⟨he, (hS.grow hb).next (by decide)⟩
  · exact (quote4_any A cap n xs W _ hn (by have := e0 (by omega); omega) hcap hB hS.b hr2).mono fun e W' ⟨he, hb⟩ => ⟨he, (hS.grow hb).next (by decide)⟩
set_option maxRecDepth 100000 in
theorem callFunc_quo (k : Nat) (args : Array Value) (W : World) : (callFunc (quoFn k) args).run Tryd.prog W = .ok (.enter (quoFn k) args) W := by
  unfold quoFn
  split <;> rfl
def QuRel (w : World) (A : Option Addr) (n cap : Nat) (xs : List Int) (T : TypeId) (i : Value) (W : World) : Prop := ∃ k : Nat, k ≤ 4 ∧ i = .int .i64 k ∧ (∀ j, j < k → quoT xs j = false) ∧ QuSt w A n cap xs T k W
theorem quoArr_at {W : World} {g g2 : Nat} {T : TypeId} (h : Blk W g2 T (quoArr g)) (k : Nat) (hk : k < 4) : W.cell? ⟨g2, k, none⟩ = some (.func (.func (quoFn k)) #[] (quoCap g k)) := by
  rcases (show k = 0 ∨ k = 1 ∨ k = 2 ∨ k = 3 by omega) with rfl | rfl | rfl | rfl <;> exact h.cell _
end Go.Proofs.YtebeekjcepjcnaaDoor
