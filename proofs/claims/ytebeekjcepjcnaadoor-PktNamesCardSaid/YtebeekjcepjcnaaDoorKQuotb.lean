/-
  icmp.Quote: the relation of its loop.
-/
import Derived.Test.YtebeekjcepjcnaaDoorProg
import Derived.WalkKit
import Derived.WalkSpells
import Derived.WalkLawsBesides
import Derived.WalkSmall
import Derived.Lib.Hide
import Derived.Deep.AppendLies
import Derived.Maps.AppendAt
import Derived.Laws.AppendOwnNone
import Derived.Laws.CopyOwn
import Derived.OneCell
import Derived.Lib.SliceRun
import Derived.RangeFuncNested
import Derived.RangeFuncBound
import Derived.RangeFuncCalls
import Derived.RangeFuncLeaves
import Derived.Shelf.Abstract
import Derived.OwnWalkIn
import Derived.TacticsInMore
import Derived.LoopNIn
import Derived.LoopIn
import Derived.Lib.AppendZeros
import Derived.BigRegion
import Derived.ChangeAlike
import Derived.Deep.RegionLaw
import Derived.Deep.DeepCutAuto
import Derived.Orders
import Derived.RegionTactic
import Derived.Still
import Derived.Deep.MidRow
import Derived.Deep.RegionHeld3
import Derived.MapKept
import Derived.Test.YtebeekjcepjcnaaDoorKBase
import Derived.Test.YtebeekjcepjcnaaDoorKWalk
import Derived.Test.YtebeekjcepjcnaaDoorKMem
import Derived.Test.YtebeekjcepjcnaaDoorKSum
import Derived.Test.YtebeekjcepjcnaaDoorKMaps
import Derived.Test.YtebeekjcepjcnaaDoorKRefd
import Derived.Test.YtebeekjcepjcnaaDoorKPkt
import Derived.Test.YtebeekjcepjcnaaDoorKPbits
import Derived.Test.YtebeekjcepjcnaaDoorKIprd
import Derived.Test.YtebeekjcepjcnaaDoorKIpre
import Derived.Test.YtebeekjcepjcnaaDoorKTcprd
import Derived.Test.YtebeekjcepjcnaaDoorKIcmprd
import Derived.Test.YtebeekjcepjcnaaDoorKQuota
namespace Go.Proofs.YtebeekjcepjcnaaDoor
open Go.RowKit
def keyZ : Array Value := #[.int .u8 0, .int .u32 0, .int .u32 0, .int .u16 0, .int .u16 0]
def quoFn : Nat → Nat
  | 0 => 151 | 1 => 152 | 2 => 153 | _ => 154
def quoCap (g : Nat) : Nat → Array Value
  | 0 => #[.pointer (some ⟨g, 0, none⟩)] | 1 => #[.pointer (some ⟨g, 0, none⟩), .pointer (some ⟨g + 2, 0, none⟩)] | 2 => #[.pointer (some ⟨g, 0, none⟩), .pointer (some ⟨g + 2, 0, none⟩)] | _ => #[.pointer (some ⟨g, 0, none⟩)]
def quoArr (g : Nat) : Array Value := #[.func (.func 151) #[] (quoCap g 0), .func (.func 152) #[] (quoCap g 1), .func (.func 153) #[] (quoCap g 2), .func (.func 154) #[] (quoCap g 3)]
/-- icmp.Quote: its boxes, when the tests before k are done. -/
structure QuSt (w : World) (A : Option Addr) (n cap : Nat) (xs : List Int) (T : TypeId) (k : Nat) (W : World) : Prop where
  below : Below w.heap.size w W
  size : w.heap.size + 4 ≤ W.heap.size
  b : Blk W w.heap.size 34 #[.slice A n cap]
  r : Blk W (w.heap.size + 1) 25 keyZ
  s : ∃ s, Blk W (w.heap.size + 2) 3 #[s] ∧ (2 ≤ k → s = .int .i64 (ipSize xs))
  f : Blk W (w.heap.size + 3) T (quoArr w.heap.size)
section
variable {w W W' : World} {A : Option Addr} {n cap : Nat} {xs : List Int} {k : Nat} {T : TypeId}
theorem QuSt.grow (h : QuSt w A n cap xs T k W) (hb : Below W.heap.size W W') : QuSt w A n cap xs T k W' := by
  have hz := h.size
  obtain ⟨s, s1, s2⟩ := h.s
  exact ⟨h.below.trans (hb.mono (by omega)), Nat.le_trans hz hb.size, h.b.below hb h.b.lt, h.r.below hb h.r.lt, ⟨s, s1.below hb s1.lt, s2⟩, h.f.below hb h.f.lt⟩
theorem QuSt.next (h : QuSt w A n cap xs T k W) (hk : k ≠ 1) : QuSt w A n cap xs T (k + 1) W :=
  ⟨h.below, h.size, h.b, h.r, by
    obtain ⟨s, s1, s2⟩ := h.s
    exact ⟨s, s1, fun hk2 => s2 (by omega)⟩, h.f⟩
theorem QuSt.setS (h : QuSt w A n cap xs T 1 W) (hs : Blk W' (w.heap.size + 2) 3 #[.int .i64 (ipSize xs)]) (hg : W.grownBy W' (some (w.heap.size + 2))) : QuSt w A n cap xs T 2 W' := by
  have hz := h.size
  exact ⟨h.below.grown hg (by omega) (fun g e => by injection e with e; omega), Nat.le_trans hz hg.size, h.b.grown hg (by simp), h.r.grown hg (by simp), ⟨_, hs, fun _ => rfl⟩, h.f.grown hg (by simp)⟩
end
/-- Test number k. -/
theorem quoTest_any (A : Option Addr) (cap n k : Nat) (xs : List Int) (T : TypeId) (w W : World) (hk : k < 4) (hn : xs.length = n) (hl : n ≤ 1000000) (hcap : n ≤ cap) (hB : Byt xs) (hr : Rd w w.heap.size A .u8 xs) (hS : QuSt w A n cap xs T k W) (hT : ∀ j, j < k → quoT xs j = false) :
    Calls Tryd.prog (quoFn k) (quoCap w.heap.size k) W fun e W' => e = .returned (.bool (quoT xs k)) ∧ QuSt w A n cap xs T (k + 1) W' := by
  have hz := hS.size
  have hr2 : Rd W W.heap.size A .u8 xs := (hr.below hS.below (Nat.le_refl _)).more (by omega)
  have e0 : 0 < k → 20 ≤ n := fun h => by have := hT 0 h; simp only [quoT, Bool.or_eq_false_iff, decide_eq_false_iff_not] at this; omega
  have e1 : 1 < k → 20 ≤ ipSize xs ∧ ipSize xs + 8 ≤ n := fun h => by have := hT 1 h; simp only [quoT, Bool.or_eq_false_iff, decide_eq_false_iff_not] at this; omega
  obtain ⟨s, s1, s2⟩ := hS.s
  rcases (show k = 0 ∨ k = 1 ∨ k = 2 ∨ k = 3 by omega) with rfl | rfl | rfl | rfl
  · exact (quote1_any A cap n xs W _ hn hB hS.b hr2).mono fun e W' ⟨he, hb⟩ => ⟨he, (hS.grow hb).next (by decide)⟩
  · exact (quote2_any A cap n xs W _ _ hn (by have := e0 (by omega); omega) hl hB hS.b s s1 (by omega) hr2).mono fun e W' ⟨he, hb, hg⟩ => ⟨he, hS.setS hb hg⟩
  · obtain rfl := s2 (by omega)
    exact (quote3_any A cap n xs W _ _ _ hn hl hcap hB hS.b rfl s1 (e1 (by omega)).1 (e1 (by omega)).2 hr2).mono fun e W' ⟨he, hb⟩ => ⟨he, (hS.grow hb).next (by decide)⟩
  · exact (quote4_any A cap n xs W _ hn (by have := e0 (by omega); omega) hcap hB hS.b hr2).mono fun e W' ⟨he, hb⟩ => ⟨he, (hS.grow hb).next (by decide)⟩
set_option maxRecDepth 100000 in
theorem callFunc_quo (k : Nat) (args : Array Value) (W : World) : (callFunc (quoFn k) args).run Tryd.prog W = .ok (.enter (quoFn k) args) W := by
  unfold quoFn
  split <;> rfl
def QuRel (w : World) (A : Option Addr) (n cap : Nat) (xs : List Int) (T : TypeId) (i : Value) (W : World) : Prop := ∃ k : Nat, k ≤ 4 ∧ i = .int .i64 k ∧ (∀ j, j < k → quoT xs j = false) ∧ QuSt w A n cap xs T k W
theorem quoArr_at {W : World} {g g2 : Nat} {T : TypeId} (h : Blk W g2 T (quoArr g)) (k : Nat) (hk : k < 4) : W.cell? ⟨g2, k, none⟩ = some (.func (.func (quoFn k)) #[] (quoCap g k)) := by
  rcases (show k = 0 ∨ k = 1 ∨ k = 2 ∨ k = 3 by omega) with rfl | rfl | rfl | rfl <;> exact h.cell _
end Go.Proofs.YtebeekjcepjcnaaDoor
