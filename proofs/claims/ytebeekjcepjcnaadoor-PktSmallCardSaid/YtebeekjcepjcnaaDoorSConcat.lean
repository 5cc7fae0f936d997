/-
  slices.Grow of nil, slices.Concat, tcp.words, tcp.longs.
  Small facts on bits at the numbers that the code uses.
  Package icmp of the program: Kind, Write, word, Read, Answer; tcp.Sane, tcp.Extent.
  The facts of a packet, as data; what package build asks of them.
  ip.Write, at a header that is right.
-/
import Derived.Test.YtebeekjcepjcnaaDoorProg
import Derived.WalkKit
import Derived.WalkSpells
import Derived.WalkLawsBesides
import Derived.WalkSmall
import Derived.Lib.Hide
import Derived.Deep.AppendLies
import Derived.Maps.AppendAt
import Derived.Laws.AppendOwnNone
import Derived.Laws.CopyOwn
import Derived.OneCell
import Derived.Lib.SliceRun
import Derived.RangeFuncNested
import Derived.RangeFuncBound
import Derived.RangeFuncCalls
import Derived.RangeFuncLeaves
import Derived.Shelf.Abstract
import Derived.OwnWalkIn
import Derived.TacticsInMore
import Derived.LoopNIn
import Derived.LoopIn
import Derived.Lib.AppendZeros
import Derived.BigRegion
import Derived.ChangeAlike
import Derived.Deep.RegionLaw
import Derived.Deep.DeepCutAuto
import Derived.Test.YtebeekjcepjcnaaDoorSBase
import Derived.Test.YtebeekjcepjcnaaDoorSMem
import Derived.Test.YtebeekjcepjcnaaDoorSCsum
import Derived.Test.YtebeekjcepjcnaaDoorSSum
import Derived.Test.YtebeekjcepjcnaaDoorSStepb
namespace Go.Proofs.YtebeekjcepjcnaaDoor
open Go.RowKit Go.Shelf

def U32s (l : List Int) : Prop := ∀ x ∈ l, 0 ≤ x ∧ x < 4294967296
theorem U32s.at_ {l : List Int} (h : U32s l) (j : Nat) : 0 ≤ l.getD j 0 ∧ l.getD j 0 < 4294967296 := by
  by_cases hj : j < l.length
  · rw [List.getD_eq_getElem?_getD, List.getElem?_eq_getElem hj]; exact h _ (List.getElem_mem hj)
  · rw [List.getD_eq_getElem?_getD, List.getElem?_eq_none (by omega)]; simp
/-- Some slices of bytes, one behind the other in memory. -/
abbrev Part := Option Addr × Nat × List Int
def Parts (w : World) (B : Nat) (A : Option Addr) (ps : List Part) : Prop :=
  ∀ j, j < ps.length → ∃ b off p, ps[j]? = some p ∧ A = some ⟨b, off, none⟩ ∧ b < B ∧ w.cell? ⟨b, off + j, none⟩ = some (.slice p.1 p.2.2.length p.2.1) ∧ Rd w B p.1 .u8 p.2.2
theorem Parts.below {w w' : World} {B C : Nat} {A : Option Addr} {ps : List Part} (h : Parts w B A ps) (hb : Below C w w') (hC : B ≤ C) : Parts w' B A ps := fun j hj => by
  obtain ⟨b, off, p, h1, h2, h3, h4, h5⟩ := h j hj
  exact ⟨b, off, p, h1, h2, h3, (hb.cell (p := ⟨b, off + j, none⟩) (by show b < C; omega)).trans h4, h5.below hb hC⟩
def partV (p : Part) : Value := .slice p.1 p.2.2.length p.2.1
theorem Parts.new (w : World) (ps : List Part) (t : TypeId) (h : ∀ p ∈ ps, Rd w w.heap.size p.1 .u8 p.2.2) :
    Parts (w.alloc (.cells (ps.map partV).toArray t)) (w.alloc (.cells (ps.map partV).toArray t)).heap.size (some ⟨w.heap.size, 0, none⟩) ps := by
  intro j hj
  refine ⟨w.heap.size, 0, ps[j], List.getElem?_eq_getElem hj, rfl, by simp, ?_, ?_⟩
  · rw [Nat.zero_add, cell_of_row _ _ _ _ _ _ (heap_alloc_new w _)]
    simp [hj, partV]
  · exact ((h _ (List.getElem_mem hj)).alloc (Nat.le_refl _) _).more (by simp)
theorem Rd.belows {w w' : World} {A : Option Addr} {k : IntKind} {xs : List Int} (h : Rd w w.heap.size A k xs) {C : Nat} (hb : Below C w w') (hC : w.heap.size ≤ C) : Rd w' w'.heap.size A k xs := (h.below hb hC).more hb.size
end Go.Proofs.YtebeekjcepjcnaaDoor
namespace Go.Proofs.YtebeekjcepjcnaaDoor
open Go.RowKit
theorem wraps_i64_8 (n : Int) (h0 : 0 ≤ n) (h1 : n < 2 ^ 62) : IntKind.i64.wrap n = n := by rw [IntKind.wrap_i64]; omega
theorem wraps_u32_32 (n : Int) (h0 : 0 ≤ n) (h1 : n < 2 ^ 32) : IntKind.u32.wrap n = n := by rw [IntKind.wrap_u32]; omega
end Go.Proofs.YtebeekjcepjcnaaDoor
namespace Go.Proofs.YtebeekjcepjcnaaDoor
open Go.RowKit Go.Shelf

def kindN (k : Nat) : Int := [4, 0, 0, 5, 5, 5, 0, 0, 3, 0, 0, 5, 5, 3, 4, 0, 0, 3, 4].getD k 0
def codesN (k : Nat) : Int := [0, 0, 0, 15, 0, 3, 0, 0, 0, 0, 0, 1, 2, 0, 0, 0, 0, 0, 0].getD k 0
def replyN (k : Nat) : Int := [0, 0, 0, 0, 0, 0, 0, 0, 0, 0, 0, 0, 0, 14, 0, 0, 0, 18, 0].getD k 0
/-- What the table of types holds. -/
def SortsAt (w : World) : Prop := ∀ k, k < 19 → w.cell? ⟨1, k * 3, none⟩ = some (.int .u8 (kindN k)) ∧ w.cell? ⟨1, k * 3 + 1, none⟩ = some (.int .u8 (codesN k)) ∧ w.cell? ⟨1, k * 3 + 2, none⟩ = some (.int .u8 (replyN k))
theorem SortsAt.lt {w : World} (h : SortsAt w) : 1 < w.heap.size := World.lt_of_cell (h 0 (by omega)).1
theorem SortsAt.keep {w w' : World} (h : SortsAt w) (hk : ∀ p : Addr, p.block < w.heap.size → w'.cell? p = w.cell? p) : SortsAt w' := fun k hk' =>
  ⟨(hk _ h.lt).trans (h k hk').1, (hk _ h.lt).trans (h k hk').2.1, (hk _ h.lt).trans (h k hk').2.2⟩
theorem SortsAt.below {w w' : World} {C : Nat} (h : SortsAt w) (hb : Below C w w') (hC : w.heap.size ≤ C) : SortsAt w' := h.keep fun p hp => hb.cell (by omega)
theorem SortsAt.alloc {w : World} (h : SortsAt w) (o : Obj) : SortsAt (w.alloc o) := h.keep fun p hp => World.cell?_alloc_lt w o p hp
theorem SortsAt.drew {w : World} (h : SortsAt w) : SortsAt w.drew := h

def kind1 (t c : Nat) : Int := if kindN t = 0 then 0 else if codesN t < (c : Int) then 0 else kindN t
def kind2 (t c : Nat) : Int := if kindN t = 0 then 101 else if codesN t < (c : Int) then 102 else 0
theorem kindN_big {t : Nat} (h : 19 ≤ t) : kindN t = 0 := by
  unfold kindN; rw [List.getD_eq_getElem?_getD, List.getElem?_eq_none (by simpa using h)]; rfl
set_option maxHeartbeats 400000 in
theorem kind_any (t c : Nat) (w : World) (_ht : t < 256) (hs : SortsAt w) :
    Calls Tryd.prog 68 #[.int .u8 t, .int .u8 c] w fun e w' => e = .returned (.tuple #[.int .u8 (kind1 t c), .int .i64 (kind2 t c)]) ∧ w = w' := by
  by_cases h19 : t < 19
  · obtain ⟨c0, c1, _⟩ := hs t h19
    have h1 : decide ((19 : Int) ≤ (t : Int)) = false := by simp; omega
    by_cases hk : kindN t = 0
    · have Hr1 := Lib.hid (show kind1 t c = 0 by unfold kind1; rw [if_pos hk])
      have Hr2 := Lib.hid (show kind2 t c = 101 by unfold kind2; rw [if_pos hk])
      have hb : (kindN t == 0) = true := by simpa using hk
      rw [Hr1.out, Hr2.out]
      clear hk
      generalize kindN t = x at *
      go_enter Tryd.func68, Tryd.ntmps68
      go_wp2_with fail
      go_ret2
      exact ⟨rfl, rfl⟩
    · have hb : (kindN t == 0) = false := by simpa using hk
      by_cases hc : codesN t < (c : Int)
      · have Hr1 := Lib.hid (show kind1 t c = 0 by unfold kind1; rw [if_neg hk, if_pos hc])
        have Hr2 := Lib.hid (show kind2 t c = 102 by unfold kind2; rw [if_neg hk, if_pos hc])
        rw [Hr1.out, Hr2.out]
        clear hk
        generalize kindN t = x at *
        generalize codesN t = y at *
        go_enter Tryd.func68, Tryd.ntmps68
        go_wp2_with fail
        go_ret2
        exact ⟨rfl, rfl⟩
      · have Hr1 := Lib.hid (show kind1 t c = kindN t by unfold kind1; rw [if_neg hk, if_neg hc])
        have Hr2 := Lib.hid (show kind2 t c = 0 by unfold kind2; rw [if_neg hk, if_neg hc])
        rw [Hr1.out, Hr2.out]
        clear hk
        generalize kindN t = x at *
        generalize codesN t = y at *
        go_enter Tryd.func68, Tryd.ntmps68
        go_wp2_with fail
        go_ret2
        exact ⟨rfl, rfl⟩
  · have h1 : decide ((19 : Int) ≤ (t : Int)) = true := by simp; omega
    have hk := kindN_big (show 19 ≤ t by omega)
    have Hr1 := Lib.hid (show kind1 t c = 0 by unfold kind1; rw [if_pos hk])
    have Hr2 := Lib.hid (show kind2 t c = 101 by unfold kind2; rw [if_pos hk])
    rw [Hr1.out, Hr2.out]
    clear hk
    go_enter Tryd.func68, Tryd.ntmps68
    go_wp2_with fail
    go_ret2
    exact ⟨rfl, rfl⟩

/-- Flags that are sane. -/
def manyN (m : Nat) : Int := [0, 1, 1, 2, 1, 2, 2, 3].getD m 0
def saneB (f : Nat) : Bool := decide (manyN (f % 8) < 2) && ((f &&& 22) != 0)

theorem and_u8_7 (f : Nat) (h : f < 256) : bits .and .u8 (f : Int) 7 = ((f % 8 : Nat) : Int) := by
  have := u8_and_nat f 7 h (by omega)
  have e : f &&& 7 = f % 8 := Nat.and_two_pow_sub_one_eq_mod f 3
  rw [e] at this
  exact this
theorem and_u8_22 (f : Nat) (h : f < 256) : bits .and .u8 (f : Int) 22 = ((f &&& 22 : Nat) : Int) := u8_and_nat f 22 h (by omega)

set_option maxHeartbeats 1000000 in
theorem sane_any (f : Nat) (w : World) (hf : f < 256) : Calls Tryd.prog 125 #[.int .u8 f] w fun e w' => e = .returned (.bool (saneB f)) ∧ w = w' := by
  have hix : ∀ (m : Nat) (w : World), m < 8 → (Instr.index 245 (.agg #[.int .i64 0, .int .i64 1, .int .i64 1, .int .i64 2, .int .i64 1, .int .i64 2, .int .i64 2, .int .i64 3]) (.int .u8 m)).run Tryd.prog w = .ok (.int .i64 (manyN m)) w := by
    intro m w hm
    rcases (show m = 0 ∨ m = 1 ∨ m = 2 ∨ m = 3 ∨ m = 4 ∨ m = 5 ∨ m = 6 ∨ m = 7 by omega) with rfl | rfl | rfl | rfl | rfl | rfl | rfl | rfl <;> kernel_rfl
  have h7 := and_u8_7 f hf
  have hix' := fun w => hix (f % 8) w (by omega)
  have h22 := and_u8_22 f hf
  have hm2 : ((f : Int) % 8) = ((f % 8 : Nat) : Int) := by omega
  rw [← hm2] at h7
  rw [hm2] at h7
  clear hm2
  clear hix
  by_cases hz : (f &&& 22) = 0
  · have h22b : (((f &&& 22 : Nat) : Int) != 0) = false := by simp [hz]
    have Hr := Lib.hid (show saneB f = false by simp [saneB, hz])
    rw [Hr.out]
    clear hz
    generalize (f &&& 22) = q at *
    by_cases hm : manyN (f % 8) < (2 : Int)
    all_goals
      generalize manyN (f % 8) = y at *
      generalize f % 8 = m at *
      go_enter Tryd.func125, Tryd.ntmps125
      go_wp2_with fail
      go_ret
      exact ⟨rfl, rfl⟩
  · have h22b : (((f &&& 22 : Nat) : Int) != 0) = true := by simp; omega
    by_cases hm : manyN (f % 8) < (2 : Int)
    · have Hr := Lib.hid (show saneB f = true by simp [saneB, hz, hm])
      rw [Hr.out]
      clear hz
      generalize (f &&& 22) = q at *
      generalize manyN (f % 8) = y at *
      generalize f % 8 = m at *
      go_enter Tryd.func125, Tryd.ntmps125
      go_wp2_with fail
      go_ret
      exact ⟨rfl, rfl⟩
    · have Hr := Lib.hid (show saneB f = false by simp [saneB, hm])
      rw [Hr.out]
      clear hz
      generalize (f &&& 22) = q at *
      generalize manyN (f % 8) = y at *
      generalize f % 8 = m at *
      go_enter Tryd.func125, Tryd.ntmps125
      go_wp2_with fail
      go_ret
      exact ⟨rfl, rfl⟩

end Go.Proofs.YtebeekjcepjcnaaDoor
namespace Go.Proofs.YtebeekjcepjcnaaDoor
open Go.RowKit

structure Key where
  proto : Int
  src : Int
  dst : Int
  sp : Int
  dp : Int
structure Facts where
  key : Key
  kind : Int
  flags : Int
  type : Int
  code : Int
  seqn : Int
  ackn : Int
  window : Int
  length : Int
  quoted : Key
  qkind : Int
def Key.cells (k : Key) : List Value := [.int .u8 k.proto, .int .u32 k.src, .int .u32 k.dst, .int .u16 k.sp, .int .u16 k.dp]
def Key.val (k : Key) : Value := .agg k.cells.toArray
def Facts.cells (f : Facts) : List Value :=
  f.key.cells ++ [.int .u8 f.kind, .int .u8 f.flags, .int .u8 f.type, .int .u8 f.code, .int .u32 f.seqn, .int .u32 f.ackn, .int .i64 f.window, .int .i64 f.length] ++ f.quoted.cells ++ [.int .u8 f.qkind]
def Facts.val (f : Facts) : Value := .agg f.cells.toArray
def Key.zero : Key := ⟨0, 0, 0, 0, 0⟩
def Facts.zero : Facts := ⟨Key.zero, 0, 0, 0, 0, 0, 0, 0, 0, Key.zero, 0⟩

def Key.ported (k : Key) : Bool := decide (0 < k.sp) && decide (0 < k.dp)
def betweenB (n lo hi : Int) : Bool := decide (lo ≤ n) && decide (n ≤ hi)

def usualB (a : Int) : Bool := decide (0 < a) && decide (a < 3758096384)
/-- What is right for a datagram: what is named, and whether it is right. -/
def Facts.udpPart (f : Facts) : Facts := { Facts.zero with key := f.key, kind := f.kind, length := f.length }
def Facts.rightUDP (f : Facts) : Bool := f.key.ported && betweenB f.length 0 65507

theorem saneI_any (f : Int) (w : World) (h0 : 0 ≤ f) (h1 : f < 256) : Calls Tryd.prog 125 #[.int .u8 f] w fun e w' => e = .returned (.bool (saneB f.toNat)) ∧ w = w' := by
  obtain ⟨n, rfl⟩ : ∃ n : Nat, f = n := ⟨f.toNat, by omega⟩
  rw [Int.toNat_natCast]
  exact sane_any n w (by omega)
/-- What is right for a segment. -/
def Facts.tcpPart (f : Facts) : Facts := { Facts.zero with key := f.key, kind := f.kind, flags := f.flags, seqn := f.seqn, ackn := f.ackn, window := f.window, length := f.length }
def Facts.rightTCP (f : Facts) : Bool := f.key.ported && decide (f.flags < 64) && saneB f.flags.toNat && betweenB f.window 0 65535 && betweenB f.length 0 65495

theorem kindI_any (t c : Int) (w : World) (h0 : 0 ≤ t) (h1 : t < 256) (g0 : 0 ≤ c) (hs : SortsAt w) : Calls Tryd.prog 68 #[.int .u8 t, .int .u8 c] w fun e w' => e = .returned (.tuple #[.int .u8 (kind1 t.toNat c.toNat), .int .i64 (kind2 t.toNat c.toNat)]) ∧ w = w' := by
  obtain ⟨n, rfl⟩ : ∃ n : Nat, t = n := ⟨t.toNat, by omega⟩
  obtain ⟨m, rfl⟩ : ∃ n : Nat, c = n := ⟨c.toNat, by omega⟩
  rw [Int.toNat_natCast, Int.toNat_natCast]
  exact kind_any n m w (by omega) hs
/-- What is right for a query or an answer to one. -/
def Facts.queryPart (f : Facts) : Facts := { Facts.zero with key := f.key, kind := f.kind, type := f.type, code := f.code, length := f.length }
def Facts.rightQuery (f : Facts) : Bool := (kind2 f.type.toNat f.code.toNat == 0) && (kind1 f.type.toNat f.code.toNat == f.kind) && (f.key.sp == f.key.dp) && betweenB f.length 0 65507

end Go.Proofs.YtebeekjcepjcnaaDoor
namespace Go.Proofs.YtebeekjcepjcnaaDoor
open Go.RowKit Go.Shelf

def b01 (b : Bool) : Int := if b then 1 else 0
/-- The word with the flags and the offset. -/
def IpH.word (h : IpH) : Int := h.off / 8 + 16384 * b01 h.df + 8192 * b01 h.mf
theorem splice_byt {xs ys : List Int} (hx : Byt xs) (hy : Byt ys) (k : Nat) : Byt (splice xs k ys) := (hx.take k).append (hy.append (hx.drop _))
end Go.Proofs.YtebeekjcepjcnaaDoor
