/-
  tcp.Write, at a header that is right.
  Package build: the data of a segment, a datagram, a message; a header before some data.
  Maps with integer keys that a call makes: a new key, a look-up. Package build: the table of sorts.
  Package build: the packet that an error quotes.
  Package build: what is right for an error; what is right for each kind.
-/
import Derived.Test.YtebeekjcepjcnaaDoorProg
import Derived.WalkKit
import Derived.WalkSpells
import Derived.WalkLawsBesides
import Derived.WalkSmall
import Derived.Lib.Hide
import Derived.Deep.AppendLies
import Derived.Maps.AppendAt
import Derived.Laws.AppendOwnNone
import Derived.Laws.CopyOwn
import Derived.OneCell
import Derived.Lib.SliceRun
import Derived.RangeFuncNested
import Derived.RangeFuncBound
import Derived.RangeFuncCalls
import Derived.RangeFuncLeaves
import Derived.Shelf.Abstract
import Derived.OwnWalkIn
import Derived.TacticsInMore
import Derived.LoopNIn
import Derived.LoopIn
import Derived.Lib.AppendZeros
import Derived.Orders
import Derived.RegionTactic
import Derived.Deep.RegionLaw
import Derived.Deep.RegionHeld3
import Derived.Deep.DeepCutAuto
import Derived.Still
import Derived.Deep.MidRow
import Derived.BigRegion
import Derived.ChangeAlike
import Derived.MapKept
import Derived.Test.YtebeekjcepjcnaaDoorSBase
import Derived.Test.YtebeekjcepjcnaaDoorSMem
import Derived.Test.YtebeekjcepjcnaaDoorSCsum
import Derived.Test.YtebeekjcepjcnaaDoorSSum
import Derived.Test.YtebeekjcepjcnaaDoorSRegion
import Derived.Test.YtebeekjcepjcnaaDoorSWalk
import Derived.Test.YtebeekjcepjcnaaDoorSStep
import Derived.Test.YtebeekjcepjcnaaDoorSStepb
import Derived.Test.YtebeekjcepjcnaaDoorSConcat
namespace Go.Proofs.YtebeekjcepjcnaaDoor
open Go.RowKit Go.Shelf

theorem Parts.belows {w w' : World} {A : Option Addr} {ps : List Part} (h : Parts w w.heap.size A ps) (hb : Below w.heap.size w w') : Parts w' w'.heap.size A ps := fun j hj => by
  obtain ⟨b, off, p, h1, h2, h3, h4, h5⟩ := h.below hb (Nat.le_refl _) j hj
  exact ⟨b, off, p, h1, h2, Nat.lt_of_lt_of_le h3 hb.size, h4, h5.more hb.size⟩

end Go.Proofs.YtebeekjcepjcnaaDoor
namespace Go.Proofs.YtebeekjcepjcnaaDoor
open Go.RowKit

/-- The world grows. -/
def Grow (W W' : World) : Prop := Below W.heap.size W W'
theorem Grow.refl (W : World) : Grow W W := Below.refl _ _
theorem Own.keep {b : Nat} {v : Value} {xs : List Int} {W W' : World} (h : Own W b v xs) (hG : Grow W W') : Own W' b v xs := h.below hG (Nat.le_refl _)
end Go.Proofs.YtebeekjcepjcnaaDoor
namespace Go.Proofs.YtebeekjcepjcnaaDoor
open Go.RowKit

section
variable {P : Program} {mty kt et : TypeId} {K : IntKind}
theorem setObj_new (W : World) (o o' : Obj) : ({ W.alloc o with heap := (W.alloc o).heap.setIfInBounds W.heap.size o' } : World) = W.alloc o' := by
  have : (W.heap.push o).setIfInBounds W.heap.size o' = W.heap.push o' := by
    apply Array.ext
    · simp
    · intro i h1 h2
      simp only [Array.size_setIfInBounds, Array.size_push] at h1
      by_cases hi : i = W.heap.size
      · subst hi; simp
      · rw [Array.getElem_setIfInBounds_ne (by simpa using h1) (Ne.symm hi), Array.getElem_push_lt (by omega), Array.getElem_push_lt (by omega)]
  show ({ W.alloc o with heap := _ } : World) = _
  rw [show (W.alloc o).heap = W.heap.push o from rfl, this]
  rfl
theorem run_insert_int (hm : P.underlying mty = some (.map kt et)) (hk : P.underlying kt = some (.int K)) (W : World) (es : Array MapEntry) (c : Nat) (k : Int) (v : Value) (hf : Instr.findNow (.int K) (.int K k) es.toList 0 = some none) :
    (Instr.mapUpdate mty (.map (some W.heap.size)) (.int K k) v).run P (W.alloc (.map es c)) = .ok () (W.alloc (.map (es.push ⟨.int K k, v, c⟩) (c + 1))) := by
  have hb : (W.alloc (.map es c)).heap[W.heap.size]? = some (.map es c) := heap_alloc_new W _
  have hc : (Instr.checkKey false 10000 kt (.int K k)).run P (W.alloc (.map es c)) = .ok () (W.alloc (.map es c)) := MapKept.run_checkKey (k := .int K k) hk (by simp [MapKept.IsKey]) false 9999
  have hso := setObj_new W (.map es c) (.map (es.push ⟨.int K k, v, c⟩) (c + 1))
  simp [Instr.mapUpdate, run_underlying hm, MapKept.run_getObj_map hb, hc, MapKept.run_findKey hk hf, MapKept.run_setObj_map _ hb, Result.andThen]
  exact hso
theorem run_lookup_int (hm : P.underlying mty = some (.map kt et)) (hk : P.underlying kt = some (.int K)) (W : World) (m : Nat) (es : Array MapEntry) (c : Nat) (k : Int) (i : Nat) (v : Value) (ok : Bool) (hb : W.heap[m]? = some (.map es c)) (hf : Instr.findNow (.int K) (.int K k) es.toList 0 = some (some (i, v))) :
    (Instr.lookup mty (.map (some m)) (.int K k) ok).run P W = .ok (if ok then .tuple #[v, .bool true] else v) W := by
  have hc : (Instr.checkKey es.isEmpty 10000 kt (.int K k)).run P W = .ok () W := MapKept.run_checkKey (k := .int K k) hk (by simp [MapKept.IsKey]) _ 9999
  simp [Instr.lookup, run_underlying hm, MapKept.run_getObj_map hb, hc, MapKept.run_findKey hk hf, Result.andThen]
theorem run_lookup_int_none (hm : P.underlying mty = some (.map kt et)) (hk : P.underlying kt = some (.int K)) (W : World) (m : Nat) (es : Array MapEntry) (c : Nat) (k : Int) (z : Value) (ok : Bool) (hb : W.heap[m]? = some (.map es c)) (hf : Instr.findNow (.int K) (.int K k) es.toList 0 = some none) (hz : (zeroValue et).run P W = .ok z W) :
    (Instr.lookup mty (.map (some m)) (.int K k) ok).run P W = .ok (if ok then .tuple #[z, .bool false] else z) W := by
  have hc : (Instr.checkKey es.isEmpty 10000 kt (.int K k)).run P W = .ok () W := MapKept.run_checkKey (k := .int K k) hk (by simp [MapKept.IsKey]) _ 9999
  simp [Instr.lookup, run_underlying hm, MapKept.run_getObj_map hb, hc, MapKept.run_findKey hk hf, hz, Result.andThen]
end

/-- What the table holds. -/
def sortV (p : Int) (f d : Nat) : Value := .agg #[.int .u8 p, .func (.func f) #[] #[], .func (.func d) #[] #[]]
def sortsE : Nat → Array MapEntry
  | 0 => #[]
  | 1 => #[⟨.int .u8 1, sortV 6 79 80, 0⟩]
  | 2 => #[⟨.int .u8 1, sortV 6 79 80, 0⟩, ⟨.int .u8 2, sortV 17 81 82, 1⟩]
  | 3 => #[⟨.int .u8 1, sortV 6 79 80, 0⟩, ⟨.int .u8 2, sortV 17 81 82, 1⟩, ⟨.int .u8 3, sortV 1 83 84, 2⟩]
  | 4 => #[⟨.int .u8 1, sortV 6 79 80, 0⟩, ⟨.int .u8 2, sortV 17 81 82, 1⟩, ⟨.int .u8 3, sortV 1 83 84, 2⟩, ⟨.int .u8 4, sortV 1 83 84, 3⟩]
  | _ => #[⟨.int .u8 1, sortV 6 79 80, 0⟩, ⟨.int .u8 2, sortV 17 81 82, 1⟩, ⟨.int .u8 3, sortV 1 83 84, 2⟩, ⟨.int .u8 4, sortV 1 83 84, 3⟩, ⟨.int .u8 5, sortV 1 85 86, 4⟩]
def SortsM (W : World) (m : Nat) : Prop := W.heap[m]? = some (.map (sortsE 5) 5)
theorem SortsM.grown {W W' : World} {m : Nat} {row : Option Nat} (h : SortsM W m) (hg : W.grownBy W' row) (hr : some m ≠ row) : SortsM W' m := (hg.block m (by
  rcases Nat.lt_or_ge m W.heap.size with hl | hl
  · exact hl
  · unfold SortsM at h; rw [Array.getElem?_eq_none hl] at h; cases h) hr).trans h

def protoS (k : Int) : Int := if k = 1 then 6 else if k = 2 then 17 else 1
end Go.Proofs.YtebeekjcepjcnaaDoor
namespace Go.Proofs.YtebeekjcepjcnaaDoor
open Go.RowKit

def isQ (k : Int) : Bool := decide (1 ≤ k) && decide (k ≤ 4)
def Facts.quotedF (f : Facts) : Facts := { Facts.zero with key := f.quoted, kind := f.qkind, flags := if f.qkind = 1 then 16 else 0, type := if f.qkind = 3 then 8 else 0 }
def qProto (k : Int) : Int := if isQ k then protoS k else 0
end Go.Proofs.YtebeekjcepjcnaaDoor
namespace Go.Proofs.YtebeekjcepjcnaaDoor
open Go.RowKit

def Facts.qRight (f : Facts) : Bool := if f.qkind = 1 then f.quotedF.rightTCP else if f.qkind = 3 ∨ f.qkind = 4 then f.quotedF.rightQuery else f.quotedF.rightUDP
/-- What is right for an error. -/
def Facts.errorPart (f : Facts) : Facts := { Facts.zero with key := f.key, kind := f.kind, type := f.type, code := f.code, length := f.length, quoted := f.quoted, qkind := f.qkind }
def Facts.rightError (f : Facts) : Bool := (kind2 f.type.toNat f.code.toNat == 0) && (kind1 f.type.toNat f.code.toNat == f.kind) && isQ f.qkind && f.qRight && (f.quoted.proto == qProto f.qkind) && (f.key.sp == 0) && (f.key.dp == 0) && betweenB f.length 28 65507

/-- Nothing is asked of the world's way. -/
def GTop (_ _ : World) : Prop := True
theorem GTop.mk {W W' : World} : GTop W W' := trivial
theorem oneC_int (k : IntKind) (x : Int) : (Value.int k x).oneCell' = true := rfl
end Go.Proofs.YtebeekjcepjcnaaDoor
