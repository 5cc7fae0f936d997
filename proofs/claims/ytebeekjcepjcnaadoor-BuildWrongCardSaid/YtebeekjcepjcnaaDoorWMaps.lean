/-
  Maps with integer keys that a call makes: a new key, a look-up. Package build: the table of sorts.
-/
import Derived.WalkKit
import Derived.WalkSpells
import Derived.WalkLawsBesides
import Derived.WalkSmall
import Derived.Lib.Hide
import Derived.Deep.AppendLies
import Derived.Maps.AppendAt
import Derived.Laws.AppendOwnNone
import Derived.Laws.CopyOwn
import Derived.OneCell
import Derived.Orders
import Derived.RegionTactic
import Derived.Still
import Derived.Test.YtebeekjcepjcnaaDoorProg
import Derived.Deep.MidRow
import Derived.Lib.SliceRun
import Derived.RangeFuncNested
import Derived.RangeFuncBound
import Derived.RangeFuncCalls
import Derived.RangeFuncLeaves
import Derived.Shelf.Abstract
import Derived.OwnWalkIn
import Derived.TacticsInMore
import Derived.LoopNIn
import Derived.LoopIn
import Derived.Lib.AppendZeros
import Derived.MapKept
import Derived.Test.YtebeekjcepjcnaaDoorWBase
import Derived.Test.YtebeekjcepjcnaaDoorWBits
import Derived.Test.YtebeekjcepjcnaaDoorWCsum
import Derived.Test.YtebeekjcepjcnaaDoorWSum
import Derived.Test.YtebeekjcepjcnaaDoorWConcat
import Derived.Test.YtebeekjcepjcnaaDoorWFix
import Derived.Test.YtebeekjcepjcnaaDoorWFacts
import Derived.Test.YtebeekjcepjcnaaDoorWRegion
import Derived.Test.YtebeekjcepjcnaaDoorWWalk
import Derived.Test.YtebeekjcepjcnaaDoorWStep
namespace Go.Proofs.YtebeekjcepjcnaaDoor
open Go.RowKit

section
variable {P : Program} {mty kt et : TypeId} {K : IntKind}
theorem setObj_new (W : World) (o o' : Obj) : ({ W.alloc o with heap := (W.alloc o).heap.setIfInBounds W.heap.size o' } : World) = W.alloc o' := by
  have : (W.heap.push o).setIfInBounds W.heap.size o' = W.heap.push o' := by
    apply Array.ext
    · simp
    · intro i h1 h2
      simp only [Array.size_setIfInBounds, Array.size_push] at h1
      by_cases hi : i = W.heap.size
      · subst hi; simp
      · rw [Array.getElem_setIfInBounds_ne (by simpa using h1) (Ne.symm hi), Array.getElem_push_lt (by omega), Array.getElem_push_lt (by omega)]
  show ({ W.alloc o with heap := _ } : World) = _
  rw [show (W.alloc o).heap = W.heap.push o from rfl, this]
  rfl
theorem run_insert_int (hm : P.underlying mty = some (.map kt et)) (hk : P.underlying kt = some (.int K)) (W : World) (es : Array MapEntry) (c : Nat) (k : Int) (v : Value) (hf : Instr.findNow (.int K) (.int K k) es.toList 0 = some none) :
    (Instr.mapUpdate mty (.map (some W.heap.size)) (.int K k) v).run P (W.alloc (.map es c)) = .ok () (W.alloc (.map (es.push ⟨.int K k, v, c⟩) (c + 1))) := by
  have hb : (W.alloc (.map es c)).heap[W.heap.size]? = some (.map es c) := heap_alloc_new W _
  have hc : (Instr.checkKey false 10000 kt (.int K k)).run P (W.alloc (.map es c)) = .ok () (W.alloc (.map es c)) := MapKept.run_checkKey (k := .int K k) hk (by simp [MapKept.IsKey]) false 9999
  have hso := setObj_new W (.map es c) (.map (es.push ⟨.int K k, v, c⟩) (c + 1))
  simp [Instr.mapUpdate, run_underlying hm, MapKept.run_getObj_map hb, hc, MapKept.run_findKey hk hf, MapKept.run_setObj_map _ hb, Result.andThen]
  exact hso
theorem run_lookup_int (hm : P.underlying mty = some (.map kt et)) (hk : P.underlying kt = some (.int K)) (W : World) (m : Nat) (es : Array MapEntry) (c : Nat) (k : Int) (i : Nat) (v : Value) (ok : Bool) (hb : W.heap[m]? = some (.map es c)) (hf : Instr.findNow (.int K) (.int K k) es.toList 0 = some (some (i, v))) :
    (Instr.lookup mty (.map (some m)) (.int K k) ok).run P W = .ok (if ok then .tuple #[v, .bool true] else v) W := by
  have hc : (Instr.checkKey es.isEmpty 10000 kt (.int K k)).run P W = .ok () W := MapKept.run_checkKey (k := .int K k) hk (by simp [MapKept.IsKey]) _ 9999
  simp [Instr.lookup, run_underlying hm, MapKept.run_getObj_map hb, hc, MapKept.run_findKey hk hf, Result.andThen]
theorem run_lookup_int_none (hm : P.underlying mty = some (.map kt et)) (hk : P.underlying kt = some (.int K)) (W : World) (m : Nat) (es : Array MapEntry) (c : Nat) (k : Int) (z : Value) (ok : Bool) (hb : W.heap[m]? = some (.map es c)) (hf : Instr.findNow (.int K) (.int K k) es.toList 0 = some none) (hz : (zeroValue et).run P W = .ok z W) :
    (Instr.lookup mty (.map (some m)) (.int K k) ok).run P W = .ok (if ok then .tuple #[z, .bool false] else z) W := by
  have hc : (Instr.checkKey es.isEmpty 10000 kt (.int K k)).run P W = .ok () W := MapKept.run_checkKey (k := .int K k) hk (by simp [MapKept.IsKey]) _ 9999
  simp [Instr.lookup, run_underlying hm, MapKept.run_getObj_map hb, hc, MapKept.run_findKey hk hf, hz, Result.andThen]
end

/-- What the table holds. -/
def sortV (p : Int) (f d : Nat) : Value := .agg #[.int .u8 p, .func (.func f) #[] #[], .func (.func d) #[] #[]]
def sortsE : Nat → Array MapEntry
  | 0 => #[]
  | 1 => #[⟨.int .u8 1, sortV 6 79 80, 0⟩]
  | 2 => #[⟨.int .u8 1, sortV 6 79 80, 0⟩, ⟨.int .u8 2, sortV 17 81 82, 1⟩]
  | 3 => #[⟨.int .u8 1, sortV 6 79 80, 0⟩, ⟨.int .u8 2, sortV 17 81 82, 1⟩, ⟨.int .u8 3, sortV 1 83 84, 2⟩]
  | 4 => #[⟨.int .u8 1, sortV 6 79 80, 0⟩, ⟨.int .u8 2, sortV 17 81 82, 1⟩, ⟨.int .u8 3, sortV 1 83 84, 2⟩, ⟨.int .u8 4, sortV 1 83 84, 3⟩]
  | _ => #[⟨.int .u8 1, sortV 6 79 80, 0⟩, ⟨.int .u8 2, sortV 17 81 82, 1⟩, ⟨.int .u8 3, sortV 1 83 84, 2⟩, ⟨.int .u8 4, sortV 1 83 84, 3⟩, ⟨.int .u8 5, sortV 1 85 86, 4⟩]
def SortsM (W : World) (m : Nat) : Prop := W.heap[m]? = some (.map (sortsE 5) 5)
theorem SortsM.grown {W W' : World} {m : Nat} {row : Option Nat} (h : SortsM W m) (hg : W.grownBy W' row) (hr : some m ≠ row) : SortsM W' m := (hg.block m (by
  rcases Nat.lt_or_ge m W.heap.size with hl | hl
  · exact hl
  · unfold SortsM at h; rw [Array.getElem?_eq_none hl] at h; cases h) hr).trans h

set_option maxHeartbeats 400000 in
theorem sorts_any (w : World) : Calls Tryd.prog 46 #[] w fun e w' => ∃ m, e = .returned (.map (some m)) ∧ w.heap.size ≤ m ∧ SortsM w' m ∧ Below w.heap.size w w' := by
  have hmm := run_makeMap (P := Tryd.prog) 96 w
  have i1 := run_insert_int (P := Tryd.prog) Tryd.underlying96 Tryd.underlying5 w (sortsE 0) 0 1 (sortV 6 79 80) (by rfl)
  have i2 := run_insert_int (P := Tryd.prog) Tryd.underlying96 Tryd.underlying5 w (sortsE 1) 1 2 (sortV 17 81 82) (by rfl)
  have i3 := run_insert_int (P := Tryd.prog) Tryd.underlying96 Tryd.underlying5 w (sortsE 2) 2 3 (sortV 1 83 84) (by rfl)
  have i4 := run_insert_int (P := Tryd.prog) Tryd.underlying96 Tryd.underlying5 w (sortsE 3) 3 4 (sortV 1 83 84) (by rfl)
  have i5 := run_insert_int (P := Tryd.prog) Tryd.underlying96 Tryd.underlying5 w (sortsE 4) 4 5 (sortV 1 85 86) (by rfl)
  rw [show (#[] : Array MapEntry) = sortsE 0 from rfl] at hmm
  rw [show (sortsE 0).push ⟨.int .u8 1, sortV 6 79 80, 0⟩ = sortsE 1 from rfl] at i1
  rw [show (sortsE 1).push ⟨.int .u8 2, sortV 17 81 82, 1⟩ = sortsE 2 from rfl] at i2
  rw [show (sortsE 2).push ⟨.int .u8 3, sortV 1 83 84, 2⟩ = sortsE 3 from rfl] at i3
  rw [show (sortsE 3).push ⟨.int .u8 4, sortV 1 83 84, 3⟩ = sortsE 4 from rfl] at i4
  rw [show (sortsE 4).push ⟨.int .u8 5, sortV 1 85 86, 4⟩ = sortsE 5 from rfl] at i5
  unfold sortV at i1 i2 i3 i4 i5
  have Hs := Lib.hid (show SortsM (w.alloc (.map (sortsE 5) 5)) w.heap.size from heap_alloc_new w _)
  generalize sortsE 0 = e0 at *
  generalize sortsE 1 = e1 at *
  generalize sortsE 2 = e2 at *
  generalize sortsE 3 = e3 at *
  generalize sortsE 4 = e4 at *
  generalize sortsE 5 = e5 at *
  go_enter Tryd.func46, Tryd.ntmps46
  go_wp2_with fail
  go_ret
  exact ⟨_, rfl, Nat.le_refl _, Hs.out, (Below.refl _ _).alloc (Nat.le_refl _) _⟩

def protoS (k : Int) : Int := if k = 1 then 6 else if k = 2 then 17 else 1
def fieldsS (k : Int) : Nat := if k = 1 then 79 else if k = 2 then 81 else if k = 5 then 85 else 83
def dataS (k : Int) : Nat := if k = 1 then 80 else if k = 2 then 82 else if k = 5 then 86 else 84
def noSort : Value := .agg #[.int .u8 0, .nilFunc, .nilFunc]
theorem lookup_sorts (W : World) (m : Nat) (h : SortsM W m) (k : Int) (h0 : 1 ≤ k) (h1 : k ≤ 5) (ok : Bool) :
    (Instr.lookup 96 (.map (some m)) (.int .u8 k) ok).run Tryd.prog W = .ok (if ok then .tuple #[sortV (protoS k) (fieldsS k) (dataS k), .bool true] else sortV (protoS k) (fieldsS k) (dataS k)) W := by
  rcases (show k = 1 ∨ k = 2 ∨ k = 3 ∨ k = 4 ∨ k = 5 by omega) with rfl | rfl | rfl | rfl | rfl
  · exact run_lookup_int Tryd.underlying96 Tryd.underlying5 W m _ _ 1 0 _ ok h rfl
  · exact run_lookup_int Tryd.underlying96 Tryd.underlying5 W m _ _ 2 1 _ ok h rfl
  · exact run_lookup_int Tryd.underlying96 Tryd.underlying5 W m _ _ 3 2 _ ok h rfl
  · exact run_lookup_int Tryd.underlying96 Tryd.underlying5 W m _ _ 4 3 _ ok h rfl
  · exact run_lookup_int Tryd.underlying96 Tryd.underlying5 W m _ _ 5 4 _ ok h rfl
theorem lookup_sorts_none (W : World) (m : Nat) (h : SortsM W m) (k : Int) (hk : ¬ (1 ≤ k ∧ k ≤ 5)) (ok : Bool) :
    (Instr.lookup 96 (.map (some m)) (.int .u8 k) ok).run Tryd.prog W = .ok (if ok then .tuple #[noSort, .bool false] else noSort) W := by
  have hne : ∀ j : Int, 1 ≤ j → j ≤ 5 → (k == j) = false := fun j a b => by simp; omega
  refine run_lookup_int_none Tryd.underlying96 Tryd.underlying5 W m _ _ k noSort ok h ?_ (by kernel_rfl)
  have e1 := hne 1 (by omega) (by omega)
  have e2 := hne 2 (by omega) (by omega)
  have e3 := hne 3 (by omega) (by omega)
  have e4 := hne 4 (by omega) (by omega)
  have e5 := hne 5 (by omega) (by omega)
  simp [sortsE, Instr.findNow, Instr.sameNow, e1, e2, e3, e4, e5]

end Go.Proofs.YtebeekjcepjcnaaDoor
