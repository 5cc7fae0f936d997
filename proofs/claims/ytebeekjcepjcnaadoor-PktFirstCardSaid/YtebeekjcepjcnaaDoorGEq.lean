/-
  Facts compared by Go's '=='.
  Package build: Right.
  Package build: Answer.
-/
import Derived.Test.YtebeekjcepjcnaaDoorProg
import Derived.WalkKit
import Derived.WalkSpells
import Derived.WalkLawsBesides
import Derived.WalkSmall
import Derived.Lib.Hide
import Derived.Deep.AppendLies
import Derived.Maps.AppendAt
import Derived.Laws.AppendOwnNone
import Derived.Laws.CopyOwn
import Derived.OneCell
import Derived.Lib.SliceRun
import Derived.RangeFuncNested
import Derived.RangeFuncBound
import Derived.RangeFuncCalls
import Derived.RangeFuncLeaves
import Derived.Shelf.Abstract
import Derived.OwnWalkIn
import Derived.TacticsInMore
import Derived.LoopNIn
import Derived.LoopIn
import Derived.Lib.AppendZeros
import Derived.Laws.StructEq
import Derived.Orders
import Derived.RegionTactic
import Derived.Still
import Derived.Deep.MidRow
import Derived.MapKept
import Derived.Deep.DeepCutAuto
import Derived.Deep.RegionLaw
import Derived.Deep.RegionHeld3
import Derived.BigRegion
import Derived.ChangeAlike
import Derived.Test.YtebeekjcepjcnaaDoorGBase
import Derived.Test.YtebeekjcepjcnaaDoorGBits
import Derived.Test.YtebeekjcepjcnaaDoorGCsum
import Derived.Test.YtebeekjcepjcnaaDoorGSum
import Derived.Test.YtebeekjcepjcnaaDoorGFix
import Derived.Test.YtebeekjcepjcnaaDoorGFacts
import Derived.Test.YtebeekjcepjcnaaDoorGPkt
import Derived.Test.YtebeekjcepjcnaaDoorGWalk
import Derived.Test.YtebeekjcepjcnaaDoorGStep
import Derived.Test.YtebeekjcepjcnaaDoorGTcpw
import Derived.Test.YtebeekjcepjcnaaDoorGUdpw
import Derived.Test.YtebeekjcepjcnaaDoorGData
namespace Go.Proofs.YtebeekjcepjcnaaDoor
open Go.RowKit

def EqOk (P : Program) (W : World) (d : Nat) (xs ys : Array Value) : List Field → List Bool → Prop
  | [], [] => True
  | f :: fs, r :: rs => (f.name ≠ "_" ∧ ∃ a b, (part f.type xs f.offset).run P W = .ok a W ∧ (part f.type ys f.offset).run P W = .ok b W ∧ (Op.equalIn d f.type a b).run P W = .ok r W) ∧ EqOk P W d xs ys fs rs
  | _, _ => False
theorem eqFields_all {P : Program} {W : World} {d : Nat} {xs ys : Array Value} : ∀ (fs : List Field) (rs : List Bool), EqOk P W d xs ys fs rs → (Op.eqFields d xs ys fs).run P W = .ok (rs.all id) W
  | [], [], _ => by simp [Op.eqFields]
  | f :: fs, r :: rs, ⟨⟨h1, a, b, h2, h3, h4⟩, h5⟩ => by
    simp only [Op.eqFields, h1, ne_eq, not_false_eq_true, if_true, Sem.run_bind, h2, h3, h4, Result.andThen_ok]
    cases r
    · simp
    · simpa using eqFields_all fs rs h5
  | [], _ :: _, h => h.elim
  | _ :: _, [], h => h.elim

def Key.eqB (k l : Key) : Bool := [k.proto == l.proto, k.src == l.src, k.dst == l.dst, k.sp == l.sp, k.dp == l.dp].all id
theorem Key.eqB_iff {k l : Key} : k.eqB l = true ↔ k = l := by
  obtain ⟨a, b, c, d, e⟩ := k
  obtain ⟨a', b', c', d', e'⟩ := l
  simp [Key.eqB]
theorem equalIn_key (d : Nat) (k l : Key) (W : World) : (Op.equalIn (d + 2) 25 k.val l.val).run Tryd.prog W = .ok (k.eqB l) W := by
  unfold Key.val
  rw [run_equalIn_struct W (d + 1) 25 _ _ (by kernel_rfl) (by kernel_rfl)]
  have hf : (Tryd.prog.fieldsOf 25).toList = (Tryd.prog.fieldsOf 25).toList := rfl
  refine eqFields_all _ _ ?_
  simp only [Program.fieldsOf, Tryd.underlying25]
  exact ⟨⟨by decide, .int .u8 k.proto, .int .u8 l.proto, by kernel_rfl, by kernel_rfl, run_equalIn_int _ _ _ _ _ _ _ Tryd.underlying5⟩, ⟨by decide, .int .u32 k.src, .int .u32 l.src, by kernel_rfl, by kernel_rfl, run_equalIn_int _ _ _ _ _ _ _ Tryd.underlying22⟩, ⟨by decide, .int .u32 k.dst, .int .u32 l.dst, by kernel_rfl, by kernel_rfl, run_equalIn_int _ _ _ _ _ _ _ Tryd.underlying22⟩,
    ⟨by decide, .int .u16 k.sp, .int .u16 l.sp, by kernel_rfl, by kernel_rfl, run_equalIn_int _ _ _ _ _ _ _ Tryd.underlying23⟩, ⟨by decide, .int .u16 k.dp, .int .u16 l.dp, by kernel_rfl, by kernel_rfl, run_equalIn_int _ _ _ _ _ _ _ Tryd.underlying23⟩, trivial⟩

def Facts.eqB (f g : Facts) : Bool := [f.key.eqB g.key, f.kind == g.kind, f.flags == g.flags, f.type == g.type, f.code == g.code, f.seqn == g.seqn, f.ackn == g.ackn, f.window == g.window, f.length == g.length, f.quoted.eqB g.quoted, f.qkind == g.qkind].all id
theorem Facts.eqB_iff {f g : Facts} : f.eqB g = true ↔ f = g := by
  obtain ⟨a, b, c, d, e, f1, g1, h, i, j, k⟩ := f
  obtain ⟨a', b', c', d', e', f1', g1', h', i', j', k'⟩ := g
  simp [Facts.eqB, Key.eqB_iff]
set_option maxRecDepth 100000 in
theorem run_eq_facts (f g : Facts) (W : World) : (binOp .eql 27 f.val g.val).run Tryd.prog W = .ok (.bool (f.eqB g)) W := by
  unfold Facts.val
  rw [run_eql_struct, run_equalIn_struct W 9999 27 _ _ (by kernel_rfl) (by kernel_rfl)]
  have h : EqOk Tryd.prog W 9999 f.cells.toArray g.cells.toArray (Tryd.prog.fieldsOf 27).toList [f.key.eqB g.key, f.kind == g.kind, f.flags == g.flags, f.type == g.type, f.code == g.code, f.seqn == g.seqn, f.ackn == g.ackn, f.window == g.window, f.length == g.length, f.quoted.eqB g.quoted, f.qkind == g.qkind] := by
    simp only [Program.fieldsOf, Tryd.underlying27]
    exact ⟨⟨by decide, f.key.val, g.key.val, by kernel_rfl, by kernel_rfl, equalIn_key 9997 _ _ _⟩, ⟨by decide, .int .u8 f.kind, .int .u8 g.kind, by kernel_rfl, by kernel_rfl, run_equalIn_int _ _ _ _ _ _ _ Tryd.underlying5⟩, ⟨by decide, .int .u8 f.flags, .int .u8 g.flags, by kernel_rfl, by kernel_rfl, run_equalIn_int _ _ _ _ _ _ _ Tryd.underlying5⟩,
      ⟨by decide, .int .u8 f.type, .int .u8 g.type, by kernel_rfl, by kernel_rfl, run_equalIn_int _ _ _ _ _ _ _ Tryd.underlying5⟩, ⟨by decide, .int .u8 f.code, .int .u8 g.code, by kernel_rfl, by kernel_rfl, run_equalIn_int _ _ _ _ _ _ _ Tryd.underlying5⟩, ⟨by decide, .int .u32 f.seqn, .int .u32 g.seqn, by kernel_rfl, by kernel_rfl, run_equalIn_int _ _ _ _ _ _ _ Tryd.underlying22⟩,
      ⟨by decide, .int .u32 f.ackn, .int .u32 g.ackn, by kernel_rfl, by kernel_rfl, run_equalIn_int _ _ _ _ _ _ _ Tryd.underlying22⟩, ⟨by decide, .int .i64 f.window, .int .i64 g.window, by kernel_rfl, by kernel_rfl, run_equalIn_int _ _ _ _ _ _ _ Tryd.underlying3⟩, ⟨by decide, .int .i64 f.length, .int .i64 g.length, by kernel_rfl, by kernel_rfl, run_equalIn_int _ _ _ _ _ _ _ Tryd.underlying3⟩,
      ⟨by decide, f.quoted.val, g.quoted.val, by kernel_rfl, by kernel_rfl, equalIn_key 9997 _ _ _⟩, ⟨by decide, .int .u8 f.qkind, .int .u8 g.qkind, by kernel_rfl, by kernel_rfl, run_equalIn_int _ _ _ _ _ _ _ Tryd.underlying5⟩, trivial⟩
  rw [eqFields_all _ _ h]
  rfl

end Go.Proofs.YtebeekjcepjcnaaDoor
namespace Go.Proofs.YtebeekjcepjcnaaDoor
open Go.RowKit

theorem wpList_load_g {P : Program} {ops : Array Oper} {rest : List Oper} {o : Oper} {a : Act} {w : World} {Q : Exit → Act → World → Prop} (hw : Region.wanted o (yielded ops a.tmps) = true) (ty : TypeId) (x : Operand) (ho : o.op = .load ty x)
    (g : Nat) (hx : a.eval x = .pointer (some ⟨g, 0, none⟩)) (t : TypeId) (cs : Array Value) (fr : Nat × Nat) (d : TypeDesc) (hg : w.heap[g]? = some (.cells cs t fr))
    (hu : P.underlying ty = some d) (hd : (match d with | .struct _ | .array _ _ => true | _ => false) = true) (hi : (P.info? ty).map (·.size) = some cs.size)
    (h : wpList P ops Q rest (a.put o.dst (.agg cs)) w) : wpList P ops Q (o :: rest) a w := by
  rw [wpList, if_pos hw]
  exact .inl (wp_load_row ty x ho g hx t cs fr d hg hu hd hi h)
def Facts.fPart (f : Facts) : Facts := if f.kind = 1 then f.tcpPart else if f.kind = 2 then f.udpPart else if f.kind = 5 then f.errorPart else f.queryPart
def Facts.fRight (f : Facts) : Bool := if f.kind = 1 then f.rightTCP else if f.kind = 2 then f.rightUDP else if f.kind = 5 then f.rightError else f.rightQuery
def Facts.right (f : Facts) : Bool := decide (1 ≤ f.kind) && decide (f.kind ≤ 5) && (f.key.proto == protoS f.kind) && usualB f.key.src && usualB f.key.dst && !(f.key.src == f.key.dst) && f.fRight && f.fPart.eqB f

end Go.Proofs.YtebeekjcepjcnaaDoor
namespace Go.Proofs.YtebeekjcepjcnaaDoor
open Go.RowKit

/-- A block into which a region stores in a chain. -/
def StN (w : World) (B : Nat) (L : List (Nat × TypeId × Array Value)) (R : Nat) (t : TypeId) (cs : Nat → Array Value) (c : Nat) (W : World) : Prop := St w B L W ∧ B ≤ R ∧ (∀ x ∈ L, x.1 ≠ R) ∧ Blk W R t (cs c)
theorem StN.drew {w W : World} {B : Nat} {L : List (Nat × TypeId × Array Value)} {R : Nat} {t : TypeId} {cs : Nat → Array Value} {c : Nat} (h : StN w B L R t cs c W) : StN w B L R t cs c W.drew := ⟨h.1.drew, h.2.1, h.2.2.1, h.2.2.2.drew⟩
theorem StN.set {w W : World} {B : Nat} {L : List (Nat × TypeId × Array Value)} {R : Nat} {t : TypeId} {cs : Nat → Array Value} {c : Nat} (h : StN w B L R t cs c W) (i : Nat) (u : Value) (hc : (cs c).setIfInBounds i u = cs (c + 1)) : StN w B L R t cs (c + 1) (W.setCell ⟨R, i, none⟩ u) :=
  ⟨h.1.setFar (p := ⟨R, i, none⟩) h.2.1 h.2.2.1 u, h.2.1, h.2.2.1, by rw [← hc]; exact h.2.2.2.set i u⟩

end Go.Proofs.YtebeekjcepjcnaaDoor
