/-
  Facts compared by Go's '=='.
  Package build: Right.
  Package build: Answer.
  icmp.Read, whole.
-/
import Derived.Test.YtebeekjcepjcnaaDoorProg
import Derived.WalkKit
import Derived.WalkSpells
import Derived.WalkLawsBesides
import Derived.WalkSmall
import Derived.Lib.Hide
import Derived.Deep.AppendLies
import Derived.Maps.AppendAt
import Derived.Laws.AppendOwnNone
import Derived.Laws.CopyOwn
import Derived.OneCell
import Derived.Lib.SliceRun
import Derived.RangeFuncNested
import Derived.RangeFuncBound
import Derived.RangeFuncCalls
import Derived.RangeFuncLeaves
import Derived.Shelf.Abstract
import Derived.OwnWalkIn
import Derived.TacticsInMore
import Derived.LoopNIn
import Derived.LoopIn
import Derived.Lib.AppendZeros
import Derived.Laws.StructEq
import Derived.Orders
import Derived.RegionTactic
import Derived.Still
import Derived.Deep.MidRow
import Derived.MapKept
import Derived.Deep.DeepCutAuto
import Derived.Deep.RegionLaw
import Derived.Deep.RegionHeld3
import Derived.BigRegion
import Derived.ChangeAlike
import Derived.Test.YtebeekjcepjcnaaDoorSBase
import Derived.Test.YtebeekjcepjcnaaDoorSMem
import Derived.Test.YtebeekjcepjcnaaDoorSCsum
import Derived.Test.YtebeekjcepjcnaaDoorSSum
import Derived.Test.YtebeekjcepjcnaaDoorSRegion
import Derived.Test.YtebeekjcepjcnaaDoorSWalk
import Derived.Test.YtebeekjcepjcnaaDoorSStep
import Derived.Test.YtebeekjcepjcnaaDoorSStepb
import Derived.Test.YtebeekjcepjcnaaDoorSConcat
import Derived.Test.YtebeekjcepjcnaaDoorSPkt
import Derived.Test.YtebeekjcepjcnaaDoorSTcpw
import Derived.Test.YtebeekjcepjcnaaDoorSIcmpr
import Derived.Test.YtebeekjcepjcnaaDoorSIprd
import Derived.Test.YtebeekjcepjcnaaDoorSIpre
import Derived.Test.YtebeekjcepjcnaaDoorSTcprd
namespace Go.Proofs.YtebeekjcepjcnaaDoor
open Go.RowKit

def EqOk (P : Program) (W : World) (d : Nat) (xs ys : Array Value) : List Field → List Bool → Prop
  | [], [] => True
  | f :: fs, r :: rs => (f.name ≠ "_" ∧ ∃ a b, (part f.type xs f.offset).run P W = .ok a W ∧ (part f.type ys f.offset).run P W = .ok b W ∧ (Op.equalIn d f.type a b).run P W = .ok r W) ∧ EqOk P W d xs ys fs rs
  | _, _ => False
theorem eqFields_all {P : Program} {W : World} {d : Nat} {xs ys : Array Value} : ∀ (fs : List Field) (rs : List Bool), EqOk P W d xs ys fs rs → (Op.eqFields d xs ys fs).run P W = .ok (rs.all id) W
  | [], [], _ => by simp [Op.eqFields]
  | f :: fs, r :: rs, ⟨⟨h1, a, b, h2, h3, h4⟩, h5⟩ => by
    simp only [Op.eqFields, h1, ne_eq, not_false_eq_true, if_true, Sem.run_bind, h2, h3, h4, Result.andThen_ok]
    cases r
    · simp
    · simpa using eqFields_all fs rs h5
  | [], _ :: _, h => h.elim
  | _ :: _, [], h => h.elim

def Key.eqB (k l : Key) : Bool := [k.proto == l.proto, k.src == l.src, k.dst == l.dst, k.sp == l.sp, k.dp == l.dp].all id
theorem Key.eqB_iff {k l : Key} : k.eqB l = true ↔ k = l := by
  obtain ⟨a, b, c, d, e⟩ := k
  obtain ⟨a', b', c', d', e'⟩ := l
  simp [Key.eqB]
theorem equalIn_key (d : Nat) (k l : Key) (W : World) : (Op.equalIn (d + 2) 25 k.val l.val).run Tryd.prog W = .ok (k.eqB l) W := by
  unfold Key.val
  rw [run_equalIn_struct W (d + 1) 25 _ _ (by kernel_rfl) (by kernel_rfl)]
  have hf : (Tryd.prog.fieldsOf 25).toList = (Tryd.prog.fieldsOf 25).toList := rfl
  refine eqFields_all _ _ ?_
  simp only [Program.fieldsOf, Tryd.underlying25]
  exact ⟨⟨by decide, .int .u8 k.proto, .int .u8 l.proto, by kernel_rfl, by kernel_rfl, run_equalIn_int _ _ _ _ _ _ _ Tryd.underlying5⟩, ⟨by decide, .int .u32 k.src, .int .u32 l.src, by kernel_rfl, by kernel_rfl, run_equalIn_int _ _ _ _ _ _ _ Tryd.underlying22⟩, ⟨by decide, .int .u32 k.dst, .int .u32 l.dst, by kernel_rfl, by kernel_rfl, run_equalIn_int _ _ _ _ _ _ _ Tryd.underlying22⟩,
    ⟨by decide, .int .u16 k.sp, .int .u16 l.sp, by kernel_rfl, by kernel_rfl, run_equalIn_int _ _ _ _ _ _ _ Tryd.underlying23⟩, ⟨by decide, .int .u16 k.dp, .int .u16 l.dp, by kernel_rfl, by kernel_rfl, run_equalIn_int _ _ _ _ _ _ _ Tryd.underlying23⟩, trivial⟩

def Facts.eqB (f g : Facts) : Bool := [f.key.eqB g.key, f.kind == g.kind, f.flags == g.flags, f.type == g.type, f.code == g.code, f.seqn == g.seqn, f.ackn == g.ackn, f.window == g.window, f.length == g.length, f.quoted.eqB g.quoted, f.qkind == g.qkind].all id
theorem Facts.eqB_iff {f g : Facts} : f.eqB g = true ↔ f = g := by
  obtain ⟨a, b, c, d, e, f1, g1, h, i, j, k⟩ := f
  obtain ⟨a', b', c', d', e', f1', g1', h', i', j', k'⟩ := g
  simp [Facts.eqB, Key.eqB_iff]
set_option maxRecDepth 100000 in
theorem run_eq_facts (f g : Facts) (W : World) : (binOp .eql 27 f.val g.val).run Tryd.prog W = .ok (.bool (f.eqB g)) W := by
  unfold Facts.val
  rw [run_eql_struct, run_equalIn_struct W 9999 27 _ _ (by kernel_rfl) (by kernel_rfl)]
  have h : EqOk Tryd.prog W 9999 f.cells.toArray g.cells.toArray (Tryd.prog.fieldsOf 27).toList [f.key.eqB g.key, f.kind == g.kind, f.flags == g.flags, f.type == g.type, f.code == g.code, f.seqn == g.seqn, f.ackn == g.ackn, f.window == g.window, f.length == g.length, f.quoted.eqB g.quoted, f.qkind == g.qkind] := by
    simp only [Program.fieldsOf, Tryd.underlying27]
    exact ⟨⟨by decide, f.key.val, g.key.val, by kernel_rfl, by kernel_rfl, equalIn_key 9997 _ _ _⟩, ⟨by decide, .int .u8 f.kind, .int .u8 g.kind, by kernel_rfl, by kernel_rfl, run_equalIn_int _ _ _ _ _ _ _ Tryd.underlying5⟩, ⟨by decide, .int .u8 f.flags, .int .u8 g.flags, by kernel_rfl, by kernel_rfl, run_equalIn_int _ _ _ _ _ _ _ Tryd.underlying5⟩,
      ⟨by decide, .int .u8 f.type, .int .u8 g.type, by kernel_rfl, by kernel_rfl, run_equalIn_int _ _ _ _ _ _ _ Tryd.underlying5⟩, ⟨by decide, .int .u8 f.code, .int .u8 g.code, by kernel_rfl, by kernel_rfl, run_equalIn_int _ _ _ _ _ _ _ Tryd.underlying5⟩, ⟨by decide, .int .u32 f.seqn, .int .u32 g.seqn, by kernel_rfl, by kernel_rfl, run_equalIn_int _ _ _ _ _ _ _ Tryd.underlying22⟩,
      ⟨by decide, .int .u32 f.ackn, .int .u32 g.ackn, by kernel_rfl, by kernel_rfl, run_equalIn_int _ _ _ _ _ _ _ Tryd.underlying22⟩, ⟨by decide, .int .i64 f.window, .int .i64 g.window, by kernel_rfl, by kernel_rfl, run_equalIn_int _ _ _ _ _ _ _ Tryd.underlying3⟩, ⟨by decide, .int .i64 f.length, .int .i64 g.length, by kernel_rfl, by kernel_rfl, run_equalIn_int _ _ _ _ _ _ _ Tryd.underlying3⟩,
      ⟨by decide, f.quoted.val, g.quoted.val, by kernel_rfl, by kernel_rfl, equalIn_key 9997 _ _ _⟩, ⟨by decide, .int .u8 f.qkind, .int .u8 g.qkind, by kernel_rfl, by kernel_rfl, run_equalIn_int _ _ _ _ _ _ _ Tryd.underlying5⟩, trivial⟩
  rw [eqFields_all _ _ h]
  rfl

end Go.Proofs.YtebeekjcepjcnaaDoor
namespace Go.Proofs.YtebeekjcepjcnaaDoor
open Go.RowKit

def Facts.fPart (f : Facts) : Facts := if f.kind = 1 then f.tcpPart else if f.kind = 2 then f.udpPart else if f.kind = 5 then f.errorPart else f.queryPart
def Facts.fRight (f : Facts) : Bool := if f.kind = 1 then f.rightTCP else if f.kind = 2 then f.rightUDP else if f.kind = 5 then f.rightError else f.rightQuery
def Facts.right (f : Facts) : Bool := decide (1 ≤ f.kind) && decide (f.kind ≤ 5) && (f.key.proto == protoS f.kind) && usualB f.key.src && usualB f.key.dst && !(f.key.src == f.key.dst) && f.fRight && f.fPart.eqB f

end Go.Proofs.YtebeekjcepjcnaaDoor
namespace Go.Proofs.YtebeekjcepjcnaaDoor
open Go.RowKit

/-- A block into which a region stores in a chain. -/
def StN (w : World) (B : Nat) (L : List (Nat × TypeId × Array Value)) (R : Nat) (t : TypeId) (cs : Nat → Array Value) (c : Nat) (W : World) : Prop := St w B L W ∧ B ≤ R ∧ (∀ x ∈ L, x.1 ≠ R) ∧ Blk W R t (cs c)
theorem StN.drew {w W : World} {B : Nat} {L : List (Nat × TypeId × Array Value)} {R : Nat} {t : TypeId} {cs : Nat → Array Value} {c : Nat} (h : StN w B L R t cs c W) : StN w B L R t cs c W.drew := ⟨h.1.drew, h.2.1, h.2.2.1, h.2.2.2.drew⟩
theorem StN.set {w W : World} {B : Nat} {L : List (Nat × TypeId × Array Value)} {R : Nat} {t : TypeId} {cs : Nat → Array Value} {c : Nat} (h : StN w B L R t cs c W) (i : Nat) (u : Value) (hc : (cs c).setIfInBounds i u = cs (c + 1)) : StN w B L R t cs (c + 1) (W.setCell ⟨R, i, none⟩ u) :=
  ⟨h.1.setFar (p := ⟨R, i, none⟩) h.2.1 h.2.2.1 u, h.2.1, h.2.2.1, by rw [← hc]; exact h.2.2.2.set i u⟩

end Go.Proofs.YtebeekjcepjcnaaDoor
namespace Go.Proofs.YtebeekjcepjcnaaDoor
open Go.RowKit
def msgN (d : List Int) : Array Value := #[.int .u8 (d.getD 0 0), .int .u8 (d.getD 1 0), .int .u16 (w16At d 4), .int .u16 (w16At d 6)]
def msgZ : Array Value := #[.int .u8 0, .int .u8 0, .int .u16 0, .int .u16 0]
set_option maxRecDepth 100000 in
set_option maxHeartbeats 2000000 in
theorem icmpReadG_any (A : Option Addr) (cap n : Nat) (xs : List Int) (w : World) (hn : xs.length = n) (hcap : n ≤ cap) (hb : Byt xs) (hr : Rd w w.heap.size A .u8 xs) (hs : SortsAt w) :
    Calls Tryd.prog 65 #[.slice A n cap] w fun e w' => e = .returned (.tuple #[.agg (if icmpE xs = 0 then msgN xs else msgZ), .int .i64 (icmpE xs)]) ∧ Below w.heap.size w w' := by
  by_cases h8 : n < 8
  · have hE : icmpE xs = 100 := by unfold icmpE; rw [if_pos (by omega)]
    rw [hE, if_neg (by decide)]
    have g1 : (n : Int) < 8 := by omega
    clear hE
    unfold msgZ
    go_enter Tryd.func65, Tryd.ntmps65
    go_wp2_with (first | ((with_reducible refine look_store ?_); refine wpList_store_new rfl _ _ _ rfl _ _ rfl rfl _ _ rfl (by kernel_rfl) (by simp) (by simp [Value.oneCell']) ?_) | fail)
    exact bodyPost_ret (results_cell_tmp Tryd.results65 _ _ _ _ _ _ _ rfl (Blk.new _ _ _) Tryd.underlying84 rfl (by kernel_rfl)) rfl ⟨rfl, (Below.refl _ _).alloc (Nat.le_refl _) _⟩
  have hE : icmpE xs = kind2 (xs.getD 0 0).toNat (xs.getD 1 0).toNat := by unfold icmpE; rw [if_neg (by omega)]
  by_cases hk : kind2 (xs.getD 0 0).toNat (xs.getD 1 0).toNat = 0
  · rw [hE, hk, if_pos rfl]
    exact icmpRead_any A cap n xs w hn (by omega) hcap hb hr hs hk
  rw [hE, if_neg hk]
  obtain ⟨b, off, rfl, hbl, hc⟩ := hr.at0 (by omega)
  have c0 := hc 0 (by omega)
  have c1 := hc 1 (by omega)
  rw [Nat.add_zero] at c0
  obtain ⟨x0, x1⟩ := hb.at_ 0
  obtain ⟨y0, y1⟩ := hb.at_ 1
  have HK := Lib.hid (fun (W : World) (h : SortsAt W) => kindI_any (xs.getD 0 0) (xs.getD 1 0) W x0 x1 y0 h)
  have Hs := Lib.hid hs
  clear hr hc hn hb hs hE
  unfold msgZ
  generalize kind1 (xs.getD 0 0).toNat (xs.getD 1 0).toNat = e1 at *
  generalize kind2 (xs.getD 0 0).toNat (xs.getD 1 0).toNat = e2 at *
  generalize xs.getD 0 0 = x at *
  generalize xs.getD 1 0 = y at *
  have hd : decide ((n : Int) < 8) = false := by simp; omega
  have he2 : (e2 == 0) = false := by simpa using hk
  have i0 : (0 : Int) < n := by omega
  have i1 : (1 : Int) < n := by omega
  clear hk
  go_enter Tryd.func65, Tryd.ntmps65
  go_wp2_with (first | ((with_reducible refine look_store ?_); refine wpList_store_new rfl _ _ _ rfl _ _ rfl rfl _ _ rfl (by kernel_rfl) (by simp) (by simp [Value.oneCell']) ?_) | fail)
  refine wp_name1 ?_
  intro w1 hb1 hs1 bR
  have hSt := (St.nil hb1 hb1.size).cons bR
  refine wp_region_walk0 (by kernel_rfl) (fun _ W => St w w.heap.size _ W) [] Grow [0, 1, 2, 3, 4, 5, 6, 7, 8, 9, 10, 11] (by kernel_rfl) hSt.drew ?_
  iterate 12
    apply Walk.one rfl rfl rfl
    case hrun =>
      intro c W hE hF
      have d0 := (hE.1.cell (p := ⟨b, off, none⟩) hbl).trans c0
      have d1 := (hE.1.cell (p := ⟨b, off + 1, none⟩) hbl).trans c1
      have Hs2 := Lib.hid (Hs.out.below hE.1 (Nat.le_refl _))
      go_wp2_with (first | (go_at_call 68; refine (HK.out _ Hs2.out).mono ?_; rintro e wk ⟨rfl, rfl⟩) | fail)
      exact TextPost.mk ⟨Grow.refl _, hE⟩
    case hv => rfl
  refine Walk.done (fun W hE hF => ?_)
  have bR2 := hE.get 0 rfl
  have hbW := hE.1
  clear hE hF hSt bR hb1 hs1
  go_wp2_with (first | ((with_reducible refine look_store ?_); refine wpList_store_row rfl _ _ _ rfl _ _ rfl rfl _ _ bR2 (by kernel_rfl) (by simp) (by simp [Value.oneCell']) ?_) | fail)
  exact bodyPost_ret (results_cell_tmp Tryd.results65 _ _ _ _ _ _ _ rfl (setRow_heap _ _ _ _ _ _ bR2) Tryd.underlying84 rfl (by kernel_rfl)) rfl ⟨rfl, below_setRow hbW (Nat.le_refl _) _⟩
end Go.Proofs.YtebeekjcepjcnaaDoor
