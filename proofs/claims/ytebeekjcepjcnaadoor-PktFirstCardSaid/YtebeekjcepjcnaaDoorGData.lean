/-
  Package build: the data of a segment, a datagram, a message; a header before some data.
  Maps with integer keys that a call makes: a new key, a look-up. Package build: the table of sorts.
  Package build: the packet that an error quotes.
  Package build: what is right for an error; what is right for each kind.
  icmp.word, Read, Answer.
-/
import Derived.WalkKit
import Derived.WalkSpells
import Derived.WalkLawsBesides
import Derived.WalkSmall
import Derived.Lib.Hide
import Derived.Deep.AppendLies
import Derived.Maps.AppendAt
import Derived.Laws.AppendOwnNone
import Derived.Laws.CopyOwn
import Derived.OneCell
import Derived.Orders
import Derived.RegionTactic
import Derived.Still
import Derived.Test.YtebeekjcepjcnaaDoorProg
import Derived.Deep.MidRow
import Derived.Lib.SliceRun
import Derived.RangeFuncNested
import Derived.RangeFuncBound
import Derived.RangeFuncCalls
import Derived.RangeFuncLeaves
import Derived.Shelf.Abstract
import Derived.OwnWalkIn
import Derived.TacticsInMore
import Derived.LoopNIn
import Derived.LoopIn
import Derived.Lib.AppendZeros
import Derived.Deep.RegionLaw
import Derived.Deep.RegionHeld3
import Derived.Deep.DeepCutAuto
import Derived.BigRegion
import Derived.ChangeAlike
import Derived.MapKept
import Derived.Test.YtebeekjcepjcnaaDoorGBase
import Derived.Test.YtebeekjcepjcnaaDoorGBits
import Derived.Test.YtebeekjcepjcnaaDoorGCsum
import Derived.Test.YtebeekjcepjcnaaDoorGSum
import Derived.Test.YtebeekjcepjcnaaDoorGFix
import Derived.Test.YtebeekjcepjcnaaDoorGFacts
import Derived.Test.YtebeekjcepjcnaaDoorGPkt
import Derived.Test.YtebeekjcepjcnaaDoorGWalk
import Derived.Test.YtebeekjcepjcnaaDoorGStep
import Derived.Test.YtebeekjcepjcnaaDoorGTcpw
import Derived.Test.YtebeekjcepjcnaaDoorGUdpw
namespace Go.Proofs.YtebeekjcepjcnaaDoor
open Go.RowKit

/-- The world grows. -/
def Grow (W W' : World) : Prop := Below W.heap.size W W'
theorem Grow.refl (W : World) : Grow W W := Below.refl _ _
theorem Own.keep {b : Nat} {v : Value} {xs : List Int} {W W' : World} (h : Own W b v xs) (hG : Grow W W') : Own W' b v xs := h.below hG (Nat.le_refl _)
theorem tup_inj {r : Value} (x y : Value) (h : (.tuple #[x, r] : Value) = .tuple #[y, r]) : x = y := by simpa using h
theorem slice_inj {n m : Nat} (x y : Nat) (h : Value.slice (some ⟨x, 0, none⟩) n m = Value.slice (some ⟨y, 0, none⟩) n m) : x = y := by simpa using h
def zerosL (n : Nat) : List Int := List.replicate n 0
theorem zerosL_len (n : Nat) : (zerosL n).length = n := by simp [zerosL]
theorem zerosL_byt (n : Nat) : Byt (zerosL n) := Byt.zeros n

end Go.Proofs.YtebeekjcepjcnaaDoor
namespace Go.Proofs.YtebeekjcepjcnaaDoor
open Go.RowKit

section
variable {P : Program} {mty kt et : TypeId} {K : IntKind}
theorem setObj_new (W : World) (o o' : Obj) : ({ W.alloc o with heap := (W.alloc o).heap.setIfInBounds W.heap.size o' } : World) = W.alloc o' := by
  have : (W.heap.push o).setIfInBounds W.heap.size o' = W.heap.push o' := by
    apply Array.ext
    · simp
    · intro i h1 h2
      simp only [Array.size_setIfInBounds, Array.size_push] at h1
      by_cases hi : i = W.heap.size
      · subst hi; simp
      · rw [Array.getElem_setIfInBounds_ne (by simpa using h1) (Ne.symm hi), Array.getElem_push_lt (by omega), Array.getElem_push_lt (by omega)]
  show ({ W.alloc o with heap := _ } : World) = _
  rw [show (W.alloc o).heap = W.heap.push o from rfl, this]
  rfl
theorem run_insert_int (hm : P.underlying mty = some (.map kt et)) (hk : P.underlying kt = some (.int K)) (W : World) (es : Array MapEntry) (c : Nat) (k : Int) (v : Value) (hf : Instr.findNow (.int K) (.int K k) es.toList 0 = some none) :
    (Instr.mapUpdate mty (.map (some W.heap.size)) (.int K k) v).run P (W.alloc (.map es c)) = .ok () (W.alloc (.map (es.push ⟨.int K k, v, c⟩) (c + 1))) := by
  have hb : (W.alloc (.map es c)).heap[W.heap.size]? = some (.map es c) := heap_alloc_new W _
  have hc : (Instr.checkKey false 10000 kt (.int K k)).run P (W.alloc (.map es c)) = .ok () (W.alloc (.map es c)) := MapKept.run_checkKey (k := .int K k) hk (by simp [MapKept.IsKey]) false 9999
  have hso := setObj_new W (.map es c) (.map (es.push ⟨.int K k, v, c⟩) (c + 1))
  simp [Instr.mapUpdate, run_underlying hm, MapKept.run_getObj_map hb, hc, MapKept.run_findKey hk hf, MapKept.run_setObj_map _ hb, Result.andThen]
  exact hso
theorem run_lookup_int (hm : P.underlying mty = some (.map kt et)) (hk : P.underlying kt = some (.int K)) (W : World) (m : Nat) (es : Array MapEntry) (c : Nat) (k : Int) (i : Nat) (v : Value) (ok : Bool) (hb : W.heap[m]? = some (.map es c)) (hf : Instr.findNow (.int K) (.int K k) es.toList 0 = some (some (i, v))) :
    (Instr.lookup mty (.map (some m)) (.int K k) ok).run P W = .ok (if ok then .tuple #[v, .bool true] else v) W := by
  have hc : (Instr.checkKey es.isEmpty 10000 kt (.int K k)).run P W = .ok () W := MapKept.run_checkKey (k := .int K k) hk (by simp [MapKept.IsKey]) _ 9999
  simp [Instr.lookup, run_underlying hm, MapKept.run_getObj_map hb, hc, MapKept.run_findKey hk hf, Result.andThen]
theorem run_lookup_int_none (hm : P.underlying mty = some (.map kt et)) (hk : P.underlying kt = some (.int K)) (W : World) (m : Nat) (es : Array MapEntry) (c : Nat) (k : Int) (z : Value) (ok : Bool) (hb : W.heap[m]? = some (.map es c)) (hf : Instr.findNow (.int K) (.int K k) es.toList 0 = some none) (hz : (zeroValue et).run P W = .ok z W) :
    (Instr.lookup mty (.map (some m)) (.int K k) ok).run P W = .ok (if ok then .tuple #[z, .bool false] else z) W := by
  have hc : (Instr.checkKey es.isEmpty 10000 kt (.int K k)).run P W = .ok () W := MapKept.run_checkKey (k := .int K k) hk (by simp [MapKept.IsKey]) _ 9999
  simp [Instr.lookup, run_underlying hm, MapKept.run_getObj_map hb, hc, MapKept.run_findKey hk hf, hz, Result.andThen]
end

/-- What the table holds. -/
def sortV (p : Int) (f d : Nat) : Value := .agg #[.int .u8 p, .func (.func f) #[] #[], .func (.func d) #[] #[]]
def sortsE : Nat → Array MapEntry
  | 0 => #[]
  | 1 => #[⟨.int .u8 1, sortV 6 79 80, 0⟩]
  | 2 => #[⟨.int .u8 1, sortV 6 79 80, 0⟩, ⟨.int .u8 2, sortV 17 81 82, 1⟩]
  | 3 => #[⟨.int .u8 1, sortV 6 79 80, 0⟩, ⟨.int .u8 2, sortV 17 81 82, 1⟩, ⟨.int .u8 3, sortV 1 83 84, 2⟩]
  | 4 => #[⟨.int .u8 1, sortV 6 79 80, 0⟩, ⟨.int .u8 2, sortV 17 81 82, 1⟩, ⟨.int .u8 3, sortV 1 83 84, 2⟩, ⟨.int .u8 4, sortV 1 83 84, 3⟩]
  | _ => #[⟨.int .u8 1, sortV 6 79 80, 0⟩, ⟨.int .u8 2, sortV 17 81 82, 1⟩, ⟨.int .u8 3, sortV 1 83 84, 2⟩, ⟨.int .u8 4, sortV 1 83 84, 3⟩, ⟨.int .u8 5, sortV 1 85 86, 4⟩]
def SortsM (W : World) (m : Nat) : Prop := W.heap[m]? = some (.map (sortsE 5) 5)
theorem SortsM.grown {W W' : World} {m : Nat} {row : Option Nat} (h : SortsM W m) (hg : W.grownBy W' row) (hr : some m ≠ row) : SortsM W' m := (hg.block m (by
  rcases Nat.lt_or_ge m W.heap.size with hl | hl
  · exact hl
  · unfold SortsM at h; rw [Array.getElem?_eq_none hl] at h; cases h) hr).trans h

def protoS (k : Int) : Int := if k = 1 then 6 else if k = 2 then 17 else 1
end Go.Proofs.YtebeekjcepjcnaaDoor
namespace Go.Proofs.YtebeekjcepjcnaaDoor
open Go.RowKit

def isQ (k : Int) : Bool := decide (1 ≤ k) && decide (k ≤ 4)
def Facts.quotedF (f : Facts) : Facts := { Facts.zero with key := f.quoted, kind := f.qkind, flags := if f.qkind = 1 then 16 else 0, type := if f.qkind = 3 then 8 else 0 }
def qProto (k : Int) : Int := if isQ k then protoS k else 0
end Go.Proofs.YtebeekjcepjcnaaDoor
namespace Go.Proofs.YtebeekjcepjcnaaDoor
open Go.RowKit

def Facts.qRight (f : Facts) : Bool := if f.qkind = 1 then f.quotedF.rightTCP else if f.qkind = 3 ∨ f.qkind = 4 then f.quotedF.rightQuery else f.quotedF.rightUDP
/-- What is right for an error. -/
def Facts.errorPart (f : Facts) : Facts := { Facts.zero with key := f.key, kind := f.kind, type := f.type, code := f.code, length := f.length, quoted := f.quoted, qkind := f.qkind }
def Facts.rightError (f : Facts) : Bool := (kind2 f.type.toNat f.code.toNat == 0) && (kind1 f.type.toNat f.code.toNat == f.kind) && isQ f.qkind && f.qRight && (f.quoted.proto == qProto f.qkind) && (f.key.sp == 0) && (f.key.dp == 0) && betweenB f.length 28 65507

/-- Nothing is asked of the world's way. -/
def GTop (_ _ : World) : Prop := True
theorem GTop.mk {W W' : World} : GTop W W' := trivial
theorem oneC_int (k : IntKind) (x : Int) : (Value.int k x).oneCell' = true := rfl
end Go.Proofs.YtebeekjcepjcnaaDoor
namespace Go.Proofs.YtebeekjcepjcnaaDoor
open Go.RowKit

def w16 (a b : Int) : Int := 256 * a + b
theorem or_word (a b : Int) (a0 : 0 ≤ a) (a1 : a < 256) (b0 : 0 ≤ b) (b1 : b < 256) : bits .or .u16 (a * 256) b = w16 a b := or_u16_word a b a0 a1 b0 b1

set_option maxRecDepth 100000 in
set_option maxHeartbeats 1000000 in
theorem icmpWord_any (A : Option Addr) (cap n : Nat) (xs : List Int) (w : World) (hn : xs.length = n) (hl : 2 ≤ n) (hb : Byt xs) (hr : Rd w w.heap.size A .u8 xs) :
    Calls Tryd.prog 120 #[.slice A n cap] w fun e w' => e = .returned (.int .u16 (w16 (xs.getD 0 0) (xs.getD 1 0))) ∧ Below w.heap.size w w' := by
  obtain ⟨b, off, rfl, hbl, hc⟩ := hr.at0 (by omega)
  have c0 := hc 0 (by omega)
  have c1 := hc 1 (by omega)
  obtain ⟨x0, x1⟩ := hb.at_ 0
  obtain ⟨y0, y1⟩ := hb.at_ 1
  have ho := or_word (xs.getD 0 0) (xs.getD 1 0) x0 x1 y0 y1
  clear hr hc hn
  generalize w16 (xs.getD 0 0) (xs.getD 1 0) = R at *
  generalize xs.getD 0 0 = x at *
  generalize xs.getD 1 0 = y at *
  rw [Nat.add_zero] at c0
  go_enter Tryd.func120, Tryd.ntmps120
  go_wp2_with fail
  refine wp_region_walk0 (by kernel_rfl) (fun _ W => St w w.heap.size [] W) [] Grow [0, 1, 2, 3, 4, 5, 6, 7, 8, 9, 10] (by kernel_rfl) (St.nil (Below.refl _ w) (Nat.le_refl _)).drew ?_
  iterate 11
    apply Walk.one rfl rfl rfl
    case hrun =>
      intro c W hE hF
      have d0 := (hE.1.cell (p := ⟨b, off, none⟩) hbl).trans c0
      have d1 := (hE.1.cell (p := ⟨b, off + 1, none⟩) hbl).trans c1
      go_wp2_with fail
      exact TextPost.mk ⟨Grow.refl _, hE⟩
    case hv => rfl
  refine Walk.done (fun W hE hF => ?_)
  have hbW := hE.1
  clear hE hF
  go_wp2_with fail
  go_ret
  exact ⟨rfl, hbW⟩

theorem Rd.word {w : World} {B : Nat} {b off : Nat} {xs : List Int} (h : Rd w B (some ⟨b, off, none⟩) .u8 xs) (k : Nat) : Rd w B (some ⟨b, off + k, none⟩) .u8 (xs.drop k) :=
  h.drop k (fun _ b' off' e => by
    simp only [Option.some.injEq, Addr.mk.injEq, and_true] at e
    obtain ⟨rfl, rfl⟩ := e
    rfl)
theorem getD_drop0 (xs : List Int) (k j : Nat) : (xs.drop k).getD j 0 = xs.getD (k + j) 0 := by simp [List.getD_eq_getElem?_getD]

set_option maxRecDepth 100000 in
set_option maxHeartbeats 2000000 in
theorem icmpRead_any (A : Option Addr) (cap n : Nat) (xs : List Int) (w : World) (hn : xs.length = n) (hl : 8 ≤ n) (hcap : n ≤ cap) (hb : Byt xs) (hr : Rd w w.heap.size A .u8 xs) (hs : SortsAt w) (hk : kind2 (xs.getD 0 0).toNat (xs.getD 1 0).toNat = 0) :
    Calls Tryd.prog 65 #[.slice A n cap] w fun e w' => e = .returned (.tuple #[.agg #[.int .u8 (xs.getD 0 0), .int .u8 (xs.getD 1 0), .int .u16 (w16 (xs.getD 4 0) (xs.getD 5 0)), .int .u16 (w16 (xs.getD 6 0) (xs.getD 7 0))], .int .i64 0]) ∧ Below w.heap.size w w' := by
  obtain ⟨b, off, rfl, hbl, hc⟩ := hr.at0 (by omega)
  have c0 := hc 0 (by omega)
  have c1 := hc 1 (by omega)
  rw [Nat.add_zero] at c0
  obtain ⟨x0, x1⟩ := hb.at_ 0
  obtain ⟨y0, y1⟩ := hb.at_ 1
  have HK := Lib.hid (fun (W : World) (h : SortsAt W) => kindI_any (xs.getD 0 0) (xs.getD 1 0) W x0 x1 y0 h)
  rw [hk] at HK
  have H4 := Lib.hid (fun (W : World) (h : Rd W W.heap.size (some ⟨b, off, none⟩) .u8 xs) => icmpWord_any (some ⟨b, off + 4, none⟩) (cap - 4) (n - 4) (xs.drop 4) W (by simp [hn]) (by omega) (hb.drop 4) (h.word 4))
  have H6 := Lib.hid (fun (W : World) (h : Rd W W.heap.size (some ⟨b, off, none⟩) .u8 xs) => icmpWord_any (some ⟨b, off + 6, none⟩) (cap - 6) (n - 6) (xs.drop 6) W (by simp [hn]) (by omega) (hb.drop 6) (h.word 6))
  simp only [getD_drop0, Nat.reduceAdd] at H4 H6
  have Hr := Lib.hid hr
  have Hs := Lib.hid hs
  clear hr hc hn hb hs hk
  generalize w16 (xs.getD 4 0) (xs.getD 5 0) = v4 at *
  generalize w16 (xs.getD 6 0) (xs.getD 7 0) = v6 at *
  generalize kind1 (xs.getD 0 0).toNat (xs.getD 1 0).toNat = e1 at *
  generalize xs.getD 0 0 = x at *
  generalize xs.getD 1 0 = y at *
  have hd : decide ((n : Int) < 8) = false := by simp; omega
  go_enter Tryd.func65, Tryd.ntmps65
  go_wp2_with fail
  refine wp_name1 ?_
  intro w1 hb1 hs1 bR
  have hSt := (St.nil hb1 hb1.size).cons bR
  refine wp_region_walk0 (by kernel_rfl) (fun _ W => St w w.heap.size _ W) [] Grow [0, 1, 2, 3, 4, 5, 6, 7, 8, 9, 10, 11] (by kernel_rfl) hSt.drew ?_
  iterate 12
    apply Walk.one rfl rfl rfl
    case hrun =>
      intro c W hE hF
      have d0 := (hE.1.cell (p := ⟨b, off, none⟩) hbl).trans c0
      have d1 := (hE.1.cell (p := ⟨b, off + 1, none⟩) hbl).trans c1
      have Hs2 := Lib.hid (Hs.out.below hE.1 (Nat.le_refl _))
      go_wp2_with (first | (go_at_call 68; refine (HK.out _ Hs2.out).mono ?_; rintro e wk ⟨rfl, rfl⟩) | fail)
      exact TextPost.mk ⟨Grow.refl _, hE⟩
    case hv => rfl
  refine Walk.done (fun W hE hF => ?_)
  have bR2 := hE.get 0 rfl
  have hbW := hE.1
  clear hE hF hSt bR hb1 hs1
  go_wp2_with fail
  have hlt := bR2.lt
  have hSt2 : St1 w w.heap.size [] w.heap.size 84 _ #[.int .u8 x, .int .u8 y, .int .u16 v4, .int .u16 v6] 0 W := ⟨St.nil hbW hbW.size, Nat.le_refl _, by simp, bR2⟩
  refine wp_region_walk0 (by kernel_rfl) (St1 w w.heap.size [] w.heap.size 84 _ #[.int .u8 x, .int .u8 y, .int .u16 v4, .int .u16 v6]) [13] GTop [0, 1, 2, 3, 4, 5, 6, 7, 8, 9, 10, 11, 12, 13, 14] (by kernel_rfl) hSt2.drew ?_
  iterate 13
    apply Walk.one rfl rfl rfl
    case hrun =>
      intro c W2 hE hF
      have d0 := (hE.1.1.cell (p := ⟨b, off, none⟩) hbl).trans c0
      have d1 := (hE.1.1.cell (p := ⟨b, off + 1, none⟩) hbl).trans c1
      have Hr2 := Lib.hid ((Hr.out.below hE.1.1 (Nat.le_refl _)).more hE.1.1.size)
      go_wp2_with (first | ((with_reducible refine (H4.out _ Hr2.out).mono ?_); rintro e wk ⟨rfl, lk⟩) | ((with_reducible refine (H6.out _ Hr2.out).mono ?_); rintro e wk ⟨rfl, lk⟩) | fail)
      first
        | exact TextPost.mk ⟨GTop.mk, hE⟩
        | exact TextPost.mk ⟨GTop.mk, hE.below lk⟩
    case hv => rfl
  apply Walk.keep 0 rfl rfl rfl rfl
  case hrun =>
    intro W2 hE hF
    have hbR := hE.2.2.2
    refine wpList_store_row rfl _ _ _ rfl _ _ rfl rfl _ _ hbR (by kernel_rfl) (by simp) (by simp [Value.oneCell']) ?_
    go_wp2_with fail
    exact TextPost.mk ⟨GTop.mk, hE.put⟩
  case hv => rfl
  apply Walk.one rfl rfl rfl
  case hrun =>
    intro c W2 hE hF
    go_wp2_with fail
    exact TextPost.mk ⟨GTop.mk, hE⟩
  case hv => rfl
  refine Walk.done (fun W2 hE hF => ?_)
  have hbR := hE.2.2.2
  have hbW2 := hE.1.1
  clear hE hF hSt2
  go_wp2_with fail
  exact bodyPost_ret (results_cell_tmp Tryd.results65 _ _ _ _ _ _ _ rfl hbR Tryd.underlying84 rfl (by kernel_rfl)) rfl ⟨rfl, hbW2⟩

end Go.Proofs.YtebeekjcepjcnaaDoor
