/-
  Maps with integer keys that a call makes: a new key, a look-up. Package build: the table of sorts.
  Package build: the packet that an error quotes.
  Package build: what is right for an error; what is right for each kind.
  More steps of the walk of a region: an operation whose value has a known form.
  tcp.Write, at a header that is right.
  Package ip of the program: put, Header.right, Write.
  ip.Write, at a header that is right.
  Package build: the data of a segment, a datagram, a message; a header before some data.
-/
import Derived.WalkKit
import Derived.WalkSpells
import Derived.WalkLawsBesides
import Derived.WalkSmall
import Derived.Lib.Hide
import Derived.Deep.AppendLies
import Derived.Maps.AppendAt
import Derived.Laws.AppendOwnNone
import Derived.Laws.CopyOwn
import Derived.OneCell
import Derived.Orders
import Derived.RegionTactic
import Derived.Still
import Derived.Test.YtebeekjcepjcnaaDoorProg
import Derived.Deep.MidRow
import Derived.Lib.SliceRun
import Derived.RangeFuncNested
import Derived.RangeFuncBound
import Derived.RangeFuncCalls
import Derived.RangeFuncLeaves
import Derived.Shelf.Abstract
import Derived.OwnWalkIn
import Derived.TacticsInMore
import Derived.LoopNIn
import Derived.LoopIn
import Derived.Lib.AppendZeros
import Derived.MapKept
import Derived.Deep.DeepCutAuto
import Derived.Deep.RegionLaw
import Derived.Deep.RegionHeld3
import Derived.BigRegion
import Derived.ChangeAlike
import Derived.Test.YtebeekjcepjcnaaDoorKBase
import Derived.Test.YtebeekjcepjcnaaDoorKWalk
import Derived.Test.YtebeekjcepjcnaaDoorKMem
import Derived.Test.YtebeekjcepjcnaaDoorKSum
namespace Go.Proofs.YtebeekjcepjcnaaDoor
open Go.RowKit

section
variable {P : Program} {mty kt et : TypeId} {K : IntKind}
theorem setObj_new (W : World) (o o' : Obj) : ({ W.alloc o with heap := (W.alloc o).heap.setIfInBounds W.heap.size o' } : World) = W.alloc o' := by
  have : (W.heap.push o).setIfInBounds W.heap.size o' = W.heap.push o' := by
    apply Array.ext
    · simp
    · intro i h1 h2
      simp only [Array.size_setIfInBounds, Array.size_push] at h1
      by_cases hi : i = W.heap.size
      · subst hi; simp
      · rw [Array.getElem_setIfInBounds_ne (by simpa using h1) (Ne.symm hi), Array.getElem_push_lt (by omega), Array.getElem_push_lt (by omega)]
  show ({ W.alloc o with heap := _ } : World) = _
  rw [show (W.alloc o).heap = W.heap.push o from rfl, this]
  rfl
theorem run_insert_int (hm : P.underlying mty = some (.map kt et)) (hk : P.underlying kt = some (.int K)) (W : World) (es : Array MapEntry) (c : Nat) (k : Int) (v : Value) (hf : Instr.findNow (.int K) (.int K k) es.toList 0 = some none) :
    (Instr.mapUpdate mty (.map (some W.heap.size)) (.int K k) v).run P (W.alloc (.map es c)) = .ok () (W.alloc (.map (es.push ⟨.int K k, v, c⟩) (c + 1))) := by
  have hb : (W.alloc (.map es c)).heap[W.heap.size]? = some (.map es c) := heap_alloc_new W _
  have hc : (Instr.checkKey false 10000 kt (.int K k)).run P (W.alloc (.map es c)) = .ok () (W.alloc (.map es c)) := MapKept.run_checkKey (k := .int K k) hk (by simp [MapKept.IsKey]) false 9999
  have hso := setObj_new W (.map es c) (.map (es.push ⟨.int K k, v, c⟩) (c + 1))
  simp [Instr.mapUpdate, run_underlying hm, MapKept.run_getObj_map hb, hc, MapKept.run_findKey hk hf, MapKept.run_setObj_map _ hb, Result.andThen]
  exact hso
theorem run_lookup_int (hm : P.underlying mty = some (.map kt et)) (hk : P.underlying kt = some (.int K)) (W : World) (m : Nat) (es : Array MapEntry) (c : Nat) (k : Int) (i : Nat) (v : Value) (ok : Bool) (hb : W.heap[m]? = some (.map es c)) (hf : Instr.findNow (.int K) (.int K k) es.toList 0 = some (some (i, v))) :
    (Instr.lookup mty (.map (some m)) (.int K k) ok).run P W = .ok (if ok then .tuple #[v, .bool true] else v) W := by
  have hc : (Instr.checkKey es.isEmpty 10000 kt (.int K k)).run P W = .ok () W := MapKept.run_checkKey (k := .int K k) hk (by simp [MapKept.IsKey]) _ 9999
  simp [Instr.lookup, run_underlying hm, MapKept.run_getObj_map hb, hc, MapKept.run_findKey hk hf, Result.andThen]
theorem run_lookup_int_none (hm : P.underlying mty = some (.map kt et)) (hk : P.underlying kt = some (.int K)) (W : World) (m : Nat) (es : Array MapEntry) (c : Nat) (k : Int) (z : Value) (ok : Bool) (hb : W.heap[m]? = some (.map es c)) (hf : Instr.findNow (.int K) (.int K k) es.toList 0 = some none) (hz : (zeroValue et).run P W = .ok z W) :
    (Instr.lookup mty (.map (some m)) (.int K k) ok).run P W = .ok (if ok then .tuple #[z, .bool false] else z) W := by
  have hc : (Instr.checkKey es.isEmpty 10000 kt (.int K k)).run P W = .ok () W := MapKept.run_checkKey (k := .int K k) hk (by simp [MapKept.IsKey]) _ 9999
  simp [Instr.lookup, run_underlying hm, MapKept.run_getObj_map hb, hc, MapKept.run_findKey hk hf, hz, Result.andThen]
end

/-- What the table holds. -/
def sortV (p : Int) (f d : Nat) : Value := .agg #[.int .u8 p, .func (.func f) #[] #[], .func (.func d) #[] #[]]
def sortsE : Nat → Array MapEntry
  | 0 => #[]
  | 1 => #[⟨.int .u8 1, sortV 6 79 80, 0⟩]
  | 2 => #[⟨.int .u8 1, sortV 6 79 80, 0⟩, ⟨.int .u8 2, sortV 17 81 82, 1⟩]
  | 3 => #[⟨.int .u8 1, sortV 6 79 80, 0⟩, ⟨.int .u8 2, sortV 17 81 82, 1⟩, ⟨.int .u8 3, sortV 1 83 84, 2⟩]
  | 4 => #[⟨.int .u8 1, sortV 6 79 80, 0⟩, ⟨.int .u8 2, sortV 17 81 82, 1⟩, ⟨.int .u8 3, sortV 1 83 84, 2⟩, ⟨.int .u8 4, sortV 1 83 84, 3⟩]
  | _ => #[⟨.int .u8 1, sortV 6 79 80, 0⟩, ⟨.int .u8 2, sortV 17 81 82, 1⟩, ⟨.int .u8 3, sortV 1 83 84, 2⟩, ⟨.int .u8 4, sortV 1 83 84, 3⟩, ⟨.int .u8 5, sortV 1 85 86, 4⟩]
def SortsM (W : World) (m : Nat) : Prop := W.heap[m]? = some (.map (sortsE 5) 5)
theorem SortsM.grown {W W' : World} {m : Nat} {row : Option Nat} (h : SortsM W m) (hg : W.grownBy W' row) (hr : some m ≠ row) : SortsM W' m := (hg.block m (by
  rcases Nat.lt_or_ge m W.heap.size with hl | hl
  · exact hl
  · unfold SortsM at h; rw [Array.getElem?_eq_none hl] at h; cases h) hr).trans h

def protoS (k : Int) : Int := if k = 1 then 6 else if k = 2 then 17 else 1
end Go.Proofs.YtebeekjcepjcnaaDoor
namespace Go.Proofs.YtebeekjcepjcnaaDoor
open Go.RowKit

def isQ (k : Int) : Bool := decide (1 ≤ k) && decide (k ≤ 4)
def Facts.quotedF (f : Facts) : Facts := { Facts.zero with key := f.quoted, kind := f.qkind, flags := if f.qkind = 1 then 16 else 0, type := if f.qkind = 3 then 8 else 0 }
def qProto (k : Int) : Int := if isQ k then protoS k else 0
end Go.Proofs.YtebeekjcepjcnaaDoor
namespace Go.Proofs.YtebeekjcepjcnaaDoor
open Go.RowKit

def Facts.qRight (f : Facts) : Bool := if f.qkind = 1 then f.quotedF.rightTCP else if f.qkind = 3 ∨ f.qkind = 4 then f.quotedF.rightQuery else f.quotedF.rightUDP
/-- What is right for an error. -/
def Facts.errorPart (f : Facts) : Facts := { Facts.zero with key := f.key, kind := f.kind, type := f.type, code := f.code, length := f.length, quoted := f.quoted, qkind := f.qkind }
def Facts.rightError (f : Facts) : Bool := (kind2 f.type.toNat f.code.toNat == 0) && (kind1 f.type.toNat f.code.toNat == f.kind) && isQ f.qkind && f.qRight && (f.quoted.proto == qProto f.qkind) && (f.key.sp == 0) && (f.key.dp == 0) && betweenB f.length 28 65507

/-- Nothing is asked of the world's way. -/
def GTop (_ _ : World) : Prop := True
theorem GTop.mk {W W' : World} : GTop W W' := trivial
theorem oneC_int (k : IntKind) (x : Int) : (Value.int k x).oneCell' = true := rfl
end Go.Proofs.YtebeekjcepjcnaaDoor
namespace Go.Proofs.YtebeekjcepjcnaaDoor
open Go.RowKit

section
variable {P : Program} {ops : Array Oper} {Q : Exit → Act → World → Prop} {E : Nat → World → Prop} {S : List Nat} {G : World → World → Prop} {fr : List Nat} {FF : Nat → Value → World → Prop}
theorem Walk.weaken : ∀ (l : List Nat) (Fs Fs' : List (World → Prop)) (a : Act), (∀ W, Facts' Fs W → Facts' Fs' W) → Walk P ops Q E S G fr FF Fs' l a → Walk P ops Q E S G fr FF Fs l a
  | [], _, _, _, hs, h => fun W hE hF => h W hE (hs W hF)
  | k :: l, Fs, Fs', a, hs, h => by
    obtain ⟨o, ho, ⟨x, h0, h1, h2⟩ | ⟨F, hFF, h1, h2, h3, h4⟩⟩ := h
    · exact ⟨o, ho, .inl ⟨x, h0, fun c W hc hE hF => h1 c W hc hE (hs W hF), Walk.weaken l _ _ _ hs h2⟩⟩
    · refine ⟨o, ho, .inr ⟨F, hFF, h1, h2, fun c W hc hE hF => h3 c W hc hE (hs W hF), fun u => Walk.weaken l _ _ _ (fun W hF f hf => ?_) (h4 u)⟩⟩
      rcases List.mem_cons.1 hf with rfl | hf
      · exact hF.head
      · exact hs W hF.tail f hf
theorem wpList_mono_then {o : Oper} {a : Act} {w : World} {K K' : Act → World → Prop} (h : ∀ a w, K a w → K' a w) (hh : wpList P ops (Exit.then K NoQ) [o] a w) : wpList P ops (Exit.then K' NoQ) [o] a w := by
  simp only [wpList] at hh ⊢
  by_cases hw : Region.wanted o (yielded ops a.tmps) = true
  · simp only [hw, if_true] at hh ⊢
    rcases hh with hh | ⟨_, a', w', hx⟩
    · refine .inl ?_
      unfold Oper.wp at hh ⊢
      generalize (execOp a.eval o).run P w = r at *
      cases r with
      | ok n w' =>
        cases n <;> simp only [Oper.upon] at hh ⊢
        case value u => exact h _ _ hh
        case skip => exact h _ _ hh
        case defer d => exact h _ _ hh
        case row r args => exact Rows.mono hh fun _ _ he => h _ _ he
        case enter f args =>
          refine Calls.mono hh fun e w'' he => ?_
          cases e with
          | returned u => exact h _ _ he
          | panicked c => exact (he : False).elim
          | outgrown => obtain ⟨_, _, hx⟩ := he; exact (hx : False).elim
      | halt x w' =>
        cases x <;> simp only [Oper.upon] at hh ⊢
        exact (hh : False).elim
    · exact (hx : False).elim
  · simp only [hw] at hh ⊢
    exact h _ _ hh
def plainRest (ops : Array Oper) (fr l : List Nat) : Bool := l.all fun k => !fr.contains k && (ops[k]?).isSome
theorem Walk.vac {Fs : List (World → Prop)} (h : ∀ W, ¬ Facts' Fs W) : ∀ (l : List Nat) (a : Act), plainRest ops fr l = true → Walk P ops Q E S G fr FF Fs l a
  | [], _, _ => fun W _ hF => (h W hF).elim
  | k :: l, a, hl => by
    simp only [plainRest, List.all_cons, Bool.and_eq_true, Bool.not_eq_true'] at hl
    obtain ⟨o, ho⟩ := Option.isSome_iff_exists.1 hl.1.2
    exact ⟨o, ho, .inl ⟨undef, hl.1.1, fun c W _ _ hF => (h W hF).elim, Walk.vac h l _ hl.2⟩⟩
def AnyOf {α : Type} (a : Act) (d : Option Tmp) (form : α → Value) (F : α → World → Prop) (H : World → Prop) (a' : Act) (W' : World) : Prop := ∃ x, a' = a.put d (form x) ∧ F x W' ∧ H W'
variable {Fs : List (World → Prop)} {k : Nat} {o : Oper} {rest : List Nat} {a a' : Act} {x : Value}
theorem ops_at (h : ops.toList[k]? = some o) : ops[k]? = some o := by simpa using h
theorem Walk.one (ho : ops.toList[k]? = some o) (hs : S.contains k = false) (hf : fr.contains k = false)
    (hrun : ∀ c W, E c W → Facts' Fs W → wpList P ops (Exit.then (TextPost a' fun W' => G W W' ∧ E c W') NoQ) [o] a W) (hv : a' = a.put o.dst x) (hrest : Walk P ops Q E S G fr FF Fs rest a') : Walk P ops Q E S G fr FF Fs (k :: rest) a :=
  Walk.det (ops_at ho) hs hf hrun hv hrest
theorem Walk.keep (n : Nat) (ho : ops.toList[k]? = some o) (hs : S.contains k = true) (hn : S.idxOf k = n) (hf : fr.contains k = false)
    (hrun : ∀ W, E n W → Facts' Fs W → wpList P ops (Exit.then (TextPost a' fun W' => G W W' ∧ E (n + 1) W') NoQ) [o] a W) (hv : a' = a.put o.dst undef) (hrest : Walk P ops Q E S G fr FF Fs rest a') : Walk P ops Q E S G fr FF Fs (k :: rest) a :=
  Walk.store n (ops_at ho) hs hn hf hrun hv hrest
theorem Walk.freeOp (hF : ∀ u W W', FF k u W → G W W' → FF k u W') (ho : ops.toList[k]? = some o) (hs : S.contains k = false) (hw : waitAll ops fr [k] rest = true)
    (hrun : ∀ a c W, E c W → wpList P ops (Exit.then (AnyPost a o.dst (FF k) fun W' => G W W' ∧ E c W') NoQ) [o] a W) (hrest : ∀ u, Walk P ops Q E S G fr FF (FF k u :: Fs) rest (a.put o.dst u)) : Walk P ops Q E S G fr FF Fs (k :: rest) a :=
  Walk.free hF (ops_at ho) hs hw hrun hrest
theorem Walk.whatever (F : Value → World → Prop) (hF : ∀ u W W', F u W → G W W' → F u W') (ho : ops.toList[k]? = some o) (hs : S.contains k = false) (hf : fr.contains k = false) (hw : waitAll ops fr [k] rest = true)
    (hrun : ∀ c W, E c W → Facts' Fs W → wpList P ops (Exit.then (AnyPost a o.dst F fun W' => G W W' ∧ E c W') NoQ) [o] a W) (hrest : ∀ u, Walk P ops Q E S G fr FF (F u :: Fs) rest (a.put o.dst u)) : Walk P ops Q E S G fr FF Fs (k :: rest) a :=
  Walk.any F hF (ops_at ho) hs hf hw hrun hrest
/-- An operation whose value has this form. -/
theorem Walk.anyOf {α : Type} (form : α → Value) (hinj : ∀ x y, form x = form y → x = y) (F : α → World → Prop) (hF : ∀ x W W', F x W → G W W' → F x W') (ho : ops.toList[k]? = some o) (hs : S.contains k = false) (hf : fr.contains k = false) (hw : waitAll ops fr [k] rest = true) (hp : plainRest ops fr rest = true)
    (hrun : ∀ c W, E c W → Facts' Fs W → wpList P ops (Exit.then (AnyOf a o.dst form F fun W' => G W W' ∧ E c W') NoQ) [o] a W) (hrest : ∀ x, Walk P ops Q E S G fr FF (F x :: Fs) rest (a.put o.dst (form x))) : Walk P ops Q E S G fr FF Fs (k :: rest) a := by
  refine Walk.any (fun u W => ∃ x, u = form x ∧ F x W) (fun u W W' ⟨x, e, h⟩ hG => ⟨x, e, hF x W W' h hG⟩) (ops_at ho) hs hf hw (fun c W hE hFs => ?_) (fun u => ?_)
  · refine wpList_mono_then ?_ (hrun c W hE hFs)
    rintro a' W' ⟨x, e, h, hH⟩
    exact ⟨form x, e, ⟨x, rfl, h⟩, hH⟩
  · by_cases hu : ∃ x, u = form x
    · obtain ⟨x, rfl⟩ := hu
      refine Walk.weaken rest _ _ _ (fun W hF f hf => ?_) (hrest x)
      rcases List.mem_cons.1 hf with rfl | hf
      · obtain ⟨y, e, h⟩ := hF.head
        rw [hinj x y e]; exact h
      · exact hF.tail f hf
    · exact Walk.vac (fun W hF => by obtain ⟨x, e, _⟩ := hF.head; exact hu ⟨x, e⟩) rest _ hp
end

end Go.Proofs.YtebeekjcepjcnaaDoor
namespace Go.Proofs.YtebeekjcepjcnaaDoor
open Go.RowKit Go.Shelf

theorem Parts.belows {w w' : World} {A : Option Addr} {ps : List Part} (h : Parts w w.heap.size A ps) (hb : Below w.heap.size w w') : Parts w' w'.heap.size A ps := fun j hj => by
  obtain ⟨b, off, p, h1, h2, h3, h4, h5⟩ := h.below hb (Nat.le_refl _) j hj
  exact ⟨b, off, p, h1, h2, Nat.lt_of_lt_of_le h3 hb.size, h4, h5.more hb.size⟩

end Go.Proofs.YtebeekjcepjcnaaDoor
namespace Go.Proofs.YtebeekjcepjcnaaDoor
open Go.RowKit Go.Shelf

/-- A number of some bytes, put into a row: from the last byte back. -/
def putL (xs : List Int) (at_ : Nat) : Nat → Int → List Int
  | 0, _ => xs
  | k + 1, n => putL (xs.set (at_ + k) (n % 256)) at_ k (n / 256)
/-- A header of a packet. -/
structure IpH where
  tos : Int
  id : Int
  df : Bool
  mf : Bool
  off : Int
  ttl : Int
  proto : Int
  src : Int
  dst : Int
  opts : List Int
def IpH.val (h : IpH) (A : Option Addr) (cap : Nat) : Value :=
  .agg #[.int .u8 h.tos, .int .u16 h.id, .bool h.df, .bool h.mf, .int .i64 h.off, .int .u8 h.ttl, .int .u8 h.proto, .int .u32 h.src, .int .u32 h.dst, .slice A h.opts.length cap]
/-- It is right for n bytes of data. -/
structure IpH.Right (h : IpH) (n : Nat) : Prop where
  off0 : 0 ≤ h.off
  off1 : h.off ≤ 65528
  off8 : h.off % 8 = 0
  len : h.opts.length ≤ 40
  len4 : h.opts.length % 4 = 0
  all : h.opts.length + n ≤ 65515
  offn : h.off + n ≤ 65515
  mf : h.mf = true → 0 < n ∧ n % 8 = 0

end Go.Proofs.YtebeekjcepjcnaaDoor
namespace Go.Proofs.YtebeekjcepjcnaaDoor
open Go.RowKit Go.Shelf

def b01 (b : Bool) : Int := if b then 1 else 0
/-- The word with the flags and the offset. -/
def IpH.word (h : IpH) : Int := h.off / 8 + 16384 * b01 h.df + 8192 * b01 h.mf
end Go.Proofs.YtebeekjcepjcnaaDoor
namespace Go.Proofs.YtebeekjcepjcnaaDoor
open Go.RowKit

/-- The world grows. -/
def Grow (W W' : World) : Prop := Below W.heap.size W W'
theorem Grow.refl (W : World) : Grow W W := Below.refl _ _
theorem Own.keep {b : Nat} {v : Value} {xs : List Int} {W W' : World} (h : Own W b v xs) (hG : Grow W W') : Own W' b v xs := h.below hG (Nat.le_refl _)
end Go.Proofs.YtebeekjcepjcnaaDoor
