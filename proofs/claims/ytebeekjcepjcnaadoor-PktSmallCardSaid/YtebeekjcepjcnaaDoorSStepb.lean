/-
  More steps of the walk of a region: an operation whose value has a known form.
  Package ip of the program: put, Header.right, Write.
-/
import Derived.WalkKit
import Derived.WalkSpells
import Derived.WalkLawsBesides
import Derived.WalkSmall
import Derived.Lib.Hide
import Derived.Deep.AppendLies
import Derived.Maps.AppendAt
import Derived.Laws.AppendOwnNone
import Derived.Laws.CopyOwn
import Derived.OneCell
import Derived.Orders
import Derived.RegionTactic
import Derived.Still
import Derived.Test.YtebeekjcepjcnaaDoorProg
import Derived.Deep.MidRow
import Derived.Lib.SliceRun
import Derived.RangeFuncNested
import Derived.RangeFuncBound
import Derived.RangeFuncCalls
import Derived.RangeFuncLeaves
import Derived.Shelf.Abstract
import Derived.OwnWalkIn
import Derived.TacticsInMore
import Derived.LoopNIn
import Derived.LoopIn
import Derived.Test.YtebeekjcepjcnaaDoorSBase
import Derived.Test.YtebeekjcepjcnaaDoorSMem
import Derived.Test.YtebeekjcepjcnaaDoorSCsum
import Derived.Test.YtebeekjcepjcnaaDoorSSum
import Derived.Test.YtebeekjcepjcnaaDoorSRegion
import Derived.Test.YtebeekjcepjcnaaDoorSWalk
import Derived.Test.YtebeekjcepjcnaaDoorSStep
namespace Go.Proofs.YtebeekjcepjcnaaDoor
open Go.RowKit

section
variable {P : Program} {ops : Array Oper} {Q : Exit → Act → World → Prop} {E : Nat → World → Prop} {S : List Nat} {G : World → World → Prop} {fr : List Nat} {FF : Nat → Value → World → Prop}
theorem Walk.weaken : ∀ (l : List Nat) (Fs Fs' : List (World → Prop)) (a : Act), (∀ W, Facts' Fs W → Facts' Fs' W) → Walk P ops Q E S G fr FF Fs' l a → Walk P ops Q E S G fr FF Fs l a
  | [], _, _, _, hs, h => fun W hE hF => h W hE (hs W hF)
  | k :: l, Fs, Fs', a, hs, h => by
    obtain ⟨o, ho, ⟨x, h0, h1, h2⟩ | ⟨F, hFF, h1, h2, h3, h4⟩⟩ := h
    · exact ⟨o, ho, .inl ⟨x, h0, fun c W hc hE hF => h1 c W hc hE (hs W hF), Walk.weaken l _ _ _ hs h2⟩⟩
    · refine ⟨o, ho, .inr ⟨F, hFF, h1, h2, fun c W hc hE hF => h3 c W hc hE (hs W hF), fun u => Walk.weaken l _ _ _ (fun W hF f hf => ?_) (h4 u)⟩⟩
      rcases List.mem_cons.1 hf with rfl | hf
      · exact hF.head
      · exact hs W hF.tail f hf
theorem wpList_mono_then {o : Oper} {a : Act} {w : World} {K K' : Act → World → Prop} (h : ∀ a w, K a w → K' a w) (hh : wpList P ops (Exit.then K NoQ) [o] a w) : wpList P ops (Exit.then K' NoQ) [o] a w := by
  simp only [wpList] at hh ⊢
  by_cases hw : Region.wanted o (yielded ops a.tmps) = true
  · simp only [hw, if_true] at hh ⊢
    rcases hh with hh | ⟨_, a', w', hx⟩
    · refine .inl ?_
      unfold Oper.wp at hh ⊢
      generalize (execOp a.eval o).run P w = r at *
      cases r with
      | ok n w' =>
        cases n <;> simp only [Oper.upon] at hh ⊢
        case value u => exact h _ _ hh
        case skip => exact h _ _ hh
        case defer d => exact h _ _ hh
        case row r args => exact Rows.mono hh fun _ _ he => h _ _ he
        case enter f args =>
          refine Calls.mono hh fun e w'' he => ?_
          cases e with
          | returned u => exact h _ _ he
          | panicked c => exact (he : False).elim
          | outgrown => obtain ⟨_, _, hx⟩ := he; exact (hx : False).elim
      | halt x w' =>
        cases x <;> simp only [Oper.upon] at hh ⊢
        exact (hh : False).elim
    · exact (hx : False).elim
  · simp only [hw] at hh ⊢
    exact h _ _ hh
def plainRest (ops : Array Oper) (fr l : List Nat) : Bool := l.all fun k => !fr.contains k && (ops[k]?).isSome
theorem Walk.vac {Fs : List (World → Prop)} (h : ∀ W, ¬ Facts' Fs W) : ∀ (l : List Nat) (a : Act), plainRest ops fr l = true → Walk P ops Q E S G fr FF Fs l a
  | [], _, _ => fun W _ hF => (h W hF).elim
  | k :: l, a, hl => by
    simp only [plainRest, List.all_cons, Bool.and_eq_true, Bool.not_eq_true'] at hl
    obtain ⟨o, ho⟩ := Option.isSome_iff_exists.1 hl.1.2
    exact ⟨o, ho, .inl ⟨undef, hl.1.1, fun c W _ _ hF => (h W hF).elim, Walk.vac h l _ hl.2⟩⟩
def AnyOf {α : Type} (a : Act) (d : Option Tmp) (form : α → Value) (F : α → World → Prop) (H : World → Prop) (a' : Act) (W' : World) : Prop := ∃ x, a' = a.put d (form x) ∧ F x W' ∧ H W'
variable {Fs : List (World → Prop)} {k : Nat} {o : Oper} {rest : List Nat} {a a' : Act} {x : Value}
theorem ops_at (h : ops.toList[k]? = some o) : ops[k]? = some o := by simpa using h
theorem Walk.one (ho : ops.toList[k]? = some o) (hs : S.contains k = false) (hf : fr.contains k = false)
    (hrun : ∀ c W, E c W → Facts' Fs W → wpList P ops (Exit.then (TextPost a' fun W' => G W W' ∧ E c W') NoQ) [o] a W) (hv : a' = a.put o.dst x) (hrest : Walk P ops Q E S G fr FF Fs rest a') : Walk P ops Q E S G fr FF Fs (k :: rest) a :=
  Walk.det (ops_at ho) hs hf hrun hv hrest
theorem Walk.keep (n : Nat) (ho : ops.toList[k]? = some o) (hs : S.contains k = true) (hn : S.idxOf k = n) (hf : fr.contains k = false)
    (hrun : ∀ W, E n W → Facts' Fs W → wpList P ops (Exit.then (TextPost a' fun W' => G W W' ∧ E (n + 1) W') NoQ) [o] a W) (hv : a' = a.put o.dst undef) (hrest : Walk P ops Q E S G fr FF Fs rest a') : Walk P ops Q E S G fr FF Fs (k :: rest) a :=
  Walk.store n (ops_at ho) hs hn hf hrun hv hrest
theorem Walk.freeOp (hF : ∀ u W W', FF k u W → G W W' → FF k u W') (ho : ops.toList[k]? = some o) (hs : S.contains k = false) (hw : waitAll ops fr [k] rest = true)
    (hrun : ∀ a c W, E c W → wpList P ops (Exit.then (AnyPost a o.dst (FF k) fun W' => G W W' ∧ E c W') NoQ) [o] a W) (hrest : ∀ u, Walk P ops Q E S G fr FF (FF k u :: Fs) rest (a.put o.dst u)) : Walk P ops Q E S G fr FF Fs (k :: rest) a :=
  Walk.free hF (ops_at ho) hs hw hrun hrest
theorem Walk.whatever (F : Value → World → Prop) (hF : ∀ u W W', F u W → G W W' → F u W') (ho : ops.toList[k]? = some o) (hs : S.contains k = false) (hf : fr.contains k = false) (hw : waitAll ops fr [k] rest = true)
    (hrun : ∀ c W, E c W → Facts' Fs W → wpList P ops (Exit.then (AnyPost a o.dst F fun W' => G W W' ∧ E c W') NoQ) [o] a W) (hrest : ∀ u, Walk P ops Q E S G fr FF (F u :: Fs) rest (a.put o.dst u)) : Walk P ops Q E S G fr FF Fs (k :: rest) a :=
  Walk.any F hF (ops_at ho) hs hf hw hrun hrest
/-- An operation whose value has this form. -/
theorem Walk.anyOf {α : Type} (form : α → Value) (hinj : ∀ x y, form x = form y → x = y) (F : α → World → Prop) (hF : ∀ x W W', F x W → G W W' → F x W') (ho : ops.toList[k]? = some o) (hs : S.contains k = false) (hf : fr.contains k = false) (hw : waitAll ops fr [k] rest = true) (hp : plainRest ops fr rest = true)
    (hrun : ∀ c W, E c W → Facts' Fs W → wpList P ops (Exit.then (AnyOf a o.dst form F fun W' => G W W' ∧ E c W') NoQ) [o] a W) (hrest : ∀ x, Walk P ops Q E S G fr FF (F x :: Fs) rest (a.put o.dst (form x))) : Walk P ops Q E S G fr FF Fs (k :: rest) a := by
  refine Walk.any (fun u W => ∃ x, u = form x ∧ F x W) (fun u W W' ⟨x, e, h⟩ hG => ⟨x, e, hF x W W' h hG⟩) (ops_at ho) hs hf hw (fun c W hE hFs => ?_) (fun u => ?_)
  · refine wpList_mono_then ?_ (hrun c W hE hFs)
    rintro a' W' ⟨x, e, h, hH⟩
    exact ⟨form x, e, ⟨x, rfl, h⟩, hH⟩
  · by_cases hu : ∃ x, u = form x
    · obtain ⟨x, rfl⟩ := hu
      refine Walk.weaken rest _ _ _ (fun W hF f hf => ?_) (hrest x)
      rcases List.mem_cons.1 hf with rfl | hf
      · obtain ⟨y, e, h⟩ := hF.head
        rw [hinj x y e]; exact h
      · exact hF.tail f hf
    · exact Walk.vac (fun W hF => by obtain ⟨x, e, _⟩ := hF.head; exact hu ⟨x, e⟩) rest _ hp
end

end Go.Proofs.YtebeekjcepjcnaaDoor
namespace Go.Proofs.YtebeekjcepjcnaaDoor
open Go.RowKit Go.Shelf

/-- A number of some bytes, put into a row: from the last byte back. -/
def putL (xs : List Int) (at_ : Nat) : Nat → Int → List Int
  | 0, _ => xs
  | k + 1, n => putL (xs.set (at_ + k) (n % 256)) at_ k (n / 256)
/-- A header of a packet. -/
structure IpH where
  tos : Int
  id : Int
  df : Bool
  mf : Bool
  off : Int
  ttl : Int
  proto : Int
  src : Int
  dst : Int
  opts : List Int
def IpH.val (h : IpH) (A : Option Addr) (cap : Nat) : Value :=
  .agg #[.int .u8 h.tos, .int .u16 h.id, .bool h.df, .bool h.mf, .int .i64 h.off, .int .u8 h.ttl, .int .u8 h.proto, .int .u32 h.src, .int .u32 h.dst, .slice A h.opts.length cap]
/-- It is right for n bytes of data. -/
structure IpH.Right (h : IpH) (n : Nat) : Prop where
  off0 : 0 ≤ h.off
  off1 : h.off ≤ 65528
  off8 : h.off % 8 = 0
  len : h.opts.length ≤ 40
  len4 : h.opts.length % 4 = 0
  all : h.opts.length + n ≤ 65515
  offn : h.off + n ≤ 65515
  mf : h.mf = true → 0 < n ∧ n % 8 = 0

end Go.Proofs.YtebeekjcepjcnaaDoor
