/-
  The method udp of pkt's packet.
  icmp.Quote: the relation of its loop.
  Package pkt: reasons, strange, header.
  pkt.Read.
  The reference of ip: Right, Read.
  The reference of pkt: segment, datagram.
  The reference of package opts: routes, pointer, excludes, excluded, Routed.
  The reference of package opts: Read.
  The reference of pkt: Read.
  pkt.Name and pkt.Reason, over the table of names as it is laid.
  The tables of packages icmp and pkt, read off the heap as they were laid; bytes as an argument: opened to a list.
  The tables of the statements about made packets, read off the heap as they were laid.
-/
import Derived.Test.YtebeekjcepjcnaaDoorProg
import Derived.WalkKit
import Derived.WalkSpells
import Derived.WalkLawsBesides
import Derived.WalkSmall
import Derived.Lib.Hide
import Derived.Deep.AppendLies
import Derived.Maps.AppendAt
import Derived.Laws.AppendOwnNone
import Derived.Laws.CopyOwn
import Derived.OneCell
import Derived.Lib.SliceRun
import Derived.RangeFuncNested
import Derived.RangeFuncBound
import Derived.RangeFuncCalls
import Derived.RangeFuncLeaves
import Derived.Shelf.Abstract
import Derived.OwnWalkIn
import Derived.TacticsInMore
import Derived.LoopNIn
import Derived.LoopIn
import Derived.Lib.AppendZeros
import Derived.BigRegion
import Derived.ChangeAlike
import Derived.Deep.RegionLaw
import Derived.Deep.DeepCutAuto
import Derived.Orders
import Derived.RegionTactic
import Derived.Still
import Derived.Deep.MidRow
import Derived.Deep.RegionHeld3
import Derived.MapKept
import Derived.Laws.StructEq
import Derived.RegionIn
import Derived.Test.YtebeekjcepjcnaaDoorRows
import Derived.ProofKit
import Derived.LaidMore
import Derived.OpenShut
import Derived.Lay
import Derived.Deep.Strs
import Derived.Lib.MinMax
import Derived.Laws.BitsAllLaws
import Derived.Deep.CutBlock
import Derived.Deep.Slices
import Derived.Test.YtebeekjcepjcnaaDoorWBase
import Derived.Test.YtebeekjcepjcnaaDoorWBits
import Derived.Test.YtebeekjcepjcnaaDoorWCsum
import Derived.Test.YtebeekjcepjcnaaDoorWSum
import Derived.Test.YtebeekjcepjcnaaDoorWConcat
import Derived.Test.YtebeekjcepjcnaaDoorWFix
import Derived.Test.YtebeekjcepjcnaaDoorWFacts
import Derived.Test.YtebeekjcepjcnaaDoorWIpw
import Derived.Test.YtebeekjcepjcnaaDoorWPkt
import Derived.Test.YtebeekjcepjcnaaDoorWRegion
import Derived.Test.YtebeekjcepjcnaaDoorWWalk
import Derived.Test.YtebeekjcepjcnaaDoorWStep
import Derived.Test.YtebeekjcepjcnaaDoorWTcpw
import Derived.Test.YtebeekjcepjcnaaDoorWUdpw
import Derived.Test.YtebeekjcepjcnaaDoorWData
import Derived.Test.YtebeekjcepjcnaaDoorWMaps
import Derived.Test.YtebeekjcepjcnaaDoorWQuoted
import Derived.Test.YtebeekjcepjcnaaDoorWBuilda
import Derived.Test.YtebeekjcepjcnaaDoorWRerr
import Derived.Test.YtebeekjcepjcnaaDoorWIcmpr
import Derived.Test.YtebeekjcepjcnaaDoorWIprd
import Derived.Test.YtebeekjcepjcnaaDoorWFresh
import Derived.Test.YtebeekjcepjcnaaDoorWIpre
import Derived.Test.YtebeekjcepjcnaaDoorWOptsa
import Derived.Test.YtebeekjcepjcnaaDoorWOptsb
import Derived.Test.YtebeekjcepjcnaaDoorWRight
import Derived.Test.YtebeekjcepjcnaaDoorWAnswer
import Derived.Test.YtebeekjcepjcnaaDoorWMade8
import Derived.Test.YtebeekjcepjcnaaDoorWIpback
import Derived.Test.YtebeekjcepjcnaaDoorWMade6p
import Derived.Test.YtebeekjcepjcnaaDoorWOptw
import Derived.Test.YtebeekjcepjcnaaDoorWMade10
import Derived.Test.YtebeekjcepjcnaaDoorWMade9
import Derived.Test.YtebeekjcepjcnaaDoorWLookp
import Derived.Test.YtebeekjcepjcnaaDoorWFailure
import Derived.Test.YtebeekjcepjcnaaDoorWBuildb
import Derived.Test.YtebeekjcepjcnaaDoorWPright
import Derived.Test.YtebeekjcepjcnaaDoorWBuilt
import Derived.Test.YtebeekjcepjcnaaDoorWContu
import Derived.Test.YtebeekjcepjcnaaDoorWContt
import Derived.Test.YtebeekjcepjcnaaDoorWMade11p
import Derived.Test.YtebeekjcepjcnaaDoorWAnswerb
import Derived.Test.YtebeekjcepjcnaaDoorWAwake
import Derived.Test.YtebeekjcepjcnaaDoorWOpen
import Derived.Test.YtebeekjcepjcnaaDoorWOsmall
namespace Go.Proofs.YtebeekjcepjcnaaDoor
open Go.RowKit
theorem UdpOut.open_ {w W : World} {d : List Int} {e : Ending} (h : UdpOut w d e W) (hB : Byt d) : ∃ a0 a1 b2 T, e = .returned (.tuple #[.agg #[.int .u16 a0, .int .u16 a1, .bool b2], .int .i64 T, .int .i64 (udpE d)]) ∧ Below w.heap.size w W ∧ (0 ≤ T ∧ T < 65536) ∧ (udpE d = 0 → a0 = w16At d 0 ∧ a1 = w16At d 2 ∧ T = w16At d 4) := by
  obtain ⟨he, hb⟩ := h
  by_cases h0 : udpE d = 0
  · rw [if_pos h0, if_pos h0] at he
    exact ⟨_, _, _, _, he, hb, w16At_bd hB 4, fun _ => ⟨rfl, rfl, rfl⟩⟩
  · rw [if_neg h0, if_neg h0] at he
    exact ⟨_, _, _, _, he, hb, by omega, fun h => absurd h h0⟩
end Go.Proofs.YtebeekjcepjcnaaDoor
namespace Go.Proofs.YtebeekjcepjcnaaDoor
open Go.RowKit
def keyZ : Array Value := #[.int .u8 0, .int .u32 0, .int .u32 0, .int .u16 0, .int .u16 0]
def quoCap (g : Nat) : Nat → Array Value
  | 0 => #[.pointer (some ⟨g, 0, none⟩)] | 1 => #[.pointer (some ⟨g, 0, none⟩), .pointer (some ⟨g + 2, 0, none⟩)] | 2 => #[.pointer (some ⟨g, 0, none⟩), .pointer (some ⟨g + 2, 0, none⟩)] | _ => #[.pointer (some ⟨g, 0, none⟩)]
def quoArr (g : Nat) : Array Value := #[.func (.func 151) #[] (quoCap g 0), .func (.func 152) #[] (quoCap g 1), .func (.func 153) #[] (quoCap g 2), .func (.func 154) #[] (quoCap g 3)]
/-- icmp.Quote: its boxes, when the tests before k are done. -/
structure QuSt (w : World) (A : Option Addr) (n cap : Nat) (xs : List Int) (T : TypeId) (k : Nat) (W : World) : Prop where
  below : Below w.heap.size w W
  size : w.heap.size + 4 ≤ W.heap.size
  b : Blk W w.heap.size 34 #[.slice A n cap]
  r : Blk W (w.heap.size + 1) 25 keyZ
  s : ∃ s, Blk W (w.heap.size + 2) 3 #[s] ∧ (2 ≤ k → s = .int .i64 (ipSize xs))
  f : Blk W (w.heap.size + 3) T (quoArr w.heap.size)
section
variable {w W W' : World} {A : Option Addr} {n cap : Nat} {xs : List Int} {k : Nat} {T : TypeId}
theorem QuSt.grow (h : QuSt w A n cap xs T k W) (hb : Below W.heap.size W W') : QuSt w A n cap xs T k W' := by
  have hz := h.size
  obtain ⟨s, s1, s2⟩ := h.s
  exact ⟨h.below.trans (hb.mono (by omega)), Nat.le_trans hz hb.size, h.b.below hb h.b.lt, h.r.below hb h.r.lt, ⟨s, s1.below hb s1.lt, s2⟩, h.f.below hb h.f.lt⟩
theorem QuSt.next (h : QuSt w A n cap xs T k W) (hk : k ≠ 1) : QuSt w A n cap xs T (k + 1) W :=
  ⟨h.below, h.size, h.b, h.r, by
    obtain ⟨s, s1, s2⟩ := h.s
    exact ⟨s, s1, fun hk2 => s2 (by omega)⟩, h.f⟩
end
end Go.Proofs.YtebeekjcepjcnaaDoor
namespace Go.Proofs.YtebeekjcepjcnaaDoor
open Go.RowKit
def reasonsL : List (Int × Int) := [(50, 1), (51, 2), (52, 3), (53, 4), (54, 5), (55, 6), (56, 7), (80, 14), (81, 14), (90, 14), (91, 14), (100, 14), (82, 15), (83, 16), (92, 16), (101, 17), (102, 17), (103, 18), (104, 19)]
def reasonsE (k : Nat) : Array MapEntry := ((reasonsL.take k).zipIdx.map fun x => ⟨.int .i64 x.1.1, .int .u8 x.1.2, x.2⟩).toArray
def ReasonsM (W : World) (m : Nat) : Prop := W.heap[m]? = some (.map (reasonsE 19) 19)
def IpH.cells (h : IpH) (v : Value) : Array Value := #[.int .u8 h.tos, .int .u16 h.id, .bool h.df, .bool h.mf, .int .i64 h.off, .int .u8 h.ttl, .int .u8 h.proto, .int .u32 h.src, .int .u32 h.dst, v]
end Go.Proofs.YtebeekjcepjcnaaDoor
namespace Go.Proofs.YtebeekjcepjcnaaDoor
open Go.RowKit
def ReaG (w W W' : World) : Prop := ∀ m, w.heap.size < m → ReasonsM W m → ReasonsM W' m
theorem ReasonsM.grown {W W' : World} {m : Nat} {row : Option Nat} (h : ReasonsM W m) (hg : W.grownBy W' row) (hr : some m ≠ row) : ReasonsM W' m := (hg.block m (by
  rcases Nat.lt_or_ge m W.heap.size with hl | hl
  · exact hl
  · unfold ReasonsM at h; rw [Array.getElem?_eq_none hl] at h; cases h) hr).trans h
theorem ReaG.of {w W W' : World} (h : Below W.heap.size W W') : ReaG w W W' := fun m _ hm => hm.grown (grown_of_below (row := none) h) (by simp)
end Go.Proofs.YtebeekjcepjcnaaDoor
namespace Go.Proofs.YtebeekjcepjcnaaDoor
open Go.RowKit
def hst (a0 a1 a2 a3 a4 a5 a6 a7 a8 : Value) : Nat → Array Value
  | 0 => #[.int .u8 0, .int .u16 0, .bool false, .bool false, .int .i64 0, .int .u8 0, .int .u8 0, .int .u32 0, .int .u32 0, .slice none 0 0]
  | 1 => #[a0, .int .u16 0, .bool false, .bool false, .int .i64 0, .int .u8 0, .int .u8 0, .int .u32 0, .int .u32 0, .slice none 0 0]
  | 2 => #[a0, a1, .bool false, .bool false, .int .i64 0, .int .u8 0, .int .u8 0, .int .u32 0, .int .u32 0, .slice none 0 0]
  | 3 => #[a0, a1, a2, .bool false, .int .i64 0, .int .u8 0, .int .u8 0, .int .u32 0, .int .u32 0, .slice none 0 0]
  | 4 => #[a0, a1, a2, a3, .int .i64 0, .int .u8 0, .int .u8 0, .int .u32 0, .int .u32 0, .slice none 0 0]
  | 5 => #[a0, a1, a2, a3, a4, .int .u8 0, .int .u8 0, .int .u32 0, .int .u32 0, .slice none 0 0]
  | 6 => #[a0, a1, a2, a3, a4, a5, .int .u8 0, .int .u32 0, .int .u32 0, .slice none 0 0]
  | 7 => #[a0, a1, a2, a3, a4, a5, a6, .int .u32 0, .int .u32 0, .slice none 0 0]
  | 8 => #[a0, a1, a2, a3, a4, a5, a6, a7, .int .u32 0, .slice none 0 0]
  | _ => #[a0, a1, a2, a3, a4, a5, a6, a7, a8, .slice none 0 0]
def IpPost (w : World) (xs : List Int) (e : Ending) (W : World) : Prop := ∃ v, e = .returned (ipOut xs v) ∧ (ipN xs = 7 → Own W w.heap.size v (ipHdr xs).opts) ∧ Below w.heap.size w W
theorem IpPost.bad {w W : World} {xs : List Int} {k : Nat} {E : Int} (hk : k < 7) (h : ipN xs = k) (hE : E = 50 + k) (hb : Below w.heap.size w W) : IpPost w xs (.returned (.tuple #[.agg #[.int .u8 0, .int .u16 0, .bool false, .bool false, .int .i64 0, .int .u8 0, .int .u8 0, .int .u32 0, .int .u32 0, .slice none 0 0], .int .i64 0, .int .i64 0, .int .i64 E])) W := by
  subst hE
  refine ⟨.int .i64 0, ?_, fun h7 => by omega, hb⟩
  unfold ipOut ipE
  rw [h, if_neg (by omega), if_neg (by omega), if_neg (by omega), if_pos hk]
end Go.Proofs.YtebeekjcepjcnaaDoor
namespace Go.Proofs.YtebeekjcepjcnaaDoor
open Go.RowKit
def fcC (f : Facts) : Array Value := #[.int .u8 f.key.proto, .int .u32 f.key.src, .int .u32 f.key.dst, .int .u16 f.key.sp, .int .u16 f.key.dp, .int .u8 f.kind, .int .u8 f.flags, .int .u8 f.type, .int .u8 f.code, .int .u32 f.seqn, .int .u32 f.ackn, .int .i64 f.window, .int .i64 f.length,
  .int .u8 f.quoted.proto, .int .u32 f.quoted.src, .int .u32 f.quoted.dst, .int .u16 f.quoted.sp, .int .u16 f.quoted.dp, .int .u8 f.qkind]
end Go.Proofs.YtebeekjcepjcnaaDoor
namespace Go.Proofs.YtebeekjcepjcnaaDoor
open Go.RowKit
section
variable {W : World} {B : Nat} {A : Option Addr} {ks : List Int}
theorem OptsAt.at_ (h : OptsAt W B A ks) (k : Nat) (hk : k < ks.length) : ∃ b off, A = some ⟨b, off, none⟩ ∧ b < B ∧ W.cell? ⟨b, off + k * 2, none⟩ = some (.int .u8 (ks.getD k 0)) := by
  obtain ⟨b, off, v, e, hb, _, hc, _⟩ := h k hk
  exact ⟨b, off, e, hb, hc⟩
end
end Go.Proofs.YtebeekjcepjcnaaDoor
namespace Go.Proofs.YtebeekjcepjcnaaDoor
open Go.RowKit
def opC (l : List (Int × Value)) : List Value := l.flatMap fun x => [.int .u8 x.1, x.2]
theorem opC_snoc (l : List (Int × Value)) (x : Int × Value) : opC (l ++ [x]) = opC l ++ [.int .u8 x.1, x.2] := by simp [opC]
theorem OptsAt.more {W : World} {B C : Nat} {A : Option Addr} {ks : List Int} (h : OptsAt W B A ks) (hC : B ≤ C) : OptsAt W C A ks := fun j hj => by
  obtain ⟨b, off, v, e, hB, h1, h2, h3⟩ := h j hj
  exact ⟨b, off, v, e, by omega, h1, h2, h3⟩
structure RoRel (w : World) (xs : List Int) (k m : Nat) (l : List (Int × Value)) (v : Value) (W : World) : Prop where
  below : Below w.heap.size w W
  row : W.ownsRow w.heap.size 247 2 v l.length (opC l)
  one : ∀ x ∈ l, x.2.oneCell' = true
  len : l.length ≤ k
  goes : optsR (optsY m (xs.drop k)) (l.map Prod.fst) = optRead xs
def RoOut (w : World) (xs : List Int) (e : Ending) (W : World) : Prop := ∃ A c, e = .returned (.tuple #[.slice A (optRead xs).1.length c, .int .i64 (optRead xs).2]) ∧ OptsAt W W.heap.size A (optRead xs).1 ∧ Below w.heap.size w W
theorem RoOut.bad {w W : World} {xs : List Int} {E : Int} (h : optRead xs = ([], E)) (hb : Below w.heap.size w W) : RoOut w xs (.returned (.tuple #[.slice none 0 0, .int .i64 E])) W :=
  ⟨none, 0, by rw [h]; rfl, by rw [h]; exact fun j hj => by simp at hj, hb⟩
/-- One option more. -/
theorem RoRel.more {w W W' : World} {xs : List Int} {k k' m m' : Nat} {l : List (Int × Value)} {v v' : Value} (h : RoRel w xs k m l v W) (K : Int) (d : Value) (hd : d.oneCell' = true) (hk : k < k') (hb : Below w.heap.size w W') (hr : W'.ownsRow w.heap.size 247 2 v' (l.length + 1) (opC l ++ [.int .u8 K, d]))
    (hg : optsR (optsY m (xs.drop k)) (l.map Prod.fst) = optsR (optsY m' (xs.drop k')) (l.map Prod.fst ++ [K])) : RoRel w xs k' m' (l ++ [(K, d)]) v' W' := by
  have hl := h.len
  refine ⟨hb, ?_, fun x hx => ?_, by simp; omega, ?_⟩
  · rw [opC_snoc, List.length_append]; exact hr
  · rcases List.mem_append.1 hx with hx | hx
    · exact h.one x hx
    · simp at hx; subst hx; exact hd
  · rw [← h.goes, hg, List.map_append]; rfl
end Go.Proofs.YtebeekjcepjcnaaDoor
namespace Go.Proofs.YtebeekjcepjcnaaDoor
open Go.RowKit
def RdE (w : World) (L : List (Nat × TypeId × Array Value)) (rk : Nat) (base FD : Facts) (EE : Int) (c : Nat) (W : World) : Prop :=
  St w w.heap.size L W ∧ w.heap.size ≤ rk ∧ (∀ x ∈ L, x.1 ≠ rk) ∧ ∃ G, Blk W rk 27 (fcC G) ∧ (c < 2 → G = base) ∧ (EE = 0 → c = 2 → G = FD)
theorem RdE.below {w W W' : World} {L : List (Nat × TypeId × Array Value)} {rk : Nat} {base FD : Facts} {EE : Int} {c : Nat} (h : RdE w L rk base FD EE c W) (hb : Below W.heap.size W W') : RdE w L rk base FD EE c W' := by
  obtain ⟨h1, h2, h3, G, h4, h5, h6⟩ := h
  exact ⟨h1.below hb, h2, h3, G, h4.below hb h4.lt, h5, h6⟩
theorem RdE.next {w W : World} {L : List (Nat × TypeId × Array Value)} {rk : Nat} {base FD : Facts} {EE : Int} (h : RdE w L rk base FD EE 0 W) : RdE w L rk base FD EE 1 W := by
  obtain ⟨h1, h2, h3, G, h4, h5, h6⟩ := h
  exact ⟨h1, h2, h3, G, h4, fun _ => h5 (by omega), fun _ h => by omega⟩
theorem RdE.put {w W : World} {L : List (Nat × TypeId × Array Value)} {rk : Nat} {base FD : Facts} {EE : Int} {c : Nat} (h : RdE w L rk base FD EE c W) (G : Facts) (hG : EE = 0 → G = FD) : RdE w L rk base FD EE 2 (W.setRow rk (fcC G)) := by
  obtain ⟨h1, h2, h3, G', h4, h5, h6⟩ := h
  exact ⟨h1.rowFar h2 h3 _, h2, h3, G, setRow_heap _ _ _ _ _ _ h4, fun h => by omega, fun h _ => hG h⟩
end Go.Proofs.YtebeekjcepjcnaaDoor
namespace Go.Proofs.YtebeekjcepjcnaaDoor
open Go.RowKit
def nmL : List ByteArray := [⟨#[]⟩, ⟨#[115, 104, 111, 114, 116]⟩, ⟨#[118, 101, 114, 115, 105, 111, 110]⟩, ⟨#[104, 101, 97, 100, 101, 114]⟩, ⟨#[116, 111, 116, 97, 108]⟩, ⟨#[115, 117, 109]⟩, ⟨#[114, 101, 115, 101, 114, 118, 101, 100]⟩, ⟨#[111, 102, 102, 115, 101, 116]⟩, ⟨#[102, 114, 97, 103, 109, 101, 110, 116]⟩, ⟨#[111, 112, 116, 105, 111, 110, 115]⟩, ⟨#[114, 111, 117, 116, 101]⟩, ⟨#[116, 116, 108]⟩, ⟨#[97, 100, 100, 114, 101, 115, 115]⟩, ⟨#[112, 114, 111, 116, 111, 99, 111, 108]⟩, ⟨#[108, 101, 110, 103, 116, 104]⟩, ⟨#[102, 108, 97, 103, 115]⟩, ⟨#[112, 111, 114, 116]⟩, ⟨#[116, 121, 112, 101]⟩, ⟨#[113, 117, 111, 116, 101]⟩, ⟨#[110, 101, 115, 116, 101, 100]⟩, ⟨#[102, 108, 111, 119]⟩, ⟨#[114, 101, 108, 97, 116, 101, 100]⟩, ⟨#[110, 101, 119]⟩, ⟨#[114, 117, 108, 101]⟩, ⟨#[110, 111, 114, 117, 108, 101]⟩, ⟨#[110, 111, 116, 111, 112, 101, 110]⟩, ⟨#[115, 116, 97, 116, 101]⟩, ⟨#[115, 111, 117, 114, 99, 101]⟩, ⟨#[114, 97, 116, 101]⟩, ⟨#[102, 117, 108, 108]⟩, ⟨#[110, 111, 110, 101]⟩]
def nm (k : Nat) : ByteArray := nmL.getD k ⟨#[]⟩
def NamesAt (w : World) : Prop := ∀ k, k < 31 → w.cell? ⟨0, k, none⟩ = some (.string (nm k))
theorem NamesAt.lt {w : World} (h : NamesAt w) : 0 < w.heap.size := World.lt_of_cell (h 0 (by omega))
theorem NamesAt.below {w w' : World} {C : Nat} (h : NamesAt w) (hb : Below C w w') (hC : w.heap.size ≤ C) : NamesAt w' := fun k hk => (hb.cell (p := ⟨0, k, none⟩) (by have := h.lt; show 0 < C; omega)).trans (h k hk)
end Go.Proofs.YtebeekjcepjcnaaDoor
namespace Go.Proofs.YtebeekjcepjcnaaDoor
open Go.ChangeShapes Go.WideShapes Go.ChangeAt Go.RowKit
set_option maxRecDepth 100000 in
theorem sorts_of_vars {W : World} {r : List (String × DataW Unit)} {ps : List MemPlace} (h : DataW.LaidVars Tryd.prog W (("baffle/icmp.sorts", Rows.laid_baffle_icmp_sorts) :: r) ps) : SortsAt W := by
  obtain ⟨g0, t0, cs0, f0, p0, q0, hg0, ht0, hv0, hd0, _⟩ := h
  obtain rfl := Option.some.inj (gSorts.symm.trans hg0)
  obtain rfl := Option.some.inj (tSorts.symm.trans ht0)
  obtain ⟨xs, m, _, hx, _, hlen, hel⟩ := DataW.trod_array Tryd.underlying189 hd0
  intro k hk
  have h1 := hel k hk
  rw [cSort] at h1
  obtain ⟨l, e1, e2⟩ := sorts_dat k hk
  simp only [Prod.mk.injEq] at hx
  rw [e1] at hx
  have hl : l = xs.map (·.1) := by simpa using hx.1
  rw [hl, List.getElem?_map] at e2
  obtain ⟨x, hxk, hx1⟩ := Option.map_eq_some_iff.1 e2
  rw [hxk] at h1
  obtain ⟨y0, y1, y2, n, hy, hcl, t0, t1, t2⟩ := Go.Deep.trod_struct3 Tryd.underlying188 h1
  rw [cSort] at hcl
  match hcs : (cs0.toList.drop (k * 3)).take 3, hcl with
  | [c0, c1, c2], _ =>
    rw [hcs] at t0 t1 t2
    obtain ⟨a, rfl, rfl, _⟩ := one_int Tryd.underlying5 cOne8 rfl t0
    obtain ⟨b, rfl, rfl, _⟩ := one_int Tryd.underlying5 cOne8 rfl t1
    obtain ⟨c, rfl, rfl, _⟩ := one_int Tryd.underlying5 cOne8 rfl t2
    rw [hy] at hx1
    simp only [DataW.agg.injEq, List.cons.injEq, DataW.lit.injEq, Lit.int.injEq, true_and, and_true] at hx1
    obtain ⟨rfl, rfl, rfl⟩ := hx1
    have hat : ∀ j, j < 3 → cs0[k * 3 + j]? = ((cs0.toList.drop (k * 3)).take 3)[j]? := fun j hj => by
      rw [List.getElem?_take_of_lt hj, List.getElem?_drop]
      simp
    refine ⟨?_, ?_, ?_⟩
    · have := hat 0 (by omega)
      rw [hcs] at this
      exact (World.var?_cell hg0 hv0 (k * 3)).trans this
    · have := hat 1 (by omega)
      rw [hcs] at this
      exact (World.var?_cell hg0 hv0 (k * 3 + 1)).trans this
    · have := hat 2 (by omega)
      rw [hcs] at this
      exact (World.var?_cell hg0 hv0 (k * 3 + 2)).trans this
set_option maxRecDepth 100000 in
theorem laidOut : laidOutB Tryd.prog = true := by kernel_rfl
end Go.Proofs.YtebeekjcepjcnaaDoor
namespace Go.Proofs.YtebeekjcepjcnaaDoor
open Go.ChangeShapes Go.WideShapes Go.ChangeAt Go.RowKit
set_option maxRecDepth 100000 in
theorem tabs_of_vars {W : World} {r : List (String × DataW Unit)} {ps : List MemPlace} (h : DataW.LaidVars Tryd.prog W (("baffle/icmp.sorts", Rows.laid_baffle_icmp_sorts) :: ("baffle/bafflelaw10.queries", Rows.laid_baffle_bafflelaw10_queries) :: ("baffle/bafflelaw10.replies", Rows.laid_baffle_bafflelaw10_replies) :: ("baffle/bafflelaw10.errs", Rows.laid_baffle_bafflelaw10_errs) :: r) ps) :
    SortsAt W ∧ Tabs W ∧ ∃ qs, DataW.LaidVars Tryd.prog W r qs := by
  have h1 := sorts_of_vars h
  obtain ⟨_, _, _, _, _, q1, _, _, _, _, k1, _⟩ := h
  have h2 := queries_of_vars k1
  obtain ⟨_, _, _, _, _, q2, _, _, _, _, k2, _⟩ := k1
  have h3 := replies_of_vars k2
  obtain ⟨_, _, _, _, _, q3, _, _, _, _, k3, _⟩ := k2
  have h4 := errs_of_vars k3
  obtain ⟨_, _, _, _, _, q4, _, _, _, _, k4, _⟩ := k3
  exact ⟨h1, ⟨h2, h3, h4⟩, q4, k4⟩
set_option maxRecDepth 100000 in
theorem tabs_of_laid {W : World} (h : laidMetH Tryd.prog [("baffle/icmp.sorts", Rows.laid_baffle_icmp_sorts), ("baffle/bafflelaw10.queries", Rows.laid_baffle_bafflelaw10_queries), ("baffle/bafflelaw10.replies", Rows.laid_baffle_bafflelaw10_replies), ("baffle/bafflelaw10.errs", Rows.laid_baffle_bafflelaw10_errs)] W) : SortsAt W ∧ Tabs W := by
  rw [MakeChecks.laidMetH_plain _ _ _ (by kernel_rfl)] at h
  obtain ⟨ps, h1, _⟩ := h
  exact ⟨(tabs_of_vars h1).1, (tabs_of_vars h1).2.1⟩
end Go.Proofs.YtebeekjcepjcnaaDoor
