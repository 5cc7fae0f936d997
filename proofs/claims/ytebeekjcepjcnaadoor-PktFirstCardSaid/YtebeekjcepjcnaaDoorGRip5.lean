/-
  The reference of ip: Right, Read.
  The reference of pkt: segment, datagram.
  The reference of package opts: routes, pointer, excludes, excluded, Routed.
  The reference of package opts: Read.
  The reference of pkt: Read.
  The reference of layer 12: Build of an error's facts.
  bafflekit.SameBytes at equal bytes; the examples of the chapters 11 and 12. bafflelaw12.tells: the program and the reference say the same of any facts.
  pkt.Name and pkt.Reason, over the table of names as it is laid.
-/
import Derived.Test.YtebeekjcepjcnaaDoorProg
import Derived.WalkKit
import Derived.WalkSpells
import Derived.WalkLawsBesides
import Derived.WalkSmall
import Derived.Lib.Hide
import Derived.Deep.AppendLies
import Derived.Maps.AppendAt
import Derived.Laws.AppendOwnNone
import Derived.Laws.CopyOwn
import Derived.OneCell
import Derived.Lib.SliceRun
import Derived.RangeFuncNested
import Derived.RangeFuncBound
import Derived.RangeFuncCalls
import Derived.RangeFuncLeaves
import Derived.Shelf.Abstract
import Derived.OwnWalkIn
import Derived.TacticsInMore
import Derived.LoopNIn
import Derived.LoopIn
import Derived.Orders
import Derived.RegionTactic
import Derived.Still
import Derived.Deep.MidRow
import Derived.Deep.DeepCutAuto
import Derived.Lib.AppendZeros
import Derived.BigRegion
import Derived.ChangeAlike
import Derived.Deep.RegionLaw
import Derived.Deep.RegionHeld3
import Derived.MapKept
import Derived.RegionIn
import Derived.Laws.StructEq
import Derived.Test.YtebeekjcepjcnaaDoorGBase
import Derived.Test.YtebeekjcepjcnaaDoorGBits
import Derived.Test.YtebeekjcepjcnaaDoorGCsum
import Derived.Test.YtebeekjcepjcnaaDoorGSum
import Derived.Test.YtebeekjcepjcnaaDoorGFix
import Derived.Test.YtebeekjcepjcnaaDoorGFacts
import Derived.Test.YtebeekjcepjcnaaDoorGPkt
import Derived.Test.YtebeekjcepjcnaaDoorGWalk
import Derived.Test.YtebeekjcepjcnaaDoorGStep
import Derived.Test.YtebeekjcepjcnaaDoorGTcpw
import Derived.Test.YtebeekjcepjcnaaDoorGUdpw
import Derived.Test.YtebeekjcepjcnaaDoorGData
import Derived.Test.YtebeekjcepjcnaaDoorGIprd
import Derived.Test.YtebeekjcepjcnaaDoorGFold
import Derived.Test.YtebeekjcepjcnaaDoorGIpre
import Derived.Test.YtebeekjcepjcnaaDoorGIpread
import Derived.Test.YtebeekjcepjcnaaDoorGOptsa
import Derived.Test.YtebeekjcepjcnaaDoorGOptsb
import Derived.Test.YtebeekjcepjcnaaDoorGOptsc
import Derived.Test.YtebeekjcepjcnaaDoorGOptsd
import Derived.Test.YtebeekjcepjcnaaDoorGTcprd
import Derived.Test.YtebeekjcepjcnaaDoorGEq
import Derived.Test.YtebeekjcepjcnaaDoorGMade9
import Derived.Test.YtebeekjcepjcnaaDoorGUdprd
import Derived.Test.YtebeekjcepjcnaaDoorGIcmprd
import Derived.Test.YtebeekjcepjcnaaDoorGPktn
import Derived.Test.YtebeekjcepjcnaaDoorGQuotc
import Derived.Test.YtebeekjcepjcnaaDoorGPkto
import Derived.Test.YtebeekjcepjcnaaDoorGPkta
import Derived.Test.YtebeekjcepjcnaaDoorGPktr
namespace Go.Proofs.YtebeekjcepjcnaaDoor
open Go.RowKit
def hst (a0 a1 a2 a3 a4 a5 a6 a7 a8 : Value) : Nat → Array Value
  | 0 => #[.int .u8 0, .int .u16 0, .bool false, .bool false, .int .i64 0, .int .u8 0, .int .u8 0, .int .u32 0, .int .u32 0, .slice none 0 0]
  | 1 => #[a0, .int .u16 0, .bool false, .bool false, .int .i64 0, .int .u8 0, .int .u8 0, .int .u32 0, .int .u32 0, .slice none 0 0]
  | 2 => #[a0, a1, .bool false, .bool false, .int .i64 0, .int .u8 0, .int .u8 0, .int .u32 0, .int .u32 0, .slice none 0 0]
  | 3 => #[a0, a1, a2, .bool false, .int .i64 0, .int .u8 0, .int .u8 0, .int .u32 0, .int .u32 0, .slice none 0 0]
  | 4 => #[a0, a1, a2, a3, .int .i64 0, .int .u8 0, .int .u8 0, .int .u32 0, .int .u32 0, .slice none 0 0]
  | 5 => #[a0, a1, a2, a3, a4, .int .u8 0, .int .u8 0, .int .u32 0, .int .u32 0, .slice none 0 0]
  | 6 => #[a0, a1, a2, a3, a4, a5, .int .u8 0, .int .u32 0, .int .u32 0, .slice none 0 0]
  | 7 => #[a0, a1, a2, a3, a4, a5, a6, .int .u32 0, .int .u32 0, .slice none 0 0]
  | 8 => #[a0, a1, a2, a3, a4, a5, a6, a7, .int .u32 0, .slice none 0 0]
  | _ => #[a0, a1, a2, a3, a4, a5, a6, a7, a8, .slice none 0 0]
def IpPost (w : World) (xs : List Int) (e : Ending) (W : World) : Prop := ∃ v, e = .returned (ipOut xs v) ∧ (ipN xs = 7 → Own W w.heap.size v (ipHdr xs).opts) ∧ Below w.heap.size w W
theorem IpPost.bad {w W : World} {xs : List Int} {k : Nat} {E : Int} (hk : k < 7) (h : ipN xs = k) (hE : E = 50 + k) (hb : Below w.heap.size w W) : IpPost w xs (.returned (.tuple #[.agg #[.int .u8 0, .int .u16 0, .bool false, .bool false, .int .i64 0, .int .u8 0, .int .u8 0, .int .u32 0, .int .u32 0, .slice none 0 0], .int .i64 0, .int .i64 0, .int .i64 E])) W := by
  subst hE
  refine ⟨.int .i64 0, ?_, fun h7 => by omega, hb⟩
  unfold ipOut ipE
  rw [h, if_neg (by omega), if_neg (by omega), if_neg (by omega), if_pos hk]
end Go.Proofs.YtebeekjcepjcnaaDoor
namespace Go.Proofs.YtebeekjcepjcnaaDoor
open Go.RowKit
def fcC (f : Facts) : Array Value := #[.int .u8 f.key.proto, .int .u32 f.key.src, .int .u32 f.key.dst, .int .u16 f.key.sp, .int .u16 f.key.dp, .int .u8 f.kind, .int .u8 f.flags, .int .u8 f.type, .int .u8 f.code, .int .u32 f.seqn, .int .u32 f.ackn, .int .i64 f.window, .int .i64 f.length,
  .int .u8 f.quoted.proto, .int .u32 f.quoted.src, .int .u32 f.quoted.dst, .int .u16 f.quoted.sp, .int .u16 f.quoted.dp, .int .u8 f.qkind]
end Go.Proofs.YtebeekjcepjcnaaDoor
namespace Go.Proofs.YtebeekjcepjcnaaDoor
open Go.RowKit
section
variable {W : World} {B : Nat} {A : Option Addr} {ks : List Int}
theorem OptsAt.at_ (h : OptsAt W B A ks) (k : Nat) (hk : k < ks.length) : ∃ b off, A = some ⟨b, off, none⟩ ∧ b < B ∧ W.cell? ⟨b, off + k * 2, none⟩ = some (.int .u8 (ks.getD k 0)) := by
  obtain ⟨b, off, v, e, hb, _, hc, _⟩ := h k hk
  exact ⟨b, off, e, hb, hc⟩
end
end Go.Proofs.YtebeekjcepjcnaaDoor
namespace Go.Proofs.YtebeekjcepjcnaaDoor
open Go.RowKit
def opC (l : List (Int × Value)) : List Value := l.flatMap fun x => [.int .u8 x.1, x.2]
theorem opC_snoc (l : List (Int × Value)) (x : Int × Value) : opC (l ++ [x]) = opC l ++ [.int .u8 x.1, x.2] := by simp [opC]
theorem OptsAt.more {W : World} {B C : Nat} {A : Option Addr} {ks : List Int} (h : OptsAt W B A ks) (hC : B ≤ C) : OptsAt W C A ks := fun j hj => by
  obtain ⟨b, off, v, e, hB, h1, h2, h3⟩ := h j hj
  exact ⟨b, off, v, e, by omega, h1, h2, h3⟩
structure RoRel (w : World) (xs : List Int) (k m : Nat) (l : List (Int × Value)) (v : Value) (W : World) : Prop where
  below : Below w.heap.size w W
  row : W.ownsRow w.heap.size 247 2 v l.length (opC l)
  one : ∀ x ∈ l, x.2.oneCell' = true
  len : l.length ≤ k
  goes : optsR (optsY m (xs.drop k)) (l.map Prod.fst) = optRead xs
def RoOut (w : World) (xs : List Int) (e : Ending) (W : World) : Prop := ∃ A c, e = .returned (.tuple #[.slice A (optRead xs).1.length c, .int .i64 (optRead xs).2]) ∧ OptsAt W W.heap.size A (optRead xs).1 ∧ Below w.heap.size w W
theorem RoOut.bad {w W : World} {xs : List Int} {E : Int} (h : optRead xs = ([], E)) (hb : Below w.heap.size w W) : RoOut w xs (.returned (.tuple #[.slice none 0 0, .int .i64 E])) W :=
  ⟨none, 0, by rw [h]; rfl, by rw [h]; exact fun j hj => by simp at hj, hb⟩
/-- One option more. -/
theorem RoRel.more {w W W' : World} {xs : List Int} {k k' m m' : Nat} {l : List (Int × Value)} {v v' : Value} (h : RoRel w xs k m l v W) (K : Int) (d : Value) (hd : d.oneCell' = true) (hk : k < k') (hb : Below w.heap.size w W') (hr : W'.ownsRow w.heap.size 247 2 v' (l.length + 1) (opC l ++ [.int .u8 K, d]))
    (hg : optsR (optsY m (xs.drop k)) (l.map Prod.fst) = optsR (optsY m' (xs.drop k')) (l.map Prod.fst ++ [K])) : RoRel w xs k' m' (l ++ [(K, d)]) v' W' := by
  have hl := h.len
  refine ⟨hb, ?_, fun x hx => ?_, by simp; omega, ?_⟩
  · rw [opC_snoc, List.length_append]; exact hr
  · rcases List.mem_append.1 hx with hx | hx
    · exact h.one x hx
    · simp at hx; subst hx; exact hd
  · rw [← h.goes, hg, List.map_append]; rfl
end Go.Proofs.YtebeekjcepjcnaaDoor
namespace Go.Proofs.YtebeekjcepjcnaaDoor
open Go.RowKit
def RdE (w : World) (L : List (Nat × TypeId × Array Value)) (rk : Nat) (base FD : Facts) (EE : Int) (c : Nat) (W : World) : Prop :=
  St w w.heap.size L W ∧ w.heap.size ≤ rk ∧ (∀ x ∈ L, x.1 ≠ rk) ∧ ∃ G, Blk W rk 27 (fcC G) ∧ (c < 2 → G = base) ∧ (EE = 0 → c = 2 → G = FD)
theorem RdE.below {w W W' : World} {L : List (Nat × TypeId × Array Value)} {rk : Nat} {base FD : Facts} {EE : Int} {c : Nat} (h : RdE w L rk base FD EE c W) (hb : Below W.heap.size W W') : RdE w L rk base FD EE c W' := by
  obtain ⟨h1, h2, h3, G, h4, h5, h6⟩ := h
  exact ⟨h1.below hb, h2, h3, G, h4.below hb h4.lt, h5, h6⟩
theorem RdE.next {w W : World} {L : List (Nat × TypeId × Array Value)} {rk : Nat} {base FD : Facts} {EE : Int} (h : RdE w L rk base FD EE 0 W) : RdE w L rk base FD EE 1 W := by
  obtain ⟨h1, h2, h3, G, h4, h5, h6⟩ := h
  exact ⟨h1, h2, h3, G, h4, fun _ => h5 (by omega), fun _ h => by omega⟩
theorem RdE.put {w W : World} {L : List (Nat × TypeId × Array Value)} {rk : Nat} {base FD : Facts} {EE : Int} {c : Nat} (h : RdE w L rk base FD EE c W) (G : Facts) (hG : EE = 0 → G = FD) : RdE w L rk base FD EE 2 (W.setRow rk (fcC G)) := by
  obtain ⟨h1, h2, h3, G', h4, h5, h6⟩ := h
  exact ⟨h1.rowFar h2 h3 _, h2, h3, G, setRow_heap _ _ _ _ _ _ h4, fun h => by omega, fun h _ => hG h⟩
end Go.Proofs.YtebeekjcepjcnaaDoor
namespace Go.Proofs.YtebeekjcepjcnaaDoor
open Go.RowKit Go.Shelf

def sLen : Value → Nat
  | .slice _ n _ => n
  | _ => 0
end Go.Proofs.YtebeekjcepjcnaaDoor
namespace Go.Proofs.YtebeekjcepjcnaaDoor
open Go.RowKit Go.Shelf

end Go.Proofs.YtebeekjcepjcnaaDoor

namespace Go.Proofs.YtebeekjcepjcnaaDoor
open Go.RowKit Go.Shelf

theorem facts_eqB_refl (f : Facts) : f.eqB f = true := Facts.eqB_iff.2 rfl
theorem run_ne_facts (f : Facts) (W : World) : (binOp .neq 27 f.val f.val).run Tryd.prog W = .ok (.bool false) W := by
  have h := run_eq_facts f f W
  rw [facts_eqB_refl] at h
  unfold Facts.val at h ⊢
  rw [run_eql_struct] at h
  rw [run_neq_struct]
  cases hr : (Op.equalIn 10000 27 (.agg f.cells.toArray) (.agg f.cells.toArray)).run Tryd.prog W with
  | ok b w' =>
    rw [hr] at h
    simp only [Result.andThen_ok, Result.ok.injEq, Value.bool.injEq] at h
    obtain ⟨rfl, rfl⟩ := h
    rfl
  | halt x w' =>
    rw [hr] at h
    cases h
end Go.Proofs.YtebeekjcepjcnaaDoor
namespace Go.Proofs.YtebeekjcepjcnaaDoor
open Go.RowKit
def nmL : List ByteArray := [⟨#[]⟩, ⟨#[115, 104, 111, 114, 116]⟩, ⟨#[118, 101, 114, 115, 105, 111, 110]⟩, ⟨#[104, 101, 97, 100, 101, 114]⟩, ⟨#[116, 111, 116, 97, 108]⟩, ⟨#[115, 117, 109]⟩, ⟨#[114, 101, 115, 101, 114, 118, 101, 100]⟩, ⟨#[111, 102, 102, 115, 101, 116]⟩, ⟨#[102, 114, 97, 103, 109, 101, 110, 116]⟩, ⟨#[111, 112, 116, 105, 111, 110, 115]⟩, ⟨#[114, 111, 117, 116, 101]⟩, ⟨#[116, 116, 108]⟩, ⟨#[97, 100, 100, 114, 101, 115, 115]⟩, ⟨#[112, 114, 111, 116, 111, 99, 111, 108]⟩, ⟨#[108, 101, 110, 103, 116, 104]⟩, ⟨#[102, 108, 97, 103, 115]⟩, ⟨#[112, 111, 114, 116]⟩, ⟨#[116, 121, 112, 101]⟩, ⟨#[113, 117, 111, 116, 101]⟩, ⟨#[110, 101, 115, 116, 101, 100]⟩, ⟨#[102, 108, 111, 119]⟩, ⟨#[114, 101, 108, 97, 116, 101, 100]⟩, ⟨#[110, 101, 119]⟩, ⟨#[114, 117, 108, 101]⟩, ⟨#[110, 111, 114, 117, 108, 101]⟩, ⟨#[110, 111, 116, 111, 112, 101, 110]⟩, ⟨#[115, 116, 97, 116, 101]⟩, ⟨#[115, 111, 117, 114, 99, 101]⟩, ⟨#[114, 97, 116, 101]⟩, ⟨#[102, 117, 108, 108]⟩, ⟨#[110, 111, 110, 101]⟩]
def nm (k : Nat) : ByteArray := nmL.getD k ⟨#[]⟩
def NamesAt (w : World) : Prop := ∀ k, k < 31 → w.cell? ⟨0, k, none⟩ = some (.string (nm k))
theorem NamesAt.lt {w : World} (h : NamesAt w) : 0 < w.heap.size := World.lt_of_cell (h 0 (by omega))
theorem NamesAt.below {w w' : World} {C : Nat} (h : NamesAt w) (hb : Below C w w') (hC : w.heap.size ≤ C) : NamesAt w' := fun k hk => (hb.cell (p := ⟨0, k, none⟩) (by have := h.lt; show 0 < C; omega)).trans (h k hk)
def nameS (r : Nat) : ByteArray := if r = 0 ∨ 31 ≤ r then ⟨#[]⟩ else nm r
def nameE (r : Nat) : Int := if r = 0 ∨ 31 ≤ r then 6 else 0
set_option maxHeartbeats 1000000 in
theorem name_any (r : Nat) (w : World) (hr : r < 256) (h : NamesAt w) : Calls Tryd.prog 25 #[.int .u8 r] w fun e w' => e = .returned (.tuple #[.string (nameS r), .int .i64 (nameE r)]) ∧ w = w' := by
  by_cases h0 : r = 0
  · subst h0
    go_enter Tryd.func25, Tryd.ntmps25
    go_wp2_with fail
    go_ret2
    exact ⟨rfl, rfl⟩
  have e0 : ((r : Int) == 0) = false := by simp; omega
  by_cases h1 : 31 ≤ r
  · have e1 : decide ((31 : Int) ≤ r) = true := by simp; omega
    have e2 : (31 ≤ r) = True := by simp [h1]
    have HS := Lib.hid (show nameS r = ⟨#[]⟩ ∧ nameE r = 6 from ⟨if_pos (.inr h1), if_pos (.inr h1)⟩)
    rw [HS.out.1, HS.out.2]
    go_enter Tryd.func25, Tryd.ntmps25
    go_wp2_with fail
    go_ret2
    exact ⟨rfl, rfl⟩
  have e1 : decide ((31 : Int) ≤ r) = false := by simp; omega
  have HS := Lib.hid (show nameS r = nm r ∧ nameE r = 0 from ⟨if_neg (by omega), if_neg (by omega)⟩)
  rw [HS.out.1, HS.out.2]
  have hc := h r (by omega)
  have hi : (r : Int) < 31 := by omega
  clear h
  generalize nm r = S at *
  go_enter Tryd.func25, Tryd.ntmps25
  go_wp2_with fail
  go_ret2
  exact ⟨rfl, rfl⟩
def reasonP1 (T : ByteArray) : Nat → Nat → Option Nat
  | _, 0 => none
  | k, n + 1 => if (nm (k + 1)).toList == T.toList then some k else reasonP1 T (k + 1) n
def reasonR (T : ByteArray) : Int × Int := match reasonP1 T 0 30 with
  | some k => ((k : Int) + 1, 0)
  | none => (0, 6)
theorem reasonP1_none (T : ByteArray) : ∀ n k, (∀ j, j < n → ((nm (k + j + 1)).toList == T.toList) = false) → reasonP1 T k n = none
  | 0, _, _ => rfl
  | n + 1, k, h => by
    unfold reasonP1
    rw [if_neg (by rw [h 0 (by omega)]; decide)]
    exact reasonP1_none T n (k + 1) fun j hj => by
      have := h (j + 1) (by omega)
      rwa [show k + (j + 1) + 1 = k + 1 + j + 1 by omega] at this
theorem reasonP1_some (T : ByteArray) : ∀ n k m, m < n → (∀ j, j < m → ((nm (k + j + 1)).toList == T.toList) = false) → ((nm (k + m + 1)).toList == T.toList) = true → reasonP1 T k n = some (k + m)
  | 0, _, _, h, _, _ => by omega
  | n + 1, k, m, hm, h, ht => by
    unfold reasonP1
    rcases m with _ | m
    · rw [if_pos ht]; rfl
    · rw [if_neg (by rw [h 0 (by omega)]; decide)]
      have := reasonP1_some T n (k + 1) m (by omega) (fun j hj => by
        have := h (j + 1) (by omega)
        rwa [show k + (j + 1) + 1 = k + 1 + j + 1 by omega] at this) (by rwa [show k + 1 + m + 1 = k + (m + 1) + 1 by omega])
      rw [this]; congr 1; omega
set_option maxRecDepth 100000 in
set_option maxHeartbeats 2000000 in
theorem reason_any (T : ByteArray) (w : World) (h : NamesAt w) : Calls Tryd.prog 27 #[.string T] w fun e w' => e = .returned (.tuple #[.int .u8 (reasonR T).1, .int .i64 (reasonR T).2]) ∧ w = w' := by
  have H := Lib.hid h
  have HN := Lib.hid (fun h => reasonP1_none T 30 0 h)
  have HS := Lib.hid (fun m hm h ht => reasonP1_some T 30 0 m hm h ht)
  have HR0 := Lib.hid (show reasonP1 T 0 30 = none → reasonR T = (0, 6) from fun h => by unfold reasonR; rw [h])
  have HR1 := Lib.hid (show ∀ k, reasonP1 T 0 30 = some k → reasonR T = ((k : Int) + 1, 0) from fun k h => by unfold reasonR; rw [h])
  clear h
  generalize reasonR T = R at *
  go_enter Tryd.func27, Tryd.ntmps27
  go_wp2_with fail
  go_loop [4, 5, 8] (fun _ _ i => ∃ k : Nat, k ≤ 30 ∧ i = .int .i64 k ∧ Hid (∀ j, j < k → ((nm (0 + j + 1)).toList == T.toList) = false)) (fun _ _ i => 30 - (intOf i).toNat)
  case atStart => exact ⟨0, by omega, rfl, Lib.hid fun j hj => by omega⟩
  case round =>
    obtain ⟨k, hk, rfl, hJ⟩ := hrel
    by_cases hlt : k < 30
    · have hc := H.out (k + 1) (by omega)
      rw [Nat.add_comm k 1] at hc
      have hi : (k : Int) < 30 := by omega
      have HJn := Lib.hid (fun (h : ((nm (0 + k + 1)).toList == T.toList) = false) => show ∀ j, j < k + 1 → ((nm (0 + j + 1)).toList == T.toList) = false from fun j hj => by
        rcases Nat.lt_or_ge j k with h1 | h1
        · exact hJ.out j h1
        · rw [show j = k by omega]; exact h)
      have HJs := Lib.hid (fun (h : ((nm (0 + k + 1)).toList == T.toList) = true) => HR1.out _ (HS.out k hlt hJ.out h))
      rw [show 0 + k + 1 = 1 + k by omega] at HJn HJs
      rw [Nat.zero_add] at HJs
      clear hJ
      generalize nm (1 + k) = S at *
      rcases hS : (S.toList == T.toList) with _ | _
      · have HJ2 := Lib.hid (HJn.out hS)
        go_wp2_with fail
        go_round
        case rel => exact ⟨k + 1, by omega, by go_num, HJ2⟩
        case measure => simp [intOf]; omega
      · have HX := Lib.hid (HJs.out hS)
        have hm : ((k : Int) + 1) % 256 = (k : Int) + 1 := by omega
        go_wp2_with fail
        go_ret2
        exact ⟨by rw [HX.out]; rfl, rfl⟩
    · obtain rfl : k = 30 := by omega
      have HX := Lib.hid (HR0.out (HN.out hJ.out))
      go_wp2_with fail
      go_ret2
      exact ⟨by rw [HX.out]; rfl, rfl⟩
end Go.Proofs.YtebeekjcepjcnaaDoor
