/-
  The facts of a packet, as data; what package build asks of them.
  Package ip of the program: put, Header.right, Write.
-/
import Derived.Test.YtebeekjcepjcnaaDoorProg
import Derived.WalkKit
import Derived.WalkSpells
import Derived.WalkLawsBesides
import Derived.WalkSmall
import Derived.Lib.Hide
import Derived.Deep.AppendLies
import Derived.Maps.AppendAt
import Derived.Laws.AppendOwnNone
import Derived.Laws.CopyOwn
import Derived.OneCell
import Derived.Lib.SliceRun
import Derived.RangeFuncNested
import Derived.RangeFuncBound
import Derived.RangeFuncCalls
import Derived.RangeFuncLeaves
import Derived.Shelf.Abstract
import Derived.OwnWalkIn
import Derived.TacticsInMore
import Derived.LoopNIn
import Derived.LoopIn
import Derived.Lib.AppendZeros
import Derived.Test.YtebeekjcepjcnaaDoorWBase
import Derived.Test.YtebeekjcepjcnaaDoorWBits
import Derived.Test.YtebeekjcepjcnaaDoorWCsum
import Derived.Test.YtebeekjcepjcnaaDoorWSum
import Derived.Test.YtebeekjcepjcnaaDoorWConcat
import Derived.Test.YtebeekjcepjcnaaDoorWFix
namespace Go.Proofs.YtebeekjcepjcnaaDoor
open Go.RowKit

structure Key where
  proto : Int
  src : Int
  dst : Int
  sp : Int
  dp : Int
structure Facts where
  key : Key
  kind : Int
  flags : Int
  type : Int
  code : Int
  seqn : Int
  ackn : Int
  window : Int
  length : Int
  quoted : Key
  qkind : Int
def Key.cells (k : Key) : List Value := [.int .u8 k.proto, .int .u32 k.src, .int .u32 k.dst, .int .u16 k.sp, .int .u16 k.dp]
def Key.val (k : Key) : Value := .agg k.cells.toArray
def Facts.cells (f : Facts) : List Value :=
  f.key.cells ++ [.int .u8 f.kind, .int .u8 f.flags, .int .u8 f.type, .int .u8 f.code, .int .u32 f.seqn, .int .u32 f.ackn, .int .i64 f.window, .int .i64 f.length] ++ f.quoted.cells ++ [.int .u8 f.qkind]
def Facts.val (f : Facts) : Value := .agg f.cells.toArray
structure Key.Ok (k : Key) : Prop where
  proto0 : 0 ≤ k.proto
  proto1 : k.proto < 256
  src0 : 0 ≤ k.src
  src1 : k.src < 4294967296
  dst0 : 0 ≤ k.dst
  dst1 : k.dst < 4294967296
  sp0 : 0 ≤ k.sp
  sp1 : k.sp < 65536
  dp0 : 0 ≤ k.dp
  dp1 : k.dp < 65536
structure Facts.Ok (f : Facts) : Prop where
  key : f.key.Ok
  kind0 : 0 ≤ f.kind
  kind1 : f.kind < 256
  flags0 : 0 ≤ f.flags
  flags1 : f.flags < 256
  type0 : 0 ≤ f.type
  type1 : f.type < 256
  code0 : 0 ≤ f.code
  code1 : f.code < 256
  seqn0 : 0 ≤ f.seqn
  seqn1 : f.seqn < 4294967296
  ackn0 : 0 ≤ f.ackn
  ackn1 : f.ackn < 4294967296
  window0 : -9223372036854775808 ≤ f.window
  window1 : f.window ≤ 9223372036854775807
  length0 : -9223372036854775808 ≤ f.length
  length1 : f.length ≤ 9223372036854775807
  quoted : f.quoted.Ok
  qkind0 : 0 ≤ f.qkind
  qkind1 : f.qkind < 256
def Key.zero : Key := ⟨0, 0, 0, 0, 0⟩
def Facts.zero : Facts := ⟨Key.zero, 0, 0, 0, 0, 0, 0, 0, 0, Key.zero, 0⟩

def Key.ported (k : Key) : Bool := decide (0 < k.sp) && decide (0 < k.dp)
def betweenB (n lo hi : Int) : Bool := decide (lo ≤ n) && decide (n ≤ hi)

set_option maxHeartbeats 400000 in
theorem between_any (n lo hi : Int) (w : World) : Calls Tryd.prog 126 #[.int .i64 n, .int .i64 lo, .int .i64 hi] w fun e w' => e = .returned (.bool (betweenB n lo hi)) ∧ w = w' := by
  unfold betweenB
  by_cases h1 : lo ≤ n
  · have Hr := Lib.hid (show (decide (lo ≤ n) && decide (n ≤ hi)) = decide (n ≤ hi) by simp [h1])
    rw [Hr.out]
    have hb : decide (lo ≤ n) = true := by simpa using h1
    go_enter Tryd.func126, Tryd.ntmps126
    go_wp2_with fail
    go_ret
    exact ⟨by simp, rfl⟩
  · have Hr := Lib.hid (show (decide (lo ≤ n) && decide (n ≤ hi)) = false by simp [h1])
    rw [Hr.out]
    have hb : decide (lo ≤ n) = false := by simpa using h1
    go_enter Tryd.func126, Tryd.ntmps126
    go_wp2_with fail
    go_ret
    exact ⟨rfl, rfl⟩

set_option maxHeartbeats 400000 in
theorem ported_any (k : Key) (w : World) : Calls Tryd.prog 124 #[k.val] w fun e w' => e = .returned (.bool k.ported) ∧ Below w.heap.size w w' := by
  obtain ⟨proto, src, dst, sp, dp⟩ := k
  unfold Key.ported
  dsimp only [Key.val, Key.cells]
  by_cases h1 : 0 < sp
  · have Hr := Lib.hid (show (decide (0 < sp) && decide (0 < dp)) = decide (0 < dp) by simp [h1])
    rw [Hr.out]
    have hb : decide (0 < sp) = true := by simpa using h1
    go_enter Tryd.func124, Tryd.ntmps124
    go_wp2_with fail
    go_ret
    exact ⟨by simp, (Below.refl _ _).alloc (Nat.le_refl _) _⟩
  · have Hr := Lib.hid (show (decide (0 < sp) && decide (0 < dp)) = false by simp [h1])
    rw [Hr.out]
    have hb : decide (0 < sp) = false := by simpa using h1
    go_enter Tryd.func124, Tryd.ntmps124
    go_wp2_with fail
    go_ret
    exact ⟨rfl, (Below.refl _ _).alloc (Nat.le_refl _) _⟩

def usualB (a : Int) : Bool := decide (0 < a) && decide (a < 3758096384)
set_option maxHeartbeats 400000 in
theorem usual_any (a : Int) (w : World) : Calls Tryd.prog 67 #[.int .u32 a] w fun e w' => e = .returned (.bool (usualB a)) ∧ w = w' := by
  unfold usualB
  by_cases h1 : 0 < a
  · have Hr := Lib.hid (show (decide (0 < a) && decide (a < 3758096384)) = decide (a < 3758096384) by simp [h1])
    rw [Hr.out]
    have hb : decide (0 < a) = true := by simpa using h1
    go_enter Tryd.func67, Tryd.ntmps67
    go_wp2_with fail
    go_ret
    exact ⟨by simp, rfl⟩
  · have Hr := Lib.hid (show (decide (0 < a) && decide (a < 3758096384)) = false by simp [h1])
    rw [Hr.out]
    have hb : decide (0 < a) = false := by simpa using h1
    go_enter Tryd.func67, Tryd.ntmps67
    go_wp2_with fail
    go_ret
    exact ⟨rfl, rfl⟩

/-- What is right for a datagram: what is named, and whether it is right. -/
def Facts.udpPart (f : Facts) : Facts := { Facts.zero with key := f.key, kind := f.kind, length := f.length }
def Facts.rightUDP (f : Facts) : Bool := f.key.ported && betweenB f.length 0 65507

theorem saneI_any (f : Int) (w : World) (h0 : 0 ≤ f) (h1 : f < 256) : Calls Tryd.prog 125 #[.int .u8 f] w fun e w' => e = .returned (.bool (saneB f.toNat)) ∧ w = w' := by
  obtain ⟨n, rfl⟩ : ∃ n : Nat, f = n := ⟨f.toNat, by omega⟩
  rw [Int.toNat_natCast]
  exact sane_any n w (by omega)
/-- What is right for a segment. -/
def Facts.tcpPart (f : Facts) : Facts := { Facts.zero with key := f.key, kind := f.kind, flags := f.flags, seqn := f.seqn, ackn := f.ackn, window := f.window, length := f.length }
def Facts.rightTCP (f : Facts) : Bool := f.key.ported && decide (f.flags < 64) && saneB f.flags.toNat && betweenB f.window 0 65535 && betweenB f.length 0 65495

theorem kindI_any (t c : Int) (w : World) (h0 : 0 ≤ t) (h1 : t < 256) (g0 : 0 ≤ c) (hs : SortsAt w) : Calls Tryd.prog 68 #[.int .u8 t, .int .u8 c] w fun e w' => e = .returned (.tuple #[.int .u8 (kind1 t.toNat c.toNat), .int .i64 (kind2 t.toNat c.toNat)]) ∧ w = w' := by
  obtain ⟨n, rfl⟩ : ∃ n : Nat, t = n := ⟨t.toNat, by omega⟩
  obtain ⟨m, rfl⟩ : ∃ n : Nat, c = n := ⟨c.toNat, by omega⟩
  rw [Int.toNat_natCast, Int.toNat_natCast]
  exact kind_any n m w (by omega) hs
/-- What is right for a query or an answer to one. -/
def Facts.queryPart (f : Facts) : Facts := { Facts.zero with key := f.key, kind := f.kind, type := f.type, code := f.code, length := f.length }
def Facts.rightQuery (f : Facts) : Bool := (kind2 f.type.toNat f.code.toNat == 0) && (kind1 f.type.toNat f.code.toNat == f.kind) && (f.key.sp == f.key.dp) && betweenB f.length 0 65507

end Go.Proofs.YtebeekjcepjcnaaDoor
namespace Go.Proofs.YtebeekjcepjcnaaDoor
open Go.RowKit Go.Shelf

/-- A number of some bytes, put into a row: from the last byte back. -/
def putL (xs : List Int) (at_ : Nat) : Nat → Int → List Int
  | 0, _ => xs
  | k + 1, n => putL (xs.set (at_ + k) (n % 256)) at_ k (n / 256)
theorem putL_len (at_ : Nat) : ∀ (k : Nat) (xs : List Int) (n : Int), (putL xs at_ k n).length = xs.length := by
  intro k
  induction k with
  | zero => intro xs n; rfl
  | succ k ih => intro xs n; rw [putL, ih, List.length_set]
theorem putL_byt (at_ : Nat) : ∀ (k : Nat) (xs : List Int) (n : Int), Byt xs → Byt (putL xs at_ k n) := by
  intro k
  induction k with
  | zero => intro xs n h; exact h
  | succ k ih => intro xs n h; exact ih _ _ (h.set _ (by omega) (by omega))

set_option maxHeartbeats 1000000 in
theorem put_any (g n cap : Nat) (base : Nat) (xs : List Int) (at_ size : Nat) (m : Int) (w : World) (hown : Own w base (.slice (some ⟨g, 0, none⟩) n cap) xs) (hl : n ≤ 1000000) (hat : at_ + size ≤ n) (h0 : 0 ≤ m) (h1 : m < 4294967296) :
    Calls Tryd.prog 70 #[.slice (some ⟨g, 0, none⟩) n cap, .int .i64 at_, .int .i64 size, .int .u32 m] w fun e w' => e = .returned (.tuple #[]) ∧ Own w' base (.slice (some ⟨g, 0, none⟩) n cap) (putL xs at_ size m) ∧ w.grownBy w' (some g) ∧ Below g w w' := by
  have hn := hown.len
  have Hn := Lib.hid hn
  have Ho := Lib.hid hown
  clear hn hown
  go_enter Tryd.func70, Tryd.ntmps70
  go_wp2_with fail
  go_loopw [3, 8] (fun v i wr => ∃ (k : Nat) (ys : List Int) (q : Int), k ≤ size ∧ i = .int .i64 ((k : Int) - 1) ∧ v = .int .u32 q ∧ 0 ≤ q ∧ q < 4294967296 ∧ Own wr base (.slice (some ⟨g, 0, none⟩) n cap) ys ∧ Hid (putL ys at_ k q = putL xs at_ size m) ∧ w.grownBy wr (some g) ∧ Below g w wr)
    (fun _ i _ => (intOf i + 1).toNat)
  case atStart => exact ⟨size, xs, m, Nat.le_refl _, rfl, rfl, h0, h1, Ho.out, Lib.hid rfl, World.grownBy.refl _ _, Below.refl _ _⟩
  case round =>
    obtain ⟨k, ys, q, hk, rfl, rfl, hq0, hq1, hown, hput, hg, hbw⟩ := hrel
    by_cases hlt : 0 < k
    · obtain ⟨k, rfl⟩ : ∃ j, k = j + 1 := ⟨k - 1, by omega⟩
      have hlen := hown.len
      have hc : wr.cell? ⟨g, at_ + k, none⟩ = some (.int .u8 (ys.getD (at_ + k) 0)) := hown.cell (at_ + k) (by omega)
      have hf : wr.frozen? ⟨g, at_ + k, none⟩ = false := hown.free _
      have Hown := Lib.hid (hown.set (at_ + k) (q % 256))
      have hwr := IntKind.wrap_u8 q
      generalize ys.getD (at_ + k) 0 = x at *
      clear hlen hown hlt
      have hk1 : ((k + 1 : Nat) : Int) - 1 = (k : Int) := by omega
      rw [hk1]
      clear hk1
      go_wp2_with fail
      refine ⟨⟨k, ys.set (at_ + k) (q % 256), q / 256, by omega, rfl, rfl, by omega, by omega, Hown.out, Lib.hid hput.out, only_setCell hg (.inl rfl) _, hbw.setCell (p := ⟨g, at_ + k, none⟩) (Nat.le_refl _) _⟩, by simp [intOf]⟩
    · obtain rfl : k = 0 := by omega
      go_wp2_with fail
      go_end0
      exact ⟨rfl, by have := hput.out; rw [← this]; exact hown, hg, hbw⟩

/-- A header of a packet. -/
structure IpH where
  tos : Int
  id : Int
  df : Bool
  mf : Bool
  off : Int
  ttl : Int
  proto : Int
  src : Int
  dst : Int
  opts : List Int
def IpH.val (h : IpH) (A : Option Addr) (cap : Nat) : Value :=
  .agg #[.int .u8 h.tos, .int .u16 h.id, .bool h.df, .bool h.mf, .int .i64 h.off, .int .u8 h.ttl, .int .u8 h.proto, .int .u32 h.src, .int .u32 h.dst, .slice A h.opts.length cap]
structure IpH.Ok (h : IpH) : Prop where
  tos0 : 0 ≤ h.tos
  tos1 : h.tos < 256
  id0 : 0 ≤ h.id
  id1 : h.id < 65536
  ttl0 : 0 ≤ h.ttl
  ttl1 : h.ttl < 256
  proto0 : 0 ≤ h.proto
  proto1 : h.proto < 256
  src0 : 0 ≤ h.src
  src1 : h.src < 4294967296
  dst0 : 0 ≤ h.dst
  dst1 : h.dst < 4294967296
  opts : Byt h.opts
/-- It is right for n bytes of data. -/
structure IpH.Right (h : IpH) (n : Nat) : Prop where
  off0 : 0 ≤ h.off
  off1 : h.off ≤ 65528
  off8 : h.off % 8 = 0
  len : h.opts.length ≤ 40
  len4 : h.opts.length % 4 = 0
  all : h.opts.length + n ≤ 65515
  offn : h.off + n ≤ 65515
  mf : h.mf = true → 0 < n ∧ n % 8 = 0

set_option maxHeartbeats 400000 in
theorem right_yes (h : IpH) (A : Option Addr) (cap n : Nat) (w : World) (hr : h.Right n) :
    Calls Tryd.prog 69 #[h.val A cap, .int .i64 n] w fun e w' => e = .returned (.bool true) ∧ Below w.heap.size w w' := by
  obtain ⟨tos, id, df, mf, off, ttl, proto, src, dst, opts⟩ := h
  obtain ⟨h1, h2, h3, h4, h5, h6, h7, h8⟩ := hr
  dsimp only [IpH.val] at *
  have b1 : ((off % 8) != 0) = false := by simpa using h3
  have b2 : decide (off < 0) = false := by simpa using h1
  have b3 : decide (65528 < off) = false := by simpa using h2
  have b4 : decide (40 < (opts.length : Int)) = false := by simp; omega
  have b5 : (((opts.length : Int) % 4) != 0) = false := by simp; omega
  have b6 : decide ((n : Int) < 0) = false := by simp
  have b7 : decide (65515 < (n : Int)) = false := by simp; omega
  have b8 : decide (65535 < 20 + (opts.length : Int) + n) = false := by simp; omega
  have b9 : decide (65515 < off + (n : Int)) = false := by simp; omega
  clear h3 h5
  cases mf
  · go_enter Tryd.func69, Tryd.ntmps69
    go_wp2_with fail
    go_ret
    exact ⟨rfl, (Below.refl _ _).alloc (Nat.le_refl _) _⟩
  · have h0n := (h8 rfl).1
    have b10 : decide (0 < (n : Int)) = true := by simp; exact (h8 rfl).1
    have b11 : (((n : Int) % 8) == 0) = true := by simp; have := (h8 rfl).2; omega
    clear h8
    go_enter Tryd.func69, Tryd.ntmps69
    go_wp2_with fail
    go_ret
    exact ⟨rfl, (Below.refl _ _).alloc (Nat.le_refl _) _⟩

end Go.Proofs.YtebeekjcepjcnaaDoor
