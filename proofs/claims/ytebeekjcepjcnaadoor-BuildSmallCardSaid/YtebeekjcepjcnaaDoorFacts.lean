/-
  The facts of a packet, as data; what package build asks of them.
-/
import Derived.Test.YtebeekjcepjcnaaDoorIcmp
namespace Go.Proofs.YtebeekjcepjcnaaDoor
open Go.RowKit

structure Key where
  proto : Int
  src : Int
  dst : Int
  sp : Int
  dp : Int
structure Facts where
  key : Key
  kind : Int
  flags : Int
  type : Int
  code : Int
  seqn : Int
  ackn : Int
  window : Int
  length : Int
  quoted : Key
  qkind : Int
def Key.cells (k : Key) : List Value := [.int .u8 k.proto, .int .u32 k.src, .int .u32 k.dst, .int .u16 k.sp, .int .u16 k.dp]
def Key.val (k : Key) : Value := .agg k.cells.toArray
def Facts.cells (f : Facts) : List Value :=
  f.key.cells ++ [.int .u8 f.kind, .int .u8 f.flags, .int .u8 f.type, .int .u8 f.code, .int .u32 f.seqn, .int .u32 f.ackn, .int .i64 f.window, .int .i64 f.length] ++ f.quoted.cells ++ [.int .u8 f.qkind]
def Facts.val (f : Facts) : Value := .agg f.cells.toArray
structure Key.Ok (k : Key) : Prop where
  proto0 : 0 ≤ k.proto
  proto1 : k.proto < 256
  src0 : 0 ≤ k.src
  src1 : k.src < 4294967296
  dst0 : 0 ≤ k.dst
  dst1 : k.dst < 4294967296
  sp0 : 0 ≤ k.sp
  sp1 : k.sp < 65536
  dp0 : 0 ≤ k.dp
  dp1 : k.dp < 65536
structure Facts.Ok (f : Facts) : Prop where
  key : f.key.Ok
  kind0 : 0 ≤ f.kind
  kind1 : f.kind < 256
  flags0 : 0 ≤ f.flags
  flags1 : f.flags < 256
  type0 : 0 ≤ f.type
  type1 : f.type < 256
  code0 : 0 ≤ f.code
  code1 : f.code < 256
  seqn0 : 0 ≤ f.seqn
  seqn1 : f.seqn < 4294967296
  ackn0 : 0 ≤ f.ackn
  ackn1 : f.ackn < 4294967296
  window0 : -9223372036854775808 ≤ f.window
  window1 : f.window ≤ 9223372036854775807
  length0 : -9223372036854775808 ≤ f.length
  length1 : f.length ≤ 9223372036854775807
  quoted : f.quoted.Ok
  qkind0 : 0 ≤ f.qkind
  qkind1 : f.qkind < 256
def Key.zero : Key := ⟨0, 0, 0, 0, 0⟩
def Facts.zero : Facts := ⟨Key.zero, 0, 0, 0, 0, 0, 0, 0, 0, Key.zero, 0⟩

def Key.ported (k : Key) : Bool := decide (0 < k.sp) && decide (0 < k.dp)
def betweenB (n lo hi : Int) : Bool := decide (lo ≤ n) && decide (n ≤ hi)

set_option maxHeartbeats 400000 in
theorem between_any (n lo hi : Int) (w : World) : Calls Tryd.prog 126 #[.int .i64 n, .int .i64 lo, .int .i64 hi] w fun e w' => e = .returned (.bool (betweenB n lo hi)) ∧ w = w' := by
  unfold betweenB
  by_cases h1 : lo ≤ n
  · have Hr := Lib.hid (show (decide (lo ≤ n) && decide (n ≤ hi)) = decide (n ≤ hi) by simp [h1])
    rw [Hr.out]
    have hb : decide (lo ≤ n) = true := by simpa using h1
    go_enter Tryd.func126, Tryd.ntmps126
    go_wp2_with fail
    go_ret
    exact ⟨by simp, rfl⟩
  · have Hr := Lib.hid (show (decide (lo ≤ n) && decide (n ≤ hi)) = false by simp [h1])
    rw [Hr.out]
    have hb : decide (lo ≤ n) = false := by simpa using h1
    go_enter Tryd.func126, Tryd.ntmps126
    go_wp2_with fail
    go_ret
    exact ⟨rfl, rfl⟩

set_option maxHeartbeats 400000 in
theorem ported_any (k : Key) (w : World) : Calls Tryd.prog 124 #[k.val] w fun e w' => e = .returned (.bool k.ported) ∧ Below w.heap.size w w' := by
  obtain ⟨proto, src, dst, sp, dp⟩ := k
  unfold Key.ported
  dsimp only [Key.val, Key.cells]
  by_cases h1 : 0 < sp
  · have Hr := Lib.hid (show (decide (0 < sp) && decide (0 < dp)) = decide (0 < dp) by simp [h1])
    rw [Hr.out]
    have hb : decide (0 < sp) = true := by simpa using h1
    go_enter Tryd.func124, Tryd.ntmps124
    go_wp2_with fail
    go_ret
    exact ⟨by simp, (Below.refl _ _).alloc (Nat.le_refl _) _⟩
  · have Hr := Lib.hid (show (decide (0 < sp) && decide (0 < dp)) = false by simp [h1])
    rw [Hr.out]
    have hb : decide (0 < sp) = false := by simpa using h1
    go_enter Tryd.func124, Tryd.ntmps124
    go_wp2_with fail
    go_ret
    exact ⟨rfl, (Below.refl _ _).alloc (Nat.le_refl _) _⟩

def usualB (a : Int) : Bool := decide (0 < a) && decide (a < 3758096384)
set_option maxHeartbeats 400000 in
theorem usual_any (a : Int) (w : World) : Calls Tryd.prog 67 #[.int .u32 a] w fun e w' => e = .returned (.bool (usualB a)) ∧ w = w' := by
  unfold usualB
  by_cases h1 : 0 < a
  · have Hr := Lib.hid (show (decide (0 < a) && decide (a < 3758096384)) = decide (a < 3758096384) by simp [h1])
    rw [Hr.out]
    have hb : decide (0 < a) = true := by simpa using h1
    go_enter Tryd.func67, Tryd.ntmps67
    go_wp2_with fail
    go_ret
    exact ⟨by simp, rfl⟩
  · have Hr := Lib.hid (show (decide (0 < a) && decide (a < 3758096384)) = false by simp [h1])
    rw [Hr.out]
    have hb : decide (0 < a) = false := by simpa using h1
    go_enter Tryd.func67, Tryd.ntmps67
    go_wp2_with fail
    go_ret
    exact ⟨rfl, rfl⟩

/-- What is right for a datagram: what is named, and whether it is right. -/
def Facts.udpPart (f : Facts) : Facts := { Facts.zero with key := f.key, kind := f.kind, length := f.length }
def Facts.rightUDP (f : Facts) : Bool := f.key.ported && betweenB f.length 0 65507

theorem saneI_any (f : Int) (w : World) (h0 : 0 ≤ f) (h1 : f < 256) : Calls Tryd.prog 125 #[.int .u8 f] w fun e w' => e = .returned (.bool (saneB f.toNat)) ∧ w = w' := by
  obtain ⟨n, rfl⟩ : ∃ n : Nat, f = n := ⟨f.toNat, by omega⟩
  rw [Int.toNat_natCast]
  exact sane_any n w (by omega)
/-- What is right for a segment. -/
def Facts.tcpPart (f : Facts) : Facts := { Facts.zero with key := f.key, kind := f.kind, flags := f.flags, seqn := f.seqn, ackn := f.ackn, window := f.window, length := f.length }
def Facts.rightTCP (f : Facts) : Bool := f.key.ported && decide (f.flags < 64) && saneB f.flags.toNat && betweenB f.window 0 65535 && betweenB f.length 0 65495

theorem kindI_any (t c : Int) (w : World) (h0 : 0 ≤ t) (h1 : t < 256) (g0 : 0 ≤ c) (hs : SortsAt w) : Calls Tryd.prog 68 #[.int .u8 t, .int .u8 c] w fun e w' => e = .returned (.tuple #[.int .u8 (kind1 t.toNat c.toNat), .int .i64 (kind2 t.toNat c.toNat)]) ∧ w = w' := by
  obtain ⟨n, rfl⟩ : ∃ n : Nat, t = n := ⟨t.toNat, by omega⟩
  obtain ⟨m, rfl⟩ : ∃ n : Nat, c = n := ⟨c.toNat, by omega⟩
  rw [Int.toNat_natCast, Int.toNat_natCast]
  exact kind_any n m w (by omega) hs
/-- What is right for a query or an answer to one. -/
def Facts.queryPart (f : Facts) : Facts := { Facts.zero with key := f.key, kind := f.kind, type := f.type, code := f.code, length := f.length }
def Facts.rightQuery (f : Facts) : Bool := (kind2 f.type.toNat f.code.toNat == 0) && (kind1 f.type.toNat f.code.toNat == f.kind) && (f.key.sp == f.key.dp) && betweenB f.length 0 65507

end Go.Proofs.YtebeekjcepjcnaaDoor
