/-
  The facts of a packet, as data; what package build asks of them.
  Package ip of the program: put, Header.right, Write.
  ip.Write, at a header that is right.
-/
import Derived.BigRegion
import Derived.ChangeAlike
import Derived.Deep.RegionLaw
import Derived.Deep.DeepCutAuto
import Derived.Test.YtebeekjcepjcnaaGreatDoorRFix
namespace Go.Proofs.YtebeekjcepjcnaaGreatDoor
open Go.RowKit

structure Key where
  proto : Int
  src : Int
  dst : Int
  sp : Int
  dp : Int
structure Facts where
  key : Key
  kind : Int
  flags : Int
  type : Int
  code : Int
  seqn : Int
  ackn : Int
  window : Int
  length : Int
  quoted : Key
  qkind : Int
def Key.cells (k : Key) : List Value := [.int .u8 k.proto, .int .u32 k.src, .int .u32 k.dst, .int .u16 k.sp, .int .u16 k.dp]
def Key.val (k : Key) : Value := .agg k.cells.toArray
def Facts.cells (f : Facts) : List Value :=
  f.key.cells ++ [.int .u8 f.kind, .int .u8 f.flags, .int .u8 f.type, .int .u8 f.code, .int .u32 f.seqn, .int .u32 f.ackn, .int .i64 f.window, .int .i64 f.length] ++ f.quoted.cells ++ [.int .u8 f.qkind]
def Facts.val (f : Facts) : Value := .agg f.cells.toArray
structure Key.Ok (k : Key) : Prop where
  proto0 : 0 ≤ k.proto
  proto1 : k.proto < 256
  src0 : 0 ≤ k.src
  src1 : k.src < 4294967296
  dst0 : 0 ≤ k.dst
  dst1 : k.dst < 4294967296
  sp0 : 0 ≤ k.sp
  sp1 : k.sp < 65536
  dp0 : 0 ≤ k.dp
  dp1 : k.dp < 65536
structure Facts.Ok (f : Facts) : Prop where
  key : f.key.Ok
  kind0 : 0 ≤ f.kind
  kind1 : f.kind < 256
  flags0 : 0 ≤ f.flags
  flags1 : f.flags < 256
  type0 : 0 ≤ f.type
  type1 : f.type < 256
  code0 : 0 ≤ f.code
  code1 : f.code < 256
  seqn0 : 0 ≤ f.seqn
  seqn1 : f.seqn < 4294967296
  ackn0 : 0 ≤ f.ackn
  ackn1 : f.ackn < 4294967296
  window0 : -9223372036854775808 ≤ f.window
  window1 : f.window ≤ 9223372036854775807
  length0 : -9223372036854775808 ≤ f.length
  length1 : f.length ≤ 9223372036854775807
  quoted : f.quoted.Ok
  qkind0 : 0 ≤ f.qkind
  qkind1 : f.qkind < 256
def Key.zero : Key := ⟨0, 0, 0, 0, 0⟩
def Facts.zero : Facts := ⟨Key.zero, 0, 0, 0, 0, 0, 0, 0, 0, Key.zero, 0⟩

def Key.ported (k : Key) : Bool := decide (0 < k.sp) && decide (0 < k.dp)
def betweenB (n lo hi : Int) : Bool := decide (lo ≤ n) && decide (n ≤ hi)

set_option maxHeartbeats 400000 in
theorem between_any (n lo hi : Int) (w : World) : Calls Tryz.prog 81 #[.int .i64 n, .int .i64 lo, .int .i64 hi] w fun e w' => e = .returned (.bool (betweenB n lo hi)) ∧ w = w' := by
  unfold betweenB
  by_cases h1 : lo ≤ n
  · have Hr := Lib.hid (show (decide (lo ≤ n) && decide (n ≤ hi)) = decide (n ≤ hi) by simp [h1])
    rw [Hr.out]
    have hb : decide (lo ≤ n) = true := by simpa using h1
    go_enter Tryz.func81, Tryz.ntmps81
    go_wp2_with fail
    go_ret
    exact ⟨by simp, rfl⟩
  · have Hr := Lib.hid (show (decide (lo ≤ n) && decide (n ≤ hi)) = false by simp [h1])
    rw [Hr.out]
    have hb : decide (lo ≤ n) = false := by simpa using h1
    go_enter Tryz.func81, Tryz.ntmps81
    go_wp2_with fail
    go_ret
    exact ⟨rfl, rfl⟩

set_option maxHeartbeats 400000 in
theorem ported_any (k : Key) (w : World) : Calls Tryz.prog 80 #[k.val] w fun e w' => e = .returned (.bool k.ported) ∧ Below w.heap.size w w' := by
  obtain ⟨proto, src, dst, sp, dp⟩ := k
  unfold Key.ported
  dsimp only [Key.val, Key.cells]
  by_cases h1 : 0 < sp
  · have Hr := Lib.hid (show (decide (0 < sp) && decide (0 < dp)) = decide (0 < dp) by simp [h1])
    rw [Hr.out]
    have hb : decide (0 < sp) = true := by simpa using h1
    go_enter Tryz.func80, Tryz.ntmps80
    go_wp2_with fail
    go_ret
    exact ⟨by simp, (Below.refl _ _).alloc (Nat.le_refl _) _⟩
  · have Hr := Lib.hid (show (decide (0 < sp) && decide (0 < dp)) = false by simp [h1])
    rw [Hr.out]
    have hb : decide (0 < sp) = false := by simpa using h1
    go_enter Tryz.func80, Tryz.ntmps80
    go_wp2_with fail
    go_ret
    exact ⟨rfl, (Below.refl _ _).alloc (Nat.le_refl _) _⟩

def usualB (a : Int) : Bool := decide (0 < a) && decide (a < 3758096384)
set_option maxHeartbeats 400000 in
theorem usual_any (a : Int) (w : World) : Calls Tryz.prog 29 #[.int .u32 a] w fun e w' => e = .returned (.bool (usualB a)) ∧ w = w' := by
  unfold usualB
  by_cases h1 : 0 < a
  · have Hr := Lib.hid (show (decide (0 < a) && decide (a < 3758096384)) = decide (a < 3758096384) by simp [h1])
    rw [Hr.out]
    have hb : decide (0 < a) = true := by simpa using h1
    go_enter Tryz.func29, Tryz.ntmps29
    go_wp2_with fail
    go_ret
    exact ⟨by simp, rfl⟩
  · have Hr := Lib.hid (show (decide (0 < a) && decide (a < 3758096384)) = false by simp [h1])
    rw [Hr.out]
    have hb : decide (0 < a) = false := by simpa using h1
    go_enter Tryz.func29, Tryz.ntmps29
    go_wp2_with fail
    go_ret
    exact ⟨rfl, rfl⟩

/-- What is right for a datagram: what is named, and whether it is right. -/
def Facts.udpPart (f : Facts) : Facts := { Facts.zero with key := f.key, kind := f.kind, length := f.length }
def Facts.rightUDP (f : Facts) : Bool := f.key.ported && betweenB f.length 0 65507

theorem saneI_any (f : Int) (w : World) (h0 : 0 ≤ f) (h1 : f < 256) : Calls Tryz.prog 74 #[.int .u8 f] w fun e w' => e = .returned (.bool (saneB f.toNat)) ∧ w = w' := by
  obtain ⟨n, rfl⟩ : ∃ n : Nat, f = n := ⟨f.toNat, by omega⟩
  rw [Int.toNat_natCast]
  exact sane_any n w (by omega)
/-- What is right for a segment. -/
def Facts.tcpPart (f : Facts) : Facts := { Facts.zero with key := f.key, kind := f.kind, flags := f.flags, seqn := f.seqn, ackn := f.ackn, window := f.window, length := f.length }
def Facts.rightTCP (f : Facts) : Bool := f.key.ported && decide (f.flags < 64) && saneB f.flags.toNat && betweenB f.window 0 65535 && betweenB f.length 0 65495

theorem kindI_any (t c : Int) (w : World) (h0 : 0 ≤ t) (h1 : t < 256) (g0 : 0 ≤ c) (hs : SortsAt w) : Calls Tryz.prog 20 #[.int .u8 t, .int .u8 c] w fun e w' => e = .returned (.tuple #[.int .u8 (kind1 t.toNat c.toNat), .int .i64 (kind2 t.toNat c.toNat)]) ∧ w = w' := by
  obtain ⟨n, rfl⟩ : ∃ n : Nat, t = n := ⟨t.toNat, by omega⟩
  obtain ⟨m, rfl⟩ : ∃ n : Nat, c = n := ⟨c.toNat, by omega⟩
  rw [Int.toNat_natCast, Int.toNat_natCast]
  exact kind_any n m w (by omega) hs
/-- What is right for a query or an answer to one. -/
def Facts.queryPart (f : Facts) : Facts := { Facts.zero with key := f.key, kind := f.kind, type := f.type, code := f.code, length := f.length }
def Facts.rightQuery (f : Facts) : Bool := (kind2 f.type.toNat f.code.toNat == 0) && (kind1 f.type.toNat f.code.toNat == f.kind) && (f.key.sp == f.key.dp) && betweenB f.length 0 65507

end Go.Proofs.YtebeekjcepjcnaaGreatDoor
namespace Go.Proofs.YtebeekjcepjcnaaGreatDoor
open Go.RowKit Go.Shelf

/-- A number of some bytes, put into a row: from the last byte back. -/
def putL (xs : List Int) (at_ : Nat) : Nat → Int → List Int
  | 0, _ => xs
  | k + 1, n => putL (xs.set (at_ + k) (n % 256)) at_ k (n / 256)
theorem putL_len (at_ : Nat) : ∀ (k : Nat) (xs : List Int) (n : Int), (putL xs at_ k n).length = xs.length := by
  intro k
  induction k with
  | zero => intro xs n; rfl
  | succ k ih => intro xs n; rw [putL, ih, List.length_set]
theorem putL_byt (at_ : Nat) : ∀ (k : Nat) (xs : List Int) (n : Int), Byt xs → Byt (putL xs at_ k n) := by
  intro k
  induction k with
  | zero => intro xs n h; exact h
  | succ k ih => intro xs n h; exact ih _ _ (h.set _ (by omega) (by omega))

set_option maxHeartbeats 1000000 in
theorem put_any (g n cap : Nat) (base : Nat) (xs : List Int) (at_ size : Nat) (m : Int) (w : World) (hown : Own w base (.slice (some ⟨g, 0, none⟩) n cap) xs) (hl : n ≤ 1000000) (hat : at_ + size ≤ n) (h0 : 0 ≤ m) (h1 : m < 4294967296) :
    Calls Tryz.prog 67 #[.slice (some ⟨g, 0, none⟩) n cap, .int .i64 at_, .int .i64 size, .int .u32 m] w fun e w' => e = .returned (.tuple #[]) ∧ Own w' base (.slice (some ⟨g, 0, none⟩) n cap) (putL xs at_ size m) ∧ w.grownBy w' (some g) ∧ Below g w w' := by
  have hn := hown.len
  have Hn := Lib.hid hn
  have Ho := Lib.hid hown
  clear hn hown
  go_enter Tryz.func67, Tryz.ntmps67
  go_wp2_with fail
  go_loopw [3, 8] (fun v i wr => ∃ (k : Nat) (ys : List Int) (q : Int), k ≤ size ∧ i = .int .i64 ((k : Int) - 1) ∧ v = .int .u32 q ∧ 0 ≤ q ∧ q < 4294967296 ∧ Own wr base (.slice (some ⟨g, 0, none⟩) n cap) ys ∧ Hid (putL ys at_ k q = putL xs at_ size m) ∧ w.grownBy wr (some g) ∧ Below g w wr)
    (fun _ i _ => (intOf i + 1).toNat)
  case atStart => exact ⟨size, xs, m, Nat.le_refl _, rfl, rfl, h0, h1, Ho.out, Lib.hid rfl, World.grownBy.refl _ _, Below.refl _ _⟩
  case round =>
    obtain ⟨k, ys, q, hk, rfl, rfl, hq0, hq1, hown, hput, hg, hbw⟩ := hrel
    by_cases hlt : 0 < k
    · obtain ⟨k, rfl⟩ : ∃ j, k = j + 1 := ⟨k - 1, by omega⟩
      have hlen := hown.len
      have hc : wr.cell? ⟨g, at_ + k, none⟩ = some (.int .u8 (ys.getD (at_ + k) 0)) := hown.cell (at_ + k) (by omega)
      have hf : wr.frozen? ⟨g, at_ + k, none⟩ = false := hown.free _
      have Hown := Lib.hid (hown.set (at_ + k) (q % 256))
      have hwr := IntKind.wrap_u8 q
      generalize ys.getD (at_ + k) 0 = x at *
      clear hlen hown hlt
      have hk1 : ((k + 1 : Nat) : Int) - 1 = (k : Int) := by omega
      rw [hk1]
      clear hk1
      go_wp2_with fail
      refine ⟨⟨k, ys.set (at_ + k) (q % 256), q / 256, by omega, rfl, rfl, by omega, by omega, Hown.out, Lib.hid hput.out, only_setCell hg (.inl rfl) _, hbw.setCell (p := ⟨g, at_ + k, none⟩) (Nat.le_refl _) _⟩, by simp [intOf]⟩
    · obtain rfl : k = 0 := by omega
      go_wp2_with fail
      go_end0
      exact ⟨rfl, by have := hput.out; rw [← this]; exact hown, hg, hbw⟩

/-- A header of a packet. -/
structure IpH where
  tos : Int
  id : Int
  df : Bool
  mf : Bool
  off : Int
  ttl : Int
  proto : Int
  src : Int
  dst : Int
  opts : List Int
def IpH.val (h : IpH) (A : Option Addr) (cap : Nat) : Value :=
  .agg #[.int .u8 h.tos, .int .u16 h.id, .bool h.df, .bool h.mf, .int .i64 h.off, .int .u8 h.ttl, .int .u8 h.proto, .int .u32 h.src, .int .u32 h.dst, .slice A h.opts.length cap]
structure IpH.Ok (h : IpH) : Prop where
  tos0 : 0 ≤ h.tos
  tos1 : h.tos < 256
  id0 : 0 ≤ h.id
  id1 : h.id < 65536
  ttl0 : 0 ≤ h.ttl
  ttl1 : h.ttl < 256
  proto0 : 0 ≤ h.proto
  proto1 : h.proto < 256
  src0 : 0 ≤ h.src
  src1 : h.src < 4294967296
  dst0 : 0 ≤ h.dst
  dst1 : h.dst < 4294967296
  opts : Byt h.opts
/-- It is right for n bytes of data. -/
structure IpH.Right (h : IpH) (n : Nat) : Prop where
  off0 : 0 ≤ h.off
  off1 : h.off ≤ 65528
  off8 : h.off % 8 = 0
  len : h.opts.length ≤ 40
  len4 : h.opts.length % 4 = 0
  all : h.opts.length + n ≤ 65515
  offn : h.off + n ≤ 65515
  mf : h.mf = true → 0 < n ∧ n % 8 = 0

set_option maxHeartbeats 400000 in
theorem right_yes (h : IpH) (A : Option Addr) (cap n : Nat) (w : World) (hr : h.Right n) :
    Calls Tryz.prog 60 #[h.val A cap, .int .i64 n] w fun e w' => e = .returned (.bool true) ∧ Below w.heap.size w w' := by
  obtain ⟨tos, id, df, mf, off, ttl, proto, src, dst, opts⟩ := h
  obtain ⟨h1, h2, h3, h4, h5, h6, h7, h8⟩ := hr
  dsimp only [IpH.val] at *
  have b1 : ((off % 8) != 0) = false := by simpa using h3
  have b2 : decide (off < 0) = false := by simpa using h1
  have b3 : decide (65528 < off) = false := by simpa using h2
  have b4 : decide (40 < (opts.length : Int)) = false := by simp; omega
  have b5 : (((opts.length : Int) % 4) != 0) = false := by simp; omega
  have b6 : decide ((n : Int) < 0) = false := by simp
  have b7 : decide (65515 < (n : Int)) = false := by simp; omega
  have b8 : decide (65535 < 20 + (opts.length : Int) + n) = false := by simp; omega
  have b9 : decide (65515 < off + (n : Int)) = false := by simp; omega
  clear h3 h5
  cases mf
  · go_enter Tryz.func60, Tryz.ntmps60
    go_wp2_with fail
    go_ret
    exact ⟨rfl, (Below.refl _ _).alloc (Nat.le_refl _) _⟩
  · have h0n := (h8 rfl).1
    have b10 : decide (0 < (n : Int)) = true := by simp; exact (h8 rfl).1
    have b11 : (((n : Int) % 8) == 0) = true := by simp; have := (h8 rfl).2; omega
    clear h8
    go_enter Tryz.func60, Tryz.ntmps60
    go_wp2_with fail
    go_ret
    exact ⟨rfl, (Below.refl _ _).alloc (Nat.le_refl _) _⟩

end Go.Proofs.YtebeekjcepjcnaaGreatDoor
namespace Go.Proofs.YtebeekjcepjcnaaGreatDoor
open Go.RowKit Go.Shelf

def b01 (b : Bool) : Int := if b then 1 else 0
/-- The word with the flags and the offset. -/
def IpH.word (h : IpH) : Int := h.off / 8 + 16384 * b01 h.df + 8192 * b01 h.mf
def head0 (h : IpH) : List Int := ((((List.replicate (20 + h.opts.length) (0 : Int)).set 0 (64 + (20 + (h.opts.length : Int)) / 4)).set 1 h.tos).set 8 h.ttl).set 9 h.proto
def head1 (h : IpH) (n : Nat) : List Int :=
  putL (putL (putL (putL (putL (head0 h) 2 2 (20 + h.opts.length + n)) 4 2 h.id) 6 2 h.word) 12 4 h.src) 16 4 h.dst
def headL (h : IpH) (n : Nat) : List Int := fixL (splice (head1 h n) 20 h.opts) 10
def ipWriteL (h : IpH) (data : List Int) : List Int := headL h data.length ++ data

theorem splice_byt {xs ys : List Int} (hx : Byt xs) (hy : Byt ys) (k : Nat) : Byt (splice xs k ys) := (hx.take k).append (hy.append (hx.drop _))
theorem head0_len (h : IpH) : (head0 h).length = 20 + h.opts.length := by simp [head0]
theorem head0_byt {h : IpH} (ho : h.Ok) (hl : h.opts.length ≤ 40) : Byt (head0 h) := by
  unfold head0
  exact ((((Byt.zeros _).set _ (by omega) (by omega)).set _ ho.tos0 ho.tos1).set _ ho.ttl0 ho.ttl1).set _ ho.proto0 ho.proto1
theorem head1_len (h : IpH) (n : Nat) : (head1 h n).length = 20 + h.opts.length := by simp [head1, putL_len, head0_len]
theorem head1_byt {h : IpH} (ho : h.Ok) (hl : h.opts.length ≤ 40) (n : Nat) : Byt (head1 h n) := putL_byt _ _ _ _ (putL_byt _ _ _ _ (putL_byt _ _ _ _ (putL_byt _ _ _ _ (putL_byt _ _ _ _ (head0_byt ho hl)))))
theorem headS_len (h : IpH) (n : Nat) : (splice (head1 h n) 20 h.opts).length = 20 + h.opts.length := by
  rw [length_splice _ _ _ (by rw [head1_len]; omega), head1_len]
theorem headL_len (h : IpH) (n : Nat) : (headL h n).length = 20 + h.opts.length := by unfold headL; rw [fixL_len, headS_len]
theorem headL_byt {h : IpH} (ho : h.Ok) (hl : h.opts.length ≤ 40) (n : Nat) : Byt (headL h n) := fixL_byt (splice_byt (head1_byt ho hl n) ho.opts 20) 10
theorem ipWriteL_byt {h : IpH} (ho : h.Ok) (hl : h.opts.length ≤ 40) {d : List Int} (hd : Byt d) : Byt (ipWriteL h d) := (headL_byt ho hl _).append hd
theorem ipWriteL_len (h : IpH) (d : List Int) : (ipWriteL h d).length = 20 + h.opts.length + d.length := by simp [ipWriteL, headL_len]

set_option maxRecDepth 100000 in
set_option maxHeartbeats 2000000 in
theorem ipWrite_any (h : IpH) (A : Option Addr) (cap : Nat) (D : Option Addr) (dcap : Nat) (data : List Int) (w : World) (ho : h.Ok) (hR : h.Right data.length)
    (hrA : Rd w w.heap.size A .u8 h.opts) (hrD : Rd w w.heap.size D .u8 data) :
    Calls Tryz.prog 30 #[h.val A cap, .slice D data.length dcap] w fun e w' => ∃ v, e = .returned (.tuple #[v, .int .i64 0]) ∧ Own w' w.heap.size v (ipWriteL h data) ∧ Below w.heap.size w w' := by
  obtain ⟨S, hS⟩ : ∃ S, S = splice (head1 h data.length) 20 h.opts := ⟨_, rfl⟩
  have HSb : Byt S := by rw [hS]; exact splice_byt (head1_byt ho hR.len _) ho.opts 20
  have HSl := Lib.hid (show S.length = 20 + h.opts.length by rw [hS]; exact headS_len h _)
  have HSf := Lib.hid (show fixL S 10 ++ data = ipWriteL h data by rw [hS]; rfl)
  have Hfin0 : ∀ wv, wv = h.off / 8 + 16384 * b01 h.df + 8192 * b01 h.mf → Hid (splice (putL (putL (putL (putL (putL (((((List.replicate (20 + h.opts.length) (0 : Int)).set 0 (64 + (20 + (h.opts.length : Int)) / 4)).set 1 h.tos).set 8 h.ttl).set 9 h.proto) 2 2 (20 + h.opts.length + data.length)) 4 2 h.id) 6 2 wv) 12 4 h.src) 16 4 h.dst) 20 h.opts = S) := by
    rintro _ rfl; rw [hS]; rfl
  clear hS
  have Hfin := Lib.hid Hfin0
  clear Hfin0
  generalize ipWriteL h data = F at *
  have Hright := fun W => Lib.hid (right_yes h A cap data.length W hR)
  obtain ⟨tos, idn, df, mf, off, ttl, proto, src, dst, opts⟩ := h
  obtain ⟨h1, h2, h3, h4, h5, h6, h7, h8⟩ := hR
  obtain ⟨t0, t1, i0, i1, l0, l1, p0, p1, s0, s1, d0, d1, hbo⟩ := ho
  dsimp only [IpH.val] at *
  clear h3 h5 h8
  generalize hol : opts.length = ol at *
  generalize hdl : data.length = dl at *
  have Hol := Lib.hid hol
  have Hdl := Lib.hid hdl
  clear hol hdl
  go_enter Tryz.func30, Tryz.ntmps30
  go_wp2_with fail
  refine (Hright _).out.mono ?_
  rintro e w1 ⟨rfl, hbw1⟩
  have bx1 := (Blk.new w 37 #[.int .u8 tos, .int .u16 idn, .bool df, .bool mf, .int .i64 off, .int .u8 ttl, .int .u8 proto, .int .u32 src, .int .u32 dst, .slice A ol cap]).below hbw1 (by simp)
  have hcx := bx1.cell
  go_wp2_with (at_make; refine make_own rfl _ _ rfl w1.heap.size _ _ _ _ (20 + ol) (20 + ol + dl) rfl rfl (by simp) (by simp) (by omega) (by omega) (Nat.le_refl _) ?_; intro w2 hown2 hbw2 hlt2)
  clear hcx
  have bx2 := bx1.below hbw2 bx1.lt
  have hcx := bx2.cell
  have c0 : w2.cell? ⟨w1.heap.size, 0, none⟩ = some (.int .u8 ((List.replicate (20 + ol) 0).getD 0 0)) := hown2.cell 0 (by simp; omega)
  have c1 : w2.cell? ⟨w1.heap.size, 1, none⟩ = some (.int .u8 ((List.replicate (20 + ol) 0).getD 1 0)) := hown2.cell 1 (by simp; omega)
  have c8 : w2.cell? ⟨w1.heap.size, 8, none⟩ = some (.int .u8 ((List.replicate (20 + ol) 0).getD 8 0)) := hown2.cell 8 (by simp; omega)
  have c9 : w2.cell? ⟨w1.heap.size, 9, none⟩ = some (.int .u8 ((List.replicate (20 + ol) 0).getD 9 0)) := hown2.cell 9 (by simp; omega)
  have fz := hown2.free
  generalize (List.replicate (20 + ol) (0 : Int)).getD 0 0 = z0 at *
  generalize (List.replicate (20 + ol) (0 : Int)).getD 1 0 = z1 at *
  generalize (List.replicate (20 + ol) (0 : Int)).getD 8 0 = z8 at *
  generalize (List.replicate (20 + ol) (0 : Int)).getD 9 0 = z9 at *
  have Hown2 := Lib.hid hown2
  have hne1 : w.heap.size ≠ w1.heap.size := by have := bx1.lt; omega
  have hne2 : w1.heap.size ≠ w.heap.size := by have := bx1.lt; omega
  have hor := or_i64_64 ((20 + (ol : Int)) / 4) (by omega) (by omega)
  clear hown2
  go_region
  go_wp2_with fail
  have o3 := ((((Hown2.out.set 0 (64 + (20 + (ol : Int)) / 4)).set 1 tos).set 8 ttl).set 9 proto).drew
  have x3 := ((((bx2.far (p := ⟨w1.heap.size, 0, none⟩) hne1 (.int .u8 (64 + (20 + (ol : Int)) / 4))).far (p := ⟨w1.heap.size, 1, none⟩) hne1 (.int .u8 tos)).far (p := ⟨w1.heap.size, 8, none⟩) hne1 (.int .u8 ttl)).far (p := ⟨w1.heap.size, 9, none⟩) hne1 (.int .u8 proto)).drew
  have l3 := (((((Below.refl w1.heap.size w2).setCell (p := ⟨w1.heap.size, 0, none⟩) (Nat.le_refl _) (.int .u8 (64 + (20 + (ol : Int)) / 4))).setCell (p := ⟨w1.heap.size, 1, none⟩) (Nat.le_refl _) (.int .u8 tos)).setCell (p := ⟨w1.heap.size, 8, none⟩) (Nat.le_refl _) (.int .u8 ttl)).setCell (p := ⟨w1.heap.size, 9, none⟩) (Nat.le_refl _) (.int .u8 proto)).drew
  clear hcx c0 c1 c8 c9 fz Hown2 hor
  generalize World.drew _ = w3 at *
  refine (put_any _ _ _ _ _ 2 2 _ _ o3 (by omega) (by omega) (by omega) (by omega)).mono ?_
  rintro e w4 ⟨rfl, o4, g4, l4⟩
  have x4 := x3.grown g4 (by simpa using hne1)
  have hcx := x4.cell
  clear o3 x3 g4
  go_wp2_with fail
  refine (put_any _ _ _ _ _ 4 2 _ _ o4 (by omega) (by omega) (by omega) (by omega)).mono ?_
  rintro e w5 ⟨rfl, o5, g5, l5⟩
  clear hcx
  have x5 := x4.grown g5 (by simpa using hne1)
  have hcx := x5.cell
  clear o4 x4 g5
  have Hd1 := Lib.hid (or_u32_16384 (off / 8) (by omega) (by omega))
  have Hm1 := Lib.hid (or_u32_8192 (off / 8 + 16384 * b01 df) (by unfold b01; split <;> omega) (by unfold b01; split <;> omega) (by unfold b01; split <;> omega))
  go_upto_if 63 with (fail)
  go_cut [9] (fun s9 wx => s9 = .int .u32 (off / 8 + 16384 * b01 df) ∧ wx = w5)
  case first =>
    have hd1 := Hd1.out
    go_wp2_with fail
    all_goals (go_meet; exact ⟨by simp [b01, *], rfl⟩)
  obtain ⟨rfl, rfl⟩ := hcut
  go_upto_if 67 with (fail)
  go_cut [9] (fun s9 wx => s9 = .int .u32 (off / 8 + 16384 * b01 df + 8192 * b01 mf) ∧ wx = wc)
  case first =>
    have hm1 := Hm1.out
    go_wp2_with fail
    all_goals (go_meet; exact ⟨by simp [b01, *], rfl⟩)
  obtain ⟨rfl, rfl⟩ := hcut
  have hwv : 0 ≤ off / 8 + 16384 * b01 df + 8192 * b01 mf ∧ off / 8 + 16384 * b01 df + 8192 * b01 mf < 65536 := by unfold b01; split <;> split <;> omega
  have HF := Hfin.out _ rfl
  clear Hfin Hd1 Hm1
  generalize off / 8 + 16384 * b01 df + 8192 * b01 mf = wv at *

  go_wp2_with fail
  refine (put_any _ _ _ _ _ 6 2 _ _ o5 (by omega) (by omega) (by omega) (by omega)).mono ?_
  rintro e w6 ⟨rfl, o6, g6, l6⟩
  clear hcx
  have x6 := x5.grown g6 (by simpa using hne1)
  have hcx := x6.cell
  clear o5 x5 g6
  go_wp2_with fail
  refine (put_any _ _ _ _ _ 12 4 _ _ o6 (by omega) (by omega) (by omega) (by omega)).mono ?_
  rintro e w7 ⟨rfl, o7, g7, l7⟩
  clear hcx
  have x7 := x6.grown g7 (by simpa using hne1)
  have hcx := x7.cell
  clear o6 x6 g7
  go_wp2_with fail
  refine (put_any _ _ _ _ _ 16 4 _ _ o7 (by omega) (by omega) (by omega) (by omega)).mono ?_
  rintro e w8 ⟨rfl, o8, g8, l8⟩
  clear hcx
  have x8 := x7.grown g8 (by simpa using hne1)
  have hcx := x8.cell
  clear o7 x7 g8
  have hls := ((((l3.trans l4).trans l5).trans l6).trans l7).trans l8
  clear l3 l4 l5 l6 l7 l8
  have hrA8 : Rd w8 w.heap.size A .u8 opts := ((hrA.alloc (Nat.le_refl _) _).below hbw1 (by simp)).below (hbw2.trans hls) (by have := hbw1.size; simp at this; omega)
  have Hyl := Lib.hid (show opts.length = Nat.min ol ol by rw [Hol.out]; simp)
  have Hfit := Lib.hid (show 20 + opts.length ≤ 20 + ol by rw [Hol.out]; exact Nat.le_refl _)
  have Hol0 := Lib.hid (show ol = 0 → ¬ 0 < opts.length by rw [Hol.out]; omega)
  have hle : (20 : Int) ≤ 20 + (ol : Int) := by omega
  have Hhb := Lib.hid (hbw2.trans hls)
  go_upto_region 17 with (fail)
  go_cut [] (fun wx => Own wx w1.heap.size (.slice (some ⟨w1.heap.size, 0, none⟩) (20 + ol) (20 + ol + dl)) S ∧ Below w1.heap.size w1 wx)
  case first =>
    by_cases hcap : 20 + ol + dl = 20
    · obtain ⟨rfl, rfl⟩ : ol = 0 ∧ dl = 0 := by omega
      go_region_law (refine step_copy_own rfl (.tmp 82) (.tmp 84) rfl _ _ _ _ _ o8 20 _ _ _ _ _ _ rfl rfl opts Hyl.out (fun h => absurd h (Hol0.out rfl)) _ hrA8 Hfit.out ?_; intro w9 o9 g9 l9)
      rw [HF.out] at o9
      go_wp2_with fail
      go_meet
      exact ⟨o9, Hhb.out.drew.trans l9⟩
    · go_region_law (refine step_copy_own rfl (.tmp 82) (.tmp 84) rfl _ _ _ _ _ o8 20 _ _ _ _ _ _ rfl rfl opts Hyl.out (fun _ => rfl) _ hrA8 Hfit.out ?_; intro w9 o9 g9 l9)
      rw [HF.out] at o9
      go_wp2_with fail
      go_meet
      exact ⟨o9, Hhb.out.drew.trans l9⟩
  obtain ⟨o9, l9⟩ := hcut
  have b1 := ((Below.refl w.heap.size w).alloc (Nat.le_refl _) (.cells #[.int .u8 tos, .int .u16 idn, .bool df, .bool mf, .int .i64 off, .int .u8 ttl, .int .u8 proto, .int .u32 src, .int .u32 dst, .slice A ol cap] 37)).trans (hbw1.mono (by simp))
  have s1 : w.heap.size < w1.heap.size := bx1.lt
  have b9 := b1.trans (l9.mono (by omega))
  clear hcx hrA8 Hhb hls b1 x8 o8 HF hbw1 hbw2
  go_wp2_with fail
  have hfx := fix_any _ (20 + ol + dl) S 10 _ HSb (by rw [HSl.out]; omega) o9.rd (by omega) (by rw [HSl.out]; omega)
  rw [HSl.out] at hfx
  refine hfx.mono ?_
  rintro e w10 ⟨v, rfl, o10, l10⟩
  have hb9 := b9.size
  have hbig : Below w.heap.size w w10 := b9.trans (l10.mono hb9)
  have HlF := Lib.hid (show (fixL S 10).length + data.length ≤ 140737488355328 by rw [fixL_len, HSl.out, Hdl.out]; omega)
  have hrD10 : Rd w10 w.heap.size D .u8 data := hrD.below hbig (Nat.le_refl _)
  have hb10 := l10.size
  have Hdl' := Lib.hid Hdl.out.symm
  clear b9 l9 l10 o9 hfx
  go_wp2_with (at_builtin; refine app_own rfl (.tmp 91) (.tmp 92) rfl _ v (fixL S 10) rfl o10 _ D _ dcap data rfl Hdl'.out hrD10 HlF.out hb10 ?_; intro v2 w11 o11 l11 _ _)
  go_ret2
  exact ⟨_, rfl, by rw [← HSf.out]; exact o11.base_le hb9, hbig.trans (l11.mono hb9)⟩

end Go.Proofs.YtebeekjcepjcnaaGreatDoor
