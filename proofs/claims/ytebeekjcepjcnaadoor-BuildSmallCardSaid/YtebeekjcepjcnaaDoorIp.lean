/-
  Package ip of the program: put, Header.right, Write.
-/
import Derived.Test.YtebeekjcepjcnaaDoorFix
namespace Go.Proofs.YtebeekjcepjcnaaDoor
open Go.RowKit Go.Shelf

/-- A number of some bytes, put into a row: from the last byte back. -/
def putL (xs : List Int) (at_ : Nat) : Nat → Int → List Int
  | 0, _ => xs
  | k + 1, n => putL (xs.set (at_ + k) (n % 256)) at_ k (n / 256)
theorem putL_len (at_ : Nat) : ∀ (k : Nat) (xs : List Int) (n : Int), (putL xs at_ k n).length = xs.length := by
  intro k
  induction k with
  | zero => intro xs n; rfl
  | succ k ih => intro xs n; rw [putL, ih, List.length_set]
theorem putL_byt (at_ : Nat) : ∀ (k : Nat) (xs : List Int) (n : Int), Byt xs → Byt (putL xs at_ k n) := by
  intro k
  induction k with
  | zero => intro xs n h; exact h
  | succ k ih => intro xs n h; exact ih _ _ (h.set _ (by omega) (by omega))

set_option maxHeartbeats 1000000 in
theorem put_any (g n cap : Nat) (base : Nat) (xs : List Int) (at_ size : Nat) (m : Int) (w : World) (hown : Own w base (.slice (some ⟨g, 0, none⟩) n cap) xs) (hl : n ≤ 1000000) (hat : at_ + size ≤ n) (h0 : 0 ≤ m) (h1 : m < 4294967296) :
    Calls Tryd.prog 70 #[.slice (some ⟨g, 0, none⟩) n cap, .int .i64 at_, .int .i64 size, .int .u32 m] w fun e w' => e = .returned (.tuple #[]) ∧ Own w' base (.slice (some ⟨g, 0, none⟩) n cap) (putL xs at_ size m) ∧ w.grownBy w' (some g) ∧ Below g w w' := by
  have hn := hown.len
  have Hn := Lib.hid hn
  have Ho := Lib.hid hown
  clear hn hown
  go_enter Tryd.func70, Tryd.ntmps70
  go_wp2_with fail
  go_loopw [3, 8] (fun v i wr => ∃ (k : Nat) (ys : List Int) (q : Int), k ≤ size ∧ i = .int .i64 ((k : Int) - 1) ∧ v = .int .u32 q ∧ 0 ≤ q ∧ q < 4294967296 ∧ Own wr base (.slice (some ⟨g, 0, none⟩) n cap) ys ∧ Hid (putL ys at_ k q = putL xs at_ size m) ∧ w.grownBy wr (some g) ∧ Below g w wr)
    (fun _ i _ => (intOf i + 1).toNat)
  case atStart => exact ⟨size, xs, m, Nat.le_refl _, rfl, rfl, h0, h1, Ho.out, Lib.hid rfl, World.grownBy.refl _ _, Below.refl _ _⟩
  case round =>
    obtain ⟨k, ys, q, hk, rfl, rfl, hq0, hq1, hown, hput, hg, hbw⟩ := hrel
    by_cases hlt : 0 < k
    · obtain ⟨k, rfl⟩ : ∃ j, k = j + 1 := ⟨k - 1, by omega⟩
      have hlen := hown.len
      have hc : wr.cell? ⟨g, at_ + k, none⟩ = some (.int .u8 (ys.getD (at_ + k) 0)) := hown.cell (at_ + k) (by omega)
      have hf : wr.frozen? ⟨g, at_ + k, none⟩ = false := hown.free _
      have Hown := Lib.hid (hown.set (at_ + k) (q % 256))
      have hwr := IntKind.wrap_u8 q
      generalize ys.getD (at_ + k) 0 = x at *
      clear hlen hown hlt
      have hk1 : ((k + 1 : Nat) : Int) - 1 = (k : Int) := by omega
      rw [hk1]
      clear hk1
      go_wp2_with fail
      refine ⟨⟨k, ys.set (at_ + k) (q % 256), q / 256, by omega, rfl, rfl, by omega, by omega, Hown.out, Lib.hid hput.out, only_setCell hg (.inl rfl) _, hbw.setCell (p := ⟨g, at_ + k, none⟩) (Nat.le_refl _) _⟩, by simp [intOf]⟩
    · obtain rfl : k = 0 := by omega
      go_wp2_with fail
      go_end0
      exact ⟨rfl, by have := hput.out; rw [← this]; exact hown, hg, hbw⟩

/-- A header of a packet. -/
structure IpH where
  tos : Int
  id : Int
  df : Bool
  mf : Bool
  off : Int
  ttl : Int
  proto : Int
  src : Int
  dst : Int
  opts : List Int
def IpH.val (h : IpH) (A : Option Addr) (cap : Nat) : Value :=
  .agg #[.int .u8 h.tos, .int .u16 h.id, .bool h.df, .bool h.mf, .int .i64 h.off, .int .u8 h.ttl, .int .u8 h.proto, .int .u32 h.src, .int .u32 h.dst, .slice A h.opts.length cap]
structure IpH.Ok (h : IpH) : Prop where
  tos0 : 0 ≤ h.tos
  tos1 : h.tos < 256
  id0 : 0 ≤ h.id
  id1 : h.id < 65536
  ttl0 : 0 ≤ h.ttl
  ttl1 : h.ttl < 256
  proto0 : 0 ≤ h.proto
  proto1 : h.proto < 256
  src0 : 0 ≤ h.src
  src1 : h.src < 4294967296
  dst0 : 0 ≤ h.dst
  dst1 : h.dst < 4294967296
  opts : Byt h.opts
/-- It is right for n bytes of data. -/
structure IpH.Right (h : IpH) (n : Nat) : Prop where
  off0 : 0 ≤ h.off
  off1 : h.off ≤ 65528
  off8 : h.off % 8 = 0
  len : h.opts.length ≤ 40
  len4 : h.opts.length % 4 = 0
  all : h.opts.length + n ≤ 65515
  offn : h.off + n ≤ 65515
  mf : h.mf = true → 0 < n ∧ n % 8 = 0

set_option maxHeartbeats 400000 in
theorem right_yes (h : IpH) (A : Option Addr) (cap n : Nat) (w : World) (hr : h.Right n) :
    Calls Tryd.prog 69 #[h.val A cap, .int .i64 n] w fun e w' => e = .returned (.bool true) ∧ Below w.heap.size w w' := by
  obtain ⟨tos, id, df, mf, off, ttl, proto, src, dst, opts⟩ := h
  obtain ⟨h1, h2, h3, h4, h5, h6, h7, h8⟩ := hr
  dsimp only [IpH.val] at *
  have b1 : ((off % 8) != 0) = false := by simpa using h3
  have b2 : decide (off < 0) = false := by simpa using h1
  have b3 : decide (65528 < off) = false := by simpa using h2
  have b4 : decide (40 < (opts.length : Int)) = false := by simp; omega
  have b5 : (((opts.length : Int) % 4) != 0) = false := by simp; omega
  have b6 : decide ((n : Int) < 0) = false := by simp
  have b7 : decide (65515 < (n : Int)) = false := by simp; omega
  have b8 : decide (65535 < 20 + (opts.length : Int) + n) = false := by simp; omega
  have b9 : decide (65515 < off + (n : Int)) = false := by simp; omega
  clear h3 h5
  cases mf
  · go_enter Tryd.func69, Tryd.ntmps69
    go_wp2_with fail
    go_ret
    exact ⟨rfl, (Below.refl _ _).alloc (Nat.le_refl _) _⟩
  · have h0n := (h8 rfl).1
    have b10 : decide (0 < (n : Int)) = true := by simp; exact (h8 rfl).1
    have b11 : (((n : Int) % 8) == 0) = true := by simp; have := (h8 rfl).2; omega
    clear h8
    go_enter Tryd.func69, Tryd.ntmps69
    go_wp2_with fail
    go_ret
    exact ⟨rfl, (Below.refl _ _).alloc (Nat.le_refl _) _⟩

end Go.Proofs.YtebeekjcepjcnaaDoor
