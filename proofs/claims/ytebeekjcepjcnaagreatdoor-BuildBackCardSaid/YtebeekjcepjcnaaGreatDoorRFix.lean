/-
  csum.Fix, where the place is right.
  Small facts on bits at the numbers that the code uses.
  Package icmp of the program: Kind, Write, word, Read, Answer; tcp.Sane, tcp.Extent.
-/
import Derived.Test.YtebeekjcepjcnaaGreatDoorRSum
namespace Go.Proofs.YtebeekjcepjcnaaGreatDoor
open Go.RowKit Go.Shelf

def zeroAt (bs : List Int) (at_ : Nat) : List Int := (bs.set at_ 0).set (at_ + 1) 0
def putSum (bs : List Int) (at_ : Nat) (c : Int) : List Int := (bs.set at_ (c / 256)).set (at_ + 1) (c % 256)
def fixL (bs : List Int) (at_ : Nat) : List Int := putSum (zeroAt bs at_) at_ (ofB (zeroAt bs at_))
theorem zeroAt_len (bs : List Int) (k : Nat) : (zeroAt bs k).length = bs.length := by simp [zeroAt]
theorem putSum_len (bs : List Int) (k : Nat) (c : Int) : (putSum bs k c).length = bs.length := by simp [putSum]
theorem fixL_len (bs : List Int) (k : Nat) : (fixL bs k).length = bs.length := by simp [fixL, putSum_len, zeroAt_len]
theorem zeroAt_byt {bs : List Int} (h : Byt bs) (k : Nat) : Byt (zeroAt bs k) := (h.set k (by omega) (by omega)).set _ (by omega) (by omega)
theorem putSum_byt {bs : List Int} (h : Byt bs) (k : Nat) {c : Int} (h0 : 0 ≤ c) (h1 : c ≤ 65535) : Byt (putSum bs k c) := (h.set k (by omega) (by omega)).set _ (by omega) (by omega)
theorem fixL_byt {bs : List Int} (h : Byt bs) (k : Nat) : Byt (fixL bs k) := by
  have hb := ofB_bd (zeroAt_byt h k)
  exact putSum_byt (zeroAt_byt h k) k hb.1 hb.2

set_option maxHeartbeats 400000 in
theorem fix_any (A : Option Addr) (cap : Nat) (bs : List Int) (at_ : Nat) (w : World) (hb : Byt bs) (hl : bs.length ≤ 1000000) (hr : Rd w w.heap.size A .u8 bs) (hev : at_ % 2 = 0) (hat : at_ + 2 ≤ bs.length) :
    Calls Tryz.prog 68 #[.slice A bs.length cap, .int .i64 at_] w fun e w' => ∃ v, e = .returned (.tuple #[v, .int .i64 0]) ∧ Own w' w.heap.size v (fixL bs at_) ∧ Below w.heap.size w w' := by
  have h1 : decide ((at_ : Int) < 0) = false := by simp
  have h2 : (((at_ : Int) % 2) == 1) = false := by simp; omega
  have h3 : decide ((bs.length : Int) - 2 < (at_ : Int)) = false := by simp; omega
  go_enter Tryz.func68, Tryz.ntmps68
  go_wp2_with fail
  refine (clone_any _ _ _ _ hr hl).mono ?_
  rintro e w1 ⟨v, rfl, hown, hbw⟩
  obtain ⟨g, cap', rfl, hg0, hg1, _, _⟩ := hown.form (by omega)
  have c0 : w1.cell? ⟨g, at_, none⟩ = some (.int .u8 (bs.getD at_ 0)) := hown.cell at_ (by omega)
  have c1 : w1.cell? ⟨g, at_ + 1, none⟩ = some (.int .u8 (bs.getD (at_ + 1) 0)) := hown.cell (at_ + 1) (by omega)
  have f0 : w1.frozen? ⟨g, at_, none⟩ = false := hown.free at_
  have f1 : w1.frozen? ⟨g, at_ + 1, none⟩ = false := hown.free (at_ + 1)
  have hz := (hown.set at_ 0).set (at_ + 1) 0
  have Hz : Hid (Own _ _ _ (zeroAt bs at_)) := Lib.hid hz
  clear hz
  have hbz := zeroAt_byt hb at_
  have hob := ofB_bd hbz
  have Hlz := Lib.hid (zeroAt_len bs at_)
  generalize bs.getD at_ 0 = x0 at *
  generalize bs.getD (at_ + 1) 0 = x1 at *
  go_wp2_with fail
  have hof := of_any (some ⟨g, 0, none⟩) cap' (zeroAt bs at_) _ hbz (by rw [Hlz.out]; exact hl) Hz.out.rd
  rw [Hlz.out] at hof
  refine hof.mono ?_
  rintro e w2 ⟨rfl, hbw2⟩
  have hbz' : Below g w1 ((w1.setCell ⟨g, at_, none⟩ (.int .u8 0)).setCell ⟨g, at_ + 1, none⟩ (.int .u8 0)) := ((Below.refl _ _).setCell (p := ⟨g, at_, none⟩) (Nat.le_refl _) _).setCell (p := ⟨g, at_ + 1, none⟩) (Nat.le_refl _) _
  generalize ((w1.setCell ⟨g, at_, none⟩ (.int .u8 0)).setCell ⟨g, at_ + 1, none⟩ (.int .u8 0)) = wz at *
  have hoz := Hz.out.below hbw2 (Nat.le_refl _)
  have c2 : w2.cell? ⟨g, at_, none⟩ = some (.int .u8 ((zeroAt bs at_).getD at_ 0)) := hoz.cell at_ (by rw [Hlz.out]; omega)
  have c3 : w2.cell? ⟨g, at_ + 1, none⟩ = some (.int .u8 ((zeroAt bs at_).getD (at_ + 1) 0)) := hoz.cell (at_ + 1) (by rw [Hlz.out]; omega)
  have f2 : w2.frozen? ⟨g, at_, none⟩ = false := hoz.free at_
  have f3 : w2.frozen? ⟨g, at_ + 1, none⟩ = false := hoz.free (at_ + 1)
  generalize (zeroAt bs at_).getD at_ 0 = x2 at *
  generalize (zeroAt bs at_).getD (at_ + 1) 0 = x3 at *
  have hwr := IntKind.wrap_u8 (ofB (zeroAt bs at_))
  have Hfin := Lib.hid ((hoz.set at_ (ofB (zeroAt bs at_) / 256)).set (at_ + 1) (ofB (zeroAt bs at_) % 256))
  have Hbw := Lib.hid (show Below w.heap.size w w2 from (hbw.trans (hbz'.mono hg0)).trans (hbw2.mono (by have := hbz'.size; have := hbw.size; omega)))
  clear hbz' c0 c1 f0 f1 hbw hbw2 hoz Hz
  go_wp2_with fail
  go_ret2
  exact ⟨_, rfl, Hfin.out, (Hbw.out.setCell (p := ⟨g, at_, none⟩) hg0 _).setCell (p := ⟨g, at_ + 1, none⟩) hg0 _⟩

end Go.Proofs.YtebeekjcepjcnaaGreatDoor
namespace Go.Proofs.YtebeekjcepjcnaaGreatDoor
open Go.RowKit
theorem wraps_i64_8 (n : Int) (h0 : 0 ≤ n) (h1 : n < 2 ^ 62) : IntKind.i64.wrap n = n := by rw [IntKind.wrap_i64]; omega
theorem wraps_u32_32 (n : Int) (h0 : 0 ≤ n) (h1 : n < 2 ^ 32) : IntKind.u32.wrap n = n := by rw [IntKind.wrap_u32]; omega
theorem or_i64_64 (y : Int) (h0 : 0 ≤ y) (h1 : y < 64) : bits .or .i64 64 y = 64 + y :=
  bits_join .i64 62 (by decide) wraps_i64_8 6 64 y (by decide) (by decide) (by decide) h0 (by omega) (by omega)
theorem or_u32_16384 (x : Int) (h0 : 0 ≤ x) (h1 : x < 8192) : bits .or .u32 x 16384 = x + 16384 := by
  obtain ⟨a, rfl⟩ := Int.eq_ofNat_of_zero_le h0
  have h := bits_join .u32 32 (by decide) wraps_u32_32 14 16384 (a : Int) (by decide) (by decide) (by decide) h0 (by omega) (by omega)
  have e1 := (bits_nat .u32 32 (by decide) wraps_u32_32 a 16384 (by omega) (by omega)).2
  have e2 := (bits_nat .u32 32 (by decide) wraps_u32_32 16384 a (by omega) (by omega)).2
  rw [Nat.or_comm] at e2
  have e3 : bits .or .u32 (a : Int) 16384 = bits .or .u32 16384 (a : Int) := e1.trans e2.symm
  rw [e3, h]; omega
theorem or_u32_8192 (x : Int) (h0 : 0 ≤ x) (h1 : x % 16384 < 8192) (h2 : x < 32768) : bits .or .u32 x 8192 = x + 8192 := by
  obtain ⟨a, rfl⟩ := Int.eq_ofNat_of_zero_le h0
  have e1 := (bits_nat .u32 32 (by decide) wraps_u32_32 a 8192 (by omega) (by omega)).2
  by_cases hx : (a : Int) < 8192
  · have h := bits_join .u32 32 (by decide) wraps_u32_32 13 8192 (a : Int) (by decide) (by decide) (by decide) h0 (by omega) (by omega)
    have e2 := (bits_nat .u32 32 (by decide) wraps_u32_32 8192 a (by omega) (by omega)).2
    rw [Nat.or_comm] at e2
    have e3 : bits .or .u32 (a : Int) 8192 = bits .or .u32 8192 (a : Int) := e1.trans e2.symm
    rw [e3, h]; omega
  · obtain ⟨b, rfl⟩ : ∃ b, a = 16384 + b := ⟨a - 16384, by omega⟩
    have hb : b < 8192 := by omega
    have e3 : (16384 + b) ||| 8192 = 16384 + 8192 + b := by
      have r1 : 16384 + b = 16384 ||| b := by
        have := Nat.two_pow_add_eq_or_of_lt (i := 14) (b := b) (by omega) 1
        simpa using this
      have r2 : 8192 + b = 8192 ||| b := by
        have := Nat.two_pow_add_eq_or_of_lt (i := 13) (b := b) (by omega) 1
        simpa using this
      have r3 : 16384 + (8192 + b) = 16384 ||| (8192 + b) := by
        have := Nat.two_pow_add_eq_or_of_lt (i := 14) (b := 8192 + b) (by omega) 1
        simpa using this
      rw [r1, Nat.add_assoc, r3, r2, Nat.or_assoc, Nat.or_comm b 8192]
    have e1' : bits .or .u32 ((16384 + b : Nat) : Int) 8192 = ((16384 + b ||| 8192 : Nat) : Int) := e1
    rw [e1', e3]; omega
end Go.Proofs.YtebeekjcepjcnaaGreatDoor
namespace Go.Proofs.YtebeekjcepjcnaaGreatDoor
open Go.RowKit Go.Shelf

def kindN (k : Nat) : Int := [4, 0, 0, 5, 5, 5, 0, 0, 3, 0, 0, 5, 5, 3, 4, 0, 0, 3, 4].getD k 0
def codesN (k : Nat) : Int := [0, 0, 0, 15, 0, 3, 0, 0, 0, 0, 0, 1, 2, 0, 0, 0, 0, 0, 0].getD k 0
def replyN (k : Nat) : Int := [0, 0, 0, 0, 0, 0, 0, 0, 0, 0, 0, 0, 0, 14, 0, 0, 0, 18, 0].getD k 0
/-- What the table of types holds. -/
def SortsAt (w : World) : Prop := ∀ k, k < 19 → w.cell? ⟨0, k * 3, none⟩ = some (.int .u8 (kindN k)) ∧ w.cell? ⟨0, k * 3 + 1, none⟩ = some (.int .u8 (codesN k)) ∧ w.cell? ⟨0, k * 3 + 2, none⟩ = some (.int .u8 (replyN k))
theorem SortsAt.lt {w : World} (h : SortsAt w) : 0 < w.heap.size := World.lt_of_cell (h 0 (by omega)).1
theorem SortsAt.keep {w w' : World} (h : SortsAt w) (hk : ∀ p : Addr, p.block < w.heap.size → w'.cell? p = w.cell? p) : SortsAt w' := fun k hk' =>
  ⟨(hk _ h.lt).trans (h k hk').1, (hk _ h.lt).trans (h k hk').2.1, (hk _ h.lt).trans (h k hk').2.2⟩
theorem SortsAt.below {w w' : World} {C : Nat} (h : SortsAt w) (hb : Below C w w') (hC : w.heap.size ≤ C) : SortsAt w' := h.keep fun p hp => hb.cell (by omega)
theorem SortsAt.alloc {w : World} (h : SortsAt w) (o : Obj) : SortsAt (w.alloc o) := h.keep fun p hp => World.cell?_alloc_lt w o p hp
theorem SortsAt.drew {w : World} (h : SortsAt w) : SortsAt w.drew := h

def kind1 (t c : Nat) : Int := if kindN t = 0 then 0 else if codesN t < (c : Int) then 0 else kindN t
def kind2 (t c : Nat) : Int := if kindN t = 0 then 101 else if codesN t < (c : Int) then 102 else 0
theorem kindN_big {t : Nat} (h : 19 ≤ t) : kindN t = 0 := by
  unfold kindN; rw [List.getD_eq_getElem?_getD, List.getElem?_eq_none (by simpa using h)]; rfl
theorem kindN_bd (t : Nat) : 0 ≤ kindN t ∧ kindN t ≤ 5 := by
  by_cases h : t < 19
  · have : ∀ k : Fin 19, 0 ≤ kindN k ∧ kindN k ≤ 5 := by decide
    exact this ⟨t, h⟩
  · rw [kindN_big (by omega)]; omega

set_option maxHeartbeats 400000 in
theorem kind_any (t c : Nat) (w : World) (_ht : t < 256) (hs : SortsAt w) :
    Calls Tryz.prog 20 #[.int .u8 t, .int .u8 c] w fun e w' => e = .returned (.tuple #[.int .u8 (kind1 t c), .int .i64 (kind2 t c)]) ∧ w = w' := by
  by_cases h19 : t < 19
  · obtain ⟨c0, c1, _⟩ := hs t h19
    have h1 : decide ((19 : Int) ≤ (t : Int)) = false := by simp; omega
    by_cases hk : kindN t = 0
    · have Hr1 := Lib.hid (show kind1 t c = 0 by unfold kind1; rw [if_pos hk])
      have Hr2 := Lib.hid (show kind2 t c = 101 by unfold kind2; rw [if_pos hk])
      have hb : (kindN t == 0) = true := by simpa using hk
      rw [Hr1.out, Hr2.out]
      clear hk
      generalize kindN t = x at *
      go_enter Tryz.func20, Tryz.ntmps20
      go_wp2_with fail
      go_ret2
      exact ⟨rfl, rfl⟩
    · have hb : (kindN t == 0) = false := by simpa using hk
      by_cases hc : codesN t < (c : Int)
      · have Hr1 := Lib.hid (show kind1 t c = 0 by unfold kind1; rw [if_neg hk, if_pos hc])
        have Hr2 := Lib.hid (show kind2 t c = 102 by unfold kind2; rw [if_neg hk, if_pos hc])
        rw [Hr1.out, Hr2.out]
        clear hk
        generalize kindN t = x at *
        generalize codesN t = y at *
        go_enter Tryz.func20, Tryz.ntmps20
        go_wp2_with fail
        go_ret2
        exact ⟨rfl, rfl⟩
      · have Hr1 := Lib.hid (show kind1 t c = kindN t by unfold kind1; rw [if_neg hk, if_neg hc])
        have Hr2 := Lib.hid (show kind2 t c = 0 by unfold kind2; rw [if_neg hk, if_neg hc])
        rw [Hr1.out, Hr2.out]
        clear hk
        generalize kindN t = x at *
        generalize codesN t = y at *
        go_enter Tryz.func20, Tryz.ntmps20
        go_wp2_with fail
        go_ret2
        exact ⟨rfl, rfl⟩
  · have h1 : decide ((19 : Int) ≤ (t : Int)) = true := by simp; omega
    have hk := kindN_big (show 19 ≤ t by omega)
    have Hr1 := Lib.hid (show kind1 t c = 0 by unfold kind1; rw [if_pos hk])
    have Hr2 := Lib.hid (show kind2 t c = 101 by unfold kind2; rw [if_pos hk])
    rw [Hr1.out, Hr2.out]
    clear hk
    go_enter Tryz.func20, Tryz.ntmps20
    go_wp2_with fail
    go_ret2
    exact ⟨rfl, rfl⟩

/-- Flags that are sane. -/
def manyN (m : Nat) : Int := [0, 1, 1, 2, 1, 2, 2, 3].getD m 0
def saneB (f : Nat) : Bool := decide (manyN (f % 8) < 2) && ((f &&& 22) != 0)

theorem and_u8_7 (f : Nat) (h : f < 256) : bits .and .u8 (f : Int) 7 = ((f % 8 : Nat) : Int) := by
  have := u8_and_nat f 7 h (by omega)
  have e : f &&& 7 = f % 8 := Nat.and_two_pow_sub_one_eq_mod f 3
  rw [e] at this
  exact this
theorem and_u8_22 (f : Nat) (h : f < 256) : bits .and .u8 (f : Int) 22 = ((f &&& 22 : Nat) : Int) := u8_and_nat f 22 h (by omega)

set_option maxHeartbeats 1000000 in
theorem sane_any (f : Nat) (w : World) (hf : f < 256) : Calls Tryz.prog 74 #[.int .u8 f] w fun e w' => e = .returned (.bool (saneB f)) ∧ w = w' := by
  have hix : ∀ (m : Nat) (w : World), m < 8 → (Instr.index 178 (.agg #[.int .i64 0, .int .i64 1, .int .i64 1, .int .i64 2, .int .i64 1, .int .i64 2, .int .i64 2, .int .i64 3]) (.int .u8 m)).run Tryz.prog w = .ok (.int .i64 (manyN m)) w := by
    intro m w hm
    rcases (show m = 0 ∨ m = 1 ∨ m = 2 ∨ m = 3 ∨ m = 4 ∨ m = 5 ∨ m = 6 ∨ m = 7 by omega) with rfl | rfl | rfl | rfl | rfl | rfl | rfl | rfl <;> kernel_rfl
  have h7 := and_u8_7 f hf
  have hix' := fun w => hix (f % 8) w (by omega)
  have h22 := and_u8_22 f hf
  have hm2 : ((f : Int) % 8) = ((f % 8 : Nat) : Int) := by omega
  rw [← hm2] at h7
  rw [hm2] at h7
  clear hm2
  clear hix
  by_cases hz : (f &&& 22) = 0
  · have h22b : (((f &&& 22 : Nat) : Int) != 0) = false := by simp [hz]
    have Hr := Lib.hid (show saneB f = false by simp [saneB, hz])
    rw [Hr.out]
    clear hz
    generalize (f &&& 22) = q at *
    by_cases hm : manyN (f % 8) < (2 : Int)
    all_goals
      generalize manyN (f % 8) = y at *
      generalize f % 8 = m at *
      go_enter Tryz.func74, Tryz.ntmps74
      go_wp2_with fail
      go_ret
      exact ⟨rfl, rfl⟩
  · have h22b : (((f &&& 22 : Nat) : Int) != 0) = true := by simp; omega
    by_cases hm : manyN (f % 8) < (2 : Int)
    · have Hr := Lib.hid (show saneB f = true by simp [saneB, hz, hm])
      rw [Hr.out]
      clear hz
      generalize (f &&& 22) = q at *
      generalize manyN (f % 8) = y at *
      generalize f % 8 = m at *
      go_enter Tryz.func74, Tryz.ntmps74
      go_wp2_with fail
      go_ret
      exact ⟨rfl, rfl⟩
    · have Hr := Lib.hid (show saneB f = false by simp [saneB, hm])
      rw [Hr.out]
      clear hz
      generalize (f &&& 22) = q at *
      generalize manyN (f % 8) = y at *
      generalize f % 8 = m at *
      go_enter Tryz.func74, Tryz.ntmps74
      go_wp2_with fail
      go_ret
      exact ⟨rfl, rfl⟩

theorem and_u8_2 (f : Nat) (h : f < 256) : bits .and .u8 (f : Int) 2 = 2 * ((f / 2 % 2 : Nat) : Int) := by
  have := u8_and_nat f 2 h (by omega)
  have e : f &&& 2 = 2 * (f / 2 % 2) := by
    have : ∀ x : Fin 256, x.val &&& 2 = 2 * (x.val / 2 % 2) := by decide +kernel
    exact this ⟨f, h⟩
  rw [e] at this
  rw [show ((2 : Nat) : Int) = 2 from rfl] at this
  rw [this]; omega
theorem and_u8_1 (f : Nat) (h : f < 256) : bits .and .u8 (f : Int) 1 = ((f % 2 : Nat) : Int) := by
  have := u8_and_nat f 1 h (by omega)
  rw [Nat.and_one_is_mod] at this
  exact this

set_option maxHeartbeats 400000 in
theorem extent_any (f : Nat) (n : Int) (w : World) (hf : f < 256) (h0 : 0 ≤ n) (h1 : n ≤ 65535) :
    Calls Tryz.prog 34 #[.int .u8 f, .int .i64 n] w fun e w' => e = .returned (.int .i64 (n + ((f / 2 % 2 : Nat) : Int) + ((f % 2 : Nat) : Int))) ∧ w = w' := by
  have a2 := and_u8_2 f hf
  have a1 := and_u8_1 f hf
  have b2 : f / 2 % 2 ≤ 1 := by omega
  have b1 : f % 2 ≤ 1 := by omega
  generalize f / 2 % 2 = x at *
  generalize f % 2 = y at *
  have hd : (2 * (x : Int)) / 2 = x := by omega
  go_enter Tryz.func34, Tryz.ntmps34
  go_wp2_with fail
  go_ret
  exact ⟨rfl, rfl⟩

/-- What is written of a message. -/
def icmpHead (t c id seq : Int) : List Int := [t, c, 0, 0, id / 256, id % 256, seq / 256, seq % 256]
def icmpL (t c id seq : Int) (data : List Int) : List Int := fixL (icmpHead t c id seq ++ data) 2

set_option maxHeartbeats 1000000 in
theorem icmpWrite_any (t c : Nat) (ident seq : Int) (D : Option Addr) (dcap : Nat) (data : List Int) (w : World) (ht : t < 256) (hc : c < 256) (i0 : 0 ≤ ident) (i1 : ident < 65536) (s0 : 0 ≤ seq) (s1 : seq < 65536)
    (hs : SortsAt w) (hk : kind2 t c = 0) (hl : data.length ≤ 65507) (hd : Byt data) (hr : Rd w w.heap.size D .u8 data) :
    Calls Tryz.prog 31 #[.agg #[.int .u8 t, .int .u8 c, .int .u16 ident, .int .u16 seq], .slice D data.length dcap] w fun e w' => ∃ v, e = .returned (.tuple #[v, .int .i64 0]) ∧ Own w' w.heap.size v (icmpL t c ident seq data) ∧ Below w.heap.size w w' := by
  have Hk := Lib.hid hk
  have hwi := IntKind.wrap_u8 ident
  have hws := IntKind.wrap_u8 seq
  clear hk
  go_enter Tryz.func31, Tryz.ntmps31
  go_wp2_with fail
  have hkc := kind_any t c _ ht (hs.alloc (.cells #[.int .u8 t, .int .u8 c, .int .u16 ident, .int .u16 seq] 98))
  rw [Hk.out] at hkc
  refine hkc.mono ?_
  rintro e w1 ⟨rfl, rfl⟩
  go_wp2_with fail
  refine (concat_any _ 2 [(some ⟨w.heap.size + 1, 0, none⟩, 8, icmpHead t c ident seq), (D, dcap, data)] _ (by simp) (by simp [partsL, icmpHead]; omega) (by
    refine Parts.new3 (by simp) rfl fun p hp => ?_
    simp only [List.mem_cons, List.not_mem_nil, or_false] at hp
    rcases hp with rfl | rfl
    · exact Rd.new3 (by simp) rfl
    · exact (hr.allocs _).allocs _)).mono ?_
  rintro e w2 ⟨v, rfl, o2, l2⟩
  have HL := Lib.hid (show partsL [(some ⟨w.heap.size + 1, 0, none⟩, 8, icmpHead t c ident seq), (D, dcap, data)] = icmpHead t c ident seq ++ data by simp [partsL])
  rw [HL.out] at o2
  have hbig : Below w.heap.size w w2 := ((((Below.refl _ _).alloc (Nat.le_refl _) _).alloc (by simp) _).alloc (by simp; omega) _).trans (l2.mono (by simp; omega))
  clear l2
  have hby : Byt (icmpHead t c ident seq ++ data) := Byt.append (by
    unfold icmpHead
    exact .cons (by omega) (by omega) (.cons (by omega) (by omega) (.cons (by omega) (by omega) (.cons (by omega) (by omega) (.cons (by omega) (by omega) (.cons (by omega) (by omega) (.cons (by omega) (by omega) (.cons (by omega) (by omega) .nil)))))))) hd
  have hln : (icmpHead t c ident seq ++ data).length = 8 + data.length := by simp [icmpHead]; omega
  have HF := Lib.hid (show fixL (icmpHead t c ident seq ++ data) 2 = icmpL t c ident seq data from rfl)
  clear HL
  generalize icmpHead t c ident seq ++ data = L at *
  obtain ⟨A2, c2, rfl, r2, _, _⟩ := o2.open_
  have hfx := fix_any A2 c2 L 2 _ hby (by omega) r2 (by omega) (by omega)
  have hsz := hbig.size
  clear hln
  go_wp2_with fail
  refine hfx.mono ?_
  rintro e w3 ⟨v3, rfl, o3, l3⟩
  go_wp2_with fail
  go_ret2
  exact ⟨_, rfl, by rw [← HF.out]; exact o3.base_le hsz, hbig.trans (l3.mono hsz)⟩

end Go.Proofs.YtebeekjcepjcnaaGreatDoor
