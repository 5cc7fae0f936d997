/-
  Package build: Answer.
-/
import Derived.Test.YtebeekjcepjcnaaGreatDoorRBuilt
namespace Go.Proofs.YtebeekjcepjcnaaGreatDoor
open Go.RowKit

/-- A block into which a region stores in a chain. -/
def StN (w : World) (B : Nat) (L : List (Nat × TypeId × Array Value)) (R : Nat) (t : TypeId) (cs : Nat → Array Value) (c : Nat) (W : World) : Prop := St w B L W ∧ B ≤ R ∧ (∀ x ∈ L, x.1 ≠ R) ∧ Blk W R t (cs c)
theorem StN.drew {w W : World} {B : Nat} {L : List (Nat × TypeId × Array Value)} {R : Nat} {t : TypeId} {cs : Nat → Array Value} {c : Nat} (h : StN w B L R t cs c W) : StN w B L R t cs c W.drew := ⟨h.1.drew, h.2.1, h.2.2.1, h.2.2.2.drew⟩
theorem StN.set {w W : World} {B : Nat} {L : List (Nat × TypeId × Array Value)} {R : Nat} {t : TypeId} {cs : Nat → Array Value} {c : Nat} (h : StN w B L R t cs c W) (i : Nat) (u : Value) (hc : (cs c).setIfInBounds i u = cs (c + 1)) : StN w B L R t cs (c + 1) (W.setCell ⟨R, i, none⟩ u) :=
  ⟨h.1.setFar (p := ⟨R, i, none⟩) h.2.1 h.2.2.1 u, h.2.1, h.2.2.1, by rw [← hc]; exact h.2.2.2.set i u⟩

def Facts.rst (f : Facts) : Bool := f.flags.toNat / 4 % 2 == 1
def Facts.opens (f : Facts) : Bool := f.flags.toNat / 2 % 2 == 1 && f.flags.toNat / 16 % 2 == 0
def Facts.answerB (f : Facts) : Facts := { Facts.zero with key := ⟨f.key.proto, f.key.dst, f.key.src, f.key.dp, f.key.sp⟩, kind := f.kind, length := f.length }
def Facts.extent (f : Facts) : Int := f.length + ((f.flags.toNat / 2 % 2 : Nat) : Int) + ((f.flags.toNat % 2 : Nat) : Int)
def Facts.answerF (f : Facts) : Facts :=
  if f.right = false then Facts.zero else if f.kind = 2 then f.answerB else if f.kind = 3 then { f.answerB with kind := 4, type := replyN f.type.toNat, code := f.code }
  else if f.kind = 1 ∧ f.rst = false then { f.answerB with flags := if f.opens then 18 else 16, seqn := f.ackn, ackn := (f.seqn + f.extent) % 4294967296, window := f.window, length := 0 } else Facts.zero
def Facts.answerE (f : Facts) : Int := if f.right = false then 120 else if f.kind = 2 then 0 else if f.kind = 3 then 0 else if f.kind = 1 ∧ f.rst = false then 0 else 6

set_option maxRecDepth 100000 in
set_option maxHeartbeats 4000000 in
theorem answer_no (k0 k1 k2 k3 k4 kind flags type code seqn ackn window length q0 q1 q2 q3 q4 qkind : Int) (w : World) (hs : SortsAt w)
    (HR : ∀ W, SortsAt W → Calls Tryz.prog 10 #[.agg #[.int .u8 k0, .int .u32 k1, .int .u32 k2, .int .u16 k3, .int .u16 k4, .int .u8 kind, .int .u8 flags, .int .u8 type, .int .u8 code, .int .u32 seqn, .int .u32 ackn, .int .i64 window, .int .i64 length, .int .u8 q0, .int .u32 q1, .int .u32 q2, .int .u16 q3, .int .u16 q4, .int .u8 qkind]] W fun e w' => e = .returned (.bool false) ∧ Below W.heap.size W w') :
    Calls Tryz.prog 13 #[.agg #[.int .u8 k0, .int .u32 k1, .int .u32 k2, .int .u16 k3, .int .u16 k4, .int .u8 kind, .int .u8 flags, .int .u8 type, .int .u8 code, .int .u32 seqn, .int .u32 ackn, .int .i64 window, .int .i64 length, .int .u8 q0, .int .u32 q1, .int .u32 q2, .int .u16 q3, .int .u16 q4, .int .u8 qkind]] w fun e w' => e = .returned (.tuple #[.agg #[.int .u8 0, .int .u32 0, .int .u32 0, .int .u16 0, .int .u16 0, .int .u8 0, .int .u8 0, .int .u8 0, .int .u8 0, .int .u32 0, .int .u32 0, .int .i64 0, .int .i64 0, .int .u8 0, .int .u32 0, .int .u32 0, .int .u16 0, .int .u16 0, .int .u8 0], .int .i64 120]) ∧ Below w.heap.size w w' := by
  have Hs := Lib.hid hs
  have HR := Lib.hid HR
  clear hs
  go_enter Tryz.func13, Tryz.ntmps13
  go_upto_region 1 with (fail)
  refine wp_name2 ?_
  intro w1 hb1 hs1 b0 bR
  have Hs1 := Lib.hid (Hs.out.below hb1 (Nat.le_refl _))
  go_upto_region 2 with (first | ((with_reducible refine look_load ?_); refine wpList_load_row rfl _ _ rfl _ rfl _ _ _ _ b0 Tryz.underlying41 rfl (by kernel_rfl) ?_) | (go_at_call 10; refine (HR.out _ Hs1.out).mono ?_; rintro e w2 ⟨rfl, l2⟩) | fail)
  have bR' := bR.below l2 bR.lt
  have hb2 := hb1.trans (l2.mono hb1.size)
  clear b0 bR l2 hb1 Hs1
  go_wp2_with (first | ((with_reducible refine look_store ?_); refine wpList_store_row rfl _ _ _ rfl _ _ rfl rfl _ _ bR' (by kernel_rfl) (by simp) (by simp [Value.oneCell']) ?_) | fail)
  exact bodyPost_ret (results_cell_tmp Tryz.results13 _ _ _ _ _ _ _ rfl (setRow_heap _ _ _ _ _ _ bR') Tryz.underlying41 rfl (by kernel_rfl)) rfl ⟨rfl, below_setRow hb2 (by omega) _⟩

set_option maxRecDepth 100000 in
set_option maxHeartbeats 4000000 in
theorem answer_udp (k0 k1 k2 k3 k4 flags type code seqn ackn window length q0 q1 q2 q3 q4 qkind : Int) (w : World) (hs : SortsAt w)
    (HR : ∀ W, SortsAt W → Calls Tryz.prog 10 #[.agg #[.int .u8 k0, .int .u32 k1, .int .u32 k2, .int .u16 k3, .int .u16 k4, .int .u8 2, .int .u8 flags, .int .u8 type, .int .u8 code, .int .u32 seqn, .int .u32 ackn, .int .i64 window, .int .i64 length, .int .u8 q0, .int .u32 q1, .int .u32 q2, .int .u16 q3, .int .u16 q4, .int .u8 qkind]] W fun e w' => e = .returned (.bool true) ∧ Below W.heap.size W w') :
    Calls Tryz.prog 13 #[.agg #[.int .u8 k0, .int .u32 k1, .int .u32 k2, .int .u16 k3, .int .u16 k4, .int .u8 2, .int .u8 flags, .int .u8 type, .int .u8 code, .int .u32 seqn, .int .u32 ackn, .int .i64 window, .int .i64 length, .int .u8 q0, .int .u32 q1, .int .u32 q2, .int .u16 q3, .int .u16 q4, .int .u8 qkind]] w fun e w' => e = .returned (.tuple #[.agg #[.int .u8 k0, .int .u32 k2, .int .u32 k1, .int .u16 k4, .int .u16 k3, .int .u8 2, .int .u8 0, .int .u8 0, .int .u8 0, .int .u32 0, .int .u32 0, .int .i64 0, .int .i64 length, .int .u8 0, .int .u32 0, .int .u32 0, .int .u16 0, .int .u16 0, .int .u8 0], .int .i64 0]) ∧ Below w.heap.size w w' := by
  have Hs := Lib.hid hs
  have HR := Lib.hid HR
  clear hs
  go_enter Tryz.func13, Tryz.ntmps13
  go_upto_region 1 with (fail)
  refine wp_name2 ?_
  intro w1 hb1 hs1 b0 bR
  have Hs1 := Lib.hid (Hs.out.below hb1 (Nat.le_refl _))
  go_upto_region 3 with (first | ((with_reducible refine look_load ?_); refine wpList_load_row rfl _ _ rfl _ rfl _ _ _ _ b0 Tryz.underlying41 rfl (by kernel_rfl) ?_) | (go_at_call 10; refine (HR.out _ Hs1.out).mono ?_; rintro e w2 ⟨rfl, l2⟩) | fail)
  have bR' := bR.below l2 bR.lt
  have hb2 := hb1.trans (l2.mono hb1.size)
  have b0' := b0.below l2 b0.lt
  have Hs2 := Lib.hid (Hs1.out.below l2 (Nat.le_refl _))
  have hsz2 := l2.size
  clear b0 bR l2 hb1 Hs1
  have hc0 := b0'.cell
  go_upto_region 4 with (first | ((with_reducible refine look_store ?_); refine wpList_store_new rfl _ _ _ rfl _ _ rfl rfl _ _ rfl (by kernel_rfl) (by simp) (by simp [Value.oneCell']) ?_) | fail)
  clear hc0
  try dsimp only [Act.put]
  refine wp_name1 ?_
  intro wm hbm hsm bk
  have b0m := b0'.below hbm b0'.lt
  have bRm := bR'.below hbm bR'.lt
  have hc0 := b0m.cell
  have hck := bk.cell
  go_upto_region 6 with (first | ((with_reducible refine look_store ?_); refine wpList_store_new rfl _ _ _ rfl _ _ rfl rfl _ _ hsm.symm (by kernel_rfl) (by simp) (by simp [Value.oneCell']) ?_) | fail)
  clear hc0 hck
  try dsimp only [Act.put]
  refine wp_name1 ?_
  intro w3 hbx hsx bx
  rw [hsm] at bx
  have hb3 : Below w2.heap.size w2 w3 := hbm.trans (hbx.mono hbm.size)
  have b0 := b0'.below hb3 b0'.lt
  have bR := bR'.below hb3 bR'.lt
  have hb4 := hb2.trans (hb3.mono hb2.size)
  clear b0m bRm bk hbm hbx hsx
  have Hs3 := Lib.hid (Hs2.out.below hb3 (Nat.le_refl _))
  clear b0' bR' hb2 hb3 Hs2 hsm
  have hc0 := b0.cell
  go_wp2_with (first | ((with_reducible refine look_load ?_); refine wpList_load_row rfl _ _ rfl _ rfl _ _ _ _ bx Tryz.underlying41 rfl (by kernel_rfl) ?_) | ((with_reducible refine look_store ?_); refine wpList_store_row rfl _ _ _ rfl _ _ rfl rfl _ _ bR (by kernel_rfl) (by simp) (by simp [Value.oneCell']) ?_) | fail)
  exact bodyPost_ret (results_cell_tmp Tryz.results13 _ _ _ _ _ _ _ rfl (setRow_heap _ _ _ _ _ _ bR) Tryz.underlying41 rfl (by kernel_rfl)) rfl ⟨rfl, below_setRow hb4 (by omega) _⟩

set_option maxRecDepth 100000 in
set_option maxHeartbeats 4000000 in
theorem answer_none (k0 k1 k2 k3 k4 kind flags type code seqn ackn window length q0 q1 q2 q3 q4 qkind : Int) (w : World) (hs : SortsAt w) (h2 : (kind == 2) = false) (h3 : (kind == 3) = false) (h1 : (kind == 1) = false)
    (HR : ∀ W, SortsAt W → Calls Tryz.prog 10 #[.agg #[.int .u8 k0, .int .u32 k1, .int .u32 k2, .int .u16 k3, .int .u16 k4, .int .u8 kind, .int .u8 flags, .int .u8 type, .int .u8 code, .int .u32 seqn, .int .u32 ackn, .int .i64 window, .int .i64 length, .int .u8 q0, .int .u32 q1, .int .u32 q2, .int .u16 q3, .int .u16 q4, .int .u8 qkind]] W fun e w' => e = .returned (.bool true) ∧ Below W.heap.size W w') :
    Calls Tryz.prog 13 #[.agg #[.int .u8 k0, .int .u32 k1, .int .u32 k2, .int .u16 k3, .int .u16 k4, .int .u8 kind, .int .u8 flags, .int .u8 type, .int .u8 code, .int .u32 seqn, .int .u32 ackn, .int .i64 window, .int .i64 length, .int .u8 q0, .int .u32 q1, .int .u32 q2, .int .u16 q3, .int .u16 q4, .int .u8 qkind]] w fun e w' => e = .returned (.tuple #[.agg #[.int .u8 0, .int .u32 0, .int .u32 0, .int .u16 0, .int .u16 0, .int .u8 0, .int .u8 0, .int .u8 0, .int .u8 0, .int .u32 0, .int .u32 0, .int .i64 0, .int .i64 0, .int .u8 0, .int .u32 0, .int .u32 0, .int .u16 0, .int .u16 0, .int .u8 0], .int .i64 6]) ∧ Below w.heap.size w w' := by
  have Hs := Lib.hid hs
  have HR := Lib.hid HR
  clear hs
  go_enter Tryz.func13, Tryz.ntmps13
  go_upto_region 1 with (fail)
  refine wp_name2 ?_
  intro w1 hb1 hs1 b0 bR
  have Hs1 := Lib.hid (Hs.out.below hb1 (Nat.le_refl _))
  go_upto_region 3 with (first | ((with_reducible refine look_load ?_); refine wpList_load_row rfl _ _ rfl _ rfl _ _ _ _ b0 Tryz.underlying41 rfl (by kernel_rfl) ?_) | (go_at_call 10; refine (HR.out _ Hs1.out).mono ?_; rintro e w2 ⟨rfl, l2⟩) | fail)
  have bR' := bR.below l2 bR.lt
  have hb2 := hb1.trans (l2.mono hb1.size)
  have b0' := b0.below l2 b0.lt
  have Hs2 := Lib.hid (Hs1.out.below l2 (Nat.le_refl _))
  have hsz2 := l2.size
  clear b0 bR l2 hb1 Hs1
  have hc0 := b0'.cell
  go_upto_region 4 with (first | ((with_reducible refine look_store ?_); refine wpList_store_new rfl _ _ _ rfl _ _ rfl rfl _ _ rfl (by kernel_rfl) (by simp) (by simp [Value.oneCell']) ?_) | fail)
  clear hc0
  try dsimp only [Act.put]
  refine wp_name1 ?_
  intro wm hbm hsm bk
  have b0m := b0'.below hbm b0'.lt
  have bRm := bR'.below hbm bR'.lt
  have hc0 := b0m.cell
  have hck := bk.cell
  go_upto_region 6 with (first | ((with_reducible refine look_store ?_); refine wpList_store_new rfl _ _ _ rfl _ _ rfl rfl _ _ hsm.symm (by kernel_rfl) (by simp) (by simp [Value.oneCell']) ?_) | fail)
  clear hc0 hck
  try dsimp only [Act.put]
  refine wp_name1 ?_
  intro w3 hbx hsx bx
  rw [hsm] at bx
  have hb3 : Below w2.heap.size w2 w3 := hbm.trans (hbx.mono hbm.size)
  have b0 := b0'.below hb3 b0'.lt
  have bR := bR'.below hb3 bR'.lt
  have hb4 := hb2.trans (hb3.mono hb2.size)
  clear b0m bRm bk hbm hbx hsx
  have Hs3 := Lib.hid (Hs2.out.below hb3 (Nat.le_refl _))
  clear b0' bR' hb2 hb3 Hs2 hsm
  have hc0 := b0.cell
  go_wp2_with (first | ((with_reducible refine look_store ?_); refine wpList_store_row rfl _ _ _ rfl _ _ rfl rfl _ _ bR (by kernel_rfl) (by simp) (by simp [Value.oneCell']) ?_) | fail)
  exact bodyPost_ret (results_cell_tmp Tryz.results13 _ _ _ _ _ _ _ rfl (setRow_heap _ _ _ _ _ _ bR) Tryz.underlying41 rfl (by kernel_rfl)) rfl ⟨rfl, below_setRow hb4 (by omega) _⟩

set_option maxRecDepth 100000 in
set_option maxHeartbeats 4000000 in
theorem answer_rst (k0 k1 k2 k3 k4 flags type code seqn ackn window length q0 q1 q2 q3 q4 qkind : Int) (w : World) (hs : SortsAt w) (h4 : (bits .and .u8 flags 4 == 0) = false)
    (HR : ∀ W, SortsAt W → Calls Tryz.prog 10 #[.agg #[.int .u8 k0, .int .u32 k1, .int .u32 k2, .int .u16 k3, .int .u16 k4, .int .u8 1, .int .u8 flags, .int .u8 type, .int .u8 code, .int .u32 seqn, .int .u32 ackn, .int .i64 window, .int .i64 length, .int .u8 q0, .int .u32 q1, .int .u32 q2, .int .u16 q3, .int .u16 q4, .int .u8 qkind]] W fun e w' => e = .returned (.bool true) ∧ Below W.heap.size W w') :
    Calls Tryz.prog 13 #[.agg #[.int .u8 k0, .int .u32 k1, .int .u32 k2, .int .u16 k3, .int .u16 k4, .int .u8 1, .int .u8 flags, .int .u8 type, .int .u8 code, .int .u32 seqn, .int .u32 ackn, .int .i64 window, .int .i64 length, .int .u8 q0, .int .u32 q1, .int .u32 q2, .int .u16 q3, .int .u16 q4, .int .u8 qkind]] w fun e w' => e = .returned (.tuple #[.agg #[.int .u8 0, .int .u32 0, .int .u32 0, .int .u16 0, .int .u16 0, .int .u8 0, .int .u8 0, .int .u8 0, .int .u8 0, .int .u32 0, .int .u32 0, .int .i64 0, .int .i64 0, .int .u8 0, .int .u32 0, .int .u32 0, .int .u16 0, .int .u16 0, .int .u8 0], .int .i64 6]) ∧ Below w.heap.size w w' := by
  have Hs := Lib.hid hs
  have HR := Lib.hid HR
  clear hs
  go_enter Tryz.func13, Tryz.ntmps13
  go_upto_region 1 with (fail)
  refine wp_name2 ?_
  intro w1 hb1 hs1 b0 bR
  have Hs1 := Lib.hid (Hs.out.below hb1 (Nat.le_refl _))
  go_upto_region 3 with (first | ((with_reducible refine look_load ?_); refine wpList_load_row rfl _ _ rfl _ rfl _ _ _ _ b0 Tryz.underlying41 rfl (by kernel_rfl) ?_) | (go_at_call 10; refine (HR.out _ Hs1.out).mono ?_; rintro e w2 ⟨rfl, l2⟩) | fail)
  have bR' := bR.below l2 bR.lt
  have hb2 := hb1.trans (l2.mono hb1.size)
  have b0' := b0.below l2 b0.lt
  have Hs2 := Lib.hid (Hs1.out.below l2 (Nat.le_refl _))
  have hsz2 := l2.size
  clear b0 bR l2 hb1 Hs1
  have hc0 := b0'.cell
  go_upto_region 4 with (first | ((with_reducible refine look_store ?_); refine wpList_store_new rfl _ _ _ rfl _ _ rfl rfl _ _ rfl (by kernel_rfl) (by simp) (by simp [Value.oneCell']) ?_) | fail)
  clear hc0
  try dsimp only [Act.put]
  refine wp_name1 ?_
  intro wm hbm hsm bk
  have b0m := b0'.below hbm b0'.lt
  have bRm := bR'.below hbm bR'.lt
  have hc0 := b0m.cell
  have hck := bk.cell
  go_upto_region 6 with (first | ((with_reducible refine look_store ?_); refine wpList_store_new rfl _ _ _ rfl _ _ rfl rfl _ _ hsm.symm (by kernel_rfl) (by simp) (by simp [Value.oneCell']) ?_) | fail)
  clear hc0 hck
  try dsimp only [Act.put]
  refine wp_name1 ?_
  intro w3 hbx hsx bx
  rw [hsm] at bx
  have hb3 : Below w2.heap.size w2 w3 := hbm.trans (hbx.mono hbm.size)
  have b0 := b0'.below hb3 b0'.lt
  have bR := bR'.below hb3 bR'.lt
  have hb4 := hb2.trans (hb3.mono hb2.size)
  clear b0m bRm bk hbm hbx hsx
  have Hs3 := Lib.hid (Hs2.out.below hb3 (Nat.le_refl _))
  clear b0' bR' hb2 hb3 Hs2 hsm
  have hc0 := b0.cell
  go_wp2_with (first | ((with_reducible refine look_store ?_); refine wpList_store_row rfl _ _ _ rfl _ _ rfl rfl _ _ bR (by kernel_rfl) (by simp) (by simp [Value.oneCell']) ?_) | fail)
  exact bodyPost_ret (results_cell_tmp Tryz.results13 _ _ _ _ _ _ _ rfl (setRow_heap _ _ _ _ _ _ bR) Tryz.underlying41 rfl (by kernel_rfl)) rfl ⟨rfl, below_setRow hb4 (by omega) _⟩

set_option maxRecDepth 100000 in
set_option maxHeartbeats 4000000 in
theorem answer_tcp (k0 k1 k2 k3 k4 type code seqn ackn window length q0 q1 q2 q3 q4 qkind ak : Int) (fl : Nat) (op : Bool) (w : World) (hs : SortsAt w) (h4 : (bits .and .u8 fl 4 == 0) = true) (h18 : (bits .and .u8 fl 18 == 2) = op) (hfl : fl < 256) (hl0 : 0 ≤ length) (hl1 : length ≤ 65535) (hak : (seqn + (length + ((fl / 2 % 2 : Nat) : Int) + ((fl % 2 : Nat) : Int))) % 4294967296 = ak)
    (HR : ∀ W, SortsAt W → Calls Tryz.prog 10 #[.agg #[.int .u8 k0, .int .u32 k1, .int .u32 k2, .int .u16 k3, .int .u16 k4, .int .u8 1, .int .u8 fl, .int .u8 type, .int .u8 code, .int .u32 seqn, .int .u32 ackn, .int .i64 window, .int .i64 length, .int .u8 q0, .int .u32 q1, .int .u32 q2, .int .u16 q3, .int .u16 q4, .int .u8 qkind]] W fun e w' => e = .returned (.bool true) ∧ Below W.heap.size W w') :
    Calls Tryz.prog 13 #[.agg #[.int .u8 k0, .int .u32 k1, .int .u32 k2, .int .u16 k3, .int .u16 k4, .int .u8 1, .int .u8 fl, .int .u8 type, .int .u8 code, .int .u32 seqn, .int .u32 ackn, .int .i64 window, .int .i64 length, .int .u8 q0, .int .u32 q1, .int .u32 q2, .int .u16 q3, .int .u16 q4, .int .u8 qkind]] w fun e w' => e = .returned (.tuple #[.agg #[.int .u8 k0, .int .u32 k2, .int .u32 k1, .int .u16 k4, .int .u16 k3, .int .u8 1, .int .u8 (if op then 18 else 16), .int .u8 0, .int .u8 0, .int .u32 ackn, .int .u32 ak, .int .i64 window, .int .i64 0, .int .u8 0, .int .u32 0, .int .u32 0, .int .u16 0, .int .u16 0, .int .u8 0], .int .i64 0]) ∧ Below w.heap.size w w' := by
  have Hs := Lib.hid hs
  have HR := Lib.hid HR
  clear hs
  have HX := Lib.hid (fun W => extent_any fl length W hfl hl0 hl1)
  have hor : bits .or .u8 16 2 = 18 := by decide
  have hx0 : 0 ≤ length + ((fl / 2 % 2 : Nat) : Int) + ((fl % 2 : Nat) : Int) ∧ length + ((fl / 2 % 2 : Nat) : Int) + ((fl % 2 : Nat) : Int) < 4294967296 := by omega
  generalize length + ((fl / 2 % 2 : Nat) : Int) + ((fl % 2 : Nat) : Int) = ex at *
  have hcv : IntKind.u32.wrap ex = ex := by rw [IntKind.wrap_u32]; omega
  have hcw : IntKind.u32.wrap (seqn + ex) = ak := by rw [IntKind.wrap_u32]; exact hak
  clear hak hl0 hl1 hfl
  obtain ⟨x0, x1⟩ := hx0
  go_enter Tryz.func13, Tryz.ntmps13
  go_upto_region 1 with (fail)
  refine wp_name2 ?_
  intro w1 hb1 hs1 b0 bR
  have Hs1 := Lib.hid (Hs.out.below hb1 (Nat.le_refl _))
  go_upto_region 3 with (first | ((with_reducible refine look_load ?_); refine wpList_load_row rfl _ _ rfl _ rfl _ _ _ _ b0 Tryz.underlying41 rfl (by kernel_rfl) ?_) | (go_at_call 10; refine (HR.out _ Hs1.out).mono ?_; rintro e w2 ⟨rfl, l2⟩) | fail)
  have bR' := bR.below l2 bR.lt
  have hb2 := hb1.trans (l2.mono hb1.size)
  have b0' := b0.below l2 b0.lt
  have Hs2 := Lib.hid (Hs1.out.below l2 (Nat.le_refl _))
  have hsz2 := l2.size
  clear b0 bR l2 hb1 Hs1
  have hc0 := b0'.cell
  go_upto_region 4 with (first | ((with_reducible refine look_store ?_); refine wpList_store_new rfl _ _ _ rfl _ _ rfl rfl _ _ rfl (by kernel_rfl) (by simp) (by simp [Value.oneCell']) ?_) | fail)
  clear hc0
  try dsimp only [Act.put]
  refine wp_name1 ?_
  intro wm hbm hsm bk
  have b0m := b0'.below hbm b0'.lt
  have bRm := bR'.below hbm bR'.lt
  have hc0 := b0m.cell
  have hck := bk.cell
  go_upto_region 6 with (first | ((with_reducible refine look_store ?_); refine wpList_store_new rfl _ _ _ rfl _ _ rfl rfl _ _ hsm.symm (by kernel_rfl) (by simp) (by simp [Value.oneCell']) ?_) | fail)
  clear hc0 hck
  try dsimp only [Act.put]
  refine wp_name1 ?_
  intro w3 hbx hsx bx
  rw [hsm] at bx
  have hb3 : Below w2.heap.size w2 w3 := hbm.trans (hbx.mono hbm.size)
  have b0 := b0'.below hb3 b0'.lt
  have bR := bR'.below hb3 bR'.lt
  have hb4 := hb2.trans (hb3.mono hb2.size)
  clear b0m bRm bk hbm hbx hsx
  have Hs3 := Lib.hid (Hs2.out.below hb3 (Nat.le_refl _))
  clear b0' bR' hb2 hb3 Hs2 hsm
  have hc0 := b0.cell
  go_upto_region 13 with (fail)
  clear hc0
  have hSt : StN w w.heap.size _ (w2.heap.size + 1) 41 (fun c => if c = 0 then #[.int .u8 k0, .int .u32 k2, .int .u32 k1, .int .u16 k4, .int .u16 k3, .int .u8 1, .int .u8 0, .int .u8 0, .int .u8 0, .int .u32 0, .int .u32 0, .int .i64 0, .int .i64 length, .int .u8 0, .int .u32 0, .int .u32 0, .int .u16 0, .int .u16 0, .int .u8 0] else if c = 1 then #[.int .u8 k0, .int .u32 k2, .int .u32 k1, .int .u16 k4, .int .u16 k3, .int .u8 1, .int .u8 16, .int .u8 0, .int .u8 0, .int .u32 0, .int .u32 0, .int .i64 0, .int .i64 length, .int .u8 0, .int .u32 0, .int .u32 0, .int .u16 0, .int .u16 0, .int .u8 0] else if c = 2 then #[.int .u8 k0, .int .u32 k2, .int .u32 k1, .int .u16 k4, .int .u16 k3, .int .u8 1, .int .u8 16, .int .u8 0, .int .u8 0, .int .u32 ackn, .int .u32 0, .int .i64 0, .int .i64 length, .int .u8 0, .int .u32 0, .int .u32 0, .int .u16 0, .int .u16 0, .int .u8 0] else if c = 3 then #[.int .u8 k0, .int .u32 k2, .int .u32 k1, .int .u16 k4, .int .u16 k3, .int .u8 1, .int .u8 16, .int .u8 0, .int .u8 0, .int .u32 ackn, .int .u32 ak, .int .i64 0, .int .i64 length, .int .u8 0, .int .u32 0, .int .u32 0, .int .u16 0, .int .u16 0, .int .u8 0] else if c = 4 then #[.int .u8 k0, .int .u32 k2, .int .u32 k1, .int .u16 k4, .int .u16 k3, .int .u8 1, .int .u8 16, .int .u8 0, .int .u8 0, .int .u32 ackn, .int .u32 ak, .int .i64 window, .int .i64 length, .int .u8 0, .int .u32 0, .int .u32 0, .int .u16 0, .int .u16 0, .int .u8 0] else #[.int .u8 k0, .int .u32 k2, .int .u32 k1, .int .u16 k4, .int .u16 k3, .int .u8 1, .int .u8 16, .int .u8 0, .int .u8 0, .int .u32 ackn, .int .u32 ak, .int .i64 window, .int .i64 0, .int .u8 0, .int .u32 0, .int .u32 0, .int .u16 0, .int .u16 0, .int .u8 0]) 0 w3 := ⟨((St.nil hb4 hb4.size).cons bR).cons b0, by have := hb4.size; omega, by simp; omega, bx⟩
  clear b0 bR bx hb4
  refine wp_region_walk0 (by kernel_rfl) (StN w w.heap.size _ (w2.heap.size + 1) 41 (fun c => if c = 0 then #[.int .u8 k0, .int .u32 k2, .int .u32 k1, .int .u16 k4, .int .u16 k3, .int .u8 1, .int .u8 0, .int .u8 0, .int .u8 0, .int .u32 0, .int .u32 0, .int .i64 0, .int .i64 length, .int .u8 0, .int .u32 0, .int .u32 0, .int .u16 0, .int .u16 0, .int .u8 0] else if c = 1 then #[.int .u8 k0, .int .u32 k2, .int .u32 k1, .int .u16 k4, .int .u16 k3, .int .u8 1, .int .u8 16, .int .u8 0, .int .u8 0, .int .u32 0, .int .u32 0, .int .i64 0, .int .i64 length, .int .u8 0, .int .u32 0, .int .u32 0, .int .u16 0, .int .u16 0, .int .u8 0] else if c = 2 then #[.int .u8 k0, .int .u32 k2, .int .u32 k1, .int .u16 k4, .int .u16 k3, .int .u8 1, .int .u8 16, .int .u8 0, .int .u8 0, .int .u32 ackn, .int .u32 0, .int .i64 0, .int .i64 length, .int .u8 0, .int .u32 0, .int .u32 0, .int .u16 0, .int .u16 0, .int .u8 0] else if c = 3 then #[.int .u8 k0, .int .u32 k2, .int .u32 k1, .int .u16 k4, .int .u16 k3, .int .u8 1, .int .u8 16, .int .u8 0, .int .u8 0, .int .u32 ackn, .int .u32 ak, .int .i64 0, .int .i64 length, .int .u8 0, .int .u32 0, .int .u32 0, .int .u16 0, .int .u16 0, .int .u8 0] else if c = 4 then #[.int .u8 k0, .int .u32 k2, .int .u32 k1, .int .u16 k4, .int .u16 k3, .int .u8 1, .int .u8 16, .int .u8 0, .int .u8 0, .int .u32 ackn, .int .u32 ak, .int .i64 window, .int .i64 length, .int .u8 0, .int .u32 0, .int .u32 0, .int .u16 0, .int .u16 0, .int .u8 0] else #[.int .u8 k0, .int .u32 k2, .int .u32 k1, .int .u16 k4, .int .u16 k3, .int .u8 1, .int .u8 16, .int .u8 0, .int .u8 0, .int .u32 ackn, .int .u32 ak, .int .i64 window, .int .i64 0, .int .u8 0, .int .u32 0, .int .u32 0, .int .u16 0, .int .u16 0, .int .u8 0])) [14, 16, 18, 20, 22] GTop [0, 1, 2, 3, 4, 5, 6, 7, 8, 9, 10, 11, 12, 13, 15, 17, 19, 21, 14, 16, 18, 20, 22] (by kernel_rfl) hSt.drew ?_
  iterate 18
    apply Walk.one rfl rfl rfl
    case hrun =>
      intro c W hE hF
      have hc0 := (hE.1.get 0 rfl).cell
      go_wp2_with (first | (go_at_call 34; refine (HX.out _).mono ?_; rintro e wz ⟨rfl, rfl⟩) | fail)
      exact TextPost.mk ⟨GTop.mk, hE⟩
    case hv => rfl
  apply Walk.keep 0 rfl rfl rfl rfl
  case hrun =>
    intro W hE hF
    have hcx := hE.2.2.2.cell
    have hfx := hE.2.2.2.frozen
    go_wp2_with fail
    exact TextPost.mk ⟨GTop.mk, hE.set 6 (.int .u8 16) rfl⟩
  case hv => rfl
  apply Walk.keep 1 rfl rfl rfl rfl
  case hrun =>
    intro W hE hF
    have hcx := hE.2.2.2.cell
    have hfx := hE.2.2.2.frozen
    go_wp2_with fail
    exact TextPost.mk ⟨GTop.mk, hE.set 9 (.int .u32 ackn) rfl⟩
  case hv => rfl
  apply Walk.keep 2 rfl rfl rfl rfl
  case hrun =>
    intro W hE hF
    have hcx := hE.2.2.2.cell
    have hfx := hE.2.2.2.frozen
    go_wp2_with fail
    exact TextPost.mk ⟨GTop.mk, hE.set 10 (.int .u32 ak) rfl⟩
  case hv => rfl
  apply Walk.keep 3 rfl rfl rfl rfl
  case hrun =>
    intro W hE hF
    have hcx := hE.2.2.2.cell
    have hfx := hE.2.2.2.frozen
    go_wp2_with fail
    exact TextPost.mk ⟨GTop.mk, hE.set 11 (.int .i64 window) rfl⟩
  case hv => rfl
  apply Walk.keep 4 rfl rfl rfl rfl
  case hrun =>
    intro W hE hF
    have hcx := hE.2.2.2.cell
    have hfx := hE.2.2.2.frozen
    go_wp2_with fail
    exact TextPost.mk ⟨GTop.mk, hE.set 12 (.int .i64 0) rfl⟩
  case hv => rfl
  refine Walk.done (fun W hE hF => ?_)
  have b0 := hE.1.get 0 rfl
  have bR := hE.1.get 1 rfl
  have bx : Blk W (w2.heap.size + 1) 41 #[.int .u8 k0, .int .u32 k2, .int .u32 k1, .int .u16 k4, .int .u16 k3, .int .u8 1, .int .u8 16, .int .u8 0, .int .u8 0, .int .u32 ackn, .int .u32 ak, .int .i64 window, .int .i64 0, .int .u8 0, .int .u32 0, .int .u32 0, .int .u16 0, .int .u16 0, .int .u8 0] := hE.2.2.2
  have hb4 := hE.1.1
  clear hSt hE hF
  have hc0 := b0.cell
  cases op
  · go_wp2_with (first | ((with_reducible refine look_load ?_); refine wpList_load_row rfl _ _ rfl _ rfl _ _ _ _ bx Tryz.underlying41 rfl (by kernel_rfl) ?_) | ((with_reducible refine look_store ?_); refine wpList_store_row rfl _ _ _ rfl _ _ rfl rfl _ _ bR (by kernel_rfl) (by simp) (by simp [Value.oneCell']) ?_) | fail)
    exact bodyPost_ret (results_cell_tmp Tryz.results13 _ _ _ _ _ _ _ rfl (setRow_heap _ _ _ _ _ _ bR) Tryz.underlying41 rfl (by kernel_rfl)) rfl ⟨rfl, below_setRow hb4 (by omega) _⟩
  · have hcx := bx.cell
    have hfx := bx.frozen
    go_upto_region 16 with (fail)
    have bx2 : Blk _ _ _ #[.int .u8 k0, .int .u32 k2, .int .u32 k1, .int .u16 k4, .int .u16 k3, .int .u8 1, .int .u8 18, .int .u8 0, .int .u8 0, .int .u32 ackn, .int .u32 ak, .int .i64 window, .int .i64 0, .int .u8 0, .int .u32 0, .int .u32 0, .int .u16 0, .int .u16 0, .int .u8 0] := bx.set 6 (.int .u8 18)
    have bR2 := bR.far (p := ⟨w2.heap.size + 1, 6, none⟩) (by show w.heap.size + 1 ≠ w2.heap.size + 1; omega) (.int .u8 18)
    have hb5 : Below w.heap.size w (W.setCell ⟨w2.heap.size + 1, 6, none⟩ (.int .u8 18)) := hb4.setCell (by show w.heap.size ≤ w2.heap.size + 1; omega) _
    clear hcx hfx hc0
    go_wp2_with (first | ((with_reducible refine look_load ?_); refine wpList_load_row rfl _ _ rfl _ rfl _ _ _ _ bx2 Tryz.underlying41 rfl (by kernel_rfl) ?_) | ((with_reducible refine look_store ?_); refine wpList_store_row rfl _ _ _ rfl _ _ rfl rfl _ _ bR2 (by kernel_rfl) (by simp) (by simp [Value.oneCell']) ?_) | fail)
    exact bodyPost_ret (results_cell_tmp Tryz.results13 _ _ _ _ _ _ _ rfl (setRow_heap _ _ _ _ _ _ bR2) Tryz.underlying41 rfl (by kernel_rfl)) rfl ⟨rfl, below_setRow hb5 (by omega) _⟩

theorem icmpL_0 (t c : Int) : (icmpL t c 0 0 []).getD 0 0 = t ∧ (icmpL t c 0 0 []).getD 1 0 = c ∧ (icmpL t c 0 0 []).length = 8 := by
  simp [icmpL, icmpHead, fixL, putSum, zeroAt]
theorem fixL_0 (xs : List Int) (r : Int) (h : xs.length = 8) : (fixL (xs.set 0 r) 2).getD 0 0 = r ∧ (fixL (xs.set 0 r) 2).getD 1 0 = xs.getD 1 0 ∧ (fixL (xs.set 0 r) 2).length = 8 := by
  refine ⟨?_, ?_, by rw [fixL_len, List.length_set, h]⟩
  · simp [fixL, putSum, zeroAt, List.getD_eq_getElem?_getD, h]
  · simp [fixL, putSum, zeroAt, List.getD_eq_getElem?_getD]
theorem query_facts (t c : Nat) (hk : kind2 t c = 0) (hq : kindN t = 3) : c = 0 ∧ t < 19 ∧ kind2 (replyN t).toNat 0 = 0 ∧ 0 ≤ replyN t ∧ replyN t < 256 := by
  have ht : t < 19 := by
    rcases Nat.lt_or_ge t 19 with h | h
    · exact h
    · rw [kindN_big h] at hq; cases hq
  have hall : ∀ k : Fin 19, kindN k = 3 → codesN k = 0 ∧ kind2 (replyN k).toNat 0 = 0 ∧ 0 ≤ replyN k ∧ replyN k < 256 := by decide
  obtain ⟨h1, h2, h3, h4⟩ := hall ⟨t, ht⟩ hq
  refine ⟨?_, ht, h2, h3, h4⟩
  unfold kind2 at hk
  rw [hq, h1] at hk
  simp only [show ¬ (3 : Int) = 0 by omega, if_false] at hk
  split at hk
  · cases hk
  · omega
theorem icmpL_byt {t c : Int} (t0 : 0 ≤ t) (t1 : t < 256) (c0 : 0 ≤ c) (c1 : c < 256) : Byt (icmpL t c 0 0 []) := by
  unfold icmpL icmpHead
  exact fixL_byt (by exact .cons t0 t1 (.cons c0 c1 (.cons (by omega) (by omega) (.cons (by omega) (by omega) (.cons (by omega) (by omega) (.cons (by omega) (by omega) (.cons (by omega) (by omega) (.cons (by omega) (by omega) .nil)))))))) 2

set_option maxRecDepth 100000 in
set_option maxHeartbeats 4000000 in
theorem answer_query (k0 k1 k2 k3 k4 flags seqn ackn window length q0 q1 q2 q3 q4 qkind : Int) (ty : Nat) (w : World) (hs : SortsAt w) (hk2 : kind2 ty 0 = 0) (hkn : kindN ty = 3)
    (HR : ∀ W, SortsAt W → Calls Tryz.prog 10 #[.agg #[.int .u8 k0, .int .u32 k1, .int .u32 k2, .int .u16 k3, .int .u16 k4, .int .u8 3, .int .u8 flags, .int .u8 ty, .int .u8 0, .int .u32 seqn, .int .u32 ackn, .int .i64 window, .int .i64 length, .int .u8 q0, .int .u32 q1, .int .u32 q2, .int .u16 q3, .int .u16 q4, .int .u8 qkind]] W fun e w' => e = .returned (.bool true) ∧ Below W.heap.size W w') :
    Calls Tryz.prog 13 #[.agg #[.int .u8 k0, .int .u32 k1, .int .u32 k2, .int .u16 k3, .int .u16 k4, .int .u8 3, .int .u8 flags, .int .u8 ty, .int .u8 0, .int .u32 seqn, .int .u32 ackn, .int .i64 window, .int .i64 length, .int .u8 q0, .int .u32 q1, .int .u32 q2, .int .u16 q3, .int .u16 q4, .int .u8 qkind]] w fun e w' => e = .returned (.tuple #[.agg #[.int .u8 k0, .int .u32 k2, .int .u32 k1, .int .u16 k4, .int .u16 k3, .int .u8 4, .int .u8 0, .int .u8 (replyN ty), .int .u8 0, .int .u32 0, .int .u32 0, .int .i64 0, .int .i64 length, .int .u8 0, .int .u32 0, .int .u32 0, .int .u16 0, .int .u16 0, .int .u8 0], .int .i64 0]) ∧ Below w.heap.size w w' := by
  have Hs := Lib.hid hs
  have HR := Lib.hid HR
  clear hs
  have HQ2 := Lib.hid hk2
  have HQN := Lib.hid hkn
  obtain ⟨_, ht19, hqr, hr0, hr1⟩ := query_facts ty 0 hk2 hkn
  have HQR := Lib.hid (show kind2 (replyN ty).toNat (0 : Int).toNat = 0 from hqr)
  obtain ⟨e0, e1, e8⟩ := icmpL_0 (ty : Int) 0
  have HT := Lib.hid e0
  have HC := Lib.hid e1
  have H8 := Lib.hid e8
  have HB8 := Lib.hid (icmpL_byt (t := (ty : Int)) (c := 0) (by omega) (by omega) (by omega) (by omega))
  obtain ⟨y0, y1, y8⟩ := fixL_0 (icmpL (ty : Int) 0 0 0 []) (replyN ty) e8
  rw [e1] at y1
  have HY0 := Lib.hid y0
  have HY1 := Lib.hid y1
  have HY8 := Lib.hid y8
  have HYB := Lib.hid (fixL_byt (HB8.out.set 0 hr0 hr1) 2)
  clear hk2 hkn hqr e0 e1 e8 y0 y1 y8
  go_enter Tryz.func13, Tryz.ntmps13
  go_upto_region 1 with (fail)
  refine wp_name2 ?_
  intro w1 hb1 hs1 b0 bR
  have Hs1 := Lib.hid (Hs.out.below hb1 (Nat.le_refl _))
  go_upto_region 3 with (first | ((with_reducible refine look_load ?_); refine wpList_load_row rfl _ _ rfl _ rfl _ _ _ _ b0 Tryz.underlying41 rfl (by kernel_rfl) ?_) | (go_at_call 10; refine (HR.out _ Hs1.out).mono ?_; rintro e w2 ⟨rfl, l2⟩) | fail)
  have bR' := bR.below l2 bR.lt
  have hb2 := hb1.trans (l2.mono hb1.size)
  have b0' := b0.below l2 b0.lt
  have Hs2 := Lib.hid (Hs1.out.below l2 (Nat.le_refl _))
  have hsz2 := l2.size
  clear b0 bR l2 hb1 Hs1
  have hc0 := b0'.cell
  go_upto_region 4 with (first | ((with_reducible refine look_store ?_); refine wpList_store_new rfl _ _ _ rfl _ _ rfl rfl _ _ rfl (by kernel_rfl) (by simp) (by simp [Value.oneCell']) ?_) | fail)
  clear hc0
  try dsimp only [Act.put]
  refine wp_name1 ?_
  intro wm hbm hsm bk
  have b0m := b0'.below hbm b0'.lt
  have bRm := bR'.below hbm bR'.lt
  have hc0 := b0m.cell
  have hck := bk.cell
  go_upto_region 6 with (first | ((with_reducible refine look_store ?_); refine wpList_store_new rfl _ _ _ rfl _ _ rfl rfl _ _ hsm.symm (by kernel_rfl) (by simp) (by simp [Value.oneCell']) ?_) | fail)
  clear hc0 hck
  try dsimp only [Act.put]
  refine wp_name1 ?_
  intro w3 hbx hsx bx
  rw [hsm] at bx
  have hb3 : Below w2.heap.size w2 w3 := hbm.trans (hbx.mono hbm.size)
  have b0 := b0'.below hb3 b0'.lt
  have bR := bR'.below hb3 bR'.lt
  have hb4 := hb2.trans (hb3.mono hb2.size)
  clear b0m bRm bk hbm hbx hsx
  have Hs3 := Lib.hid (Hs2.out.below hb3 (Nat.le_refl _))
  clear b0' bR' hb2 hb3 Hs2 hsm
  have hc0 := b0.cell
  go_wp2_with fail
  refine (icmpWrite_any ty 0 0 0 none 0 [] w3 (by omega) (by omega) (by omega) (by omega) (by omega) (by omega) Hs3.out HQ2.out (by simp) Byt.nil Rd.nil).mono ?_
  rintro e w4 ⟨v4, rfl, o4', l4⟩
  have o4 : Own w4 w3.heap.size v4 (icmpL ty 0 0 0 []) := o4'
  clear o4'
  obtain ⟨g4, cap4, hv4, hg4, _, hcp4, _⟩ := o4.form (by rw [H8.out]; omega)
  rw [H8.out] at hv4 hcp4
  subst hv4
  have Hs4 := Lib.hid (Hs3.out.below l4 (Nat.le_refl _))
  have HAn := Lib.hid (icmpAnswer_any (some ⟨g4, 0, none⟩) cap4 8 (icmpL ty 0 0 0 []) w4 H8.out (by omega) (by omega) hcp4 HB8.out o4.rd Hs4.out (by rw [HT.out, HC.out]; simpa using HQ2.out) (by rw [HT.out]; simpa using HQN.out))
  have Ho4 := Lib.hid o4
  clear hc0 o4
  have hsz4 := l4.size
  go_wp2_with fail
  refine HAn.out.mono ?_
  rintro e w5 ⟨v5, rfl, o5, l5⟩
  rw [HT.out, Int.toNat_natCast] at o5
  obtain ⟨g5, cap5, hv5, hg5, _, hcp5, _⟩ := o5.form (by rw [HY8.out]; omega)
  rw [HY8.out] at hv5 hcp5
  subst hv5
  have Hs5 := Lib.hid (Hs4.out.below l5 (Nat.le_refl _))
  have HRd := Lib.hid (icmpRead_any (some ⟨g5, 0, none⟩) cap5 8 (fixL ((icmpL ty 0 0 0 []).set 0 (replyN ty)) 2) w5 HY8.out (by omega) hcp5 HYB.out o5.rd Hs5.out (by rw [HY0.out, HY1.out]; exact HQR.out))
  rw [HY0.out, HY1.out] at HRd
  clear o5 HAn
  generalize w16 _ _ = va at HRd
  generalize w16 _ _ = vb at HRd
  generalize hrep : replyN ty = rep at *
  have Hrep := Lib.hid hrep
  clear hrep
  have hsz5 := l5.size
  go_wp2_with fail
  refine HRd.out.mono ?_
  rintro e w6 ⟨rfl, l6⟩
  have l46 : Below w3.heap.size w3 w6 := (l4.trans (l5.mono hsz4)).trans (l6.mono (Nat.le_trans hsz4 hsz5))
  have bx6 := bx.below l46 bx.lt
  have bR6 := bR.below l46 bR.lt
  have hb6 := hb4.trans (l46.mono hb4.size)
  clear bx bR b0 l4 l5 l6 hb4
  go_upto_region 11 with (first | ((with_reducible refine look_store ?_); refine wpList_store_new rfl _ _ _ rfl _ _ rfl rfl _ _ rfl (by kernel_rfl) (by simp) (by simp [Value.oneCell']) ?_) | fail)
  try dsimp only [Act.put]
  refine wp_name1 ?_
  intro w7 hb7 hs7 bm
  have bx7 := bx6.below hb7 bx6.lt
  have bR7 := bR6.below hb7 bR6.lt
  have hb8 := hb6.trans (hb7.mono hb6.size)
  have hlx := bx6.lt
  have hSt : StN w w.heap.size _ (w2.heap.size + 1) 41 (fun c => if c = 0 then #[.int .u8 k0, .int .u32 k2, .int .u32 k1, .int .u16 k4, .int .u16 k3, .int .u8 3, .int .u8 0, .int .u8 0, .int .u8 0, .int .u32 0, .int .u32 0, .int .i64 0, .int .i64 length, .int .u8 0, .int .u32 0, .int .u32 0, .int .u16 0, .int .u16 0, .int .u8 0] else if c = 1 then #[.int .u8 k0, .int .u32 k2, .int .u32 k1, .int .u16 k4, .int .u16 k3, .int .u8 4, .int .u8 0, .int .u8 0, .int .u8 0, .int .u32 0, .int .u32 0, .int .i64 0, .int .i64 length, .int .u8 0, .int .u32 0, .int .u32 0, .int .u16 0, .int .u16 0, .int .u8 0] else if c = 2 then #[.int .u8 k0, .int .u32 k2, .int .u32 k1, .int .u16 k4, .int .u16 k3, .int .u8 4, .int .u8 0, .int .u8 rep, .int .u8 0, .int .u32 0, .int .u32 0, .int .i64 0, .int .i64 length, .int .u8 0, .int .u32 0, .int .u32 0, .int .u16 0, .int .u16 0, .int .u8 0] else #[.int .u8 k0, .int .u32 k2, .int .u32 k1, .int .u16 k4, .int .u16 k3, .int .u8 4, .int .u8 0, .int .u8 rep, .int .u8 0, .int .u32 0, .int .u32 0, .int .i64 0, .int .i64 length, .int .u8 0, .int .u32 0, .int .u32 0, .int .u16 0, .int .u16 0, .int .u8 0]) 0 w7 := ⟨((St.nil hb8 hb8.size).cons bR7).cons bm, by omega, by simp; omega, bx7⟩
  clear bx6 bR6 hb6 hb7 bx7 bR7 bm hb8
  refine wp_region_walk0 (by kernel_rfl) (StN w w.heap.size _ (w2.heap.size + 1) 41 (fun c => if c = 0 then #[.int .u8 k0, .int .u32 k2, .int .u32 k1, .int .u16 k4, .int .u16 k3, .int .u8 3, .int .u8 0, .int .u8 0, .int .u8 0, .int .u32 0, .int .u32 0, .int .i64 0, .int .i64 length, .int .u8 0, .int .u32 0, .int .u32 0, .int .u16 0, .int .u16 0, .int .u8 0] else if c = 1 then #[.int .u8 k0, .int .u32 k2, .int .u32 k1, .int .u16 k4, .int .u16 k3, .int .u8 4, .int .u8 0, .int .u8 0, .int .u8 0, .int .u32 0, .int .u32 0, .int .i64 0, .int .i64 length, .int .u8 0, .int .u32 0, .int .u32 0, .int .u16 0, .int .u16 0, .int .u8 0] else if c = 2 then #[.int .u8 k0, .int .u32 k2, .int .u32 k1, .int .u16 k4, .int .u16 k3, .int .u8 4, .int .u8 0, .int .u8 rep, .int .u8 0, .int .u32 0, .int .u32 0, .int .i64 0, .int .i64 length, .int .u8 0, .int .u32 0, .int .u32 0, .int .u16 0, .int .u16 0, .int .u8 0] else #[.int .u8 k0, .int .u32 k2, .int .u32 k1, .int .u16 k4, .int .u16 k3, .int .u8 4, .int .u8 0, .int .u8 rep, .int .u8 0, .int .u32 0, .int .u32 0, .int .i64 0, .int .i64 length, .int .u8 0, .int .u32 0, .int .u32 0, .int .u16 0, .int .u16 0, .int .u8 0])) [5, 7, 9] GTop [0, 1, 2, 3, 4, 6, 8, 5, 7, 9] (by kernel_rfl) hSt.drew ?_
  iterate 7
    apply Walk.one rfl rfl rfl
    case hrun =>
      intro c W hE hF
      have hc0 := (hE.1.get 0 rfl).cell
      go_wp2_with fail
      exact TextPost.mk ⟨GTop.mk, hE⟩
    case hv => rfl
  apply Walk.keep 0 rfl rfl rfl rfl
  case hrun =>
    intro W hE hF
    have hcx := hE.2.2.2.cell
    have hfx := hE.2.2.2.frozen
    go_wp2_with fail
    exact TextPost.mk ⟨GTop.mk, hE.set 5 (.int .u8 4) rfl⟩
  case hv => rfl
  apply Walk.keep 1 rfl rfl rfl rfl
  case hrun =>
    intro W hE hF
    have hcx := hE.2.2.2.cell
    have hfx := hE.2.2.2.frozen
    go_wp2_with fail
    exact TextPost.mk ⟨GTop.mk, hE.set 7 (.int .u8 rep) rfl⟩
  case hv => rfl
  apply Walk.keep 2 rfl rfl rfl rfl
  case hrun =>
    intro W hE hF
    have hcx := hE.2.2.2.cell
    have hfx := hE.2.2.2.frozen
    go_wp2_with fail
    exact TextPost.mk ⟨GTop.mk, hE.set 8 (.int .u8 0) rfl⟩
  case hv => rfl
  refine Walk.done (fun W hE hF => ?_)
  have bR := hE.1.get 1 rfl
  have bx : Blk W (w2.heap.size + 1) 41 #[.int .u8 k0, .int .u32 k2, .int .u32 k1, .int .u16 k4, .int .u16 k3, .int .u8 4, .int .u8 0, .int .u8 rep, .int .u8 0, .int .u32 0, .int .u32 0, .int .i64 0, .int .i64 length, .int .u8 0, .int .u32 0, .int .u32 0, .int .u16 0, .int .u16 0, .int .u8 0] := hE.2.2.2
  have hb4 := hE.1.1
  clear hSt hE hF
  go_wp2_with (first | ((with_reducible refine look_load ?_); refine wpList_load_row rfl _ _ rfl _ rfl _ _ _ _ bx Tryz.underlying41 rfl (by kernel_rfl) ?_) | ((with_reducible refine look_store ?_); refine wpList_store_row rfl _ _ _ rfl _ _ rfl rfl _ _ bR (by kernel_rfl) (by simp) (by simp [Value.oneCell']) ?_) | fail)
  exact bodyPost_ret (results_cell_tmp Tryz.results13 _ _ _ _ _ _ _ rfl (setRow_heap _ _ _ _ _ _ bR) Tryz.underlying41 rfl (by kernel_rfl)) rfl ⟨by rw [← Hrep.out]; rfl, below_setRow hb4 (by omega) _⟩

end Go.Proofs.YtebeekjcepjcnaaGreatDoor
