/-
  csum.Sum, Of, Right, Over, Never, Pseudo, Fix.
  slices.Grow of nil, slices.Concat, tcp.words, tcp.longs.
-/
import Derived.Lib.AppendZeros
import Derived.Test.YtebeekjcepjcnaaGreatDoorRCsum
namespace Go.Proofs.YtebeekjcepjcnaaGreatDoor
open Go.RowKit Go.Shelf
attribute [local go_sem] Oper.semAt_some

def sumS (pre : List W16) : Int := sumW (pre.map (·.1))
theorem sumS_snoc (pre : List W16) (x : W16) : sumS (pre ++ [x]) = joinL [sumS pre, x.1] := by unfold sumS; rw [List.map_append]; exact sumW_snoc _ _
theorem sumS_bd (pre : List W16) : 0 ≤ sumS pre ∧ sumS pre ≤ 65535 := sumW_bd (by
  intro y hy
  obtain ⟨z, _, rfl⟩ := List.mem_map.1 hy
  exact z.2)
theorem sumS_all (bs : List Int) (hb : Byt bs) : sumS (wordsTo' bs hb (nWords bs)) = sumB bs := by
  unfold sumS
  rw [wordsTo'_val]
  rfl

set_option maxRecDepth 100000 in
set_option maxHeartbeats 1000000 in
/-- csum.Sum. -/
theorem sum_any (A : Option Addr) (cap : Nat) (bs : List Int) (w : World) (hb : Byt bs) (hl : bs.length ≤ 1000000) (hr : Rd w w.heap.size A .u8 bs) :
    Calls Tryz.prog 101 #[.slice A bs.length cap] w fun e w' => e = .returned (.int .u16 (sumB bs)) ∧ Below w.heap.size w w' := by
  refine (callsIn_wide (n := 6)).1 ?_
  have hro : Fence.wide.round = none := rfl
  refine callsIn_of_wp_marks Tryz.func101 rfl trivial ?_ hro
  simp only [Tryz.ntmps101, List.size_toArray, List.length_cons, List.length_nil, Nat.reduceAdd, Nat.reduceSub, Array.replicate_succ, Array.replicate_zero, List.push_toArray, List.append_toArray, List.nil_append, List.cons_append]
  gi_wp2_with (refine ⟨trivial, ?_⟩; gi_at_call 106; refine (words_in Fence.wide _ trivial hro _ _ _ _).mono ?_; rintro e w' ⟨rfl, rfl⟩)
  have bS := Boxed.new w 22 (.int .u16 0)
  have bN := Boxed.new (w.alloc (.cells #[.int .u16 0] 22)) 26 (.slice A bs.length cap)
  rw [World.size_alloc] at bN
  have hB0 : Below w.heap.size w ((w.alloc (.cells #[.int .u16 0] 22)).alloc (.cells #[.slice A bs.length cap] 26)) := ((Below.refl _ w).alloc (Nat.le_refl _) _).alloc (by simp) _
  refine wpIn_rangeFunc_ownG hro (show 1 ≤ 6 by omega) (gf := 107) (lb := #[.pointer (some ⟨w.heap.size + 1, 0, none⟩)]) rfl trivial (enters_of Tryz.func107 (by kernel_rfl) rfl)
    (words_stops Fence.wide 5 trivial hro (by omega) (w.heap.size + 1) w.heap.size cap A bs hb hl _ (by simp) (by simp; omega) bN.cell (hr.below hB0 (Nat.le_refl _))) KpB.t (KpB.b (by simp; omega) (by simp)) (Below.refl _ _) (fun _ => rfl)
    (fun pre W => (W.cell? ⟨w.heap.size, 0, none⟩ = some (.int .u16 (sumS pre)) ∧ W.frozen? ⟨w.heap.size, 0, none⟩ = false ∧ W.cell? ⟨w.heap.size + 1, 0, none⟩ = some (.slice A bs.length cap)) ∧ Below w.heap.size w W)
    (fun _ _ _ => False)
    (OwnFrom.and (Own.from (fun s A B row hs hg hr => ⟨cell_kept hs.1 hg hr, (frozen_kept hs.1 hg hr).trans hs.2.1, cell_kept hs.2.2 hg hr⟩) _) (ownFrom_below (Nat.le_refl _) (by simp; omega)))
    (fun _ _ _ _ _ hs _ _ => hs)
    ⟨⟨(bS.alloc _).cell, (bS.alloc _).frozen, bN.cell⟩, hB0⟩
    (fun x => { tmps := #[.slice A bs.length cap, undef, .int .u16 0, .pointer (some ⟨w.heap.size, 0, none⟩), .int .u16 x.1, .slice A bs.length cap, .func (.func 107) #[] #[.pointer (some ⟨w.heap.size + 1, 0, none⟩)], .int .u16 x.1, undef, undef, undef, undef, undef], defers := [] }) ?assign ?body ?done ?stop
  case assign =>
    intro l x W K hK
    gi_wp2
    exact hK
  case body =>
    rintro l pre x W ⟨⟨hc, hf, hc2⟩, hB⟩ _
    have hl1 : w.heap.size < W.heap.size := World.lt_of_cell hc
    have hl2 : w.heap.size + 1 < W.heap.size := World.lt_of_cell hc2
    have hca := fun o => (World.cell?_alloc_lt W o ⟨w.heap.size, 0, none⟩ hl1).trans hc
    have hfa := fun o => (World.frozen?_alloc_lt' W o ⟨w.heap.size, 0, none⟩ hl1).trans hf
    have hs := sumS_bd pre
    gi_wp2_with fail
    refine ⟨trivial, (CallsIn.inRound l (callsIn_wide.2 (join_any _ 2 [sumS pre, x.1] _ (by simp) (fun y hy => by simp at hy; rcases hy with rfl | rfl; omega; exact x.2) (by simpa using Rd.new W .u16 [sumS pre, x.1] 22)))).mono ?_⟩
    rintro e w' ⟨rfl, rfl⟩
    rw [← sumS_snoc]
    gi_wp2
    refine ⟨KeepsOthers.from ((KeepsOthers.setCell _ _ _).trans (KeepsOthers.alloc _ _)) _, ⟨((Below.refl w.heap.size W).setCell (p := ⟨w.heap.size, 0, none⟩) (Nat.le_refl _) _).alloc (by simp; omega) _, ?_⟩, ⟨?_, ?_, ?_⟩, (hB.setCell (p := ⟨w.heap.size, 0, none⟩) (Nat.le_refl _) _).alloc (by simp; omega) _⟩
    · exact (Below.heap_alloc _ _ _ (by simp; omega)).trans (Below.heap_setCell _ ⟨w.heap.size, 0, none⟩ _ _ (by simp))
    · exact (World.cell?_alloc_lt _ _ ⟨w.heap.size, 0, none⟩ (by simp; omega)).trans (World.cell?_setCell_same' _ _ _ (by rw [hc]; rfl))
    · exact (World.frozen?_alloc_lt' _ _ ⟨w.heap.size, 0, none⟩ (by simp; omega)).trans (by rw [World.frozen?_setCell]; exact hf)
    · exact (World.cell?_alloc_lt _ _ ⟨w.heap.size + 1, 0, none⟩ (by simp; omega)).trans ((World.cell?_setCell_other _ _ _ _ (by simp)).trans hc2)
  case done =>
    rintro D ys W hD rfl ⟨⟨hc, _⟩, hB⟩ hK
    rw [sumS_all] at hc
    gi_wp2
    refine ⟨by simp, .inl ⟨_, _, rfl, run_takeDeferred hK, ?_⟩⟩
    exact ⟨_, results_tmp rfl _ _ _, rfl, hB.trans (belowK_b (w := w) (Nat.le_refl _) W D _ _ (by simp at hD; omega) hK rfl rfl)⟩
  case stop =>
    rintro D c pre W _ _ h _
    exact h.elim

def ofB (bs : List Int) : Int := 65535 - sumB bs
def overB (p : Int) (bs : List Int) : Int := 65535 - joinL [p, sumB bs]
def pseudoL (src dst proto len : Int) : Int := joinL [src / 65536, src % 65536, dst / 65536, dst % 65536, proto, len]
theorem ofB_bd {bs : List Int} (h : Byt bs) : 0 ≤ ofB bs ∧ ofB bs ≤ 65535 := by have := sumB_bd h; unfold ofB; omega
theorem joinL2_bd {a b : Int} (ha : 0 ≤ a ∧ a < 65536) (hb : 0 ≤ b ∧ b < 65536) : 0 ≤ joinL [a, b] ∧ joinL [a, b] ≤ 65535 :=
  joinL_bd (by intro y hy; simp at hy; rcases hy with rfl | rfl <;> assumption)
theorem overB_bd {bs : List Int} (h : Byt bs) {p : Int} (h0 : 0 ≤ p) (h1 : p < 65536) : 0 ≤ overB p bs ∧ overB p bs ≤ 65535 := by
  have := joinL2_bd (a := p) (b := sumB bs) ⟨h0, h1⟩ (by have := sumB_bd h; omega)
  unfold overB; omega

theorem nat_xor_max (x : Nat) (h : x < 65536) : (65535 ^^^ x) = 65535 - x := by
  have := BitVec.toNat_not (x := BitVec.ofNat 16 x)
  rw [BitVec.not_def, BitVec.toNat_xor] at this
  simp only [BitVec.toNat_allOnes, BitVec.toNat_ofNat] at this
  have hm : x % 2 ^ 16 = x := Nat.mod_eq_of_lt (by omega)
  rw [hm] at this
  simpa using this
theorem not_u16 (x : Int) (h0 : 0 ≤ x) (h1 : x ≤ 65535) : bits .xor .u16 IntKind.u16.max x = 65535 - x := by
  rw [show IntKind.u16.max = 65535 by simp [IntKind.max, IntKind.signed, IntKind.bits], u16_xor _ _ (by omega) (by omega) h0 (by omega)]
  have : ((65535 : Int).toNat ^^^ x.toNat) = 65535 - x.toNat := nat_xor_max x.toNat (by omega)
  rw [this]; omega

set_option maxHeartbeats 400000 in
theorem of_any (A : Option Addr) (cap : Nat) (bs : List Int) (w : World) (hb : Byt bs) (hl : bs.length ≤ 1000000) (hr : Rd w w.heap.size A .u8 bs) :
    Calls Tryz.prog 83 #[.slice A bs.length cap] w fun e w' => e = .returned (.int .u16 (ofB bs)) ∧ Below w.heap.size w w' := by
  have hs := sumB_bd hb
  have hx := not_u16 (sumB bs) hs.1 hs.2
  have hsg : IntKind.u16.signed = false := rfl
  go_enter Tryz.func83, Tryz.ntmps83
  go_wp2_with (go_at_call 101; refine (sum_any _ _ _ _ hb hl hr).mono ?_; rintro e w' ⟨rfl, hbw⟩)
  go_ret
  exact ⟨rfl, hbw⟩

set_option maxHeartbeats 400000 in
theorem right_any (A : Option Addr) (cap : Nat) (bs : List Int) (w : World) (hb : Byt bs) (hl : bs.length ≤ 1000000) (hr : Rd w w.heap.size A .u8 bs) :
    Calls Tryz.prog 56 #[.slice A bs.length cap] w fun e w' => e = .returned (.bool (ofB bs == 0)) ∧ Below w.heap.size w w' := by
  go_enter Tryz.func56, Tryz.ntmps56
  go_wp2_with (go_at_call 83; refine (of_any _ _ _ _ hb hl hr).mono ?_; rintro e w' ⟨rfl, hbw⟩)
  go_ret
  exact ⟨rfl, hbw⟩

set_option maxHeartbeats 400000 in
theorem over_any (p : Int) (A : Option Addr) (cap : Nat) (bs : List Int) (w : World) (h0 : 0 ≤ p) (h1 : p < 65536) (hb : Byt bs) (hl : bs.length ≤ 1000000) (hr : Rd w w.heap.size A .u8 bs) :
    Calls Tryz.prog 78 #[.int .u16 p, .slice A bs.length cap] w fun e w' => e = .returned (.int .u16 (overB p bs)) ∧ Below w.heap.size w w' := by
  have hs := sumB_bd hb
  have hj := joinL2_bd (a := p) (b := sumB bs) ⟨h0, h1⟩ (by omega)
  have hx := not_u16 (joinL [p, sumB bs]) hj.1 hj.2
  have hsg : IntKind.u16.signed = false := rfl
  go_enter Tryz.func78, Tryz.ntmps78
  go_wp2_with fail
  refine (sum_any _ _ _ _ hb hl hr).mono ?_
  rintro e w1 ⟨rfl, hbw⟩
  go_wp2_with fail
  refine (join_any _ 2 [p, sumB bs] _ (by simp) (fun y hy => by simp at hy; rcases hy with rfl | rfl <;> omega) (by simpa using Rd.new w1 .u16 [p, sumB bs] 22)).mono ?_
  rintro e w2 ⟨rfl, rfl⟩
  go_wp2_with fail
  go_ret
  exact ⟨rfl, hbw.alloc hbw.size _⟩

def neverB (c : Int) : Int := if c = 0 then 65535 else c
set_option maxHeartbeats 400000 in
theorem never_any (c : Int) (w : World) : Calls Tryz.prog 79 #[.int .u16 c] w fun e w' => e = .returned (.int .u16 (neverB c)) ∧ w = w' := by
  by_cases h : c = 0
  · subst h
    go_enter Tryz.func79, Tryz.ntmps79
    go_wp2
    go_ret
    exact ⟨rfl, rfl⟩
  · have Hn := Lib.hid (show neverB c = c by unfold neverB; rw [if_neg h])
    have h1 : (c == 0) = false := by simpa using h
    rw [Hn.out]
    go_enter Tryz.func79, Tryz.ntmps79
    go_wp2
    go_ret
    exact ⟨rfl, rfl⟩

set_option maxHeartbeats 400000 in
/-- csum.Pseudo, at a length that is right. -/
theorem pseudo_any (src dst proto len : Int) (w : World) (hs0 : 0 ≤ src) (hs1 : src < 4294967296) (hd0 : 0 ≤ dst) (hd1 : dst < 4294967296) (hp0 : 0 ≤ proto) (hp1 : proto < 256) (hl0 : 0 ≤ len) (hl1 : len ≤ 65535) :
    Calls Tryz.prog 77 #[.int .u32 src, .int .u32 dst, .int .u8 proto, .int .i64 len] w fun e w' => e = .returned (.tuple #[.int .u16 (pseudoL src dst proto len), .int .i64 0]) ∧ Below w.heap.size w w' := by
  have hws := IntKind.wrap_u16 src
  have hwd := IntKind.wrap_u16 dst
  go_enter Tryz.func77, Tryz.ntmps77
  go_wp2_with fail
  refine (join_any _ 6 [src / 65536, src % 65536, dst / 65536, dst % 65536, proto, len] _ (by simp) (fun y hy => by simp at hy; rcases hy with rfl | rfl | rfl | rfl | rfl | rfl <;> omega) (by simpa using Rd.new w .u16 [src / 65536, src % 65536, dst / 65536, dst % 65536, proto, len] 22)).mono ?_
  rintro e w2 ⟨rfl, rfl⟩
  go_wp2_with fail
  go_ret2
  exact ⟨rfl, (Below.refl _ _).alloc (Nat.le_refl _) _⟩

end Go.Proofs.YtebeekjcepjcnaaGreatDoor
namespace Go.Proofs.YtebeekjcepjcnaaGreatDoor
open Go.RowKit Go.Shelf

set_option maxHeartbeats 400000 in
theorem grow_nil (n : Nat) (w : World) (hn : n ≤ 1000000) :
    Calls Tryz.prog 96 #[.slice none 0 0, .int .i64 n] w fun e w' => ∃ v, e = .returned v ∧ Own w' w.heap.size v [] ∧ Below w.heap.size w w' := by
  by_cases h0 : 0 < n
  · obtain ⟨i, hi, hz, hs, hby⟩ := info_parts u8info
    have hrun := fun ty => Lib.run_append_nil_zeros (P := Tryz.prog) w 26 3 ty 5 i _ .i64 .i64 Tryz.underlying26 Tryz.underlying3 hi hz n h0 (by omega) (by omega) (by rw [hby]; omega)
    have hcap := grownCap_ge w n 0 5
    have hcap2 := grownCap_le_maxLen w n 0 5 (by simp only [maxLen]; omega)
    have hown : Own (w.drew.alloc (.cells (Builtin.zeroCells (Value.cells (.int .u8 0)) n ++ Builtin.zeroCells (Value.cells (.int .u8 0)) (grownCap w n 0 5 - n)) 5)) w.heap.size (.slice (some ⟨w.heap.size, 0, none⟩) 0 (grownCap w n 0 5)) [] := by
      refine Own.mk' (n := 0) (l := []) ⟨rfl, .inr ⟨w.heap.size, _, _, rfl, Nat.le_refl _, heap_alloc_new w.drew _, by omega, hcap2, ?_, by simp⟩⟩ rfl rfl
      simp only [Array.size_append, size_zeroCells, Value.cells]
      simp; omega
    have Hown := Lib.hid hown
    clear hown hcap hcap2 hz hs hby hi
    have Hrun := Lib.hid hrun
    clear hrun
    generalize grownCap w n 0 5 = c at *
    go_enter Tryz.func96, Tryz.ntmps96
    go_wp2_with (at_builtin; refine Lib.wpList_append_run w rfl (.tmp 20) (.tmp 21) _ _ rfl _ _ rfl rfl _ _ (Hrun.out _) ?_)
    go_ret
    exact ⟨_, rfl, Hown.out, (Below.refl _ w).drew.alloc (Nat.le_refl _) _⟩
  · obtain rfl : n = 0 := by omega
    go_enter Tryz.func96, Tryz.ntmps96
    go_wp2_with fail
    go_ret
    exact ⟨_, rfl, Own.nil_ _ _, Below.refl _ _⟩

def b16 (x : Int) : List Int := [x / 256, x % 256]
def b16s (l : List Int) : List Int := l.flatMap b16
def b32 (x : Int) : List Int := b16s [x / 65536, x % 65536]
def b32s (l : List Int) : List Int := l.flatMap b32
theorem b16s_snoc (l : List Int) (x : Int) : b16s (l ++ [x]) = b16s l ++ b16 x := by simp [b16s]
theorem b32s_snoc (l : List Int) (x : Int) : b32s (l ++ [x]) = b32s l ++ b32 x := by simp [b32s]
theorem b16s_len (l : List Int) : (b16s l).length = 2 * l.length := by
  induction l with
  | nil => rfl
  | cons x l ih => simp [b16s, b16] at *; omega
theorem b32s_len (l : List Int) : (b32s l).length = 4 * l.length := by
  induction l with
  | nil => rfl
  | cons x l ih => simp [b32s, b32, b16s, b16] at *; omega
theorem b16s_byt {l : List Int} (h : U16s l) : Byt (b16s l) := by
  intro b hb
  obtain ⟨x, hx, hb⟩ := List.mem_flatMap.1 hb
  have := h x hx
  simp [b16] at hb
  rcases hb with rfl | rfl <;> omega

set_option maxHeartbeats 400000 in
theorem words_any (A : Option Addr) (cap : Nat) (ws : List Int) (w : World) (hl : ws.length ≤ 1000) (hb : U16s ws) (hr : Rd w w.heap.size A .u16 ws) :
    Calls Tryz.prog 75 #[.slice A ws.length cap] w fun e w' => ∃ v, e = .returned v ∧ Own w' w.heap.size v (b16s ws) ∧ Below w.heap.size w w' := by
  have Hb := Lib.hid hb
  clear hb
  go_enter Tryz.func75, Tryz.ntmps75
  go_wp2_with fail
  go_loopw [3, 5, 8] (fun v _ i wr => ∃ k : Nat, k ≤ ws.length ∧ i = .int .i64 k ∧ Own wr w.heap.size v (b16s (ws.take k)) ∧ Below w.heap.size w wr) (fun _ _ i _ => ws.length - (intOf i).toNat)
  case atStart => exact ⟨0, by omega, rfl, Own.nil_ _ _, Below.refl _ _⟩
  case round =>
    obtain ⟨k, hk, rfl, hown, hbw⟩ := hrel
    by_cases hlt : k < ws.length
    · have hr2 := hr.below hbw (Nat.le_refl _)
      obtain ⟨b, off, rfl, _, hcell⟩ := hr2 k hlt
      have Hs := Lib.hid ((congrArg b16s (take_succ_getD ws k hlt)).trans (b16s_snoc _ _))
      obtain ⟨hw1, hw2⟩ := Hb.out.at_ k
      have Hl := Lib.hid (show (b16s (ws.take k)).length + 2 ≤ 140737488355328 by rw [b16s_len, List.length_take]; omega)
      generalize ws.getD k 0 = x at *
      have hm := IntKind.wrap_u8 x
      have hsz := hbw.size
      clear hr2
      go_wp2_with (at_builtin; refine app_own rfl (.tmp 12) (.tmp 18) rfl w.heap.size u3 (b16s (ws.take k)) rfl (hown.alloc _) _ _ _ 2 (b16 x) rfl rfl (Rd.new wr .u8 (b16 x) 5) Hl.out (by simp; omega) ?_; intro v2 w2 hown2 hbw2 _ _)
      rw [← Hs.out] at hown2
      go_roundw
      case rel => exact ⟨k + 1, by omega, by go_num, hown2, (hbw.alloc hsz _).trans hbw2⟩
      case measure => simp [intOf]; omega
    · obtain rfl : k = ws.length := by omega
      rw [List.take_length] at hown
      go_wp2_with fail
      go_ret
      exact ⟨_, rfl, hown, hbw⟩
theorem Rd.new2 (w : World) (k : IntKind) (xs : List Int) (t : TypeId) : Rd (w.alloc (.cells (xs.map (Value.int k)).toArray t)) (w.alloc (.cells (xs.map (Value.int k)).toArray t)).heap.size (some ⟨w.heap.size, 0, none⟩) k xs := by
  simpa using Rd.new w k xs t

def U32s (l : List Int) : Prop := ∀ x ∈ l, 0 ≤ x ∧ x < 4294967296
theorem U32s.at_ {l : List Int} (h : U32s l) (j : Nat) : 0 ≤ l.getD j 0 ∧ l.getD j 0 < 4294967296 := by
  by_cases hj : j < l.length
  · rw [List.getD_eq_getElem?_getD, List.getElem?_eq_getElem hj]; exact h _ (List.getElem_mem hj)
  · rw [List.getD_eq_getElem?_getD, List.getElem?_eq_none (by omega)]; simp
theorem b32_u16s {x : Int} (h0 : 0 ≤ x) (h1 : x < 4294967296) : U16s [x / 65536, x % 65536] := by
  intro y hy
  simp at hy
  rcases hy with rfl | rfl <;> omega
theorem b32s_byt {l : List Int} (h : U32s l) : Byt (b32s l) := by
  intro b hb
  obtain ⟨x, hx, hb⟩ := List.mem_flatMap.1 hb
  exact b16s_byt (b32_u16s (h x hx).1 (h x hx).2) b hb

set_option maxHeartbeats 400000 in
theorem longs_any (A : Option Addr) (cap : Nat) (ws : List Int) (w : World) (hl : ws.length ≤ 1000) (hb : U32s ws) (hr : Rd w w.heap.size A .u32 ws) :
    Calls Tryz.prog 76 #[.slice A ws.length cap] w fun e w' => ∃ v, e = .returned v ∧ Own w' w.heap.size v (b32s ws) ∧ Below w.heap.size w w' := by
  have Hb := Lib.hid hb
  clear hb
  go_enter Tryz.func76, Tryz.ntmps76
  go_wp2_with fail
  go_loopw [3, 5, 8] (fun v _ i wr => ∃ k : Nat, k ≤ ws.length ∧ i = .int .i64 k ∧ Own wr w.heap.size v (b32s (ws.take k)) ∧ Below w.heap.size w wr) (fun _ _ i _ => ws.length - (intOf i).toNat)
  case atStart => exact ⟨0, by omega, rfl, Own.nil_ _ _, Below.refl _ _⟩
  case round =>
    obtain ⟨k, hk, rfl, hown, hbw⟩ := hrel
    by_cases hlt : k < ws.length
    · have hr2 := hr.below hbw (Nat.le_refl _)
      obtain ⟨b, off, rfl, _, hcell⟩ := hr2 k hlt
      have Hs := Lib.hid ((congrArg b32s (take_succ_getD ws k hlt)).trans (b32s_snoc _ _))
      obtain ⟨hw1, hw2⟩ := Hb.out.at_ k
      have Hl := Lib.hid (show (b32s (ws.take k)).length + 4 ≤ 140737488355328 by rw [b32s_len, List.length_take]; omega)
      generalize ws.getD k 0 = x at *
      have hm := IntKind.wrap_u16 x
      have hsz := hbw.size
      clear hr2
      go_wp2_with fail
      refine (words_any _ 2 [x / 65536, x % 65536] _ (by simp) (b32_u16s hw1 hw2) (Rd.new2 wr .u16 [x / 65536, x % 65536] 22)).mono ?_
      rintro e w1 ⟨v1, rfl, hown1, hbw1⟩
      obtain ⟨A1, c1, rfl, hr1, _, _⟩ := hown1.open_
      have ho2 := (hown.alloc (.cells #[.int .u16 (x / 65536), .int .u16 (x % 65536)] 22)).below hbw1 (Nat.le_refl _)
      have hs1 : w.heap.size ≤ w1.heap.size := by have := hbw1.size; simp at this; omega
      go_wp2_with (at_builtin; refine app_own rfl (.tmp 12) (.tmp 19) rfl w.heap.size u3 (b32s (ws.take k)) rfl ho2 _ A1 _ c1 (b32 x) rfl rfl hr1 Hl.out hs1 ?_; intro v2 w2 hown2 hbw2 _ _)
      rw [← Hs.out] at hown2
      go_roundw
      case rel => exact ⟨k + 1, by omega, by go_num, hown2, ((hbw.alloc hsz _).trans (hbw1.mono (by simp; omega))).trans hbw2⟩
      case measure => simp [intOf]; omega
    · obtain rfl : k = ws.length := by omega
      rw [List.take_length] at hown
      go_wp2_with fail
      go_ret
      exact ⟨_, rfl, hown, hbw⟩

/-- Some slices of bytes, one behind the other in memory. -/
abbrev Part := Option Addr × Nat × List Int
def partsL (ps : List Part) : List Int := ps.flatMap (·.2.2)
theorem partsL_snoc (ps : List Part) (p : Part) : partsL (ps ++ [p]) = partsL ps ++ p.2.2 := by simp [partsL]
def Parts (w : World) (B : Nat) (A : Option Addr) (ps : List Part) : Prop :=
  ∀ j, j < ps.length → ∃ b off p, ps[j]? = some p ∧ A = some ⟨b, off, none⟩ ∧ b < B ∧ w.cell? ⟨b, off + j, none⟩ = some (.slice p.1 p.2.2.length p.2.1) ∧ Rd w B p.1 .u8 p.2.2
theorem Parts.below {w w' : World} {B C : Nat} {A : Option Addr} {ps : List Part} (h : Parts w B A ps) (hb : Below C w w') (hC : B ≤ C) : Parts w' B A ps := fun j hj => by
  obtain ⟨b, off, p, h1, h2, h3, h4, h5⟩ := h j hj
  exact ⟨b, off, p, h1, h2, h3, (hb.cell (p := ⟨b, off + j, none⟩) (by show b < C; omega)).trans h4, h5.below hb hC⟩
def partV (p : Part) : Value := .slice p.1 p.2.2.length p.2.1
theorem Parts.new (w : World) (ps : List Part) (t : TypeId) (h : ∀ p ∈ ps, Rd w w.heap.size p.1 .u8 p.2.2) :
    Parts (w.alloc (.cells (ps.map partV).toArray t)) (w.alloc (.cells (ps.map partV).toArray t)).heap.size (some ⟨w.heap.size, 0, none⟩) ps := by
  intro j hj
  refine ⟨w.heap.size, 0, ps[j], List.getElem?_eq_getElem hj, rfl, by simp, ?_, ?_⟩
  · rw [Nat.zero_add, cell_of_row _ _ _ _ _ _ (heap_alloc_new w _)]
    simp [hj, partV]
  · exact ((h _ (List.getElem_mem hj)).alloc (Nat.le_refl _) _).more (by simp)
theorem Rd.new3 {w : World} {k : IntKind} {xs : List Int} {cs : Array Value} {t : TypeId} {a : Nat} (ha : a = w.heap.size) (hcs : cs = (xs.map (Value.int k)).toArray) :
    Rd (w.alloc (.cells cs t)) (w.alloc (.cells cs t)).heap.size (some ⟨a, 0, none⟩) k xs := by
  subst ha; subst hcs; exact Rd.new2 w k xs t
theorem Parts.new3 {w : World} {ps : List Part} {cs : Array Value} {t : TypeId} {a : Nat} (ha : a = w.heap.size) (hcs : cs = (ps.map partV).toArray) (h : ∀ p ∈ ps, Rd w w.heap.size p.1 .u8 p.2.2) :
    Parts (w.alloc (.cells cs t)) (w.alloc (.cells cs t)).heap.size (some ⟨a, 0, none⟩) ps := by
  subst ha; subst hcs; exact Parts.new w ps t h
theorem Rd.allocs {w : World} {A : Option Addr} {k : IntKind} {xs : List Int} (h : Rd w w.heap.size A k xs) (o : Obj) : Rd (w.alloc o) (w.alloc o).heap.size A k xs := (h.alloc (Nat.le_refl _) o).more (by simp)
theorem Rd.belows {w w' : World} {A : Option Addr} {k : IntKind} {xs : List Int} (h : Rd w w.heap.size A k xs) {C : Nat} (hb : Below C w w') (hC : w.heap.size ≤ C) : Rd w' w'.heap.size A k xs := (h.below hb hC).more hb.size
theorem take_snoc_get {α : Type} {l : List α} {k : Nat} {x : α} (h : l[k]? = some x) : l.take (k + 1) = l.take k ++ [x] := by
  rw [List.take_add_one, h]; rfl
theorem partsL_take_le (ps : List Part) (k : Nat) : (partsL (ps.take k)).length ≤ (partsL ps).length := by
  have h : partsL ps = partsL (ps.take k) ++ partsL (ps.drop k) := by
    unfold partsL; rw [← List.flatMap_append, List.take_append_drop]
  rw [h, List.length_append]; omega

set_option maxHeartbeats 1000000 in
theorem concat_any (A : Option Addr) (cap : Nat) (ps : List Part) (w : World) (hl : ps.length ≤ 100) (hs : (partsL ps).length ≤ 1000000) (hp : Parts w w.heap.size A ps) :
    Calls Tryz.prog 69 #[.slice A ps.length cap] w fun e w' => ∃ v, e = .returned v ∧ Own w' w.heap.size v (partsL ps) ∧ Below w.heap.size w w' := by
  go_enter Tryz.func69, Tryz.ntmps69
  go_wp2_with fail
  go_loop [3, 5, 11] (fun s _ i => ∃ k : Nat, k ≤ ps.length ∧ i = .int .i64 k ∧ s = .int .i64 ((partsL (ps.take k)).length : Nat)) (fun _ _ i => ps.length - (intOf i).toNat)
  case atStart => exact ⟨0, by omega, rfl, rfl⟩
  case round =>
    obtain ⟨k, hk, rfl, rfl⟩ := hrel
    by_cases hlt : k < ps.length
    · obtain ⟨b, off, p, hpk, rfl, hbl, hcell, hrp⟩ := hp k hlt
      have e1 := congrArg List.length ((congrArg partsL (take_snoc_get hpk)).trans (partsL_snoc _ _))
      rw [List.length_append] at e1
      have e2 := partsL_take_le ps (k + 1)
      have e3 : (partsL (ps.take k)).length + p.2.2.length ≤ 1000000 := by omega
      have He := Lib.hid e1
      clear e1 e2 hrp
      generalize (partsL (ps.take k)).length = m at *
      generalize p.2.2.length = q at *
      have hneg : decide ((m : Int) + (q : Int) < 0) = false := by simp; omega
      go_wp2_with fail
      go_round
      case rel => exact ⟨k + 1, by omega, by go_num, by rw [He.out]; go_num⟩
      case measure => simp [intOf]; omega
    · obtain rfl : k = ps.length := by omega
      rw [List.take_length]
      go_wp2_with fail
      refine (grow_nil _ _ hs).mono ?_
      rintro e w1 ⟨v1, rfl, hown1, hbw1⟩
      go_wp2_with fail
      go_loopw [6, 8, 27] (fun v _ i wr => ∃ k : Nat, k ≤ ps.length ∧ i = .int .i64 k ∧ Own wr w.heap.size v (partsL (ps.take k)) ∧ Below w.heap.size w wr) (fun _ _ i _ => ps.length - (intOf i).toNat)
      case atStart => exact ⟨0, by omega, rfl, hown1, hbw1⟩
      case round =>
        obtain ⟨k, hk, rfl, hown, hbw⟩ := hrel
        by_cases hlt : k < ps.length
        · obtain ⟨b, off, p, hpk, rfl, hbl, hcell, hrp⟩ := (hp.below hbw (Nat.le_refl _)) k hlt
          have Hs := Lib.hid ((congrArg partsL (take_snoc_get hpk)).trans (partsL_snoc _ _))
          have Hl := Lib.hid (show (partsL (ps.take k)).length + p.2.2.length ≤ 140737488355328 by
            have e1 := congrArg List.length Hs.out
            rw [List.length_append] at e1
            have := partsL_take_le ps (k + 1)
            omega)
          have hsz := hbw.size
          clear hpk
          obtain ⟨pA, pc, py⟩ := p
          dsimp only at *
          go_wp2_with (at_builtin; refine app_own rfl (.tmp 31) (.tmp 32) rfl w.heap.size u6 (partsL (ps.take k)) rfl hown _ pA _ pc py rfl rfl hrp Hl.out hsz ?_; intro v2 w2 hown2 hbw2 _ _)
          rw [← Hs.out] at hown2
          go_roundw
          case rel => exact ⟨k + 1, by omega, by go_num, hown2, hbw.trans hbw2⟩
          case measure => simp [intOf]; omega
        · obtain rfl : k = ps.length := by omega
          rw [List.take_length] at hown
          go_wp2_with fail
          go_ret
          exact ⟨_, rfl, hown, hbw⟩

end Go.Proofs.YtebeekjcepjcnaaGreatDoor
