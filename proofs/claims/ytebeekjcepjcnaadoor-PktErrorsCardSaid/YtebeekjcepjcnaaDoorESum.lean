/-
  csum.Sum, Of, Right, Over, Never, Pseudo, Fix.
-/
import Derived.Test.YtebeekjcepjcnaaDoorProg
import Derived.WalkKit
import Derived.WalkSpells
import Derived.WalkLawsBesides
import Derived.WalkSmall
import Derived.Lib.Hide
import Derived.Deep.AppendLies
import Derived.Maps.AppendAt
import Derived.Laws.AppendOwnNone
import Derived.Laws.CopyOwn
import Derived.OneCell
import Derived.Lib.SliceRun
import Derived.RangeFuncNested
import Derived.RangeFuncBound
import Derived.RangeFuncCalls
import Derived.RangeFuncLeaves
import Derived.Shelf.Abstract
import Derived.OwnWalkIn
import Derived.TacticsInMore
import Derived.LoopNIn
import Derived.LoopIn
import Derived.Test.YtebeekjcepjcnaaDoorEBase
import Derived.Test.YtebeekjcepjcnaaDoorEBits
import Derived.Test.YtebeekjcepjcnaaDoorECsum
namespace Go.Proofs.YtebeekjcepjcnaaDoor
open Go.RowKit Go.Shelf
attribute [local go_sem] Oper.semAt_some

def sumS (pre : List W16) : Int := sumW (pre.map (·.1))
theorem sumS_snoc (pre : List W16) (x : W16) : sumS (pre ++ [x]) = joinL [sumS pre, x.1] := by unfold sumS; rw [List.map_append]; exact sumW_snoc _ _
theorem sumS_bd (pre : List W16) : 0 ≤ sumS pre ∧ sumS pre ≤ 65535 := sumW_bd (by
  intro y hy
  obtain ⟨z, _, rfl⟩ := List.mem_map.1 hy
  exact z.2)
theorem sumS_all (bs : List Int) (hb : Byt bs) : sumS (wordsTo' bs hb (nWords bs)) = sumB bs := by
  unfold sumS
  rw [wordsTo'_val]
  rfl

set_option maxRecDepth 100000 in
set_option maxHeartbeats 1000000 in
/-- csum.Sum. -/
theorem sum_any (A : Option Addr) (cap : Nat) (bs : List Int) (w : World) (hb : Byt bs) (hl : bs.length ≤ 1000000) (hr : Rd w w.heap.size A .u8 bs) :
    Calls Tryd.prog 121 #[.slice A bs.length cap] w fun e w' => e = .returned (.int .u16 (sumB bs)) ∧ Below w.heap.size w w' := by
  refine (callsIn_wide (n := 6)).1 ?_
  have hro : Fence.wide.round = none := rfl
  refine callsIn_of_wp_marks Tryd.func121 rfl trivial ?_ hro
  simp only [Tryd.ntmps121, List.size_toArray, List.length_cons, List.length_nil, Nat.reduceAdd, Nat.reduceSub, Array.replicate_succ, Array.replicate_zero, List.push_toArray, List.append_toArray, List.nil_append, List.cons_append]
  gi_wp2_with (refine ⟨trivial, ?_⟩; gi_at_call 162; refine (words_in Fence.wide _ trivial hro _ _ _ _).mono ?_; rintro e w' ⟨rfl, rfl⟩)
  have bS := Boxed.new w 23 (.int .u16 0)
  have bN := Boxed.new (w.alloc (.cells #[.int .u16 0] 23)) 34 (.slice A bs.length cap)
  rw [World.size_alloc] at bN
  have hB0 : Below w.heap.size w ((w.alloc (.cells #[.int .u16 0] 23)).alloc (.cells #[.slice A bs.length cap] 34)) := ((Below.refl _ w).alloc (Nat.le_refl _) _).alloc (by simp) _
  refine wpIn_rangeFunc_ownG hro (show 1 ≤ 6 by omega) (gf := 177) (lb := #[.pointer (some ⟨w.heap.size + 1, 0, none⟩)]) rfl trivial (enters_of Tryd.func177 (by kernel_rfl) rfl)
    (words_stops Fence.wide 5 trivial hro (by omega) (w.heap.size + 1) w.heap.size cap A bs hb hl _ (by simp) (by simp; omega) bN.cell (hr.below hB0 (Nat.le_refl _))) KpB.t (KpB.b (by simp; omega) (by simp)) (Below.refl _ _) (fun _ => rfl)
    (fun pre W => (W.cell? ⟨w.heap.size, 0, none⟩ = some (.int .u16 (sumS pre)) ∧ W.frozen? ⟨w.heap.size, 0, none⟩ = false ∧ W.cell? ⟨w.heap.size + 1, 0, none⟩ = some (.slice A bs.length cap)) ∧ Below w.heap.size w W)
    (fun _ _ _ => False)
    (OwnFrom.and (Own.from (fun s A B row hs hg hr => ⟨cell_kept hs.1 hg hr, (frozen_kept hs.1 hg hr).trans hs.2.1, cell_kept hs.2.2 hg hr⟩) _) (ownFrom_below (Nat.le_refl _) (by simp; omega)))
    (fun _ _ _ _ _ hs _ _ => hs)
    ⟨⟨(bS.alloc _).cell, (bS.alloc _).frozen, bN.cell⟩, hB0⟩
    (fun x => { tmps := #[.slice A bs.length cap, undef, .int .u16 0, .pointer (some ⟨w.heap.size, 0, none⟩), .int .u16 x.1, .slice A bs.length cap, .func (.func 177) #[] #[.pointer (some ⟨w.heap.size + 1, 0, none⟩)], .int .u16 x.1, undef, undef, undef, undef, undef], defers := [] }) ?assign ?body ?done ?stop
  case assign =>
    intro l x W K hK
    gi_wp2
    exact hK
  case body =>
    rintro l pre x W ⟨⟨hc, hf, hc2⟩, hB⟩ _
    have hl1 : w.heap.size < W.heap.size := World.lt_of_cell hc
    have hl2 : w.heap.size + 1 < W.heap.size := World.lt_of_cell hc2
    have hca := fun o => (World.cell?_alloc_lt W o ⟨w.heap.size, 0, none⟩ hl1).trans hc
    have hfa := fun o => (World.frozen?_alloc_lt' W o ⟨w.heap.size, 0, none⟩ hl1).trans hf
    have hs := sumS_bd pre
    gi_wp2_with fail
    refine ⟨trivial, (CallsIn.inRound l (callsIn_wide.2 (join_any _ 2 [sumS pre, x.1] _ (by simp) (fun y hy => by simp at hy; rcases hy with rfl | rfl; omega; exact x.2) (by simpa using Rd.new W .u16 [sumS pre, x.1] 23)))).mono ?_⟩
    rintro e w' ⟨rfl, rfl⟩
    rw [← sumS_snoc]
    gi_wp2
    refine ⟨KeepsOthers.from ((KeepsOthers.setCell _ _ _).trans (KeepsOthers.alloc _ _)) _, ⟨((Below.refl w.heap.size W).setCell (p := ⟨w.heap.size, 0, none⟩) (Nat.le_refl _) _).alloc (by simp; omega) _, ?_⟩, ⟨?_, ?_, ?_⟩, (hB.setCell (p := ⟨w.heap.size, 0, none⟩) (Nat.le_refl _) _).alloc (by simp; omega) _⟩
    · exact (Below.heap_alloc _ _ _ (by simp; omega)).trans (Below.heap_setCell _ ⟨w.heap.size, 0, none⟩ _ _ (by simp))
    · exact (World.cell?_alloc_lt _ _ ⟨w.heap.size, 0, none⟩ (by simp; omega)).trans (World.cell?_setCell_same' _ _ _ (by rw [hc]; rfl))
    · exact (World.frozen?_alloc_lt' _ _ ⟨w.heap.size, 0, none⟩ (by simp; omega)).trans (by rw [World.frozen?_setCell]; exact hf)
    · exact (World.cell?_alloc_lt _ _ ⟨w.heap.size + 1, 0, none⟩ (by simp; omega)).trans ((World.cell?_setCell_other _ _ _ _ (by simp)).trans hc2)
  case done =>
    rintro D ys W hD rfl ⟨⟨hc, _⟩, hB⟩ hK
    rw [sumS_all] at hc
    gi_wp2
    refine ⟨by simp, .inl ⟨_, _, rfl, run_takeDeferred hK, ?_⟩⟩
    exact ⟨_, results_tmp rfl _ _ _, rfl, hB.trans (belowK_b (w := w) (Nat.le_refl _) W D _ _ (by simp at hD; omega) hK rfl rfl)⟩
  case stop =>
    rintro D c pre W _ _ h _
    exact h.elim

def ofB (bs : List Int) : Int := 65535 - sumB bs
def overB (p : Int) (bs : List Int) : Int := 65535 - joinL [p, sumB bs]
def pseudoL (src dst proto len : Int) : Int := joinL [src / 65536, src % 65536, dst / 65536, dst % 65536, proto, len]
theorem ofB_bd {bs : List Int} (h : Byt bs) : 0 ≤ ofB bs ∧ ofB bs ≤ 65535 := by have := sumB_bd h; unfold ofB; omega
theorem joinL2_bd {a b : Int} (ha : 0 ≤ a ∧ a < 65536) (hb : 0 ≤ b ∧ b < 65536) : 0 ≤ joinL [a, b] ∧ joinL [a, b] ≤ 65535 :=
  joinL_bd (by intro y hy; simp at hy; rcases hy with rfl | rfl <;> assumption)
theorem overB_bd {bs : List Int} (h : Byt bs) {p : Int} (h0 : 0 ≤ p) (h1 : p < 65536) : 0 ≤ overB p bs ∧ overB p bs ≤ 65535 := by
  have := joinL2_bd (a := p) (b := sumB bs) ⟨h0, h1⟩ (by have := sumB_bd h; omega)
  unfold overB; omega

theorem nat_xor_max (x : Nat) (h : x < 65536) : (65535 ^^^ x) = 65535 - x := by
  have := BitVec.toNat_not (x := BitVec.ofNat 16 x)
  rw [BitVec.not_def, BitVec.toNat_xor] at this
  simp only [BitVec.toNat_allOnes, BitVec.toNat_ofNat] at this
  have hm : x % 2 ^ 16 = x := Nat.mod_eq_of_lt (by omega)
  rw [hm] at this
  simpa using this
theorem not_u16 (x : Int) (h0 : 0 ≤ x) (h1 : x ≤ 65535) : bits .xor .u16 IntKind.u16.max x = 65535 - x := by
  rw [show IntKind.u16.max = 65535 by simp [IntKind.max, IntKind.signed, IntKind.bits], u16_xor _ _ (by omega) (by omega) h0 (by omega)]
  have : ((65535 : Int).toNat ^^^ x.toNat) = 65535 - x.toNat := nat_xor_max x.toNat (by omega)
  rw [this]; omega

set_option maxHeartbeats 400000 in
theorem of_any (A : Option Addr) (cap : Nat) (bs : List Int) (w : World) (hb : Byt bs) (hl : bs.length ≤ 1000000) (hr : Rd w w.heap.size A .u8 bs) :
    Calls Tryd.prog 72 #[.slice A bs.length cap] w fun e w' => e = .returned (.int .u16 (ofB bs)) ∧ Below w.heap.size w w' := by
  have hs := sumB_bd hb
  have hx := not_u16 (sumB bs) hs.1 hs.2
  have hsg : IntKind.u16.signed = false := rfl
  go_enter Tryd.func72, Tryd.ntmps72
  go_wp2_with (go_at_call 121; refine (sum_any _ _ _ _ hb hl hr).mono ?_; rintro e w' ⟨rfl, hbw⟩)
  go_ret
  exact ⟨rfl, hbw⟩

set_option maxHeartbeats 400000 in
theorem right_any (A : Option Addr) (cap : Nat) (bs : List Int) (w : World) (hb : Byt bs) (hl : bs.length ≤ 1000000) (hr : Rd w w.heap.size A .u8 bs) :
    Calls Tryd.prog 103 #[.slice A bs.length cap] w fun e w' => e = .returned (.bool (ofB bs == 0)) ∧ Below w.heap.size w w' := by
  go_enter Tryd.func103, Tryd.ntmps103
  go_wp2_with (go_at_call 72; refine (of_any _ _ _ _ hb hl hr).mono ?_; rintro e w' ⟨rfl, hbw⟩)
  go_ret
  exact ⟨rfl, hbw⟩

set_option maxHeartbeats 400000 in
theorem over_any (p : Int) (A : Option Addr) (cap : Nat) (bs : List Int) (w : World) (h0 : 0 ≤ p) (h1 : p < 65536) (hb : Byt bs) (hl : bs.length ≤ 1000000) (hr : Rd w w.heap.size A .u8 bs) :
    Calls Tryd.prog 160 #[.int .u16 p, .slice A bs.length cap] w fun e w' => e = .returned (.int .u16 (overB p bs)) ∧ Below w.heap.size w w' := by
  have hs := sumB_bd hb
  have hj := joinL2_bd (a := p) (b := sumB bs) ⟨h0, h1⟩ (by omega)
  have hx := not_u16 (joinL [p, sumB bs]) hj.1 hj.2
  have hsg : IntKind.u16.signed = false := rfl
  go_enter Tryd.func160, Tryd.ntmps160
  go_wp2_with fail
  refine (sum_any _ _ _ _ hb hl hr).mono ?_
  rintro e w1 ⟨rfl, hbw⟩
  go_wp2_with fail
  refine (join_any _ 2 [p, sumB bs] _ (by simp) (fun y hy => by simp at hy; rcases hy with rfl | rfl <;> omega) (by simpa using Rd.new w1 .u16 [p, sumB bs] 23)).mono ?_
  rintro e w2 ⟨rfl, rfl⟩
  go_wp2_with fail
  go_ret
  exact ⟨rfl, hbw.alloc hbw.size _⟩

def neverB (c : Int) : Int := if c = 0 then 65535 else c
set_option maxHeartbeats 400000 in
theorem never_any (c : Int) (w : World) : Calls Tryd.prog 161 #[.int .u16 c] w fun e w' => e = .returned (.int .u16 (neverB c)) ∧ w = w' := by
  by_cases h : c = 0
  · subst h
    go_enter Tryd.func161, Tryd.ntmps161
    go_wp2
    go_ret
    exact ⟨rfl, rfl⟩
  · have Hn := Lib.hid (show neverB c = c by unfold neverB; rw [if_neg h])
    have h1 : (c == 0) = false := by simpa using h
    rw [Hn.out]
    go_enter Tryd.func161, Tryd.ntmps161
    go_wp2
    go_ret
    exact ⟨rfl, rfl⟩

set_option maxHeartbeats 400000 in
/-- csum.Pseudo, at a length that is right. -/
theorem pseudo_any (src dst proto len : Int) (w : World) (hs0 : 0 ≤ src) (hs1 : src < 4294967296) (hd0 : 0 ≤ dst) (hd1 : dst < 4294967296) (hp0 : 0 ≤ proto) (hp1 : proto < 256) (hl0 : 0 ≤ len) (hl1 : len ≤ 65535) :
    Calls Tryd.prog 159 #[.int .u32 src, .int .u32 dst, .int .u8 proto, .int .i64 len] w fun e w' => e = .returned (.tuple #[.int .u16 (pseudoL src dst proto len), .int .i64 0]) ∧ Below w.heap.size w w' := by
  have hws := IntKind.wrap_u16 src
  have hwd := IntKind.wrap_u16 dst
  go_enter Tryd.func159, Tryd.ntmps159
  go_wp2_with fail
  refine (join_any _ 6 [src / 65536, src % 65536, dst / 65536, dst % 65536, proto, len] _ (by simp) (fun y hy => by simp at hy; rcases hy with rfl | rfl | rfl | rfl | rfl | rfl <;> omega) (by simpa using Rd.new w .u16 [src / 65536, src % 65536, dst / 65536, dst % 65536, proto, len] 23)).mono ?_
  rintro e w2 ⟨rfl, rfl⟩
  go_wp2_with fail
  go_ret2
  exact ⟨rfl, (Below.refl _ _).alloc (Nat.le_refl _) _⟩

end Go.Proofs.YtebeekjcepjcnaaDoor
