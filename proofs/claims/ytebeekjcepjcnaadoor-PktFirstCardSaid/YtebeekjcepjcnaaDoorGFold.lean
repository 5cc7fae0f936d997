/-
  The checksum two ways: folded at each step, and by remainders at the end.
  The reference of layer 2, checksums by remainders: it computes what the program computes. The reference's numbers as bytes: layers 5 and 8.
  The reference of layer 5: Right and Write at a header without options.
  The references of layers 8 and 9: Sane, Extent, and both Writes. The reference of layer 9: Write. The reference of layer 8: Write, at a header that is right and has no options.
-/
import Derived.Test.YtebeekjcepjcnaaDoorProg
import Derived.WalkKit
import Derived.WalkSpells
import Derived.WalkLawsBesides
import Derived.WalkSmall
import Derived.Lib.Hide
import Derived.Deep.AppendLies
import Derived.Maps.AppendAt
import Derived.Laws.AppendOwnNone
import Derived.Laws.CopyOwn
import Derived.OneCell
import Derived.Lib.SliceRun
import Derived.RangeFuncNested
import Derived.RangeFuncBound
import Derived.RangeFuncCalls
import Derived.RangeFuncLeaves
import Derived.Shelf.Abstract
import Derived.OwnWalkIn
import Derived.TacticsInMore
import Derived.LoopNIn
import Derived.LoopIn
import Derived.Orders
import Derived.RegionTactic
import Derived.Still
import Derived.Deep.MidRow
import Derived.Deep.DeepCutAuto
import Derived.Lib.AppendZeros
import Derived.Deep.RegionLaw
import Derived.Deep.RegionHeld3
import Derived.BigRegion
import Derived.ChangeAlike
import Derived.Test.YtebeekjcepjcnaaDoorGBase
import Derived.Test.YtebeekjcepjcnaaDoorGBits
import Derived.Test.YtebeekjcepjcnaaDoorGCsum
import Derived.Test.YtebeekjcepjcnaaDoorGSum
import Derived.Test.YtebeekjcepjcnaaDoorGFix
import Derived.Test.YtebeekjcepjcnaaDoorGFacts
import Derived.Test.YtebeekjcepjcnaaDoorGPkt
import Derived.Test.YtebeekjcepjcnaaDoorGWalk
import Derived.Test.YtebeekjcepjcnaaDoorGStep
import Derived.Test.YtebeekjcepjcnaaDoorGTcpw
import Derived.Test.YtebeekjcepjcnaaDoorGUdpw
import Derived.Test.YtebeekjcepjcnaaDoorGData
namespace Go.Proofs.YtebeekjcepjcnaaDoor
open Go.RowKit

def foldF (s : Int) : Int := if s = 0 then 0 else 1 + (s - 1) % 65535
theorem foldF_bd {s : Int} (_h : 0 ≤ s) : 0 ≤ foldF s ∧ foldF s ≤ 65535 := by unfold foldF; split <;> omega
theorem fold1_foldF {x : Int} (h0 : 0 ≤ x) (h1 : x ≤ 131070) : fold1 x = foldF x := by unfold fold1 foldF; split <;> omega
theorem foldF_add {a b : Int} (ha : 0 ≤ a) (hb : 0 ≤ b) : foldF (foldF a + b) = foldF (a + b) := by
  unfold foldF
  split <;> split <;> split <;> omega
def sumI : List Int → Int
  | [] => 0
  | x :: l => x + sumI l
theorem sumI_append (a b : List Int) : sumI (a ++ b) = sumI a + sumI b := by
  induction a with
  | nil => simp [sumI]
  | cons x a ih => simp only [List.cons_append, sumI, ih]; omega
theorem foldl_fold1 (l : List Int) (h : U16s l) : ∀ s, 0 ≤ s → l.foldl (fun s w => fold1 (s + w)) (foldF s) = foldF (s + sumI l) := by
  induction l with
  | nil => intro s _; simp [sumI]
  | cons x l ih =>
    intro s hs
    have hx := h x (by simp)
    have hf := foldF_bd hs
    simp only [List.foldl_cons, sumI]
    rw [fold1_foldF (by omega) (by omega), foldF_add hs hx.1, ih (fun y hy => h y (by simp [hy])) _ (by omega)]
    congr 1; omega
theorem joinL_foldF {l : List Int} (h : U16s l) : joinL l = foldF (sumI l) := by
  have := foldl_fold1 l h 0 (Int.le_refl _)
  simpa [joinL, foldF] using this
theorem joinL_two {a b : Int} (ha : 0 ≤ a ∧ a < 65536) (hb : 0 ≤ b ∧ b < 65536) : joinL [a, b] = foldF (a + b) := by
  rw [joinL_foldF (by intro y hy; simp at hy; rcases hy with rfl | rfl <;> assumption)]
  simp [sumI]
theorem foldl_joinL (l : List Int) (h : U16s l) : ∀ s, 0 ≤ s → l.foldl (fun s w => joinL [s, w]) (foldF s) = foldF (s + sumI l) := by
  induction l with
  | nil => intro s _; simp [sumI]
  | cons x l ih =>
    intro s hs
    have hx := h x (by simp)
    have hf := foldF_bd hs
    simp only [List.foldl_cons, sumI]
    rw [joinL_two ⟨hf.1, by omega⟩ hx, foldF_add hs hx.1, ih (fun y hy => h y (by simp [hy])) _ (by omega)]
    congr 1; omega
theorem sumW_foldF {l : List Int} (h : U16s l) : sumW l = foldF (sumI l) := by
  have := foldl_joinL l h 0 (Int.le_refl _)
  simpa [sumW, foldF] using this

/-- The sum of some bytes, byte by byte. -/
def byteSum (bs : List Int) : Nat → Int
  | 0 => 0
  | k + 1 => byteSum bs k + (if k % 2 = 0 then 256 * bs.getD k 0 else bs.getD k 0)
theorem byteSum_even (bs : List Int) (k : Nat) : byteSum bs (2 * k) = sumI (wordsTo bs k) := by
  induction k with
  | zero => rfl
  | succ k ih =>
    rw [wordsTo_succ, sumI_append, show 2 * (k + 1) = 2 * k + 1 + 1 by omega]
    simp only [byteSum, ih, sumI, wordAt]
    rw [if_pos (by omega), if_neg (by omega)]
    omega
theorem byteSum_all (bs : List Int) : byteSum bs bs.length = sumI (wordsL bs) := by
  unfold wordsL nWords
  rcases Nat.mod_two_eq_zero_or_one bs.length with h | h
  · obtain ⟨k, hk⟩ : ∃ k, bs.length = 2 * k := ⟨bs.length / 2, by omega⟩
    rw [hk, byteSum_even]
    congr 2; omega
  · obtain ⟨k, hk⟩ : ∃ k, bs.length = 2 * k + 1 := ⟨bs.length / 2, by omega⟩
    rw [show (bs.length + 1) / 2 = k + 1 by omega, wordsTo_succ, sumI_append, hk]
    simp only [byteSum, byteSum_even, sumI, wordAt]
    rw [if_pos (by omega), show bs.getD (2 * k + 1) 0 = 0 by rw [List.getD_eq_getElem?_getD, List.getElem?_eq_none (by omega)]; rfl]
    omega
theorem byteSum_bd {bs : List Int} (h : Byt bs) (k : Nat) : 0 ≤ byteSum bs k ∧ byteSum bs k ≤ 65280 * (k : Int) := by
  induction k with
  | zero => simp [byteSum]
  | succ k ih =>
    have := h.at_ k
    simp only [byteSum]
    split <;> omega
theorem sumB_foldF {bs : List Int} (hb : Byt bs) : sumB bs = foldF (byteSum bs bs.length) := by
  rw [byteSum_all]
  exact sumW_foldF (U16s.words bs hb _)
end Go.Proofs.YtebeekjcepjcnaaDoor
namespace Go.Proofs.YtebeekjcepjcnaaDoor
open Go.RowKit Go.Shelf

set_option maxHeartbeats 400000 in
theorem rFold_any (s : Int) (w : World) (h0 : 0 ≤ s) (h1 : s ≤ 1000000000000) : Calls Tryd.prog 164 #[.int .i64 s] w fun e w' => e = .returned (.int .i64 (foldF s)) ∧ w = w' := by
  by_cases h : s = 0
  · subst h
    go_enter Tryd.func164, Tryd.ntmps164
    go_wp2_with fail
    go_ret
    exact ⟨rfl, rfl⟩
  · have hb : (s == 0) = false := by simpa using h
    have Hr := Lib.hid (show foldF s = 1 + (s - 1) % 65535 from if_neg h)
    rw [Hr.out]
    have hs1 : 1 ≤ s := by omega
    clear h h0
    go_enter Tryd.func164, Tryd.ntmps164
    go_wp2_with fail
    go_ret
    exact ⟨rfl, rfl⟩

set_option maxHeartbeats 1000000 in
theorem rSum_any (A : Option Addr) (cap : Nat) (bs : List Int) (w : World) (hb : Byt bs) (hl : bs.length ≤ 1000000) (hr : Rd w w.heap.size A .u8 bs) :
    Calls Tryd.prog 135 #[.slice A bs.length cap] w fun e w' => e = .returned (.int .i64 (sumB bs)) ∧ w = w' := by
  have Hb := Lib.hid hb
  have Hs := Lib.hid (sumB_foldF hb)
  clear hb
  go_enter Tryd.func135, Tryd.ntmps135
  go_wp2
  go_loop [3, 4] (fun s i => ∃ k : Nat, k ≤ bs.length ∧ i = .int .i64 k ∧ s = .int .i64 (byteSum bs k)) (fun _ i => bs.length - (intOf i).toNat)
  case atStart => exact ⟨0, by omega, rfl, rfl⟩
  case round =>
    obtain ⟨k, hk, rfl, rfl⟩ := hrel
    have hbd := byteSum_bd Hb.out k
    by_cases hlt : k < bs.length
    · obtain ⟨b, off, rfl, _, hcell⟩ := hr k hlt
      have hx := Hb.out.at_ k
      have Hn := Lib.hid (show byteSum bs (k + 1) = byteSum bs k + (if k % 2 = 0 then 256 * bs.getD k 0 else bs.getD k 0) from rfl)
      generalize byteSum bs k = S at *
      generalize bs.getD k 0 = x at *
      rcases Nat.mod_two_eq_zero_or_one k with hm | hm
      · have Hn2 := Lib.hid (Hn.out.trans (by rw [if_pos hm]))
        have hb2 : (((k : Int) % 2) == 0) = true := by simp; omega
        clear hm
        go_wp2
        go_round
        case rel => exact ⟨k + 1, by omega, by go_num, by rw [Hn2.out]⟩
        case measure => simp [intOf]; omega
      · have Hn2 := Lib.hid (Hn.out.trans (by rw [if_neg (by omega)]))
        have hb2 : (((k : Int) % 2) == 0) = false := by simp; omega
        clear hm
        go_wp2
        go_round
        case rel => exact ⟨k + 1, by omega, by go_num, by rw [Hn2.out]⟩
        case measure => simp [intOf]; omega
    · obtain rfl : k = bs.length := by omega
      generalize byteSum bs bs.length = S at *
      go_wp2_with fail
      refine (rFold_any S _ hbd.1 (by omega)).mono ?_
      rintro e w' ⟨rfl, rfl⟩
      go_wp2_with fail
      go_ret
      exact ⟨by rw [Hs.out]; rfl, rfl⟩

set_option maxHeartbeats 400000 in
theorem rOf_any (A : Option Addr) (cap : Nat) (bs : List Int) (w : World) (hb : Byt bs) (hl : bs.length ≤ 1000000) (hr : Rd w w.heap.size A .u8 bs) :
    Calls Tryd.prog 96 #[.slice A bs.length cap] w fun e w' => e = .returned (.int .i64 (ofB bs)) ∧ w = w' := by
  have Hs := Lib.hid (rSum_any A cap bs w hb hl hr)
  have hbd := sumB_bd hb
  unfold ofB
  generalize sumB bs = S at *
  go_enter Tryd.func96, Tryd.ntmps96
  go_wp2_with fail
  refine Hs.out.mono ?_
  rintro e w1 ⟨rfl, rfl⟩
  go_wp2_with fail
  go_ret
  exact ⟨rfl, rfl⟩

/-- A slice that a literal lays. -/
theorem own_lit (w : World) (base n : Nat) (xs : List Int) (cs : Array Value) (hcs : cs = (U8 xs).toArray) (hn : xs.length = n) (hm : n ≤ maxLen) (hbase : base ≤ w.heap.size) :
    Own (w.alloc (.cells cs 5)) base (.slice (some ⟨w.heap.size, 0, none⟩) n n) xs := by
  subst hcs; subst hn
  exact ⟨by simp [U8], .inr ⟨w.heap.size, xs.length, _, rfl, hbase, heap_alloc_new w _, Nat.le_refl _, hm, by simp [U8], by rw [Nat.mul_one]; exact List.take_of_length_le (by simp [U8])⟩⟩

set_option maxRecDepth 100000 in
set_option maxHeartbeats 1000000 in
theorem rFix_any (A : Option Addr) (cap : Nat) (bs : List Int) (at_ : Nat) (w : World) (hb : Byt bs) (hl : bs.length ≤ 1000000) (hr : Rd w w.heap.size A .u8 bs) (hev : at_ % 2 = 0) (hat : at_ + 2 ≤ bs.length) :
    Calls Tryd.prog 53 #[.slice A bs.length cap, .int .i64 at_] w fun e w' => ∃ v, e = .returned (.tuple #[v, .int .i64 0]) ∧ Own w' w.heap.size v (fixL bs at_) ∧ Below w.heap.size w w' := by
  have h1 : decide ((at_ : Int) < 0) = false := by simp
  have h2 : (((at_ : Int) % 2) == 1) = false := by simp; omega
  have h3 : decide ((bs.length : Int) ≤ (at_ : Int)) = false := by simp; omega
  have h4 : decide ((bs.length : Int) < (at_ : Int) + 2) = false := by simp; omega
  clear hev
  go_enter Tryd.func53, Tryd.ntmps53
  go_upto_region 3 with (fail)
  go_upto_region 4 with (at_builtin; refine app_own rfl (.tmp 28) (.tmp 29) rfl w.heap.size _ [] rfl (own_lit w w.heap.size 0 [] _ rfl rfl (by simp [maxLen]) (Nat.le_refl _)) _ A _ cap bs rfl rfl (hr.alloc (Nat.le_refl _) _) (by simp; omega) (by simp) ?_; intro v1 w1 hown hbw _ _)
  have hsz := hbw.size
  obtain ⟨g, cap', rfl, hg0, hg1, _, _⟩ := hown.form (by simp; omega)
  rw [List.nil_append] at hown ⊢
  have c0 : w1.cell? ⟨g, at_, none⟩ = some (.int .u8 (bs.getD at_ 0)) := hown.cell at_ (by omega)
  have c1 : w1.cell? ⟨g, at_ + 1, none⟩ = some (.int .u8 (bs.getD (at_ + 1) 0)) := hown.cell (at_ + 1) (by omega)
  have f0 : w1.frozen? ⟨g, at_, none⟩ = false := hown.free at_
  have f1 : w1.frozen? ⟨g, at_ + 1, none⟩ = false := hown.free (at_ + 1)
  have hz := (hown.set at_ 0).set (at_ + 1) 0
  have Hz : Hid (Own _ _ _ (zeroAt bs at_)) := Lib.hid hz
  clear hz
  have hbz := zeroAt_byt hb at_
  have hob := ofB_bd hbz
  have Hlz := Lib.hid (zeroAt_len bs at_)
  generalize bs.getD at_ 0 = x0 at *
  generalize bs.getD (at_ + 1) 0 = x1 at *
  go_wp2_with fail
  have hof := rOf_any (some ⟨g, 0, none⟩) cap' (zeroAt bs at_) _ hbz (by rw [Hlz.out]; exact hl) Hz.out.rd
  rw [Hlz.out] at hof
  refine hof.mono ?_
  rintro e w2 ⟨rfl, rfl⟩
  have hbz' : Below g w1 ((w1.setCell ⟨g, at_, none⟩ (.int .u8 0)).setCell ⟨g, at_ + 1, none⟩ (.int .u8 0)) := ((Below.refl _ _).setCell (p := ⟨g, at_, none⟩) (Nat.le_refl _) _).setCell (p := ⟨g, at_ + 1, none⟩) (Nat.le_refl _) _
  have hoz := Hz.out
  generalize ((w1.setCell ⟨g, at_, none⟩ (.int .u8 0)).setCell ⟨g, at_ + 1, none⟩ (.int .u8 0)) = w2 at *
  have c2 : w2.cell? ⟨g, at_, none⟩ = some (.int .u8 ((zeroAt bs at_).getD at_ 0)) := hoz.cell at_ (by rw [Hlz.out]; omega)
  have c3 : w2.cell? ⟨g, at_ + 1, none⟩ = some (.int .u8 ((zeroAt bs at_).getD (at_ + 1) 0)) := hoz.cell (at_ + 1) (by rw [Hlz.out]; omega)
  have f2 : w2.frozen? ⟨g, at_, none⟩ = false := hoz.free at_
  have f3 : w2.frozen? ⟨g, at_ + 1, none⟩ = false := hoz.free (at_ + 1)
  generalize (zeroAt bs at_).getD at_ 0 = x2 at *
  generalize (zeroAt bs at_).getD (at_ + 1) 0 = x3 at *
  have hwr := IntKind.wrap_u8 (ofB (zeroAt bs at_))
  have Hfin := Lib.hid ((hoz.set at_ (ofB (zeroAt bs at_) / 256)).set (at_ + 1) (ofB (zeroAt bs at_) % 256))
  have Hbw := Lib.hid (show Below w.heap.size w w2 from (((Below.refl _ _).alloc (Nat.le_refl _) _).trans hbw).trans (hbz'.mono hg0))
  clear hbz' c0 c1 f0 f1 hbw hoz Hz
  go_wp2_with fail
  go_ret2
  exact ⟨_, rfl, Hfin.out, (Hbw.out.setCell (p := ⟨g, at_, none⟩) hg0 _).setCell (p := ⟨g, at_ + 1, none⟩) hg0 _⟩

end Go.Proofs.YtebeekjcepjcnaaDoor

namespace Go.Proofs.YtebeekjcepjcnaaDoor
open Go.RowKit Go.Shelf

end Go.Proofs.YtebeekjcepjcnaaDoor
namespace Go.Proofs.YtebeekjcepjcnaaDoor
open Go.RowKit Go.Shelf

/-- A chain of appends onto a row of the call's own, beside one block that is only read. -/
structure Ch (w0 : World) (t : TypeId) (cs : Array Value) (W : World) (v : Value) (L : List Int) : Prop where
  below : Below w0.heap.size w0 W
  size : w0.heap.size + 1 ≤ W.heap.size
  blk : Blk W w0.heap.size t cs
  own : Own W (w0.heap.size + 1) v L
section
variable {w0 W W' : World} {t : TypeId} {cs : Array Value} {v v' : Value} {L L' : List Int}
theorem Ch.call (h : Ch w0 t cs W v L) (l : Below W.heap.size W W') : Ch w0 t cs W' v L :=
  ⟨h.below.trans (l.mono h.below.size), Nat.le_trans h.size l.size, h.blk.below l h.blk.lt, h.own.below l (Nat.le_refl _)⟩
theorem Ch.start {cs' : Array Value} {n : Nat} (h : Below w0.heap.size w0 W) (hb : Blk W w0.heap.size t cs) (hcs : cs' = (U8 L).toArray) (hn : L.length = n) (hm : n ≤ maxLen) :
    Ch w0 t cs (W.alloc (.cells cs' 5)) (.slice (some ⟨W.heap.size, 0, none⟩) n n) L :=
  ⟨h.alloc h.size _, by have := hb.lt; simp; omega, hb.alloc _, own_lit W _ n L cs' hcs hn hm hb.lt⟩
end

end Go.Proofs.YtebeekjcepjcnaaDoor
namespace Go.Proofs.YtebeekjcepjcnaaDoor
open Go.RowKit Go.Shelf

end Go.Proofs.YtebeekjcepjcnaaDoor

namespace Go.Proofs.YtebeekjcepjcnaaDoor
open Go.RowKit Go.Shelf

end Go.Proofs.YtebeekjcepjcnaaDoor

namespace Go.Proofs.YtebeekjcepjcnaaDoor
open Go.RowKit Go.Shelf

/-- An append onto an own row that is full: a new block. -/
theorem run_app_grow (w : World) (ty : TypeId) (base g n cap : Nat) (xs : List Int) (hown : Own w base (.slice (some ⟨g, 0, none⟩) n cap) xs) (B : Nat) (A : Option Addr) (c : Nat) (ys : List Int) (hr : Rd w B A .u8 ys) (h0 : 0 < ys.length)
    (hfull : cap < n + ys.length) (hb : n + ys.length ≤ 140737488355328) (base' : Nat) (hbase : base' ≤ w.heap.size) :
    ∃ v' w', (Builtin.append_ #[34, 34] ty #[.slice (some ⟨g, 0, none⟩) n cap, .slice A ys.length c]).run Tryd.prog w = .ok v' w' ∧ Own w' base' v' (xs ++ ys) ∧ Below w.heap.size w w' := by
  obtain rfl := hown.len
  obtain ⟨i, hi, hz, hs, hby⟩ := info_parts u8info
  obtain ⟨b, off, rfl, _, _⟩ := hr.at0 h0
  have holds : ∀ j u, (U8 xs)[j]? = some u → w.cell? ((⟨g, 0, none⟩ : Addr).add j) = some u := World.ownsRow.cells hown rfl
  have hsmall : xs.length + ys.length ≤ maxLen := by simp only [maxLen]; omega
  have hrun := run_append_grow (P := Tryd.prog) w 34 ty 5 i (.int .u8 0) Tryd.underlying34 hi hz ⟨g, 0, none⟩ xs.length cap (U8 xs) (by simp [U8, hs]) holds ⟨b, off, none⟩ ys.length c (U8 ys) (by simp [U8, hs]) hr.cells (by omega) (by simp only [maxLen] at hsmall; omega) (growslice_fits (by omega) (by rw [hby]; omega))
  have hge := grownCap_ge w (xs.length + ys.length) cap 5
  have hcm := grownCap_le_maxLen w (xs.length + ys.length) cap 5 hsmall
  refine ⟨_, _, hrun, Own.mk' (n := xs.length + ys.length) (l := U8 xs ++ U8 ys) ⟨by simp [U8], .inr ⟨w.heap.size, _, _, rfl, hbase, heap_alloc_new w.drew _, hge, hcm, ?_, ?_⟩⟩ (by simp) (U8_append _ _).symm, ?_⟩
  · simp only [Array.size_append, List.size_toArray, size_zeroCells, U8_length]
    simp only [Value.cells]
    show _ = _
    simp
    omega
  · simp only [Array.toList_append, List.append_assoc]
    rw [← List.append_assoc]
    rw [show (xs.length + ys.length) * 1 = (U8 xs ++ U8 ys).length by simp [U8]]
    exact List.take_left
  · exact (Below.refl w.heap.size w).drew.alloc (by simp) _
/-- THE ARM of an append that grows. -/
theorem app_grow {w : World} {ops : Array Oper} {rest : List Oper} {o : Oper} {a : Act} {Q : Exit → Act → World → Prop} (hgd : o.guard = none) (s x : Operand)
    (ho : o.op = .call { callee := .builtin .append, args := #[s, x], argTypes := #[34, 34] })
    (base g n cap : Nat) (xs : List Int) (hs : a.eval s = .slice (some ⟨g, 0, none⟩) n cap) (hown : Own w base (.slice (some ⟨g, 0, none⟩) n cap) xs) (B : Nat) (A : Option Addr) (m c : Nat) (ys : List Int)
    (hx : a.eval x = .slice A m c) (hm : m = ys.length) (hr : Rd w B A .u8 ys) (h0 : 0 < ys.length) (hfull : cap < n + ys.length) (hb : n + ys.length ≤ 140737488355328) (base' : Nat) (hbase : base' ≤ w.heap.size)
    (h : ∀ v' w', Own w' base' v' (xs ++ ys) → Below w.heap.size w w' → wpList Tryd.prog ops Q rest (a.put o.dst v') w') :
    wpList Tryd.prog ops Q (o :: rest) a w := by
  subst hm
  refine wpList_plain hgd fun K hK => ?_
  obtain ⟨v', w', hrun, h2, h3⟩ := run_app_grow w o.type base g n cap xs hown B A c ys hr h0 hfull hb base' hbase
  unfold Oper.wp execOp
  simp only [ho, resolve, invoke, builtin, Sem.run_bind, Sem.run_pure, Result.andThen_ok, List.map_toArray, List.map_cons, List.map_nil, hs, hx, hrun]
  exact hK _ _ (h v' w' h2 h3)
end Go.Proofs.YtebeekjcepjcnaaDoor
