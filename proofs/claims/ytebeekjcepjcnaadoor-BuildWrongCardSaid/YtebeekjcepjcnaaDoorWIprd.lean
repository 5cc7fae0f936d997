/-
  Package ip, reading: word, long, header.
  The checksum two ways: folded at each step, and by remainders at the end.
  The reference of layer 2, checksums by remainders: it computes what the program computes. The reference's numbers as bytes: layers 5 and 8.
  The reference of layer 5: Right and Write at a header without options.
  The reference of layer 10: codes, Kind, Write.
  The references of layers 8 and 9: Sane, Extent, and both Writes. The reference of layer 9: Write. The reference of layer 8: Write, at a header that is right and has no options.
-/
import Derived.WalkKit
import Derived.WalkSpells
import Derived.WalkLawsBesides
import Derived.WalkSmall
import Derived.Lib.Hide
import Derived.Deep.AppendLies
import Derived.Maps.AppendAt
import Derived.Laws.AppendOwnNone
import Derived.Laws.CopyOwn
import Derived.OneCell
import Derived.Test.YtebeekjcepjcnaaDoorProg
import Derived.Lib.SliceRun
import Derived.RangeFuncNested
import Derived.RangeFuncBound
import Derived.RangeFuncCalls
import Derived.RangeFuncLeaves
import Derived.Shelf.Abstract
import Derived.OwnWalkIn
import Derived.TacticsInMore
import Derived.LoopNIn
import Derived.LoopIn
import Derived.Lib.AppendZeros
import Derived.BigRegion
import Derived.ChangeAlike
import Derived.Deep.RegionLaw
import Derived.Deep.DeepCutAuto
import Derived.Orders
import Derived.RegionTactic
import Derived.Still
import Derived.Deep.MidRow
import Derived.Deep.RegionHeld3
import Derived.MapKept
import Derived.Test.YtebeekjcepjcnaaDoorWBase
import Derived.Test.YtebeekjcepjcnaaDoorWBits
import Derived.Test.YtebeekjcepjcnaaDoorWCsum
import Derived.Test.YtebeekjcepjcnaaDoorWSum
import Derived.Test.YtebeekjcepjcnaaDoorWConcat
import Derived.Test.YtebeekjcepjcnaaDoorWFix
import Derived.Test.YtebeekjcepjcnaaDoorWFacts
import Derived.Test.YtebeekjcepjcnaaDoorWIpw
import Derived.Test.YtebeekjcepjcnaaDoorWPkt
import Derived.Test.YtebeekjcepjcnaaDoorWRegion
import Derived.Test.YtebeekjcepjcnaaDoorWWalk
import Derived.Test.YtebeekjcepjcnaaDoorWStep
import Derived.Test.YtebeekjcepjcnaaDoorWTcpw
import Derived.Test.YtebeekjcepjcnaaDoorWUdpw
import Derived.Test.YtebeekjcepjcnaaDoorWData
import Derived.Test.YtebeekjcepjcnaaDoorWMaps
import Derived.Test.YtebeekjcepjcnaaDoorWQuoted
import Derived.Test.YtebeekjcepjcnaaDoorWBuilda
import Derived.Test.YtebeekjcepjcnaaDoorWRerr
import Derived.Test.YtebeekjcepjcnaaDoorWIcmpr
namespace Go.Proofs.YtebeekjcepjcnaaDoor
open Go.RowKit

theorem grown_setRow (W : World) (R : Nat) (cs : Array Value) : W.grownBy (W.setRow R cs) (some R) :=
  ⟨rfl, rfl, rfl, by simp, fun i _ hne => setRow_other W R i cs (fun e => hne (by rw [e]))⟩
def GrowR (R : Nat) (W W' : World) : Prop := W.grownBy W' (some R)
theorem GrowR.refl (R : Nat) (W : World) : GrowR R W W := grown_of_below (Below.refl _ _)
theorem GrowR.of {R : Nat} {W W' : World} (h : Below W.heap.size W W') : GrowR R W W' := grown_of_below h
theorem Own.growR {W W' : World} {R : Nat} {v : Value} {xs : List Int} (h : Own W (R + 1) v xs) (hg : GrowR R W W') : Own W' (R + 1) v xs :=
  h.grown hg (by
    cases hv : v.ownBlock with
    | none => exact .inl rfl
    | some g =>
      refine .inr (fun e => ?_)
      have := (h.lt hv).1
      injection e with e
      omega)
/-- A block that a region stores into once, at its end, with a value of its own. -/
def StV (w : World) (R : Nat) (t : TypeId) (z : Array Value) (N : Value → Array Value) (xs : List Int) (c : Nat) (W : World) : Prop :=
  Below w.heap.size w W ∧ w.heap.size ≤ R ∧ R < W.heap.size ∧ (if c = 0 then Blk W R t z else ∃ v, Blk W R t (N v) ∧ Own W (R + 1) v xs)
section
variable {w W W' : World} {R : Nat} {t : TypeId} {z : Array Value} {N : Value → Array Value} {xs : List Int} {c : Nat}
theorem StV.below (h : StV w R t z N xs c W) (hb : Below W.heap.size W W') : StV w R t z N xs c W' := by
  obtain ⟨h1, h2, h3, h4⟩ := h
  refine ⟨h1.trans (hb.mono (by omega)), h2, Nat.lt_of_lt_of_le h3 hb.size, ?_⟩
  by_cases hc : c = 0
  · rw [if_pos hc] at h4 ⊢; exact h4.below hb h4.lt
  · rw [if_neg hc] at h4 ⊢
    obtain ⟨v, hv, ho⟩ := h4
    exact ⟨v, hv.below hb hv.lt, ho.below hb (Nat.le_refl _)⟩
theorem StV.drew (h : StV w R t z N xs c W) : StV w R t z N xs c W.drew := h.below (Below.refl _ _).drew
theorem StV.start (h : Below w.heap.size w W) (hR : w.heap.size ≤ R) (hz : Blk W R t z) : StV w R t z N xs 0 W := ⟨h, hR, hz.lt, by rw [if_pos rfl]; exact hz⟩
theorem StV.row (h : StV w R t z N xs 0 W) : Blk W R t z := by have := h.2.2.2; rwa [if_pos rfl] at this
theorem StV.put (h : StV w R t z N xs 0 W) {v : Value} (ho : Own W (R + 1) v xs) : StV w R t z N xs 1 (W.setRow R (N v)) :=
  ⟨below_setRow h.1 h.2.1 _, h.2.1, by simpa using h.2.2.1, by
    rw [if_neg (by decide)]
    exact ⟨v, setRow_heap _ _ _ _ _ _ h.row, ho.growR (grown_setRow _ _ _)⟩⟩
theorem StV.done (h : StV w R t z N xs 1 W) : ∃ v, Blk W R t (N v) ∧ Own W (R + 1) v xs := by have := h.2.2.2; rwa [if_neg (by decide)] at this
end

theorem Own.shape {w : World} {base : Nat} {v : Value} {xs : List Int} {m : Nat} (h : Own w base v xs) (hm : xs.length = m) : ∃ p : Option Addr × Nat, v = .slice p.1 m p.2 := by
  obtain ⟨A, c, e, _⟩ := h.open_
  exact ⟨(A, c), by rw [e, hm]⟩
end Go.Proofs.YtebeekjcepjcnaaDoor
namespace Go.Proofs.YtebeekjcepjcnaaDoor
open Go.RowKit

def foldF (s : Int) : Int := if s = 0 then 0 else 1 + (s - 1) % 65535
theorem foldF_bd {s : Int} (_h : 0 ≤ s) : 0 ≤ foldF s ∧ foldF s ≤ 65535 := by unfold foldF; split <;> omega
theorem fold1_foldF {x : Int} (h0 : 0 ≤ x) (h1 : x ≤ 131070) : fold1 x = foldF x := by unfold fold1 foldF; split <;> omega
theorem foldF_add {a b : Int} (ha : 0 ≤ a) (hb : 0 ≤ b) : foldF (foldF a + b) = foldF (a + b) := by
  unfold foldF
  split <;> split <;> split <;> omega
def sumI : List Int → Int
  | [] => 0
  | x :: l => x + sumI l
theorem sumI_append (a b : List Int) : sumI (a ++ b) = sumI a + sumI b := by
  induction a with
  | nil => simp [sumI]
  | cons x a ih => simp only [List.cons_append, sumI, ih]; omega
theorem foldl_fold1 (l : List Int) (h : U16s l) : ∀ s, 0 ≤ s → l.foldl (fun s w => fold1 (s + w)) (foldF s) = foldF (s + sumI l) := by
  induction l with
  | nil => intro s _; simp [sumI]
  | cons x l ih =>
    intro s hs
    have hx := h x (by simp)
    have hf := foldF_bd hs
    simp only [List.foldl_cons, sumI]
    rw [fold1_foldF (by omega) (by omega), foldF_add hs hx.1, ih (fun y hy => h y (by simp [hy])) _ (by omega)]
    congr 1; omega
theorem joinL_foldF {l : List Int} (h : U16s l) : joinL l = foldF (sumI l) := by
  have := foldl_fold1 l h 0 (Int.le_refl _)
  simpa [joinL, foldF] using this
theorem joinL_two {a b : Int} (ha : 0 ≤ a ∧ a < 65536) (hb : 0 ≤ b ∧ b < 65536) : joinL [a, b] = foldF (a + b) := by
  rw [joinL_foldF (by intro y hy; simp at hy; rcases hy with rfl | rfl <;> assumption)]
  simp [sumI]
theorem foldl_joinL (l : List Int) (h : U16s l) : ∀ s, 0 ≤ s → l.foldl (fun s w => joinL [s, w]) (foldF s) = foldF (s + sumI l) := by
  induction l with
  | nil => intro s _; simp [sumI]
  | cons x l ih =>
    intro s hs
    have hx := h x (by simp)
    have hf := foldF_bd hs
    simp only [List.foldl_cons, sumI]
    rw [joinL_two ⟨hf.1, by omega⟩ hx, foldF_add hs hx.1, ih (fun y hy => h y (by simp [hy])) _ (by omega)]
    congr 1; omega
theorem sumW_foldF {l : List Int} (h : U16s l) : sumW l = foldF (sumI l) := by
  have := foldl_joinL l h 0 (Int.le_refl _)
  simpa [sumW, foldF] using this

/-- The sum of some bytes, byte by byte. -/
def byteSum (bs : List Int) : Nat → Int
  | 0 => 0
  | k + 1 => byteSum bs k + (if k % 2 = 0 then 256 * bs.getD k 0 else bs.getD k 0)
theorem byteSum_even (bs : List Int) (k : Nat) : byteSum bs (2 * k) = sumI (wordsTo bs k) := by
  induction k with
  | zero => rfl
  | succ k ih =>
    rw [wordsTo_succ, sumI_append, show 2 * (k + 1) = 2 * k + 1 + 1 by omega]
    simp only [byteSum, ih, sumI, wordAt]
    rw [if_pos (by omega), if_neg (by omega)]
    omega
theorem byteSum_all (bs : List Int) : byteSum bs bs.length = sumI (wordsL bs) := by
  unfold wordsL nWords
  rcases Nat.mod_two_eq_zero_or_one bs.length with h | h
  · obtain ⟨k, hk⟩ : ∃ k, bs.length = 2 * k := ⟨bs.length / 2, by omega⟩
    rw [hk, byteSum_even]
    congr 2; omega
  · obtain ⟨k, hk⟩ : ∃ k, bs.length = 2 * k + 1 := ⟨bs.length / 2, by omega⟩
    rw [show (bs.length + 1) / 2 = k + 1 by omega, wordsTo_succ, sumI_append, hk]
    simp only [byteSum, byteSum_even, sumI, wordAt]
    rw [if_pos (by omega), show bs.getD (2 * k + 1) 0 = 0 by rw [List.getD_eq_getElem?_getD, List.getElem?_eq_none (by omega)]; rfl]
    omega
theorem byteSum_bd {bs : List Int} (h : Byt bs) (k : Nat) : 0 ≤ byteSum bs k ∧ byteSum bs k ≤ 65280 * (k : Int) := by
  induction k with
  | zero => simp [byteSum]
  | succ k ih =>
    have := h.at_ k
    simp only [byteSum]
    split <;> omega
theorem sumB_foldF {bs : List Int} (hb : Byt bs) : sumB bs = foldF (byteSum bs bs.length) := by
  rw [byteSum_all]
  exact sumW_foldF (U16s.words bs hb _)
end Go.Proofs.YtebeekjcepjcnaaDoor
namespace Go.Proofs.YtebeekjcepjcnaaDoor
open Go.RowKit Go.Shelf

/-- A slice that a literal lays. -/
theorem own_lit (w : World) (base n : Nat) (xs : List Int) (cs : Array Value) (hcs : cs = (U8 xs).toArray) (hn : xs.length = n) (hm : n ≤ maxLen) (hbase : base ≤ w.heap.size) :
    Own (w.alloc (.cells cs 5)) base (.slice (some ⟨w.heap.size, 0, none⟩) n n) xs := by
  subst hcs; subst hn
  exact ⟨by simp [U8], .inr ⟨w.heap.size, xs.length, _, rfl, hbase, heap_alloc_new w _, Nat.le_refl _, hm, by simp [U8], by rw [Nat.mul_one]; exact List.take_of_length_le (by simp [U8])⟩⟩

end Go.Proofs.YtebeekjcepjcnaaDoor

namespace Go.Proofs.YtebeekjcepjcnaaDoor
open Go.RowKit Go.Shelf

end Go.Proofs.YtebeekjcepjcnaaDoor
namespace Go.Proofs.YtebeekjcepjcnaaDoor
open Go.RowKit Go.Shelf

/-- A chain of appends onto a row of the call's own, beside one block that is only read. -/
structure Ch (w0 : World) (t : TypeId) (cs : Array Value) (W : World) (v : Value) (L : List Int) : Prop where
  below : Below w0.heap.size w0 W
  size : w0.heap.size + 1 ≤ W.heap.size
  blk : Blk W w0.heap.size t cs
  own : Own W (w0.heap.size + 1) v L
section
variable {w0 W W' : World} {t : TypeId} {cs : Array Value} {v v' : Value} {L L' : List Int}
theorem Ch.call (h : Ch w0 t cs W v L) (l : Below W.heap.size W W') : Ch w0 t cs W' v L :=
  ⟨h.below.trans (l.mono h.below.size), Nat.le_trans h.size l.size, h.blk.below l h.blk.lt, h.own.below l (Nat.le_refl _)⟩
theorem Ch.start {cs' : Array Value} {n : Nat} (h : Below w0.heap.size w0 W) (hb : Blk W w0.heap.size t cs) (hcs : cs' = (U8 L).toArray) (hn : L.length = n) (hm : n ≤ maxLen) :
    Ch w0 t cs (W.alloc (.cells cs' 5)) (.slice (some ⟨W.heap.size, 0, none⟩) n n) L :=
  ⟨h.alloc h.size _, by have := hb.lt; simp; omega, hb.alloc _, own_lit W _ n L cs' hcs hn hm hb.lt⟩
end

end Go.Proofs.YtebeekjcepjcnaaDoor
namespace Go.Proofs.YtebeekjcepjcnaaDoor
open Go.RowKit Go.Shelf

theorem own_lit' {w : World} {base n g : Nat} {xs : List Int} {cs : Array Value} (hg : g = w.heap.size) (hcs : cs = (U8 xs).toArray) (hn : xs.length = n) (hm : n ≤ maxLen) (hbase : base ≤ w.heap.size) :
    Own (w.alloc (.cells cs 5)) base (.slice (some ⟨g, 0, none⟩) n n) xs := by
  subst hg
  exact own_lit w base n xs cs hcs hn hm hbase
end Go.Proofs.YtebeekjcepjcnaaDoor
namespace Go.Proofs.YtebeekjcepjcnaaDoor
open Go.RowKit Go.Shelf

end Go.Proofs.YtebeekjcepjcnaaDoor

namespace Go.Proofs.YtebeekjcepjcnaaDoor
open Go.RowKit Go.Shelf

end Go.Proofs.YtebeekjcepjcnaaDoor

namespace Go.Proofs.YtebeekjcepjcnaaDoor
open Go.RowKit Go.Shelf

/-- An append onto an own row that is full: a new block. -/
theorem run_app_grow (w : World) (ty : TypeId) (base g n cap : Nat) (xs : List Int) (hown : Own w base (.slice (some ⟨g, 0, none⟩) n cap) xs) (B : Nat) (A : Option Addr) (c : Nat) (ys : List Int) (hr : Rd w B A .u8 ys) (h0 : 0 < ys.length)
    (hfull : cap < n + ys.length) (hb : n + ys.length ≤ 140737488355328) (base' : Nat) (hbase : base' ≤ w.heap.size) :
    ∃ v' w', (Builtin.append_ #[34, 34] ty #[.slice (some ⟨g, 0, none⟩) n cap, .slice A ys.length c]).run Tryd.prog w = .ok v' w' ∧ Own w' base' v' (xs ++ ys) ∧ Below w.heap.size w w' := by
  obtain rfl := hown.len
  obtain ⟨i, hi, hz, hs, hby⟩ := info_parts u8info
  obtain ⟨b, off, rfl, _, _⟩ := hr.at0 h0
  have holds : ∀ j u, (U8 xs)[j]? = some u → w.cell? ((⟨g, 0, none⟩ : Addr).add j) = some u := World.ownsRow.cells hown rfl
  have hsmall : xs.length + ys.length ≤ maxLen := by simp only [maxLen]; omega
  have hrun := run_append_grow (P := Tryd.prog) w 34 ty 5 i (.int .u8 0) Tryd.underlying34 hi hz ⟨g, 0, none⟩ xs.length cap (U8 xs) (by simp [U8, hs]) holds ⟨b, off, none⟩ ys.length c (U8 ys) (by simp [U8, hs]) hr.cells (by omega) (by simp only [maxLen] at hsmall; omega) (growslice_fits (by omega) (by rw [hby]; omega))
  have hge := grownCap_ge w (xs.length + ys.length) cap 5
  have hcm := grownCap_le_maxLen w (xs.length + ys.length) cap 5 hsmall
  refine ⟨_, _, hrun, Own.mk' (n := xs.length + ys.length) (l := U8 xs ++ U8 ys) ⟨by simp [U8], .inr ⟨w.heap.size, _, _, rfl, hbase, heap_alloc_new w.drew _, hge, hcm, ?_, ?_⟩⟩ (by simp) (U8_append _ _).symm, ?_⟩
  · simp only [Array.size_append, List.size_toArray, size_zeroCells, U8_length]
    simp only [Value.cells]
    show _ = _
    simp
    omega
  · simp only [Array.toList_append, List.append_assoc]
    rw [← List.append_assoc]
    rw [show (xs.length + ys.length) * 1 = (U8 xs ++ U8 ys).length by simp [U8]]
    exact List.take_left
  · exact (Below.refl w.heap.size w).drew.alloc (by simp) _
/-- THE ARM of an append that grows. -/
theorem app_grow {w : World} {ops : Array Oper} {rest : List Oper} {o : Oper} {a : Act} {Q : Exit → Act → World → Prop} (hgd : o.guard = none) (s x : Operand)
    (ho : o.op = .call { callee := .builtin .append, args := #[s, x], argTypes := #[34, 34] })
    (base g n cap : Nat) (xs : List Int) (hs : a.eval s = .slice (some ⟨g, 0, none⟩) n cap) (hown : Own w base (.slice (some ⟨g, 0, none⟩) n cap) xs) (B : Nat) (A : Option Addr) (m c : Nat) (ys : List Int)
    (hx : a.eval x = .slice A m c) (hm : m = ys.length) (hr : Rd w B A .u8 ys) (h0 : 0 < ys.length) (hfull : cap < n + ys.length) (hb : n + ys.length ≤ 140737488355328) (base' : Nat) (hbase : base' ≤ w.heap.size)
    (h : ∀ v' w', Own w' base' v' (xs ++ ys) → Below w.heap.size w w' → wpList Tryd.prog ops Q rest (a.put o.dst v') w') :
    wpList Tryd.prog ops Q (o :: rest) a w := by
  subst hm
  refine wpList_plain hgd fun K hK => ?_
  obtain ⟨v', w', hrun, h2, h3⟩ := run_app_grow w o.type base g n cap xs hown B A c ys hr h0 hfull hb base' hbase
  unfold Oper.wp execOp
  simp only [ho, resolve, invoke, builtin, Sem.run_bind, Sem.run_pure, Result.andThen_ok, List.map_toArray, List.map_cons, List.map_nil, hs, hx, hrun]
  exact hK _ _ (h v' w' h2 h3)
end Go.Proofs.YtebeekjcepjcnaaDoor
