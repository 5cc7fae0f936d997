/-
  Package opts: the greatest of some bytes; Routed.
  A range over a function whose iterator stores into one box of its own between two rounds (csum's words do not; opts' options do): what the caller owes, and what it gets.
  opts.options: what its iterator yields.
  opts.Read: the options of some bytes: their kinds, and the first error.
  tcp.Read: the header of a segment, where its data begins, and the first error.
  Facts compared by Go's '=='.
-/
import Derived.WalkKit
import Derived.WalkSpells
import Derived.WalkLawsBesides
import Derived.WalkSmall
import Derived.Lib.Hide
import Derived.Deep.AppendLies
import Derived.Maps.AppendAt
import Derived.Laws.AppendOwnNone
import Derived.Laws.CopyOwn
import Derived.OneCell
import Derived.Test.YtebeekjcepjcnaaDoorProg
import Derived.Lib.SliceRun
import Derived.RangeFuncNested
import Derived.RangeFuncBound
import Derived.RangeFuncCalls
import Derived.RangeFuncLeaves
import Derived.Shelf.Abstract
import Derived.OwnWalkIn
import Derived.TacticsInMore
import Derived.LoopNIn
import Derived.LoopIn
import Derived.Lib.AppendZeros
import Derived.BigRegion
import Derived.ChangeAlike
import Derived.Deep.RegionLaw
import Derived.Deep.DeepCutAuto
import Derived.Orders
import Derived.RegionTactic
import Derived.Still
import Derived.Deep.MidRow
import Derived.Deep.RegionHeld3
import Derived.MapKept
import Derived.RegionIn
import Derived.Laws.StructEq
import Derived.Test.YtebeekjcepjcnaaDoorWBase
import Derived.Test.YtebeekjcepjcnaaDoorWBits
import Derived.Test.YtebeekjcepjcnaaDoorWCsum
import Derived.Test.YtebeekjcepjcnaaDoorWSum
import Derived.Test.YtebeekjcepjcnaaDoorWConcat
import Derived.Test.YtebeekjcepjcnaaDoorWFix
import Derived.Test.YtebeekjcepjcnaaDoorWFacts
import Derived.Test.YtebeekjcepjcnaaDoorWIpw
import Derived.Test.YtebeekjcepjcnaaDoorWPkt
import Derived.Test.YtebeekjcepjcnaaDoorWRegion
import Derived.Test.YtebeekjcepjcnaaDoorWWalk
import Derived.Test.YtebeekjcepjcnaaDoorWStep
import Derived.Test.YtebeekjcepjcnaaDoorWTcpw
import Derived.Test.YtebeekjcepjcnaaDoorWUdpw
import Derived.Test.YtebeekjcepjcnaaDoorWData
import Derived.Test.YtebeekjcepjcnaaDoorWMaps
import Derived.Test.YtebeekjcepjcnaaDoorWQuoted
import Derived.Test.YtebeekjcepjcnaaDoorWBuilda
import Derived.Test.YtebeekjcepjcnaaDoorWRerr
import Derived.Test.YtebeekjcepjcnaaDoorWIcmpr
import Derived.Test.YtebeekjcepjcnaaDoorWIprd
import Derived.Test.YtebeekjcepjcnaaDoorWIpre
import Derived.Test.YtebeekjcepjcnaaDoorWOptsa
namespace Go.Proofs.YtebeekjcepjcnaaDoor
open Go.RowKit
def OptsAt (W : World) (B : Nat) (A : Option Addr) (ks : List Int) : Prop :=
  ∀ j, j < ks.length → ∃ b off v, A = some ⟨b, off, none⟩ ∧ b < B ∧ v.oneCell' = true ∧ W.cell? ⟨b, off + j * 2, none⟩ = some (.int .u8 (ks.getD j 0)) ∧ W.cell? ⟨b, off + j * 2 + 1, none⟩ = some v
theorem OptsAt.below {W W' : World} {B C : Nat} {A : Option Addr} {ks : List Int} (h : OptsAt W B A ks) (hb : Below C W W') (hC : B ≤ C) : OptsAt W' B A ks := fun j hj => by
  obtain ⟨b, off, v, e, hB, h1, h2, h3⟩ := h j hj
  exact ⟨b, off, v, e, hB, h1, (hb.cell (p := ⟨b, off + j * 2, none⟩) (by show b < C; omega)).trans h2, (hb.cell (p := ⟨b, off + j * 2 + 1, none⟩) (by show b < C; omega)).trans h3⟩
end Go.Proofs.YtebeekjcepjcnaaDoor
namespace Go.Proofs.YtebeekjcepjcnaaDoor
open Go.RowKit Go.Shelf

/-- What new blocks, a store into the box Bs, and a turn of a block that is no cells and lies at or beyond B leave true. -/
def Bears {β : Type} (B Bs : Nat) (I : β → World → Prop) : Prop :=
  ∀ s W W' row, I s W → W.grownBy W' row → (∀ r, row = some r → r = Bs ∨ (B ≤ r ∧ ∃ o : Obj, W.heap[r]? = some o ∧ o.isCells = false)) → I s W'
/-- The same, without the turns. -/
def BearsBox {β : Type} (Bs : Nat) (J : β → World → Prop) : Prop := ∀ s W W' row, J s W → W.grownBy W' row → (row = none ∨ row = some Bs) → J s W'
section
variable {β : Type} {B Bs : Nat} {I I' : β → World → Prop}
theorem Bears.and (h : Bears B Bs I) (h' : Bears B Bs I') : Bears B Bs (fun s W => I s W ∧ I' s W) := fun s W W' row hs hg hr => ⟨h s W W' row hs.1 hg hr, h' s W W' row hs.2 hg hr⟩
theorem Bears.put (h : Bears B Bs I) {s : β} {W : World} {l : Nat} {o : Obj} (o' : Obj) (hs : I s W) (hB : B ≤ l) (hl : W.heap[l]? = some o) (ho : o.isCells = false) : I s (W.putObj l o') :=
  h s W _ (some l) hs (grownBy_putObj' W l o') (fun r e => by cases e; exact .inr ⟨hB, o, hl, ho⟩)
theorem Bears.new (h : Bears B Bs I) {s : β} {W : World} (o : Obj) (hs : I s W) : I s (W.alloc o) := h s W _ none hs (World.grownBy_alloc W o none) (fun r e => by cases e)
end
end Go.Proofs.YtebeekjcepjcnaaDoor
namespace Go.Proofs.YtebeekjcepjcnaaDoor
open Go.RowKit Go.Shelf
attribute [local go_sem] Oper.semAt_some
structure OptY where
  k : Int
  A : Option Addr
  n : Nat
  c : Nat
  e : Int
def OptY.enc (x : OptY) : Array Value := #[.agg #[.int .u8 x.k, .slice x.A x.n x.c], .int .i64 x.e]
def OptY.key (x : OptY) : Int × Int := (x.k, x.e)
def boxLen (W : World) (Bs : Nat) : Nat := match W.cell? ⟨Bs, 0, none⟩ with
  | some (.slice _ n _) => n
  | _ => 0
theorem boxLen_of {W : World} {Bs : Nat} {t : TypeId} {A : Option Addr} {n c : Nat} (h : Blk W Bs t #[.slice A n c]) : boxLen W Bs = n := by
  unfold boxLen; rw [h.cell 0]; rfl
/-- What is left: behind p bytes. -/
def OptRel (J : List OptY → World → Prop) (n₀ Bs n : Nat) (b : List Int) (_ : Value) (W : World) : Prop :=
  ∃ pre p A c, J pre W ∧ p ≤ n ∧ Blk W Bs 34 #[.slice A (n - p) c] ∧ Rd W n₀ A .u8 (b.drop p) ∧ n - p ≤ c ∧ pre.map OptY.key ++ optsY (n - p) (b.drop p) = optsY n b ∧ n₀ ≤ W.heap.size
theorem OptRel.next {J : List OptY → World → Prop} {n₀ Bs n p q c s k c2 : Nat} {b : List Int} {pre : List OptY} {x : OptY} {A A2 : Option Addr} {W3 : World} (v : Value) (hJ : BearsBox Bs J) (hJ3 : J (pre ++ [x]) W3) (hp : p ≤ n) (hn : b.length = n) (hq : q = n - p) (hs : 1 ≤ s) (hsq : s ≤ q) (hbx : Blk W3 Bs 34 #[.slice A q c])
    (hA2 : s < q → ∀ b off, A = some ⟨b, off, none⟩ → A2 = some ⟨b, off + s, none⟩) (hrd : Rd W3 n₀ A .u8 (b.drop p)) (hc : q ≤ c) (hsp : pre.map OptY.key ++ (x.key :: optsY ((b.drop p).drop s).length ((b.drop p).drop s)) = optsY n b) (hn2 : n₀ ≤ W3.heap.size) (hB0 : n₀ ≤ Bs) (hk : k = q - s) (hc2 : c2 = c - s) :
    OptRel J n₀ Bs n b v (W3.setCell ⟨Bs, 0, none⟩ (.slice A2 k c2)) ∧ boxLen (W3.setCell ⟨Bs, 0, none⟩ (.slice A2 k c2)) Bs < q := by
  subst hk hc2
  have hb2 : Blk (W3.setCell ⟨Bs, 0, none⟩ (.slice A2 (q - s) (c - s))) Bs 34 #[.slice A2 (q - s) (c - s)] := hbx.set 0 _
  have hl : (b.drop p).length = q := by simp [hn, hq]
  have hd : (b.drop p).drop s = b.drop (p + s) := by rw [List.drop_drop]
  have hl2 : (b.drop (p + s)).length = q - s := by rw [← hd, List.length_drop, hl]
  have e : n - (p + s) = q - s := by omega
  refine ⟨⟨pre ++ [x], p + s, A2, c - s, hJ _ W3 _ (some Bs) hJ3 (grownBy_setCell' _ _ _) (.inr rfl), by omega, by rw [e]; exact hb2, ?_, by omega, ?_, by simpa using hn2⟩, ?_⟩
  · rw [← hd]
    exact (hrd.drop s (fun h => hA2 (by rw [hl] at h; exact h))).setCell (p := ⟨Bs, 0, none⟩) hB0 _
  · rw [hd, hl2] at hsp
    rw [e, List.map_append, List.append_assoc]
    exact hsp
  · rw [boxLen_of hb2]; omega
end Go.Proofs.YtebeekjcepjcnaaDoor
namespace Go.Proofs.YtebeekjcepjcnaaDoor
open Go.RowKit Go.Shelf
attribute [local go_sem] Oper.semAt_some
def metN (ks : List Int) (g : Nat) : Nat := ks.countP (fun k => optGroup k == g)
def metA (ks : List Int) : Array Value := #[.int .i64 0, .int .i64 (metN ks 1), .int .i64 (metN ks 2), .int .i64 (metN ks 3)]
theorem metN_any (ks : List Int) (g : Nat) : (ks.any fun k => optGroup k == g) = decide (0 < metN ks g) := by
  unfold metN
  rw [Bool.eq_iff_iff, List.any_eq_true, decide_eq_true_iff, List.countP_pos_iff]
def optCells (l : List OptY) : List Value := l.flatMap fun x => [.int .u8 x.k, .slice x.A x.n x.c]
theorem optCells_snoc (l : List OptY) (x : OptY) : optCells (l ++ [x]) = optCells l ++ [.int .u8 x.k, .slice x.A x.n x.c] := by simp [optCells]
theorem optsR_cons (x : OptY) (l : List (Int × Int)) (acc : List Int) : optsR (x.key :: l) acc = if x.e ≠ 0 then ([], x.e) else if 0 < optGroup x.k ∧ acc.any (fun y => optGroup y == optGroup x.k) then ([], 63) else optsR l (acc ++ [x.k]) := rfl
/-- So far no error. -/
def SoFar (l : List OptY) : Prop := ∀ rest, optsR (l.map OptY.key ++ rest) [] = optsR rest (l.map OptY.k)
theorem SoFar.nil : SoFar [] := fun _ => rfl
theorem SoFar.snoc {l : List OptY} (h : SoFar l) {x : OptY} (he : x.e = 0) (hg : ¬ (0 < optGroup x.k ∧ 0 < metN (l.map OptY.k) (optGroup x.k))) : SoFar (l ++ [x]) := fun rest => by
  rw [List.map_append, List.append_assoc, h]
  show optsR (x.key :: rest) _ = _
  rw [optsR_cons, if_neg (by simpa using he), if_neg (by rw [metN_any]; simpa using hg), List.map_append]
  rfl
theorem SoFar.bad {l : List OptY} (h : SoFar l) {x : OptY} (he : x.e ≠ 0) (rest : List (Int × Int)) : optsR ((l ++ [x]).map OptY.key ++ rest) [] = ([], x.e) := by
  rw [List.map_append, List.append_assoc, h]
  show optsR (x.key :: rest) _ = _
  rw [optsR_cons, if_pos he]
/-- The variables of opts.Read between two rounds. -/
structure OptI (w : World) (l : List OptY) (W : World) : Prop where
  below : Below w.heap.size w W
  size : w.heap.size + 5 ≤ W.heap.size
  r : Blk W w.heap.size 121 #[.slice none 0 0]
  e : Blk W (w.heap.size + 1) 35 #[.int .i64 0]
  o : ∃ v, Blk W (w.heap.size + 2) 121 #[v] ∧ W.ownsRow (w.heap.size + 5) 175 2 v l.length (optCells l)
  m : Blk W (w.heap.size + 3) 176 (metA (l.map OptY.k))
  ok : SoFar l
theorem OptI.bears (w : World) (B : Nat) (hB : w.heap.size + 5 ≤ B) : Bears B (w.heap.size + 4) (OptI w) := fun l W W' row h hg hr => by
  have hz := h.size
  have hne : ∀ g, g < w.heap.size + 4 → some g ≠ row := fun g hgl e => by
    rcases hr g e.symm with h1 | ⟨h1, _⟩ <;> omega
  obtain ⟨v, ho1, ho2⟩ := h.o
  refine ⟨h.below.grown hg (by omega) (fun g e => ?_), Nat.le_trans hz hg.size, h.r.grown hg (hne _ (by omega)), h.e.grown hg (hne _ (by omega)), ⟨v, ho1.grown hg (hne _ (by omega)), ho2.kept hg ?_⟩, h.m.grown hg (hne _ (by omega)), h.ok⟩
  · rcases hr g e with h1 | ⟨h1, _⟩ <;> omega
  · rcases ho2.2 with ⟨rfl, _⟩ | ⟨g, cap, cur, rfl, hb, hgg, _⟩
    · exact .inl rfl
    · refine .inr (fun e => ?_)
      rcases hr g e.symm with h1 | ⟨h1, o, ho, hc⟩
      · omega
      · rw [hgg] at ho
        injection ho with ho
        subst ho
        cases hc
/-- It has returned with an error. -/
structure OptX (w : World) (l : List OptY) (W : World) : Prop where
  below : Below w.heap.size w W
  size : w.heap.size + 5 ≤ W.heap.size
  r : Blk W w.heap.size 121 #[.slice none 0 0]
  e : ∃ x, x ≠ 0 ∧ Blk W (w.heap.size + 1) 35 #[.int .i64 x] ∧ ∀ rest, optsR (l.map OptY.key ++ rest) [] = ([], x)
theorem OptX.bears (w : World) (B : Nat) (hB : w.heap.size + 5 ≤ B) : Bears B (w.heap.size + 4) (OptX w) := fun l W W' row h hg hr => by
  have hz := h.size
  have hne : ∀ g, g < w.heap.size + 4 → some g ≠ row := fun g hgl e => by
    rcases hr g e.symm with h1 | ⟨h1, _⟩ <;> omega
  obtain ⟨x, hx, hb, hR⟩ := h.e
  refine ⟨h.below.grown hg (by omega) (fun g e => ?_), Nat.le_trans hz hg.size, h.r.grown hg (hne _ (by omega)), ⟨x, hx, hb.grown hg (hne _ (by omega)), hR⟩⟩
  rcases hr g e with h1 | ⟨h1, _⟩ <;> omega

theorem optInfo : (Tryd.prog.info? 175).map (fun i => (i.zero, i.size, i.bytes)) = some (some (.agg #[.int .u8 0, .slice none 0 0]), 2, 32) := by kernel_rfl
theorem OptI.grow {w W W' : World} {l : List OptY} (h : OptI w l W) (hb : Below W.heap.size W W') : OptI w l W' := OptI.bears w (w.heap.size + 5) (Nat.le_refl _) l W W' none h (grown_of_below hb) (fun r e => by cases e)
theorem KpB.alloc {n₀ Bs : Nat} {W : World} (hn : n₀ ≤ W.heap.size) (hB : Bs < W.heap.size) (o : Obj) : KpB n₀ Bs W (W.alloc o) := ⟨(Below.refl _ _).alloc hn _, Below.heap_alloc _ _ _ hB⟩
/-- One option more. -/
theorem OptI.next {w W W1 w3 : World} {pre : List OptY} {x : OptY} {v v' : Value} {o : Obj} {B0 : Nat} (hB0 : B0 = w.heap.size + 5) (hI : OptI w pre W) (hb1 : W.grownBy W1 (some (w.heap.size + 3))) (hm : Blk W1 (w.heap.size + 3) 176 (metA ((pre ++ [x]).map OptY.k)))
    (hov : Blk W (w.heap.size + 2) 121 #[v]) (how : W.ownsRow (w.heap.size + 5) 175 2 v pre.length (optCells pre)) (how' : w3.ownsRow (w.heap.size + 5) 175 2 v' (pre.length + 1) (optCells pre ++ [.int .u8 x.k, .slice x.A x.n x.c]))
    (hg3 : (W1.alloc o).grownBy w3 v.ownBlock) (hok : SoFar (pre ++ [x])) :
    KeepsFrom B0 W (w3.setCell ⟨w.heap.size + 2, 0, none⟩ v') ∧ KpB w.heap.size (w.heap.size + 4) W (w3.setCell ⟨w.heap.size + 2, 0, none⟩ v') ∧ OptI w (pre ++ [x]) (w3.setCell ⟨w.heap.size + 2, 0, none⟩ v') := by
  subst hB0
  have hz := hI.size
  have hz1 := hb1.size
  have hvb : ∀ g, v.ownBlock = some g → w.heap.size + 5 ≤ g ∧ ∃ cs t f, W.heap[g]? = some (.cells cs t f) := fun g e => by
    rcases how.2 with ⟨rfl, _⟩ | ⟨g', cap, cur, rfl, hb, hgg, _⟩
    · cases e
    · simp only [Value.ownBlock, Option.some.injEq] at e
      subst e
      exact ⟨hb, _, _, _, hgg⟩
  have step : ∀ (i : Nat) (ob : Obj), i < w.heap.size + 5 → i ≠ w.heap.size + 3 → i ≠ w.heap.size + 2 → W.heap[i]? = some ob → (w3.setCell ⟨w.heap.size + 2, 0, none⟩ v').heap[i]? = some ob := fun i ob h1 h2 h3 h4 => by
    have e1 : W1.heap[i]? = some ob := (hb1.block i (by omega) (by simp; omega)).trans h4
    have e2 : (W1.alloc o).heap[i]? = some ob := (Below.heap_alloc W1 o i (by omega)).trans e1
    have e3 : w3.heap[i]? = some ob := (hg3.block i (by simp; omega) (fun e => by have := (hvb i e.symm).1; omega)).trans e2
    exact (Below.heap_setCell _ ⟨w.heap.size + 2, 0, none⟩ _ _ (by simpa using h3)).trans e3
  have hm3 : Blk w3 (w.heap.size + 3) 176 (metA ((pre ++ [x]).map OptY.k)) := (hg3.block _ (by simp; omega) (fun e => by have := (hvb _ e.symm).1; omega)).trans ((Below.heap_alloc _ _ _ hm.lt).trans hm)
  have hov3 : Blk w3 (w.heap.size + 2) 121 #[v] := (hg3.block (w.heap.size + 2) (by simp; omega) (fun e => by have := (hvb _ e.symm).1; omega)).trans ((Below.heap_alloc W1 o (w.heap.size + 2) (by omega)).trans ((hb1.block (w.heap.size + 2) (by omega) (by simp)).trans hov))
  have hz3 : w.heap.size + 5 ≤ w3.heap.size := by have := hg3.size; simp at this; omega
  have hb3 : Below w.heap.size W w3 := (((Below.refl _ W).grown hb1 (by omega) (fun g e => by injection e with e; omega)).alloc (by omega) o).grown hg3 (by simp; omega) (fun g e => by have := (hvb g e).1; omega)
  refine ⟨⟨by simp; have := hb3.size; omega, fun i ob h1 h2 h3 => ?_⟩, ⟨hb3.setCell (p := ⟨w.heap.size + 2, 0, none⟩) (by show w.heap.size ≤ w.heap.size + 2; omega) _, ?_⟩, ⟨(hI.below.trans hb3).setCell (p := ⟨w.heap.size + 2, 0, none⟩) (by show w.heap.size ≤ w.heap.size + 2; omega) _, by simpa using hz3, step _ _ (by omega) (by omega) (by omega) hI.r, step _ _ (by omega) (by omega) (by omega) hI.e, ⟨v', hov3.set 0 v', ?_⟩, hm3.far (p := ⟨w.heap.size + 2, 0, none⟩) (by simp) _, hok⟩⟩
  · have hlt := lt_of_block h2
    have e1 : W1.heap[i]? = some ob := (hb1.block i hlt (by simp; omega)).trans h2
    have e2 : (W1.alloc o).heap[i]? = some ob := (Below.heap_alloc W1 o i (by omega)).trans e1
    have e3 : w3.heap[i]? = some ob := (hg3.block i (by simp; omega) (fun e => by
      obtain ⟨_, cs, t, f, hc⟩ := hvb i e.symm
      rw [h2] at hc
      injection hc with hc
      subst hc
      cases h3)).trans e2
    exact (Below.heap_setCell _ ⟨w.heap.size + 2, 0, none⟩ _ _ (by show i ≠ w.heap.size + 2; omega)).trans e3
  · have hlt : w.heap.size + 4 < W.heap.size := by omega
    rw [Array.getElem?_eq_getElem hlt]
    exact step _ _ (by omega) (by omega) (by omega) (Array.getElem?_eq_getElem hlt)
  · have hl : (pre ++ [x]).length = pre.length + 1 := by simp
    rw [hl, optCells_snoc]
    exact ownsRow_setCell_other how' (fun e => by
      rcases how'.2 with ⟨e0, _⟩ | ⟨g', cap, cur, rfl, hb, hgg, _⟩
      · rw [e0] at e; cases e
      · simp only [Value.ownBlock, Option.some.injEq] at e
        omega) _
theorem two_new (W : World) (t : TypeId) (a b : Value) : ∀ j u, [a, b][j]? = some u → (W.alloc (.cells #[a, b] t)).cell? ((⟨W.heap.size, 0, none⟩ : Addr).add j) = some u := by
  intro j u hu
  rcases j with _ | _ | j
  · simp only [List.getElem?_cons_zero, Option.some.injEq] at hu
    subst hu
    simp [Addr.add]
  · simp only [List.getElem?_cons_succ, List.getElem?_cons_zero, Option.some.injEq] at hu
    subst hu
    simp [Addr.add]
  · simp at hu
end Go.Proofs.YtebeekjcepjcnaaDoor
namespace Go.Proofs.YtebeekjcepjcnaaDoor
open Go.RowKit
def tcpZ : Array Value := #[.int .u16 0, .int .u16 0, .int .u32 0, .int .u32 0, .int .u8 0, .int .u16 0, .int .u16 0, .slice none 0 0]
def tcpN (d : List Int) (v : Value) : Array Value := #[.int .u16 (w16At d 0), .int .u16 (w16At d 2), .int .u32 (l32At d 4), .int .u32 (l32At d 8), .int .u8 (d.getD 13 0), .int .u16 (w16At d 14), .int .u16 (w16At d 18), v]
theorem results_cell_tmp2 {P : Program} {fn : Func} {p q r : Tmp} {ty : TypeId} (h : fn.results = #[.cell p ty, .tmp q, .tmp r]) (tmps : Array Value) (w : World) (g : Nat) (t : TypeId) (cs : Array Value) (fr : Nat × Nat) (d : TypeDesc)
    (hp : tmps.getD p undef = .pointer (some ⟨g, 0, none⟩)) (hg : w.heap[g]? = some (.cells cs t fr))
    (hu : P.underlying ty = some d) (hd : (match d with | .struct _ | .array _ _ => true | _ => false) = true) (hi : (P.info? ty).map (·.size) = some cs.size) :
    (results fn tmps).run P w = .ok (.tuple #[.agg cs, tmps.getD q undef, tmps.getD r undef]) w := by
  have hp' : tmps[p]?.getD undef = .pointer (some ⟨g, 0, none⟩) := by simpa using hp
  simp [results, h, hp', asAddr, run_loadVar_row w g t ty cs fr d hg hu hd hi]
def TcpOut (w : World) (d : List Int) (e : Ending) (W : World) : Prop := ∃ v, v.oneCell' = true ∧ e = .returned (.tuple #[.agg (if tcpE d = 0 then tcpN d v else tcpZ), .int .i64 (if tcpE d = 0 then tcpSize d else 0), .int .i64 (tcpE d)]) ∧ Below w.heap.size w W
end Go.Proofs.YtebeekjcepjcnaaDoor
namespace Go.Proofs.YtebeekjcepjcnaaDoor
open Go.RowKit

def EqOk (P : Program) (W : World) (d : Nat) (xs ys : Array Value) : List Field → List Bool → Prop
  | [], [] => True
  | f :: fs, r :: rs => (f.name ≠ "_" ∧ ∃ a b, (part f.type xs f.offset).run P W = .ok a W ∧ (part f.type ys f.offset).run P W = .ok b W ∧ (Op.equalIn d f.type a b).run P W = .ok r W) ∧ EqOk P W d xs ys fs rs
  | _, _ => False
theorem eqFields_all {P : Program} {W : World} {d : Nat} {xs ys : Array Value} : ∀ (fs : List Field) (rs : List Bool), EqOk P W d xs ys fs rs → (Op.eqFields d xs ys fs).run P W = .ok (rs.all id) W
  | [], [], _ => by simp [Op.eqFields]
  | f :: fs, r :: rs, ⟨⟨h1, a, b, h2, h3, h4⟩, h5⟩ => by
    simp only [Op.eqFields, h1, ne_eq, not_false_eq_true, if_true, Sem.run_bind, h2, h3, h4, Result.andThen_ok]
    cases r
    · simp
    · simpa using eqFields_all fs rs h5
  | [], _ :: _, h => h.elim
  | _ :: _, [], h => h.elim

def Key.eqB (k l : Key) : Bool := [k.proto == l.proto, k.src == l.src, k.dst == l.dst, k.sp == l.sp, k.dp == l.dp].all id
theorem Key.eqB_iff {k l : Key} : k.eqB l = true ↔ k = l := by
  obtain ⟨a, b, c, d, e⟩ := k
  obtain ⟨a', b', c', d', e'⟩ := l
  simp [Key.eqB]
theorem equalIn_key (d : Nat) (k l : Key) (W : World) : (Op.equalIn (d + 2) 25 k.val l.val).run Tryd.prog W = .ok (k.eqB l) W := by
  unfold Key.val
  rw [run_equalIn_struct W (d + 1) 25 _ _ (by kernel_rfl) (by kernel_rfl)]
  have hf : (Tryd.prog.fieldsOf 25).toList = (Tryd.prog.fieldsOf 25).toList := rfl
  refine eqFields_all _ _ ?_
  simp only [Program.fieldsOf, Tryd.underlying25]
  exact ⟨⟨by decide, .int .u8 k.proto, .int .u8 l.proto, by kernel_rfl, by kernel_rfl, run_equalIn_int _ _ _ _ _ _ _ Tryd.underlying5⟩, ⟨by decide, .int .u32 k.src, .int .u32 l.src, by kernel_rfl, by kernel_rfl, run_equalIn_int _ _ _ _ _ _ _ Tryd.underlying22⟩, ⟨by decide, .int .u32 k.dst, .int .u32 l.dst, by kernel_rfl, by kernel_rfl, run_equalIn_int _ _ _ _ _ _ _ Tryd.underlying22⟩,
    ⟨by decide, .int .u16 k.sp, .int .u16 l.sp, by kernel_rfl, by kernel_rfl, run_equalIn_int _ _ _ _ _ _ _ Tryd.underlying23⟩, ⟨by decide, .int .u16 k.dp, .int .u16 l.dp, by kernel_rfl, by kernel_rfl, run_equalIn_int _ _ _ _ _ _ _ Tryd.underlying23⟩, trivial⟩

def Facts.eqB (f g : Facts) : Bool := [f.key.eqB g.key, f.kind == g.kind, f.flags == g.flags, f.type == g.type, f.code == g.code, f.seqn == g.seqn, f.ackn == g.ackn, f.window == g.window, f.length == g.length, f.quoted.eqB g.quoted, f.qkind == g.qkind].all id
theorem Facts.eqB_iff {f g : Facts} : f.eqB g = true ↔ f = g := by
  obtain ⟨a, b, c, d, e, f1, g1, h, i, j, k⟩ := f
  obtain ⟨a', b', c', d', e', f1', g1', h', i', j', k'⟩ := g
  simp [Facts.eqB, Key.eqB_iff]
set_option maxRecDepth 100000 in
theorem run_eq_facts (f g : Facts) (W : World) : (binOp .eql 27 f.val g.val).run Tryd.prog W = .ok (.bool (f.eqB g)) W := by
  unfold Facts.val
  rw [run_eql_struct, run_equalIn_struct W 9999 27 _ _ (by kernel_rfl) (by kernel_rfl)]
  have h : EqOk Tryd.prog W 9999 f.cells.toArray g.cells.toArray (Tryd.prog.fieldsOf 27).toList [f.key.eqB g.key, f.kind == g.kind, f.flags == g.flags, f.type == g.type, f.code == g.code, f.seqn == g.seqn, f.ackn == g.ackn, f.window == g.window, f.length == g.length, f.quoted.eqB g.quoted, f.qkind == g.qkind] := by
    simp only [Program.fieldsOf, Tryd.underlying27]
    exact ⟨⟨by decide, f.key.val, g.key.val, by kernel_rfl, by kernel_rfl, equalIn_key 9997 _ _ _⟩, ⟨by decide, .int .u8 f.kind, .int .u8 g.kind, by kernel_rfl, by kernel_rfl, run_equalIn_int _ _ _ _ _ _ _ Tryd.underlying5⟩, ⟨by decide, .int .u8 f.flags, .int .u8 g.flags, by kernel_rfl, by kernel_rfl, run_equalIn_int _ _ _ _ _ _ _ Tryd.underlying5⟩,
      ⟨by decide, .int .u8 f.type, .int .u8 g.type, by kernel_rfl, by kernel_rfl, run_equalIn_int _ _ _ _ _ _ _ Tryd.underlying5⟩, ⟨by decide, .int .u8 f.code, .int .u8 g.code, by kernel_rfl, by kernel_rfl, run_equalIn_int _ _ _ _ _ _ _ Tryd.underlying5⟩, ⟨by decide, .int .u32 f.seqn, .int .u32 g.seqn, by kernel_rfl, by kernel_rfl, run_equalIn_int _ _ _ _ _ _ _ Tryd.underlying22⟩,
      ⟨by decide, .int .u32 f.ackn, .int .u32 g.ackn, by kernel_rfl, by kernel_rfl, run_equalIn_int _ _ _ _ _ _ _ Tryd.underlying22⟩, ⟨by decide, .int .i64 f.window, .int .i64 g.window, by kernel_rfl, by kernel_rfl, run_equalIn_int _ _ _ _ _ _ _ Tryd.underlying3⟩, ⟨by decide, .int .i64 f.length, .int .i64 g.length, by kernel_rfl, by kernel_rfl, run_equalIn_int _ _ _ _ _ _ _ Tryd.underlying3⟩,
      ⟨by decide, f.quoted.val, g.quoted.val, by kernel_rfl, by kernel_rfl, equalIn_key 9997 _ _ _⟩, ⟨by decide, .int .u8 f.qkind, .int .u8 g.qkind, by kernel_rfl, by kernel_rfl, run_equalIn_int _ _ _ _ _ _ _ Tryd.underlying5⟩, trivial⟩
  rw [eqFields_all _ _ h]
  rfl

end Go.Proofs.YtebeekjcepjcnaaDoor
