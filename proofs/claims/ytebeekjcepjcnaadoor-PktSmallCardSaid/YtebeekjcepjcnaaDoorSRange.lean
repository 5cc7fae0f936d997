/-
  A range over a function whose iterator stores into one box of its own between two rounds (csum's words do not; opts' options do): what the caller owes, and what it gets.
-/
import Derived.Test.YtebeekjcepjcnaaDoorProg
import Derived.WalkKit
import Derived.WalkSpells
import Derived.WalkLawsBesides
import Derived.WalkSmall
import Derived.Lib.Hide
import Derived.Deep.AppendLies
import Derived.Maps.AppendAt
import Derived.Laws.AppendOwnNone
import Derived.Laws.CopyOwn
import Derived.OneCell
import Derived.Lib.SliceRun
import Derived.RangeFuncNested
import Derived.RangeFuncBound
import Derived.RangeFuncCalls
import Derived.RangeFuncLeaves
import Derived.Shelf.Abstract
import Derived.OwnWalkIn
import Derived.TacticsInMore
import Derived.LoopNIn
import Derived.LoopIn
import Derived.Test.YtebeekjcepjcnaaDoorSBase
import Derived.Test.YtebeekjcepjcnaaDoorSMem
import Derived.Test.YtebeekjcepjcnaaDoorSCsum
namespace Go.Proofs.YtebeekjcepjcnaaDoor
open Go.RowKit Go.Shelf

/-- What new blocks, a store into the box Bs, and a turn of a block that is no cells and lies at or beyond B leave true. -/
def Bears {β : Type} (B Bs : Nat) (I : β → World → Prop) : Prop :=
  ∀ s W W' row, I s W → W.grownBy W' row → (∀ r, row = some r → r = Bs ∨ (B ≤ r ∧ ∃ o : Obj, W.heap[r]? = some o ∧ o.isCells = false)) → I s W'
/-- The same, without the turns. -/
def BearsBox {β : Type} (Bs : Nat) (J : β → World → Prop) : Prop := ∀ s W W' row, J s W → W.grownBy W' row → (row = none ∨ row = some Bs) → J s W'
section
variable {β : Type} {B Bs : Nat} {I I' : β → World → Prop}
theorem Bears.and (h : Bears B Bs I) (h' : Bears B Bs I') : Bears B Bs (fun s W => I s W ∧ I' s W) := fun s W W' row hs hg hr => ⟨h s W W' row hs.1 hg hr, h' s W W' row hs.2 hg hr⟩
theorem Bears.put (h : Bears B Bs I) {s : β} {W : World} {l : Nat} {o : Obj} (o' : Obj) (hs : I s W) (hB : B ≤ l) (hl : W.heap[l]? = some o) (ho : o.isCells = false) : I s (W.putObj l o') :=
  h s W _ (some l) hs (grownBy_putObj' W l o') (fun r e => by cases e; exact .inr ⟨hB, o, hl, ho⟩)
theorem Bears.new (h : Bears B Bs I) {s : β} {W : World} (o : Obj) (hs : I s W) : I s (W.alloc o) := h s W _ none hs (World.grownBy_alloc W o none) (fun r e => by cases e)
end
/-- How a round's body may end. -/
def RoundEnd {α : Type} (B n₀ Bs : Nat) (I : List α → World → Prop) (Ix : Code → List α → World → Prop) (xs : List α) (W : World) : Exit → Act → World → Prop
  | .normal, _, W' => KeepsFrom B W W' ∧ KpB n₀ Bs W W' ∧ I xs W'
  | .ret, _, W' => KeepsFrom B W W' ∧ Ix .ret xs W'
  | _, _, _ => False
/-- The iterator's contract. -/
def Yields {α : Type} (F : Fence) (n : Nat) (P : Program) (gf : Nat) (lb : Array Value) (encs : α → Array Value) (n₀ Bs : Nat) (S : List α → Prop) (N : Nat) (w : World) : Prop :=
  ∀ (l : Nat) (J Jx : List α → World → Prop) (W : World), Below w.heap.size w W → BearsBox Bs J → BearsBox Bs Jx →
    (∀ pre x W1, J pre W1 → pre.length < N → YieldAt F (n - 1) P l (encs x) W1 fun e W' =>
      (e = .returned (.bool true) ∧ J (pre ++ [x]) W' ∧ KpB n₀ Bs W1 W') ∨ (e = .returned (.bool false) ∧ Jx (pre ++ [x]) W')) →
    J [] W →
    CallsIn F n P gf (#[.func (.yield l) #[] #[]] ++ lb) W fun e W' => (∃ v, e = .returned v) ∧ ((∃ xs, S xs ∧ J xs W') ∨ (∃ pre, (∃ t, S (pre ++ t)) ∧ Jx pre W'))

theorem wpIn_rangeFunc_box {α : Type} {F : Fence} {n : Nat} {P : Program} {g : Operand} {ps : Array Tmp} {assign body : Code} {Q : Exit → Act → World → Prop} {a : Act} {w : World}
    (hro : F.round = none) (h1 : 1 ≤ n) {gf : Nat} {lb : Array Value} (hg : a.eval g = .func (.func gf) #[] lb) (hFg : F.fn gf) (eg : ∀ args w, (callFunc gf args).run P w = .ok (.enter gf args) w)
    {encs : α → Array Value} {n₀ Bs : Nat} {S : List α → Prop} {N : Nat} (hseq : Yields F (n - 1) P gf lb encs n₀ Bs S N w) (hn₀ : n₀ ≤ w.heap.size) (hBs : Bs < w.heap.size) (hps : ∀ x, (encs x).size = ps.size)
    (I : List α → World → Prop) (Ix : Code → List α → World → Prop) (A : List α → α → Act → World → Prop)
    (hI : Bears w.heap.size Bs I) (hIx : ∀ c, Bears w.heap.size Bs (Ix c)) (hA : ∀ pre x a1, Bears w.heap.size Bs (fun (_ : Unit) => A pre x a1)) (h0 : I [] w)
    (hassign : ∀ (l : Nat) (pre : List α) (x : α) (W : World), I pre W → w.heap.size + 2 ≤ W.heap.size →
      assign.wpIn (F.inRound l) (n - 1 - 1) P (Exit.then (fun a1 W1 => KeepsFrom w.heap.size W W1 ∧ KpB n₀ Bs W W1 ∧ A pre x a1 W1) (fun _ _ _ => False)) { tmps := (ps.zip (encs x)).foldl (fun t (p, v) => t.setIfInBounds p v) a.tmps, defers := [] } W)
    (hbody : ∀ (l : Nat) (pre : List α) (x : α) (a1 : Act) (W : World), A pre x a1 W → pre.length < N → body.wpIn (F.inRound l) (n - 1 - 1) P (RoundEnd w.heap.size n₀ Bs I Ix (pre ++ [x]) W) a1 W)
    (hdone : ∀ (D : Nat) (xs : List α) (W : World), w.heap.size ≤ D → S xs → I xs W → W.heap[D]? = some (.deferred (some [])) → Q .normal { a with defers := { target := .collected D, args := #[] } :: a.defers } W)
    (hstop : ∀ (D : Nat) (c : Code) (pre : List α) (W : World), w.heap.size ≤ D → (∃ t, S (pre ++ t)) → Ix c pre W → W.heap[D]? = some (.deferred (some [])) → c.wpIn F n P Q { a with defers := { target := .collected D, args := #[] } :: a.defers } W) :
    (Code.rangeFunc g ps assign body).wpIn F n P Q a w := by
  refine wpIn_rangeFunc (fun fn hfn => ?_)
  rw [hro]
  obtain ⟨rec, hrec⟩ : ∃ rec : LoopState → Option Code → Loop, rec = fun st pe => { state := st, pending := pe, fn, tmps := a.tmps, params := ps, assign, body, defers := w.heap.size } := ⟨_, rfl⟩
  obtain ⟨W1, hW1⟩ : ∃ W1, (w.alloc (.deferred (some []))).alloc (.loop (rec .ready none)) = W1 := ⟨_, rfl⟩
  have hsz1 : W1.heap.size = w.heap.size + 2 := by rw [← hW1]; simp
  have hL : W1.heap[w.heap.size + 1]? = some (.loop (rec .ready none)) := by
    rw [← hW1]; have := World.alloc_heap_new (w.alloc (.deferred (some []))) (.loop (rec .ready none)); rwa [World.size_alloc] at this
  have hD : W1.heap[w.heap.size]? = some (.deferred (some [])) := by
    rw [← hW1]; exact (Below.heap_alloc _ _ _ (by simp)).trans (World.alloc_heap_new w _)
  have hI1 : I [] W1 := by rw [← hW1]; exact hI.new _ (hI.new _ h0)
  have hB1 : Below w.heap.size w W1 := by rw [← hW1]; exact ((Below.refl _ w).alloc (Nat.le_refl _) _).alloc (by simp) _
  refine ⟨w.heap.size + 1, [{ target := .collected w.heap.size, args := #[] }], W1, { target := .fn (.func gf) lb, args := #[.func (.yield (w.heap.size + 1)) #[] #[]] }, W1, gf, #[.func (.yield (w.heap.size + 1)) #[] #[]] ++ lb, W1, ?_, ?_, ?_, ?_, fun _ => h1, ?_⟩
  · rw [← hW1, hrec]; exact run_enterLoop_outer _ _ _ _ _
  · simp only [resolve, hg]; simp [go_sem]
  · intro f' hf'; simp [Target.leads] at hf'; subst hf'; exact hFg
  · simp [invoke, go_sem, eg]
  have hne : ∀ {X Y : World} {row : Option Nat} {i : Nat} {o : Obj}, X.grownBy Y row → (row = none ∨ row = some Bs) → w.heap.size ≤ i → X.heap[i]? = some o → Y.heap[i]? = some o := fun hg hr hi ho =>
    (hg.block _ (lt_of_block ho) (by rcases hr with rfl | rfl <;> simp; omega)).trans ho
  have hbs : ∀ {X : World} {row : Option Nat}, (row = none ∨ row = some Bs) → ∀ r, row = some r → r = Bs ∨ (w.heap.size ≤ r ∧ ∃ o : Obj, X.heap[r]? = some o ∧ o.isCells = false) := fun hr r e => by
    rcases hr with rfl | rfl
    · cases e
    · exact .inl (by simpa using e.symm)
  refine (hseq (w.heap.size + 1)
    (fun pre W => (I pre W ∧ w.heap.size + 2 ≤ W.heap.size) ∧ W.heap[w.heap.size + 1]? = some (.loop (rec .ready none)) ∧ W.heap[w.heap.size]? = some (.deferred (some [])))
    (fun pre W => ∃ c, Ix c pre W ∧ W.heap[w.heap.size + 1]? = some (.loop (rec .done (some c))) ∧ W.heap[w.heap.size]? = some (.deferred (some [])))
    W1 hB1 (fun s X Y row hs hg' hr => ⟨⟨hI s X Y row hs.1.1 hg' (hbs hr), Nat.le_trans hs.1.2 hg'.size⟩, hne hg' hr (by omega) hs.2.1, hne hg' hr (Nat.le_refl _) hs.2.2⟩)
    (fun s X Y row ⟨c, hc, hl, hk⟩ hg' hr => ⟨c, hIx c s X Y row hc hg' (hbs hr), hne hg' hr (by omega) hl, hne hg' hr (Nat.le_refl _) hk⟩)
    ?_ ⟨⟨hI1, by omega⟩, hL, hD⟩).mono ?_
  · rintro pre x W ⟨⟨hi, hz⟩, hl, hk⟩ hlen
    have hy := run_yield (P := P) (args := encs x) hl (by rw [hrec]; exact hps x)
    rw [hrec] at hy
    refine ⟨fn, _, assign, body, hy, roundIn_of_wpIn hfn (wpIn_mono (hassign (w.heap.size + 1) pre x W hi hz) ?_)⟩
    intro e a1 Wa hp
    cases e with
    | normal =>
      obtain ⟨hka, hkpa, hia⟩ := hp
      have hla := hka.same _ _ (by omega) hl rfl
      have hda := hka.same _ _ (Nat.le_refl _) hk rfl
      have hlt : w.heap.size + 1 < Wa.heap.size := lt_of_block hla
      refine ⟨_, run_beginRound hla (by rw [hrec]), ?_⟩
      have hlb : (Wa.putObj (w.heap.size + 1) (.loop { rec .ready none with state := .busy })).heap[w.heap.size + 1]? = some (.loop { rec .ready none with state := .busy }) := World.putObj_heap_same hlt
      have hdb : (Wa.putObj (w.heap.size + 1) (.loop { rec .ready none with state := .busy })).heap[w.heap.size]? = some (.deferred (some [])) := (World.putObj_heap_other (by omega)).trans hda
      have hkb : KpB n₀ Bs Wa (Wa.putObj (w.heap.size + 1) (.loop { rec .ready none with state := .busy })) := KpB.b (w := w) hn₀ hBs _ _ _ _ (by omega) hla rfl rfl
      refine wpIn_mono (hbody _ pre x a1 _ ((hA pre x a1).put (s := ()) _ hia (by omega) hla rfl) hlen) ?_
      intro e2 a2 Wb hq
      have turn : ∀ (jump : Option Code), KeepsFrom w.heap.size (Wa.putObj (w.heap.size + 1) (.loop { rec .ready none with state := .busy })) Wb →
          Wb.heap[w.heap.size + 1]? = some (.loop { rec .ready none with state := .busy }) ∧
          (Instr.endRound (w.heap.size + 1) jump).run P Wb = .ok (.bool jump.isNone) (Wb.putObj (w.heap.size + 1) (.loop (rec (if jump.isNone then .ready else .done) jump))) ∧
          (Wb.putObj (w.heap.size + 1) (.loop (rec (if jump.isNone then .ready else .done) jump))).heap[w.heap.size + 1]? = some (.loop (rec (if jump.isNone then .ready else .done) jump)) ∧
          (Wb.putObj (w.heap.size + 1) (.loop (rec (if jump.isNone then .ready else .done) jump))).heap[w.heap.size]? = some (.deferred (some [])) := fun jump hkf => by
        have hlc := hkf.same _ _ (by omega) hlb rfl
        have hrun := run_endRound (P := P) jump hlc
        rw [hrec] at hrun hlc ⊢
        exact ⟨hlc, hrun, World.putObj_heap_same (lt_of_block hlc), (World.putObj_heap_other (by omega)).trans (hkf.same _ _ (Nat.le_refl _) hdb rfl)⟩
      cases e2 with
      | normal =>
        obtain ⟨hkf, hkp, hi2⟩ := hq
        obtain ⟨hlc, hrun, hl2, hd2⟩ := turn none hkf
        refine ⟨_, _, hrun, .inl ⟨rfl, ⟨⟨hI.put _ hi2 (by omega) hlc rfl, ?_⟩, hl2, hd2⟩, ?_⟩⟩
        · have := lt_of_block hl2; omega
        · exact ((hkpa.t hkb).t hkp).t (KpB.b (w := w) hn₀ hBs _ _ _ _ (by omega) hlc rfl rfl)
      | ret =>
        obtain ⟨hkf, hi2⟩ := hq
        obtain ⟨hlc, hrun, hl2, hd2⟩ := turn (some .ret) hkf
        exact ⟨_, _, hrun, .inr ⟨rfl, .ret, (hIx _).put _ hi2 (by omega) hlc rfl, hl2, hd2⟩⟩
      | _ => exact (hq : False).elim
    | _ => exact (hp : False).elim
  · rintro e W2 ⟨⟨v, rfl⟩, (⟨xs, hS, ⟨hi, _⟩, hl, hk⟩ | ⟨pre, hSp, c, hi, hl, hk⟩)⟩
    · exact ⟨none, _, by have := run_endLoop (P := P) hl (by rw [hrec]; simp); rw [hrec] at this; exact this, hdone _ xs _ (Nat.le_refl _) hS (hI.put _ hi (by omega) hl rfl) ((World.putObj_heap_other (by omega)).trans hk)⟩
    · exact ⟨some c, _, by have := run_endLoop (P := P) hl (by rw [hrec]; simp); rw [hrec] at this; exact this, hstop _ c pre _ (Nat.le_refl _) hSp ((hIx c).put _ hi (by omega) hl rfl) ((World.putObj_heap_other (by omega)).trans hk)⟩

end Go.Proofs.YtebeekjcepjcnaaDoor
