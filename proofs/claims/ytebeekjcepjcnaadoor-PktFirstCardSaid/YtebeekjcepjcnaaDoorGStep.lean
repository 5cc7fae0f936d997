/-
  The steps of the walk of a region; what is known of the world in it.
  More steps of the walk of a region: an operation whose value has a known form.
-/
import Derived.WalkKit
import Derived.WalkSpells
import Derived.WalkLawsBesides
import Derived.WalkSmall
import Derived.Lib.Hide
import Derived.Deep.AppendLies
import Derived.Maps.AppendAt
import Derived.Laws.AppendOwnNone
import Derived.Laws.CopyOwn
import Derived.OneCell
import Derived.Orders
import Derived.RegionTactic
import Derived.Still
import Derived.Test.YtebeekjcepjcnaaDoorProg
import Derived.Deep.MidRow
import Derived.Test.YtebeekjcepjcnaaDoorGBase
import Derived.Test.YtebeekjcepjcnaaDoorGPkt
import Derived.Test.YtebeekjcepjcnaaDoorGWalk
namespace Go.Proofs.YtebeekjcepjcnaaDoor
open Go.RowKit

section
variable {P : Program} {ops : Array Oper} {Q : Exit → Act → World → Prop} {E : Nat → World → Prop} {S : List Nat} {G : World → World → Prop} {fr : List Nat} {FF : Nat → Value → World → Prop} {Fs : List (World → Prop)} {k : Nat} {o : Oper} {rest : List Nat} {a a' : Act} {x : Value}
/-- An operation of one value. -/
theorem Walk.det (ho : ops[k]? = some o) (hs : S.contains k = false) (hf : fr.contains k = false)
    (hrun : ∀ c W, E c W → Facts' Fs W → wpList P ops (Exit.then (TextPost a' fun W' => G W W' ∧ E c W') NoQ) [o] a W) (hv : a' = a.put o.dst x) (hrest : Walk P ops Q E S G fr FF Fs rest a') : Walk P ops Q E S G fr FF Fs (k :: rest) a := by
  subst hv
  refine ⟨o, ho, .inl ⟨x, hf, fun c W _ hE hF => ?_, hrest⟩⟩
  have := hrun c W hE hF
  rw [hs]
  exact this
/-- Store number n of the chain. -/
theorem Walk.store (n : Nat) (ho : ops[k]? = some o) (hs : S.contains k = true) (hn : S.idxOf k = n) (hf : fr.contains k = false)
    (hrun : ∀ W, E n W → Facts' Fs W → wpList P ops (Exit.then (TextPost a' fun W' => G W W' ∧ E (n + 1) W') NoQ) [o] a W) (hv : a' = a.put o.dst x) (hrest : Walk P ops Q E S G fr FF Fs rest a') : Walk P ops Q E S G fr FF Fs (k :: rest) a := by
  subst hv
  refine ⟨o, ho, .inl ⟨x, hf, fun c W hc hE hF => ?_, hrest⟩⟩
  have hc' := (hc hs).trans hn
  subst hc'
  have := hrun W hE hF
  rw [hs]
  exact this
/-- An operation of whatever value, of which F is known; all behind it but the free ones wait for it. -/
theorem Walk.any (F : Value → World → Prop) (hF : ∀ u W W', F u W → G W W' → F u W') (ho : ops[k]? = some o) (hs : S.contains k = false) (hf : fr.contains k = false) (hw : waitAll ops fr [k] rest = true)
    (hrun : ∀ c W, E c W → Facts' Fs W → wpList P ops (Exit.then (AnyPost a o.dst F fun W' => G W W' ∧ E c W') NoQ) [o] a W) (hrest : ∀ u, Walk P ops Q E S G fr FF (F u :: Fs) rest (a.put o.dst u)) : Walk P ops Q E S G fr FF Fs (k :: rest) a := by
  refine ⟨o, ho, .inr ⟨F, (fun h => by rw [hf] at h; cases h), hF, hw, fun c W _ hE hF => ?_, hrest⟩⟩
  have := hrun c W hE hF
  rw [hs]
  exact this
/-- A free one: it may come up at any time. -/
theorem Walk.free (hF : ∀ u W W', FF k u W → G W W' → FF k u W') (ho : ops[k]? = some o) (hs : S.contains k = false) (hw : waitAll ops fr [k] rest = true)
    (hrun : ∀ a c W, E c W → wpList P ops (Exit.then (AnyPost a o.dst (FF k) fun W' => G W W' ∧ E c W') NoQ) [o] a W) (hrest : ∀ u, Walk P ops Q E S G fr FF (FF k u :: Fs) rest (a.put o.dst u)) : Walk P ops Q E S G fr FF Fs (k :: rest) a := by
  refine ⟨o, ho, .inr ⟨FF k, fun _ => rfl, hF, hw, fun c W _ hE _ => ?_, hrest⟩⟩
  have := hrun a c W hE
  rw [hs]
  exact this
theorem Walk.done (h : ∀ W, E S.length W → Facts' Fs W → Q .normal a W) : Walk P ops Q E S G fr FF Fs [] a := h
theorem Facts'.head {f : World → Prop} {W : World} (h : Facts' (f :: Fs) W) : f W := h f (by simp)
theorem Facts'.tail {f : World → Prop} {W : World} (h : Facts' (f :: Fs) W) : Facts' Fs W := fun g hg => h g (by simp [hg])
/-- A region whose operations are all of one value. -/
theorem wp_region_walk0 {id : Nat} {w : World} {l : List Oper} {a0 : Act} (hm : P.follows .mixedOrders = true) (E : Nat → World → Prop) (S : List Nat) (G : World → World → Prop) (ord : List Nat) (hB : walkB l.toArray S ord = true)
    (hE0 : E 0 w.drew) (h : Walk P l.toArray Q E S G [] (fun _ _ _ => True) [] ord a0) : (Code.region id l.toArray true).wp P Q a0 w :=
  wp_region_walk hm E S G [] _ ord hB (fun _ h => by simp at h) hE0 h
end

/-- Is the next operation a load, a build? -/
theorem look_load {P : Program} {ops : Array Oper} {Q : Exit → Act → World → Prop} {a : Act} {w : World} {rest : List Oper} {d : Option Tmp} {ty t : TypeId} {x : Operand} {p : String} {af : Array Edge} {g : Option (Nat × Bool)}
    (h : wpList P ops Q ((⟨d, .load ty x, t, p, af, g⟩ : Oper) :: rest) a w) : wpList P ops Q ((⟨d, .load ty x, t, p, af, g⟩ : Oper) :: rest) a w := h
theorem grown_of_below {W W' : World} {row : Option Nat} (h : Below W.heap.size W W') : W.grownBy W' row := ⟨h.os, h.tape, h.output, h.size, fun i hi _ => h.block i hi⟩

/-- What is known of the world: below B all is as at w; these blocks hold this. -/
def St (w : World) (B : Nat) (L : List (Nat × TypeId × Array Value)) (W : World) : Prop := Below B w W ∧ B ≤ W.heap.size ∧ ∀ x ∈ L, Blk W x.1 x.2.1 x.2.2
section
variable {w W W' : World} {B : Nat} {L : List (Nat × TypeId × Array Value)}
theorem St.get (h : St w B L W) (i : Nat) {g : Nat} {t : TypeId} {cs : Array Value} (hi : L[i]? = some (g, t, cs)) : Blk W g t cs := h.2.2 _ (List.mem_of_getElem? hi)
theorem St.below (h : St w B L W) (hb : Below W.heap.size W W') : St w B L W' :=
  ⟨h.1.trans (hb.mono h.2.1), Nat.le_trans h.2.1 hb.size, fun x hx => (h.2.2 x hx).below hb (h.2.2 x hx).lt⟩
theorem St.drew (h : St w B L W) : St w B L W.drew := ⟨h.1.drew, h.2.1, fun x hx => (h.2.2 x hx).drew⟩
theorem St.alloc (h : St w B L W) (o : Obj) : St w B L (W.alloc o) := h.below ((Below.refl _ _).alloc (Nat.le_refl _) _)
theorem St.nil (hb : Below B w W) (hB : B ≤ W.heap.size) : St w B [] W := ⟨hb, hB, fun x hx => by simp at hx⟩
theorem St.cons (h : St w B L W) {g : Nat} {t : TypeId} {cs : Array Value} (hg : Blk W g t cs) : St w B ((g, t, cs) :: L) W :=
  ⟨h.1, h.2.1, fun x hx => by
    rcases List.mem_cons.1 hx with rfl | hx
    · exact hg
    · exact h.2.2 x hx⟩
/-- A cell of a block of its own is written. -/
theorem St.setFar (h : St w B L W) {p : Addr} (hp : B ≤ p.block) (hne : ∀ x ∈ L, x.1 ≠ p.block) (u : Value) : St w B L (W.setCell p u) :=
  ⟨h.1.setCell hp u, by simpa using h.2.1, fun x hx => (h.2.2 x hx).far (hne x hx) u⟩
theorem St.rowFar (h : St w B L W) {R : Nat} (hp : B ≤ R) (hne : ∀ x ∈ L, x.1 ≠ R) (cs : Array Value) : St w B L (W.setRow R cs) :=
  ⟨below_setRow h.1 hp cs, by simpa using h.2.1, fun x hx => (setRow_other _ _ _ _ (hne x hx)).trans (h.2.2 x hx)⟩
end

/-- The same, and a block that the region stores into once. -/
def St1 (w : World) (B : Nat) (L : List (Nat × TypeId × Array Value)) (R : Nat) (t : TypeId) (z n : Array Value) (c : Nat) (W : World) : Prop := St w B L W ∧ B ≤ R ∧ (∀ x ∈ L, x.1 ≠ R) ∧ Blk W R t (if c = 0 then z else n)
theorem St1.below {w W W' : World} {B : Nat} {L : List (Nat × TypeId × Array Value)} {R : Nat} {t : TypeId} {z n : Array Value} {c : Nat} (h : St1 w B L R t z n c W) (hb : Below W.heap.size W W') : St1 w B L R t z n c W' :=
  ⟨h.1.below hb, h.2.1, h.2.2.1, h.2.2.2.below hb h.2.2.2.lt⟩
theorem St1.drew {w W : World} {B : Nat} {L : List (Nat × TypeId × Array Value)} {R : Nat} {t : TypeId} {z n : Array Value} {c : Nat} (h : St1 w B L R t z n c W) : St1 w B L R t z n c W.drew :=
  ⟨h.1.drew, h.2.1, h.2.2.1, h.2.2.2.drew⟩
theorem St1.put {w W : World} {B : Nat} {L : List (Nat × TypeId × Array Value)} {R : Nat} {t : TypeId} {z n : Array Value} (h : St1 w B L R t z n 0 W) : St1 w B L R t z n 1 (W.setRow R n) :=
  ⟨h.1.rowFar h.2.1 h.2.2.1 n, h.2.1, h.2.2.1, setRow_heap _ _ _ _ _ _ h.2.2.2⟩
theorem Blk.range {W : World} {g : Nat} {t : TypeId} {cs : Array Value} (h : Blk W g t cs) (o : Nat) {l : List Value} (hl : (cs.toList.drop o).take l.length = l) : W.rangeAt g o l := fun j v hj => by
  rw [h.cell]
  have hlt : j < l.length := (List.getElem?_eq_some_iff.1 hj).1
  rw [← hl, List.getElem?_take_of_lt hlt, List.getElem?_drop] at hj
  simpa using hj

/-- A store into a block of type t that was made in the region: the others are as they were. -/
structure Late (B : Nat) (t : TypeId) (z n : Array Value) (W W' : World) : Prop where
  below : Below B W W'
  keep : ∀ (g : Nat) (x : Obj), W.heap[g]? = some x → x ≠ .cells z t (0, 0) → W'.heap[g]? = some x
  turn : ∀ g, Blk W g t z → Blk W' g t z ∨ Blk W' g t n
theorem Late.refl {B : Nat} {t : TypeId} {z n : Array Value} (W : World) : Late B t z n W W := ⟨Below.refl _ _, fun _ _ h _ => h, fun _ h => .inl h⟩
theorem Late.grown {B : Nat} {t : TypeId} {z n : Array Value} {W W' : World} (h : Below W.heap.size W W') (hB : B ≤ W.heap.size) : Late B t z n W W' :=
  ⟨h.mono hB, fun g _ hg _ => (h.block g (lt_of_block hg)).trans hg, fun _ hg => .inl (hg.below h hg.lt)⟩
theorem Late.store {B : Nat} {t : TypeId} {z n : Array Value} {W : World} {g : Nat} (hg : Blk W g t z) (hB : B ≤ g) : Late B t z n W (W.setRow g n) :=
  ⟨below_setRow (Below.refl _ _) hB n, fun k _ hk hne => (setRow_other W g k n (fun e => by subst e; rw [hg] at hk; injection hk with hk; exact hne hk.symm)).trans hk,
   fun k hk => by
    by_cases e : k = g
    · subst e; exact .inr (setRow_heap W k z n t _ hk)
    · exact .inl ((setRow_other W g k n e).trans hk)⟩

theorem Late.again {B : Nat} {t : TypeId} {z n : Array Value} {W : World} {g : Nat} (hg : Blk W g t n) (hB : B ≤ g) : Late B t z n W (W.setRow g n) := by
  have hs : ∀ k (x : Obj), W.heap[k]? = some x → (W.setRow g n).heap[k]? = some x := fun k x hk => by
    by_cases e : k = g
    · subst e; rw [hg] at hk; rw [← hk]; exact setRow_heap W k n n t _ hg
    · exact (setRow_other W g k n e).trans hk
  exact ⟨below_setRow (Below.refl _ _) hB n, fun k x hk _ => hs k x hk, fun k hk => .inl (hs k _ hk)⟩
/-- A block that the region makes: as it was made, or as it was stored into. -/
def LateB (b : Nat) (t : TypeId) (z n : Array Value) (u : Value) (W : World) : Prop := ∃ g, u = .pointer (some ⟨g, 0, none⟩) ∧ b ≤ g ∧ (Blk W g t z ∨ Blk W g t n)
def LateN (b : Nat) (t : TypeId) (n : Array Value) (u : Value) (W : World) : Prop := ∃ g, u = .pointer (some ⟨g, 0, none⟩) ∧ b ≤ g ∧ Blk W g t n
theorem LateN.keep {B b : Nat} {t : TypeId} {z n : Array Value} (u : Value) (W W' : World) (h : LateN b t n u W) (hG : Late B t z n W W') : LateN b t n u W' := by
  obtain ⟨g, e, hb, hg⟩ := h
  by_cases hne : n = z
  · subst hne
    exact ⟨g, e, hb, (hG.turn g hg).elim id id⟩
  · exact ⟨g, e, hb, hG.keep g _ hg (by simpa using hne)⟩
theorem LateB.keep {B b : Nat} {t : TypeId} {z n : Array Value} (u : Value) (W W' : World) (h : LateB b t z n u W) (hG : Late B t z n W W') : LateB b t z n u W' := by
  obtain ⟨g, e, hb, hg | hg⟩ := h
  · exact ⟨g, e, hb, hG.turn g hg⟩
  · obtain ⟨g', e', hb', hg'⟩ := LateN.keep u W W' ⟨g, e, hb, hg⟩ hG
    exact ⟨g', e', hb', .inr hg'⟩

section
variable {P : Program} {c : Code} {Q : Exit → Act → World → Prop} {a : Act} {w : World} {A A1 A2 A3 : Array Value} {t t1 t2 t3 : TypeId}
theorem blocks1 : Below w.heap.size w (w.alloc (.cells A t)) ∧ (w.alloc (.cells A t)).heap.size = w.heap.size + 1 ∧ Blk (w.alloc (.cells A t)) w.heap.size t A :=
  ⟨(Below.refl _ _).alloc (Nat.le_refl _) _, by simp, Blk.new _ _ _⟩
theorem Blk.next {W : World} {n : Nat} (hs : W.heap.size = n) (t : TypeId) (A : Array Value) : Blk (W.alloc (.cells A t)) n t A := by subst hs; exact Blk.new _ _ _
theorem blocks2 : Below w.heap.size w ((w.alloc (.cells A t)).alloc (.cells A1 t1)) ∧ ((w.alloc (.cells A t)).alloc (.cells A1 t1)).heap.size = w.heap.size + 2 ∧ Blk ((w.alloc (.cells A t)).alloc (.cells A1 t1)) w.heap.size t A ∧ Blk ((w.alloc (.cells A t)).alloc (.cells A1 t1)) (w.heap.size + 1) t1 A1 :=
  ⟨blocks1.1.alloc (by simp) _, by simp, blocks1.2.2.alloc _, Blk.next blocks1.2.1 _ _⟩
theorem wp_name1 (h : ∀ w1, Below w.heap.size w w1 → w1.heap.size = w.heap.size + 1 → Blk w1 w.heap.size t A → c.wp P Q a w1) : c.wp P Q a (w.alloc (.cells A t)) :=
  h _ blocks1.1 blocks1.2.1 blocks1.2.2
theorem wp_name2 (h : ∀ w1, Below w.heap.size w w1 → w1.heap.size = w.heap.size + 2 → Blk w1 w.heap.size t A → Blk w1 (w.heap.size + 1) t1 A1 → c.wp P Q a w1) : c.wp P Q a ((w.alloc (.cells A t)).alloc (.cells A1 t1)) :=
  h _ blocks2.1 blocks2.2.1 blocks2.2.2.1 blocks2.2.2.2
theorem wp_name3 (h : ∀ w1, Below w.heap.size w w1 → w1.heap.size = w.heap.size + 3 → Blk w1 w.heap.size t A → Blk w1 (w.heap.size + 1) t1 A1 → Blk w1 (w.heap.size + 2) t2 A2 → c.wp P Q a w1) :
    c.wp P Q a (((w.alloc (.cells A t)).alloc (.cells A1 t1)).alloc (.cells A2 t2)) :=
  h _ (blocks2.1.alloc (by simp; omega) _) (by simp) (blocks2.2.2.1.alloc _) (blocks2.2.2.2.alloc _) (Blk.next blocks2.2.1 _ _)
end

end Go.Proofs.YtebeekjcepjcnaaDoor
namespace Go.Proofs.YtebeekjcepjcnaaDoor
open Go.RowKit

section
variable {P : Program} {ops : Array Oper} {Q : Exit → Act → World → Prop} {E : Nat → World → Prop} {S : List Nat} {G : World → World → Prop} {fr : List Nat} {FF : Nat → Value → World → Prop}
theorem Walk.weaken : ∀ (l : List Nat) (Fs Fs' : List (World → Prop)) (a : Act), (∀ W, Facts' Fs W → Facts' Fs' W) → Walk P ops Q E S G fr FF Fs' l a → Walk P ops Q E S G fr FF Fs l a
  | [], _, _, _, hs, h => fun W hE hF => h W hE (hs W hF)
  | k :: l, Fs, Fs', a, hs, h => by
    obtain ⟨o, ho, ⟨x, h0, h1, h2⟩ | ⟨F, hFF, h1, h2, h3, h4⟩⟩ := h
    · exact ⟨o, ho, .inl ⟨x, h0, fun c W hc hE hF => h1 c W hc hE (hs W hF), Walk.weaken l _ _ _ hs h2⟩⟩
    · refine ⟨o, ho, .inr ⟨F, hFF, h1, h2, fun c W hc hE hF => h3 c W hc hE (hs W hF), fun u => Walk.weaken l _ _ _ (fun W hF f hf => ?_) (h4 u)⟩⟩
      rcases List.mem_cons.1 hf with rfl | hf
      · exact hF.head
      · exact hs W hF.tail f hf
theorem wpList_mono_then {o : Oper} {a : Act} {w : World} {K K' : Act → World → Prop} (h : ∀ a w, K a w → K' a w) (hh : wpList P ops (Exit.then K NoQ) [o] a w) : wpList P ops (Exit.then K' NoQ) [o] a w := by
  simp only [wpList] at hh ⊢
  by_cases hw : Region.wanted o (yielded ops a.tmps) = true
  · simp only [hw, if_true] at hh ⊢
    rcases hh with hh | ⟨_, a', w', hx⟩
    · refine .inl ?_
      unfold Oper.wp at hh ⊢
      generalize (execOp a.eval o).run P w = r at *
      cases r with
      | ok n w' =>
        cases n <;> simp only [Oper.upon] at hh ⊢
        case value u => exact h _ _ hh
        case skip => exact h _ _ hh
        case defer d => exact h _ _ hh
        case row r args => exact Rows.mono hh fun _ _ he => h _ _ he
        case enter f args =>
          refine Calls.mono hh fun e w'' he => ?_
          cases e with
          | returned u => exact h _ _ he
          | panicked c => exact (he : False).elim
          | outgrown => obtain ⟨_, _, hx⟩ := he; exact (hx : False).elim
      | halt x w' =>
        cases x <;> simp only [Oper.upon] at hh ⊢
        exact (hh : False).elim
    · exact (hx : False).elim
  · simp only [hw] at hh ⊢
    exact h _ _ hh
def plainRest (ops : Array Oper) (fr l : List Nat) : Bool := l.all fun k => !fr.contains k && (ops[k]?).isSome
theorem Walk.vac {Fs : List (World → Prop)} (h : ∀ W, ¬ Facts' Fs W) : ∀ (l : List Nat) (a : Act), plainRest ops fr l = true → Walk P ops Q E S G fr FF Fs l a
  | [], _, _ => fun W _ hF => (h W hF).elim
  | k :: l, a, hl => by
    simp only [plainRest, List.all_cons, Bool.and_eq_true, Bool.not_eq_true'] at hl
    obtain ⟨o, ho⟩ := Option.isSome_iff_exists.1 hl.1.2
    exact ⟨o, ho, .inl ⟨undef, hl.1.1, fun c W _ _ hF => (h W hF).elim, Walk.vac h l _ hl.2⟩⟩
def AnyOf {α : Type} (a : Act) (d : Option Tmp) (form : α → Value) (F : α → World → Prop) (H : World → Prop) (a' : Act) (W' : World) : Prop := ∃ x, a' = a.put d (form x) ∧ F x W' ∧ H W'
variable {Fs : List (World → Prop)} {k : Nat} {o : Oper} {rest : List Nat} {a a' : Act} {x : Value}
theorem ops_at (h : ops.toList[k]? = some o) : ops[k]? = some o := by simpa using h
theorem Walk.one (ho : ops.toList[k]? = some o) (hs : S.contains k = false) (hf : fr.contains k = false)
    (hrun : ∀ c W, E c W → Facts' Fs W → wpList P ops (Exit.then (TextPost a' fun W' => G W W' ∧ E c W') NoQ) [o] a W) (hv : a' = a.put o.dst x) (hrest : Walk P ops Q E S G fr FF Fs rest a') : Walk P ops Q E S G fr FF Fs (k :: rest) a :=
  Walk.det (ops_at ho) hs hf hrun hv hrest
theorem Walk.keep (n : Nat) (ho : ops.toList[k]? = some o) (hs : S.contains k = true) (hn : S.idxOf k = n) (hf : fr.contains k = false)
    (hrun : ∀ W, E n W → Facts' Fs W → wpList P ops (Exit.then (TextPost a' fun W' => G W W' ∧ E (n + 1) W') NoQ) [o] a W) (hv : a' = a.put o.dst undef) (hrest : Walk P ops Q E S G fr FF Fs rest a') : Walk P ops Q E S G fr FF Fs (k :: rest) a :=
  Walk.store n (ops_at ho) hs hn hf hrun hv hrest
theorem Walk.freeOp (hF : ∀ u W W', FF k u W → G W W' → FF k u W') (ho : ops.toList[k]? = some o) (hs : S.contains k = false) (hw : waitAll ops fr [k] rest = true)
    (hrun : ∀ a c W, E c W → wpList P ops (Exit.then (AnyPost a o.dst (FF k) fun W' => G W W' ∧ E c W') NoQ) [o] a W) (hrest : ∀ u, Walk P ops Q E S G fr FF (FF k u :: Fs) rest (a.put o.dst u)) : Walk P ops Q E S G fr FF Fs (k :: rest) a :=
  Walk.free hF (ops_at ho) hs hw hrun hrest
theorem Walk.whatever (F : Value → World → Prop) (hF : ∀ u W W', F u W → G W W' → F u W') (ho : ops.toList[k]? = some o) (hs : S.contains k = false) (hf : fr.contains k = false) (hw : waitAll ops fr [k] rest = true)
    (hrun : ∀ c W, E c W → Facts' Fs W → wpList P ops (Exit.then (AnyPost a o.dst F fun W' => G W W' ∧ E c W') NoQ) [o] a W) (hrest : ∀ u, Walk P ops Q E S G fr FF (F u :: Fs) rest (a.put o.dst u)) : Walk P ops Q E S G fr FF Fs (k :: rest) a :=
  Walk.any F hF (ops_at ho) hs hf hw hrun hrest
/-- An operation whose value has this form. -/
theorem Walk.anyOf {α : Type} (form : α → Value) (hinj : ∀ x y, form x = form y → x = y) (F : α → World → Prop) (hF : ∀ x W W', F x W → G W W' → F x W') (ho : ops.toList[k]? = some o) (hs : S.contains k = false) (hf : fr.contains k = false) (hw : waitAll ops fr [k] rest = true) (hp : plainRest ops fr rest = true)
    (hrun : ∀ c W, E c W → Facts' Fs W → wpList P ops (Exit.then (AnyOf a o.dst form F fun W' => G W W' ∧ E c W') NoQ) [o] a W) (hrest : ∀ x, Walk P ops Q E S G fr FF (F x :: Fs) rest (a.put o.dst (form x))) : Walk P ops Q E S G fr FF Fs (k :: rest) a := by
  refine Walk.any (fun u W => ∃ x, u = form x ∧ F x W) (fun u W W' ⟨x, e, h⟩ hG => ⟨x, e, hF x W W' h hG⟩) (ops_at ho) hs hf hw (fun c W hE hFs => ?_) (fun u => ?_)
  · refine wpList_mono_then ?_ (hrun c W hE hFs)
    rintro a' W' ⟨x, e, h, hH⟩
    exact ⟨form x, e, ⟨x, rfl, h⟩, hH⟩
  · by_cases hu : ∃ x, u = form x
    · obtain ⟨x, rfl⟩ := hu
      refine Walk.weaken rest _ _ _ (fun W hF f hf => ?_) (hrest x)
      rcases List.mem_cons.1 hf with rfl | hf
      · obtain ⟨y, e, h⟩ := hF.head
        rw [hinj x y e]; exact h
      · exact hF.tail f hf
    · exact Walk.vac (fun W hF => by obtain ⟨x, e, _⟩ := hF.head; exact hu ⟨x, e⟩) rest _ hp
end

end Go.Proofs.YtebeekjcepjcnaaDoor
