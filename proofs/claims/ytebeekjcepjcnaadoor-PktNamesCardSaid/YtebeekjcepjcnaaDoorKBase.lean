/-
  The plain part that all walks of this seat share: words for byte slices in memory, and small laws on them. No program in sight.
  A region that draws its order, by an invariant: whatever order its edges allow, each operation takes the invariant on.
-/
import Derived.WalkKit
import Derived.WalkSpells
import Derived.WalkLawsBesides
import Derived.WalkSmall
import Derived.Lib.Hide
import Derived.Deep.AppendLies
import Derived.Maps.AppendAt
import Derived.Laws.AppendOwnNone
import Derived.Laws.CopyOwn
import Derived.OneCell
import Derived.Orders
import Derived.RegionTactic

namespace Go.Proofs.YtebeekjcepjcnaaDoor
open Go.RowKit

/-- The cells of some bytes. -/
def U8 (bs : List Int) : List Value := bs.map (Value.int .u8)
theorem U8_append (a b : List Int) : U8 (a ++ b) = U8 a ++ U8 b := by simp [U8]
theorem U8_getD (bs : List Int) (j : Nat) (h : j < bs.length) : (U8 bs)[j]? = some (.int .u8 (bs.getD j 0)) := by
  simp [U8, h]
theorem U8_one (bs : List Int) : ∀ u ∈ U8 bs, u.oneCell' = true := by
  intro u hu
  obtain ⟨b, _, rfl⟩ := List.mem_map.1 hu
  rfl
theorem U8_set (bs : List Int) (j : Nat) (x : Int) : (U8 bs).set j (.int .u8 x) = U8 (bs.set j x) := by simp [U8, List.map_set]
theorem U8_zeros (n : Nat) : List.replicate n (Value.int .u8 0) = U8 (List.replicate n 0) := by simp [U8]

/-- All of them are bytes. -/
def Byt (bs : List Int) : Prop := ∀ b ∈ bs, 0 ≤ b ∧ b < 256
theorem Byt.at_ {bs : List Int} (h : Byt bs) (j : Nat) : 0 ≤ bs.getD j 0 ∧ bs.getD j 0 < 256 := by
  by_cases hj : j < bs.length
  · rw [List.getD_eq_getElem?_getD, List.getElem?_eq_getElem hj]; exact h _ (List.getElem_mem hj)
  · rw [List.getD_eq_getElem?_getD, List.getElem?_eq_none (by omega)]; simp
theorem Byt.nil : Byt [] := fun _ h => by simp at h
theorem Byt.cons {x : Int} {l : List Int} (h0 : 0 ≤ x) (h1 : x < 256) (h : Byt l) : Byt (x :: l) := by
  intro b hb
  rcases List.mem_cons.1 hb with rfl | hb
  · exact ⟨h0, h1⟩
  · exact h b hb
theorem Byt.append {a b : List Int} (ha : Byt a) (hb : Byt b) : Byt (a ++ b) := by
  intro x hx
  rcases List.mem_append.1 hx with h | h
  · exact ha x h
  · exact hb x h
theorem Byt.take {a : List Int} (ha : Byt a) (k : Nat) : Byt (a.take k) := fun x hx => ha x (List.mem_of_mem_take hx)
theorem Byt.drop {a : List Int} (ha : Byt a) (k : Nat) : Byt (a.drop k) := fun x hx => ha x (List.mem_of_mem_drop hx)
theorem Byt.set {a : List Int} (ha : Byt a) (k : Nat) {x : Int} (h0 : 0 ≤ x) (h1 : x < 256) : Byt (a.set k x) := by
  intro b hb
  rcases List.mem_or_eq_of_mem_set hb with h | rfl
  · exact ha b h
  · exact ⟨h0, h1⟩
/-- Reading from A on, the cells hold these numbers of kind k; the block lies below B. -/
def Rd (w : World) (B : Nat) (A : Option Addr) (k : IntKind) (xs : List Int) : Prop :=
  ∀ j, j < xs.length → ∃ b off, A = some ⟨b, off, none⟩ ∧ b < B ∧ w.cell? ⟨b, off + j, none⟩ = some (.int k (xs.getD j 0))

section
variable {w w' : World} {B B' : Nat} {A : Option Addr} {k : IntKind} {xs : List Int}
theorem Rd.keep (h : Rd w B A k xs) (hk : ∀ p : Addr, p.block < B → w'.cell? p = w.cell? p) : Rd w' B A k xs := fun j hj => by
  obtain ⟨b, off, e, hb, hc⟩ := h j hj
  exact ⟨b, off, e, hb, (hk _ hb).trans hc⟩
theorem Rd.more (h : Rd w B A k xs) (hB : B ≤ B') : Rd w B' A k xs := fun j hj => by
  obtain ⟨b, off, e, hb, hc⟩ := h j hj
  exact ⟨b, off, e, by omega, hc⟩
theorem Rd.below (h : Rd w B A k xs) {C : Nat} (hb : Below C w w') (hC : B ≤ C) : Rd w' B A k xs := h.keep fun _ hp => hb.cell (by omega)
theorem Rd.alloc (h : Rd w B A k xs) (hB : B ≤ w.heap.size) (o : Obj) : Rd (w.alloc o) B A k xs := h.keep fun p hp => World.cell?_alloc_lt w o p (by omega)
theorem Rd.drew (h : Rd w B A k xs) : Rd w.drew B A k xs := h
theorem Rd.setCell (h : Rd w B A k xs) {p : Addr} (hB : B ≤ p.block) (u : Value) : Rd (w.setCell p u) B A k xs :=
  h.keep fun q hq => World.cell?_setCell_other w p q u (fun e => by subst e; omega)
theorem Rd.grown (h : Rd w B A k xs) {row : Option Nat} (hg : w.grownBy w' row) (hB : B ≤ w.heap.size) (hr : ∀ g, row = some g → B ≤ g) : Rd w' B A k xs :=
  h.keep fun p hp => World.cell?_of_block (hg.block p.block (by omega) (fun e => by have := hr _ e.symm; omega))
theorem Rd.nil : Rd w B A k [] := fun j hj => by simp at hj
theorem Rd.at0 (h : Rd w B A k xs) (h0 : 0 < xs.length) : ∃ b off, A = some ⟨b, off, none⟩ ∧ b < B ∧ ∀ j, j < xs.length → w.cell? ⟨b, off + j, none⟩ = some (.int k (xs.getD j 0)) := by
  obtain ⟨b, off, e, hb, _⟩ := h 0 h0
  refine ⟨b, off, e, hb, fun j hj => ?_⟩
  obtain ⟨b', off', e', _, hc⟩ := h j hj
  rw [e] at e'
  simp only [Option.some.injEq, Addr.mk.injEq, and_true] at e'
  obtain ⟨rfl, rfl⟩ := e'
  exact hc
theorem Rd.of (b off : Nat) (hb : b < B) (h : ∀ j, j < xs.length → w.cell? ⟨b, off + j, none⟩ = some (.int k (xs.getD j 0))) : Rd w B (some ⟨b, off, none⟩) k xs :=
  fun j hj => ⟨b, off, rfl, hb, h j hj⟩
theorem Rd.drop (h : Rd w B A k xs) (n : Nat) {A' : Option Addr} (hA : n < xs.length → ∀ b off, A = some ⟨b, off, none⟩ → A' = some ⟨b, off + n, none⟩) : Rd w B A' k (xs.drop n) := fun j hj => by
  have hl : n + j < xs.length := by simp at hj; omega
  obtain ⟨b, off, e, hb, hc⟩ := h (n + j) hl
  refine ⟨b, off + n, hA (by omega) b off e, hb, ?_⟩
  rw [Nat.add_assoc, hc]
  simp [List.getD_eq_getElem?_getD]
theorem Rd.take (h : Rd w B A k xs) (n : Nat) : Rd w B A k (xs.take n) := fun j hj => by
  have hl : j < xs.length ∧ j < n := by simp at hj; omega
  obtain ⟨b, off, e, hb, hc⟩ := h j hl.1
  refine ⟨b, off, e, hb, ?_⟩
  rw [hc]
  simp [List.getD_eq_getElem?_getD, hl.2]
theorem Rd.cells {b off : Nat} (h : Rd w B (some ⟨b, off, none⟩) .u8 xs) : ∀ j u, (U8 xs)[j]? = some u → w.cell? ((⟨b, off, none⟩ : Addr).add j) = some u := by
  intro j u hu
  have hj : j < xs.length := by
    have := (List.getElem?_eq_some_iff.1 hu).1
    simpa [U8] using this
  obtain ⟨b', off', e, _, hc⟩ := h j hj
  simp only [Option.some.injEq, Addr.mk.injEq, and_true] at e
  obtain ⟨rfl, rfl⟩ := e
  rw [U8_getD _ _ hj] at hu
  injection hu with hu
  subst hu
  unfold Addr.add
  split
  · rename_i h0; subst h0; simpa using hc
  · exact hc
end

/-- The slice value v is the call's own row of bytes. -/
def Own (w : World) (base : Nat) (v : Value) (xs : List Int) : Prop := w.ownsRow base 5 1 v xs.length (U8 xs)
section
variable {w w' : World} {base : Nat} {v : Value} {xs : List Int}
theorem Own.nil_ (w : World) (base : Nat) : Own w base (.slice none 0 0) [] := World.ownsRow_nil w base _ _
theorem Own.mk' {n : Nat} {l : List Value} (h : w.ownsRow base 5 1 v n l) (hn : n = xs.length) (hl : l = U8 xs) : Own w base v xs := by
  subst hn; subst hl; exact h
/-- What an own row is, as a value, and that it can be read. -/
theorem Own.open_ (h : Own w base v xs) : ∃ A cap, v = .slice A xs.length cap ∧ Rd w w.heap.size A .u8 xs ∧ xs.length ≤ cap ∧ cap ≤ maxLen := by
  rcases h.2 with ⟨rfl, h0⟩ | ⟨g, cap, cur, rfl, hb, hg, hn, hm, hs, ht⟩
  · have : xs = [] := List.eq_nil_of_length_eq_zero h0
    subst this
    exact ⟨none, 0, rfl, Rd.nil, by simp, by simp [maxLen]⟩
  · refine ⟨some ⟨g, 0, none⟩, cap, rfl, Rd.of g 0 ?_ ?_, hn, hm⟩
    · rcases Nat.lt_or_ge g w.heap.size with hl | hl
      · exact hl
      · rw [Array.getElem?_eq_none hl] at hg; cases hg
    · intro j hj
      have := World.ownsRow.cellAt h j (by omega)
      rw [Nat.zero_add, this, U8_getD _ _ hj]
/-- A row that holds something has a block of its own. -/
theorem Own.form (h : Own w base v xs) (h0 : 0 < xs.length) : ∃ g cap, v = .slice (some ⟨g, 0, none⟩) xs.length cap ∧ base ≤ g ∧ g < w.heap.size ∧ xs.length ≤ cap ∧ cap ≤ maxLen := by
  rcases h.2 with ⟨rfl, h0'⟩ | ⟨g, cap, cur, rfl, hb, hg, hn, hm, hs, ht⟩
  · omega
  · refine ⟨g, cap, rfl, hb, ?_, hn, hm⟩
    rcases Nat.lt_or_ge g w.heap.size with hl | hl
    · exact hl
    · rw [Array.getElem?_eq_none hl] at hg; cases hg
theorem Own.lt (h : Own w base v xs) {g : Nat} (hg : v.ownBlock = some g) : base ≤ g ∧ g < w.heap.size := World.ownsRow.lt h g hg
theorem Own.alloc (h : Own w base v xs) (o : Obj) : Own (w.alloc o) base v xs := World.ownsRow.alloc h o
theorem Own.drew (h : Own w base v xs) : Own w.drew base v xs := h
theorem Own.grown (h : Own w base v xs) {row : Option Nat} (hg : w.grownBy w' row) (hne : v.ownBlock = none ∨ v.ownBlock ≠ row) : Own w' base v xs := World.ownsRow.kept h hg hne
theorem Own.below (h : Own w base v xs) {C : Nat} (hb : Below C w w') (hC : w.heap.size ≤ C) : Own w' base v xs :=
  World.ownsRow.kept (row := none) h ⟨hb.os, hb.tape, hb.output, hb.size, fun i hi _ => hb.block i (by omega)⟩ (by
    rcases hv : v.ownBlock with _ | g
    · exact .inl rfl
    · exact .inr (by simp))
theorem Own.setCell_far (h : Own w base v xs) {a : Addr} (ha : v.ownBlock ≠ some a.block) (u : Value) : Own (w.setCell a u) base v xs := ownsRow_setCell_other h ha u
theorem Own.base_le (h : Own w base v xs) {b' : Nat} (hb : b' ≤ base) : Own w b' v xs := by
  refine ⟨h.1, ?_⟩
  rcases h.2 with h2 | ⟨g, cap, cur, e, hb', r⟩
  · exact .inl h2
  · exact .inr ⟨g, cap, cur, e, by omega, r⟩
theorem Own.len {A : Option Addr} {n cap : Nat} (h : Own w base (.slice A n cap) xs) : n = xs.length := by
  obtain ⟨A, c, e, _, _, _⟩ := h.open_
  simp only [Value.slice.injEq] at e
  exact e.2.1
theorem Own.set {g n cap : Nat} (h : Own w base (.slice (some ⟨g, 0, none⟩) n cap) xs) (j : Nat) (x : Int) : Own (w.setCell ⟨g, j, none⟩ (.int .u8 x)) base (.slice (some ⟨g, 0, none⟩) n cap) (xs.set j x) := by
  obtain rfl := h.len
  have := (World.ownsRow.stored h j (.int .u8 x)).1
  rw [U8_set] at this
  unfold Own
  rw [List.length_set]
  exact this
theorem Own.rd {A : Option Addr} {n cap : Nat} (h : Own w base (.slice A n cap) xs) : Rd w w.heap.size A .u8 xs := by
  obtain ⟨A, c, e, hr, _, _⟩ := h.open_
  simp only [Value.slice.injEq] at e
  obtain ⟨rfl, rfl, rfl⟩ := e
  exact hr
theorem Own.cell {g n cap : Nat} (h : Own w base (.slice (some ⟨g, 0, none⟩) n cap) xs) (j : Nat) (hj : j < xs.length) : w.cell? ⟨g, j, none⟩ = some (.int .u8 (xs.getD j 0)) := by
  obtain ⟨A, c, e, hr, _, _⟩ := h.open_
  simp only [Value.slice.injEq] at e
  obtain ⟨rfl, rfl, rfl⟩ := e
  obtain ⟨b, off, e, _, hc⟩ := hr j hj
  simp only [Option.some.injEq, Addr.mk.injEq, and_true] at e
  obtain ⟨rfl, rfl⟩ := e
  simpa using hc
theorem Own.free {g n cap : Nat} (h : Own w base (.slice (some ⟨g, 0, none⟩) n cap) xs) (j : Nat) : w.frozen? ⟨g, j, none⟩ = false := by
  obtain ⟨A, c, e, hr, _, _⟩ := h.open_
  simp only [Value.slice.injEq] at e
  obtain ⟨rfl, rfl, rfl⟩ := e
  exact World.ownsRow.frozenAt h j
end

theorem World.lt_of_cell {w : World} {b o : Nat} {s : Option Nat} {v : Value} (h : w.cell? ⟨b, o, s⟩ = some v) : b < w.heap.size := by
  rcases Nat.lt_or_ge b w.heap.size with hl | hl
  · exact hl
  · simp [Go.World.cell?, Array.getElem?_eq_none hl] at h
theorem World.frozen?_alloc_lt' (w : World) (o : Obj) (p : Addr) (h : p.block < w.heap.size) : (w.alloc o).frozen? p = w.frozen? p := World.frozen?_of_block (Below.heap_alloc w o p.block h)
theorem only_set_aux {a w w' : World} {g : Nat} (h : a.grownBy w (some g)) (p : Addr) (hp : p.block = g ∨ a.heap.size ≤ p.block) (u : Value) (e : w' = w.setCell p u) : a.grownBy w' (some g) := by
  subst e
  refine ⟨h.os, h.tape, h.output, by simpa [Go.World.setCell] using h.size, fun i hi hne => ?_⟩
  refine (Below.heap_setCell w p u i ?_).trans (h.block i hi hne)
  rintro rfl
  rcases hp with hp | hp
  · exact hne (by rw [hp])
  · omega
theorem only_setCell {a w : World} {g : Nat} (h : a.grownBy w (some g)) {p : Addr} (hp : p.block = g ∨ a.heap.size ≤ p.block) (u : Value) : a.grownBy (w.setCell p u) (some g) :=
  only_set_aux h p hp u rfl
theorem below_of_grown {a b : World} {row : Option Nat} (h : a.grownBy b row) {B : Nat} (hB : B ≤ a.heap.size) (hr : ∀ g, row = some g → B ≤ g) : Below B a b := (Below.refl B a).grown h hB hr

/-- Block g is just these cells, none frozen. -/
def Blk (w : World) (g : Nat) (t : TypeId) (cs : Array Value) : Prop := w.heap[g]? = some (.cells cs t (0, 0))
section
variable {w w' : World} {g : Nat} {t : TypeId} {cs : Array Value}
theorem Blk.lt (h : Blk w g t cs) : g < w.heap.size := lt_of_block h
theorem Blk.cell (h : Blk w g t cs) (i : Nat) : w.cell? ⟨g, i, none⟩ = cs[i]? := cell_of_row w g i cs t (0, 0) h
theorem Blk.frozen (h : Blk w g t cs) (i : Nat) : w.frozen? ⟨g, i, none⟩ = false := frozen_of_row w g i cs t h
theorem Blk.new (w : World) (t : TypeId) (cs : Array Value) : Blk (w.alloc (.cells cs t)) w.heap.size t cs := heap_alloc_new w _
theorem Blk.drew (h : Blk w g t cs) : Blk w.drew g t cs := h
theorem Blk.alloc (h : Blk w g t cs) (o : Obj) : Blk (w.alloc o) g t cs := (Below.heap_alloc w o g h.lt).trans h
theorem Blk.set (h : Blk w g t cs) (i : Nat) (u : Value) : Blk (w.setCell ⟨g, i, none⟩ u) g t (cs.setIfInBounds i u) := heap_setCell_same w g i cs t u h
theorem Blk.far (h : Blk w g t cs) {p : Addr} (hp : g ≠ p.block) (u : Value) : Blk (w.setCell p u) g t cs := (Below.heap_setCell w p u g hp).trans h
theorem Blk.below {B : Nat} (h : Blk w g t cs) (hb : Below B w w') (hg : g < B) : Blk w' g t cs := (hb.block g hg).trans h
theorem Blk.grown {row : Option Nat} (h : Blk w g t cs) (hb : w.grownBy w' row) (hg : some g ≠ row) : Blk w' g t cs := (hb.block g h.lt hg).trans h
end

end Go.Proofs.YtebeekjcepjcnaaDoor
namespace Go.Proofs.YtebeekjcepjcnaaDoor
open Go.RowKit

theorem ready_nil_all {ops : Array Oper} {listed : Array Bool} (hsz : listed.size = ops.size) (hdep : ∀ (i : Nat) (o : Oper), ops[i]? = some o → ∀ e : Edge, e ∈ o.after → Region.binds .any e = true → e.on < i) (hr : Region.ready .any ops listed = []) :
    ∀ i, i < ops.size → listed.getD i true = true := by
  intro i
  induction i using Nat.strongRecOn with
  | ind i ih =>
    intro hi
    rcases hb : listed.getD i true with _ | _
    · exfalso
      have hmem : i ∈ Region.ready .any ops listed := by
        unfold Region.ready
        rw [List.mem_filter]
        refine ⟨List.mem_range.2 hi, ?_⟩
        rw [hb]
        have ho : ops[i]? = some ops[i] := Array.getElem?_eq_getElem hi
        rw [ho]
        simp only [Option.map_some, Option.getD_some, Bool.not_false, Bool.true_and]
        rw [Array.all_eq_true']
        intro e he
        rcases hbe : Region.binds .any e with _ | _
        · simp
        have hlt := hdep i _ ho e he hbe
        have := ih e.on hlt (by omega)
        have hs : e.on < listed.size := by omega
        rw [Array.getD_eq_getD_getElem?, Array.getElem?_eq_getElem hs] at this ⊢
        simp only [Option.getD_some] at this ⊢
        rw [this]; simp
      rw [hr] at hmem
      cases hmem
    · rfl

def depsOk (ops : Array Oper) : Bool := (List.range ops.size).all fun i => ((ops[i]?).map fun o => o.after.all fun e => !Region.binds .any e || decide (e.on < i)).getD true
theorem depsOk_spec {ops : Array Oper} (h : depsOk ops = true) : ∀ (i : Nat) (o : Oper), ops[i]? = some o → ∀ e : Edge, e ∈ o.after → Region.binds .any e = true → e.on < i := by
  intro i o ho e he hbe
  have hi : i < ops.size := (Array.getElem?_eq_some_iff.1 ho).1
  have := List.all_eq_true.1 h i (List.mem_range.2 hi)
  rw [ho] at this
  simp only [Option.map_some, Option.getD_some] at this
  rw [Array.all_eq_true'] at this
  have h2 := this e he
  rw [hbe] at h2
  simpa using h2

section
variable {P : Program} {ops : Array Oper} {Q : Exit → Act → World → Prop}

theorem wpOp_of_list {i : Nat} {o : Oper} {K : Act → World → Prop} {a : Act} {w : World} (ho : ops[i]? = some o) (h : wpList P ops (Exit.then K Q) [o] a w) : wpOp P ops Q i K a w := by
  unfold wpOp
  rw [ho]
  simp only [wpList] at h
  by_cases hw : Region.wanted o (yielded ops a.tmps) = true
  · simp only [hw, if_true] at h ⊢
    refine h.imp (fun h => ?_) (fun ⟨h1, h2⟩ => ⟨h1, h2⟩)
    have h' := Oper.wp_mono (K' := K) (fun a w hk => hk) h
    unfold Oper.wp at h' ⊢
    generalize (execOp a.eval o).run P w = r at *
    cases r with
    | ok n w' =>
      cases n <;> simp only [Oper.upon] at h' ⊢ <;> first
        | exact h'
        | exact h'.mono (fun e w'' he => by cases e <;> exact he)
    | halt x w' => cases x <;> simp only [Oper.upon] at h' ⊢ <;> exact h'
  · simp only [hw] at h ⊢
    exact h

theorem wpAny_inv (hdep : ∀ (i : Nat) (o : Oper), ops[i]? = some o → ∀ e : Edge, e ∈ o.after → Region.binds .any e = true → e.on < i) (I : (Nat → Bool) → Act → World → Prop)
    (hstep : ∀ (L : Nat → Bool) (a : Act) (w : World) (i : Nat) (o : Oper), ops[i]? = some o → L i = false → (∀ e : Edge, e ∈ o.after → Region.binds .any e = true → L e.on = true) → I L a w → wpList P ops (Exit.then (I (fun j => j == i || L j)) Q) [o] a w)
    (hend : ∀ (L : Nat → Bool) (a : Act) (w : World), (∀ i, i < ops.size → L i = true) → I L a w → Q .normal a w) :
    ∀ (fuel : Nat) (listed : Array Bool) (a : Act) (w : World), listed.size = ops.size → ops.size ≤ fuel + (listed.toList.filter (· == true)).length →
      I (fun j => listed.getD j false) a w → wpAny P .any ops Q fuel listed a w := by
  have hget : ∀ (listed : Array Bool) (i : Nat), i < listed.size → listed.getD i true = listed.getD i false := by
    intro l i hi
    rw [Array.getD_eq_getD_getElem?, Array.getD_eq_getD_getElem?, Array.getElem?_eq_getElem hi]; rfl
  have hend' : ∀ (listed : Array Bool) (a : Act) (w : World), listed.size = ops.size → I (fun j => listed.getD j false) a w → Region.ready .any ops listed = [] → Q .normal a w := by
    intro listed a w hsz hI hr
    refine hend _ a w (fun i hi => ?_) hI
    have := ready_nil_all hsz hdep hr i hi
    rwa [hget _ _ (by omega)] at this
  intro fuel
  induction fuel with
  | zero =>
    intro listed a w hsz hf hI
    have hall : ∀ b ∈ listed.toList, (b == true) = true := by
      have hl : (listed.toList.filter (· == true)).length = listed.toList.length := by
        have h1 := List.length_filter_le (· == true) listed.toList
        have h2 : listed.toList.length = listed.size := Array.length_toList
        omega
      exact List.length_filter_eq_length_iff.1 hl
    have hr : Region.ready .any ops listed = [] := by
      unfold Region.ready
      rw [List.filter_eq_nil_iff]
      intro i hi
      have hi' : i < listed.size := by rw [hsz]; exact List.mem_range.1 hi
      have : listed.getD i true = true := by
        rw [Array.getD_eq_getD_getElem?, Array.getElem?_eq_getElem hi']
        have := hall listed[i] (by simp)
        simpa using this
      rw [this]; simp
    exact ⟨hr, hend' listed a w hsz hI hr⟩
  | succ fuel ih =>
    intro listed a w hsz hf hI
    refine ⟨fun hr => hend' listed a w hsz hI hr, fun i hi => ?_⟩
    unfold Region.ready at hi
    rw [List.mem_filter] at hi
    obtain ⟨hir, hc⟩ := hi
    have hil : i < ops.size := List.mem_range.1 hir
    have ho : ops[i]? = some ops[i] := Array.getElem?_eq_getElem hil
    rw [ho] at hc
    simp only [Option.map_some, Option.getD_some, Bool.and_eq_true, Bool.not_eq_true'] at hc
    obtain ⟨hc1, hc2⟩ := hc
    rw [Array.all_eq_true'] at hc2
    have hs := hstep (fun j => listed.getD j false) a w i _ ho (by rw [← hget _ _ (by omega)]; exact hc1) (fun e he hb => by
      have := hc2 e he
      rw [hb] at this
      simpa using this) hI
    refine wpOp_mono (fun a' w' hI' => ?_) (wpOp_of_list ho hs)
    refine ih _ a' w' (by simpa using hsz) ?_ ?_
    · have hfalse : listed[i]'(by omega) = false := by
        have := hc1
        rw [Array.getD_eq_getD_getElem?, Array.getElem?_eq_getElem (by omega)] at this
        simpa using this
      have hcount : ((listed.setIfInBounds i true).toList.filter (· == true)).length = (listed.toList.filter (· == true)).length + 1 := by
        rw [Array.toList_setIfInBounds]
        have hil' : i < listed.toList.length := by rw [Array.length_toList]; omega
        have hg : listed.toList[i] = false := by simpa using hfalse
        have e1 : listed.toList = listed.toList.take i ++ false :: listed.toList.drop (i + 1) := by
          conv => lhs; rw [← List.take_append_drop i listed.toList]
          rw [List.drop_eq_getElem_cons hil', hg]
        have e2 : listed.toList.set i true = listed.toList.take i ++ true :: listed.toList.drop (i + 1) := by
          rw [List.set_eq_take_append_cons_drop, if_pos hil']
        rw [e2]
        conv => rhs; rw [e1]
        simp [List.filter_append]
        omega
      omega
    · have : (fun j => (listed.setIfInBounds i true).getD j false) = fun j => j == i || listed.getD j false := by
        funext j
        by_cases hj : j = i
        · subst hj
          simp [Array.getD_eq_getD_getElem?, show j < listed.size by omega]
        · simp [Array.getD_eq_getD_getElem?, hj, Ne.symm hj]
      rw [this]
      exact hI'

/-- THE LAW: a region that draws its order, by an invariant. -/
theorem wp_region_inv {id : Nat} {a : Act} {w : World} (hm : P.follows .mixedOrders = true) (hdep : ∀ (i : Nat) (o : Oper), ops[i]? = some o → ∀ e : Edge, e ∈ o.after → Region.binds .any e = true → e.on < i) (I : (Nat → Bool) → Act → World → Prop)
    (h0 : I (fun _ => false) a w.drew)
    (hstep : ∀ (L : Nat → Bool) (a : Act) (w : World) (i : Nat) (o : Oper), ops[i]? = some o → L i = false → (∀ e : Edge, e ∈ o.after → Region.binds .any e = true → L e.on = true) → I L a w → wpList P ops (Exit.then (I (fun j => j == i || L j)) Q) [o] a w)
    (hend : ∀ (L : Nat → Bool) (a : Act) (w : World), (∀ i, i < ops.size → L i = true) → I L a w → Q .normal a w) : (Code.region id ops true).wp P Q a w := by
  refine wp_region_any hm (wpAny_inv hdep I hstep hend ops.size _ a _ (by simp) (by omega) ?_)
  have : (fun j => (Array.replicate ops.size false).getD j false) = fun _ => false := by
    funext j
    simp only [Array.getD_eq_getD_getElem?, Array.getElem?_replicate]
    split <;> rfl
  rw [this]
  exact h0
end
/-- The values of the operations that are done, one by one. -/
def upd (v : Nat → Value) (i : Nat) (x : Value) : Nat → Value := fun j => if j = i then x else v j
theorem results_cell_tmp {P : Program} {fn : Func} {p q : Tmp} {ty : TypeId} (h : fn.results = #[.cell p ty, .tmp q]) (tmps : Array Value) (w : World) (g : Nat) (t : TypeId) (cs : Array Value) (fr : Nat × Nat) (d : TypeDesc)
    (hp : tmps.getD p undef = .pointer (some ⟨g, 0, none⟩)) (hg : w.heap[g]? = some (.cells cs t fr))
    (hu : P.underlying ty = some d) (hd : (match d with | .struct _ | .array _ _ => true | _ => false) = true) (hi : (P.info? ty).map (·.size) = some cs.size) :
    (results fn tmps).run P w = .ok (.tuple #[.agg cs, tmps.getD q undef]) w := by
  have hp' : tmps[p]?.getD undef = .pointer (some ⟨g, 0, none⟩) := by simpa using hp
  simp [results, h, hp', asAddr, run_loadVar_row w g t ty cs fr d hg hu hd hi]

theorem setRow_new (W : World) (old cells : Array Value) (t : TypeId) : (W.alloc (.cells old t)).setRow W.heap.size cells = W.alloc (.cells cells t) := by
  have h : ∀ f : Obj → Obj, f (.cells old t) = .cells cells t → (W.heap.push (.cells old t)).modify W.heap.size f = W.heap.push (.cells cells t) := fun f hf => by
    refine Array.ext (by simp) fun i h1 h2 => ?_
    rw [Array.getElem_modify]
    by_cases hi : W.heap.size = i
    · subst hi; simp [hf]
    · simp only [Array.size_modify, Array.size_push] at h1
      rw [if_neg hi, Array.getElem_push_lt (by omega), Array.getElem_push_lt (by omega)]
  show ({ (W.alloc (.cells old t)) with heap := _ } : World) = _
  rw [show (W.alloc (.cells old t)).heap = W.heap.push (.cells old t) from rfl, h _ rfl]
  rfl

/-- A struct stored into the block that was made just before. -/
theorem wpList_store_new {P : Program} {ops : Array Oper} {rest : List Oper} {o : Oper} {a : Act} {W : World} {Q : Exit → Act → World → Prop} (hgd : o.guard = none) (ty : TypeId) (x y : Operand) (ho : o.op = .store ty x y)
    (g : Nat) (cells : Array Value) (hx : a.eval x = .pointer (some ⟨g, 0, none⟩)) (hy : a.eval y = .agg cells)
    (t : TypeId) (old : Array Value) (hg : g = W.heap.size) (hi : (P.info? ty).map (·.size) = some cells.size)
    (hold : old.size = cells.size) (h1 : cells.all (·.oneCell') = true)
    (h : wpList P ops Q rest (a.put o.dst undef) (W.alloc (.cells cells t))) : wpList P ops Q (o :: rest) a (W.alloc (.cells old t)) := by
  subst hg
  refine wpList_store_row hgd ty x y ho _ cells hx hy t old (heap_alloc_new W _) hi hold h1 ?_
  rw [setRow_new]
  exact h

/-- Is the next operation a store? -/
theorem look_store {P : Program} {ops : Array Oper} {Q : Exit → Act → World → Prop} {a : Act} {w : World} {rest : List Oper} {d : Option Tmp} {ty t : TypeId} {x y : Operand} {p : String} {af : Array Edge} {g : Option (Nat × Bool)}
    (h : wpList P ops Q ((⟨d, .store ty x y, t, p, af, g⟩ : Oper) :: rest) a w) : wpList P ops Q ((⟨d, .store ty x y, t, p, af, g⟩ : Oper) :: rest) a w := h

end Go.Proofs.YtebeekjcepjcnaaDoor
