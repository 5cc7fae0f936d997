/-
  The plain part that all walks of this seat share: words for byte slices in memory, and small laws on them. No program in sight.
  Laws on byte slices at this seat's program: an append onto a row of the call's own, whatever its source; make; copy.
-/
import Derived.WalkKit
import Derived.WalkSpells
import Derived.WalkLawsBesides
import Derived.WalkSmall
import Derived.Lib.Hide
import Derived.Deep.AppendLies
import Derived.Maps.AppendAt
import Derived.Laws.AppendOwnNone
import Derived.Laws.CopyOwn
import Derived.OneCell
import Derived.Test.YtebeekjcepjcnaaGreatDoorProg

namespace Go.Proofs.YtebeekjcepjcnaaGreatDoor
open Go.RowKit

/-- The cells of some bytes. -/
def U8 (bs : List Int) : List Value := bs.map (Value.int .u8)
theorem U8_length (bs : List Int) : (U8 bs).length = bs.length := by simp [U8]
theorem U8_append (a b : List Int) : U8 (a ++ b) = U8 a ++ U8 b := by simp [U8]
theorem U8_getD (bs : List Int) (j : Nat) (h : j < bs.length) : (U8 bs)[j]? = some (.int .u8 (bs.getD j 0)) := by
  simp [U8, h]
theorem U8_one (bs : List Int) : ∀ u ∈ U8 bs, u.oneCell' = true := by
  intro u hu
  obtain ⟨b, _, rfl⟩ := List.mem_map.1 hu
  rfl
theorem U8_set (bs : List Int) (j : Nat) (x : Int) : (U8 bs).set j (.int .u8 x) = U8 (bs.set j x) := by simp [U8, List.map_set]
theorem U8_take (bs : List Int) (k : Nat) : (U8 bs).take k = U8 (bs.take k) := by simp [U8, List.map_take]
theorem U8_zeros (n : Nat) : List.replicate n (Value.int .u8 0) = U8 (List.replicate n 0) := by simp [U8]

/-- All of them are bytes. -/
def Byt (bs : List Int) : Prop := ∀ b ∈ bs, 0 ≤ b ∧ b < 256
theorem Byt.at_ {bs : List Int} (h : Byt bs) (j : Nat) : 0 ≤ bs.getD j 0 ∧ bs.getD j 0 < 256 := by
  by_cases hj : j < bs.length
  · rw [List.getD_eq_getElem?_getD, List.getElem?_eq_getElem hj]; exact h _ (List.getElem_mem hj)
  · rw [List.getD_eq_getElem?_getD, List.getElem?_eq_none (by omega)]; simp
theorem Byt.nil : Byt [] := fun _ h => by simp at h
theorem Byt.cons {x : Int} {l : List Int} (h0 : 0 ≤ x) (h1 : x < 256) (h : Byt l) : Byt (x :: l) := by
  intro b hb
  rcases List.mem_cons.1 hb with rfl | hb
  · exact ⟨h0, h1⟩
  · exact h b hb
theorem Byt.append {a b : List Int} (ha : Byt a) (hb : Byt b) : Byt (a ++ b) := by
  intro x hx
  rcases List.mem_append.1 hx with h | h
  · exact ha x h
  · exact hb x h
theorem Byt.take {a : List Int} (ha : Byt a) (k : Nat) : Byt (a.take k) := fun x hx => ha x (List.mem_of_mem_take hx)
theorem Byt.drop {a : List Int} (ha : Byt a) (k : Nat) : Byt (a.drop k) := fun x hx => ha x (List.mem_of_mem_drop hx)
theorem Byt.set {a : List Int} (ha : Byt a) (k : Nat) {x : Int} (h0 : 0 ≤ x) (h1 : x < 256) : Byt (a.set k x) := by
  intro b hb
  rcases List.mem_or_eq_of_mem_set hb with h | rfl
  · exact ha b h
  · exact ⟨h0, h1⟩
theorem Byt.zeros (n : Nat) : Byt (List.replicate n 0) := by
  intro b hb
  obtain ⟨_, rfl⟩ := List.mem_replicate.1 hb
  omega

/-- Reading from A on, the cells hold these numbers of kind k; the block lies below B. -/
def Rd (w : World) (B : Nat) (A : Option Addr) (k : IntKind) (xs : List Int) : Prop :=
  ∀ j, j < xs.length → ∃ b off, A = some ⟨b, off, none⟩ ∧ b < B ∧ w.cell? ⟨b, off + j, none⟩ = some (.int k (xs.getD j 0))

section
variable {w w' : World} {B B' : Nat} {A : Option Addr} {k : IntKind} {xs : List Int}
theorem Rd.keep (h : Rd w B A k xs) (hk : ∀ p : Addr, p.block < B → w'.cell? p = w.cell? p) : Rd w' B A k xs := fun j hj => by
  obtain ⟨b, off, e, hb, hc⟩ := h j hj
  exact ⟨b, off, e, hb, (hk _ hb).trans hc⟩
theorem Rd.more (h : Rd w B A k xs) (hB : B ≤ B') : Rd w B' A k xs := fun j hj => by
  obtain ⟨b, off, e, hb, hc⟩ := h j hj
  exact ⟨b, off, e, by omega, hc⟩
theorem Rd.below (h : Rd w B A k xs) {C : Nat} (hb : Below C w w') (hC : B ≤ C) : Rd w' B A k xs := h.keep fun _ hp => hb.cell (by omega)
theorem Rd.alloc (h : Rd w B A k xs) (hB : B ≤ w.heap.size) (o : Obj) : Rd (w.alloc o) B A k xs := h.keep fun p hp => World.cell?_alloc_lt w o p (by omega)
theorem Rd.drew (h : Rd w B A k xs) : Rd w.drew B A k xs := h
theorem Rd.setCell (h : Rd w B A k xs) {p : Addr} (hB : B ≤ p.block) (u : Value) : Rd (w.setCell p u) B A k xs :=
  h.keep fun q hq => World.cell?_setCell_other w p q u (fun e => by subst e; omega)
theorem Rd.grown (h : Rd w B A k xs) {row : Option Nat} (hg : w.grownBy w' row) (hB : B ≤ w.heap.size) (hr : ∀ g, row = some g → B ≤ g) : Rd w' B A k xs :=
  h.keep fun p hp => World.cell?_of_block (hg.block p.block (by omega) (fun e => by have := hr _ e.symm; omega))
theorem Rd.nil : Rd w B A k [] := fun j hj => by simp at hj
theorem Rd.at0 (h : Rd w B A k xs) (h0 : 0 < xs.length) : ∃ b off, A = some ⟨b, off, none⟩ ∧ b < B ∧ ∀ j, j < xs.length → w.cell? ⟨b, off + j, none⟩ = some (.int k (xs.getD j 0)) := by
  obtain ⟨b, off, e, hb, _⟩ := h 0 h0
  refine ⟨b, off, e, hb, fun j hj => ?_⟩
  obtain ⟨b', off', e', _, hc⟩ := h j hj
  rw [e] at e'
  simp only [Option.some.injEq, Addr.mk.injEq, and_true] at e'
  obtain ⟨rfl, rfl⟩ := e'
  exact hc
theorem Rd.of (b off : Nat) (hb : b < B) (h : ∀ j, j < xs.length → w.cell? ⟨b, off + j, none⟩ = some (.int k (xs.getD j 0))) : Rd w B (some ⟨b, off, none⟩) k xs :=
  fun j hj => ⟨b, off, rfl, hb, h j hj⟩
theorem Rd.drop (h : Rd w B A k xs) (n : Nat) {A' : Option Addr} (hA : n < xs.length → ∀ b off, A = some ⟨b, off, none⟩ → A' = some ⟨b, off + n, none⟩) : Rd w B A' k (xs.drop n) := fun j hj => by
  have hl : n + j < xs.length := by simp at hj; omega
  obtain ⟨b, off, e, hb, hc⟩ := h (n + j) hl
  refine ⟨b, off + n, hA (by omega) b off e, hb, ?_⟩
  rw [Nat.add_assoc, hc]
  simp [List.getD_eq_getElem?_getD]
theorem Rd.take (h : Rd w B A k xs) (n : Nat) : Rd w B A k (xs.take n) := fun j hj => by
  have hl : j < xs.length ∧ j < n := by simp at hj; omega
  obtain ⟨b, off, e, hb, hc⟩ := h j hl.1
  refine ⟨b, off, e, hb, ?_⟩
  rw [hc]
  simp [List.getD_eq_getElem?_getD, hl.2]
theorem Rd.cells {b off : Nat} (h : Rd w B (some ⟨b, off, none⟩) .u8 xs) : ∀ j u, (U8 xs)[j]? = some u → w.cell? ((⟨b, off, none⟩ : Addr).add j) = some u := by
  intro j u hu
  have hj : j < xs.length := by
    have := (List.getElem?_eq_some_iff.1 hu).1
    simpa [U8] using this
  obtain ⟨b', off', e, _, hc⟩ := h j hj
  simp only [Option.some.injEq, Addr.mk.injEq, and_true] at e
  obtain ⟨rfl, rfl⟩ := e
  rw [U8_getD _ _ hj] at hu
  injection hu with hu
  subst hu
  unfold Addr.add
  split
  · rename_i h0; subst h0; simpa using hc
  · exact hc
end

/-- The slice value v is the call's own row of bytes. -/
def Own (w : World) (base : Nat) (v : Value) (xs : List Int) : Prop := w.ownsRow base 5 1 v xs.length (U8 xs)
section
variable {w w' : World} {base : Nat} {v : Value} {xs : List Int}
theorem Own.nil_ (w : World) (base : Nat) : Own w base (.slice none 0 0) [] := World.ownsRow_nil w base _ _
theorem Own.mk' {n : Nat} {l : List Value} (h : w.ownsRow base 5 1 v n l) (hn : n = xs.length) (hl : l = U8 xs) : Own w base v xs := by
  subst hn; subst hl; exact h
/-- What an own row is, as a value, and that it can be read. -/
theorem Own.open_ (h : Own w base v xs) : ∃ A cap, v = .slice A xs.length cap ∧ Rd w w.heap.size A .u8 xs ∧ xs.length ≤ cap ∧ cap ≤ maxLen := by
  rcases h.2 with ⟨rfl, h0⟩ | ⟨g, cap, cur, rfl, hb, hg, hn, hm, hs, ht⟩
  · have : xs = [] := List.eq_nil_of_length_eq_zero h0
    subst this
    exact ⟨none, 0, rfl, Rd.nil, by simp, by simp [maxLen]⟩
  · refine ⟨some ⟨g, 0, none⟩, cap, rfl, Rd.of g 0 ?_ ?_, hn, hm⟩
    · rcases Nat.lt_or_ge g w.heap.size with hl | hl
      · exact hl
      · rw [Array.getElem?_eq_none hl] at hg; cases hg
    · intro j hj
      have := World.ownsRow.cellAt h j (by omega)
      rw [Nat.zero_add, this, U8_getD _ _ hj]
/-- A row that holds something has a block of its own. -/
theorem Own.form (h : Own w base v xs) (h0 : 0 < xs.length) : ∃ g cap, v = .slice (some ⟨g, 0, none⟩) xs.length cap ∧ base ≤ g ∧ g < w.heap.size ∧ xs.length ≤ cap ∧ cap ≤ maxLen := by
  rcases h.2 with ⟨rfl, h0'⟩ | ⟨g, cap, cur, rfl, hb, hg, hn, hm, hs, ht⟩
  · omega
  · refine ⟨g, cap, rfl, hb, ?_, hn, hm⟩
    rcases Nat.lt_or_ge g w.heap.size with hl | hl
    · exact hl
    · rw [Array.getElem?_eq_none hl] at hg; cases hg
theorem Own.lt (h : Own w base v xs) {g : Nat} (hg : v.ownBlock = some g) : base ≤ g ∧ g < w.heap.size := World.ownsRow.lt h g hg
theorem Own.alloc (h : Own w base v xs) (o : Obj) : Own (w.alloc o) base v xs := World.ownsRow.alloc h o
theorem Own.drew (h : Own w base v xs) : Own w.drew base v xs := h
theorem Own.grown (h : Own w base v xs) {row : Option Nat} (hg : w.grownBy w' row) (hne : v.ownBlock = none ∨ v.ownBlock ≠ row) : Own w' base v xs := World.ownsRow.kept h hg hne
theorem Own.below (h : Own w base v xs) {C : Nat} (hb : Below C w w') (hC : w.heap.size ≤ C) : Own w' base v xs :=
  World.ownsRow.kept (row := none) h ⟨hb.os, hb.tape, hb.output, hb.size, fun i hi _ => hb.block i (by omega)⟩ (by
    rcases hv : v.ownBlock with _ | g
    · exact .inl rfl
    · exact .inr (by simp))
theorem Own.setCell_far (h : Own w base v xs) {a : Addr} (ha : v.ownBlock ≠ some a.block) (u : Value) : Own (w.setCell a u) base v xs := ownsRow_setCell_other h ha u
theorem Own.base_le (h : Own w base v xs) {b' : Nat} (hb : b' ≤ base) : Own w b' v xs := by
  refine ⟨h.1, ?_⟩
  rcases h.2 with h2 | ⟨g, cap, cur, e, hb', r⟩
  · exact .inl h2
  · exact .inr ⟨g, cap, cur, e, by omega, r⟩
theorem Own.len {A : Option Addr} {n cap : Nat} (h : Own w base (.slice A n cap) xs) : n = xs.length := by
  obtain ⟨A, c, e, _, _, _⟩ := h.open_
  simp only [Value.slice.injEq] at e
  exact e.2.1
theorem Own.set {g n cap : Nat} (h : Own w base (.slice (some ⟨g, 0, none⟩) n cap) xs) (j : Nat) (x : Int) : Own (w.setCell ⟨g, j, none⟩ (.int .u8 x)) base (.slice (some ⟨g, 0, none⟩) n cap) (xs.set j x) := by
  obtain rfl := h.len
  have := (World.ownsRow.stored h j (.int .u8 x)).1
  rw [U8_set] at this
  unfold Own
  rw [List.length_set]
  exact this
theorem Own.rd {A : Option Addr} {n cap : Nat} (h : Own w base (.slice A n cap) xs) : Rd w w.heap.size A .u8 xs := by
  obtain ⟨A, c, e, hr, _, _⟩ := h.open_
  simp only [Value.slice.injEq] at e
  obtain ⟨rfl, rfl, rfl⟩ := e
  exact hr
theorem Own.cell {g n cap : Nat} (h : Own w base (.slice (some ⟨g, 0, none⟩) n cap) xs) (j : Nat) (hj : j < xs.length) : w.cell? ⟨g, j, none⟩ = some (.int .u8 (xs.getD j 0)) := by
  obtain ⟨A, c, e, hr, _, _⟩ := h.open_
  simp only [Value.slice.injEq] at e
  obtain ⟨rfl, rfl, rfl⟩ := e
  obtain ⟨b, off, e, _, hc⟩ := hr j hj
  simp only [Option.some.injEq, Addr.mk.injEq, and_true] at e
  obtain ⟨rfl, rfl⟩ := e
  simpa using hc
theorem Own.free {g n cap : Nat} (h : Own w base (.slice (some ⟨g, 0, none⟩) n cap) xs) (j : Nat) : w.frozen? ⟨g, j, none⟩ = false := by
  obtain ⟨A, c, e, hr, _, _⟩ := h.open_
  simp only [Value.slice.injEq] at e
  obtain ⟨rfl, rfl, rfl⟩ := e
  exact World.ownsRow.frozenAt h j
end

theorem World.lt_of_cell {w : World} {b o : Nat} {s : Option Nat} {v : Value} (h : w.cell? ⟨b, o, s⟩ = some v) : b < w.heap.size := by
  rcases Nat.lt_or_ge b w.heap.size with hl | hl
  · exact hl
  · simp [Go.World.cell?, Array.getElem?_eq_none hl] at h
theorem World.frozen?_alloc_lt' (w : World) (o : Obj) (p : Addr) (h : p.block < w.heap.size) : (w.alloc o).frozen? p = w.frozen? p := World.frozen?_of_block (Below.heap_alloc w o p.block h)
theorem only_set_aux {a w w' : World} {g : Nat} (h : a.grownBy w (some g)) (p : Addr) (hp : p.block = g ∨ a.heap.size ≤ p.block) (u : Value) (e : w' = w.setCell p u) : a.grownBy w' (some g) := by
  subst e
  refine ⟨h.os, h.tape, h.output, by simpa [Go.World.setCell] using h.size, fun i hi hne => ?_⟩
  refine (Below.heap_setCell w p u i ?_).trans (h.block i hi hne)
  rintro rfl
  rcases hp with hp | hp
  · exact hne (by rw [hp])
  · omega
theorem only_setCell {a w : World} {g : Nat} (h : a.grownBy w (some g)) {p : Addr} (hp : p.block = g ∨ a.heap.size ≤ p.block) (u : Value) : a.grownBy (w.setCell p u) (some g) :=
  only_set_aux h p hp u rfl
theorem below_of_grown {a b : World} {row : Option Nat} (h : a.grownBy b row) {B : Nat} (hB : B ≤ a.heap.size) (hr : ∀ g, row = some g → B ≤ g) : Below B a b := (Below.refl B a).grown h hB hr

/-- Block g is just these cells, none frozen. -/
def Blk (w : World) (g : Nat) (t : TypeId) (cs : Array Value) : Prop := w.heap[g]? = some (.cells cs t (0, 0))
section
variable {w w' : World} {g : Nat} {t : TypeId} {cs : Array Value}
theorem Blk.lt (h : Blk w g t cs) : g < w.heap.size := lt_of_block h
theorem Blk.cell (h : Blk w g t cs) (i : Nat) : w.cell? ⟨g, i, none⟩ = cs[i]? := cell_of_row w g i cs t (0, 0) h
theorem Blk.frozen (h : Blk w g t cs) (i : Nat) : w.frozen? ⟨g, i, none⟩ = false := frozen_of_row w g i cs t h
theorem Blk.new (w : World) (t : TypeId) (cs : Array Value) : Blk (w.alloc (.cells cs t)) w.heap.size t cs := heap_alloc_new w _
theorem Blk.drew (h : Blk w g t cs) : Blk w.drew g t cs := h
theorem Blk.alloc (h : Blk w g t cs) (o : Obj) : Blk (w.alloc o) g t cs := (Below.heap_alloc w o g h.lt).trans h
theorem Blk.set (h : Blk w g t cs) (i : Nat) (u : Value) : Blk (w.setCell ⟨g, i, none⟩ u) g t (cs.setIfInBounds i u) := heap_setCell_same w g i cs t u h
theorem Blk.far (h : Blk w g t cs) {p : Addr} (hp : g ≠ p.block) (u : Value) : Blk (w.setCell p u) g t cs := (Below.heap_setCell w p u g hp).trans h
theorem Blk.below {B : Nat} (h : Blk w g t cs) (hb : Below B w w') (hg : g < B) : Blk w' g t cs := (hb.block g hg).trans h
theorem Blk.grown {row : Option Nat} (h : Blk w g t cs) (hb : w.grownBy w' row) (hg : some g ≠ row) : Blk w' g t cs := (hb.block g h.lt hg).trans h
end

end Go.Proofs.YtebeekjcepjcnaaGreatDoor
namespace Go.Proofs.YtebeekjcepjcnaaGreatDoor
open Go.RowKit

theorem u8info : (Tryz.prog.info? 5).map (fun i => (i.zero, i.size, i.bytes)) = some (some (.int .u8 0), 1, 1) := by kernel_rfl

theorem run_append_empty (w : World) (base : Nat) (v : Value) (n : Nat) (xs : List Value) (ty : TypeId) (hown : w.ownsRow base 5 1 v n xs) (c : Nat) :
    (Builtin.append_ #[26, 26] ty #[v, .slice none 0 c]).run Tryz.prog w = .ok v w := by
  obtain ⟨i, hi, _, _, _⟩ := info_parts u8info
  rcases hown.2 with ⟨rfl, rfl⟩ | ⟨g, cap, cur, rfl, _, _, hnc, _⟩
  · simp [Builtin.append_, run_underlying Tryz.underlying26, sizeOf, typeInfo, hi, Builtin.lenOf, Builtin.firstCells]
  · simp [Builtin.append_, run_underlying Tryz.underlying26, sizeOf, typeInfo, hi, Builtin.lenOf, Builtin.firstCells, hnc, storeCells]

/-- An append onto an own row: the run. -/
theorem run_app (w : World) (ty : TypeId) (base : Nat) (v : Value) (xs : List Int) (hown : Own w base v xs) (B : Nat) (A : Option Addr) (c : Nat) (ys : List Int)
    (hr : Rd w B A .u8 ys) (hb : xs.length + ys.length ≤ 140737488355328) (hbase : base ≤ w.heap.size) :
    ∃ v' w', (Builtin.append_ #[26, 26] ty #[v, .slice A ys.length c]).run Tryz.prog w = .ok v' w' ∧ Own w' base v' (xs ++ ys) ∧ w.grownBy w' v.ownBlock ∧
      (v'.ownBlock = v.ownBlock ∨ v'.ownBlock = some w.heap.size) := by
  obtain ⟨i, hi, hz, hs, hby⟩ := info_parts u8info
  by_cases h0 : ys = []
  · subst h0
    rcases A with _ | ad
    · exact ⟨v, w, run_append_empty w base v _ _ ty hown c, by simpa using hown, World.grownBy.refl w _, .inl rfl⟩
    · obtain ⟨v', w', hrun, h2, h3, _, h5⟩ := run_append_own_at (P := Tryz.prog) w base 26 ty 5 i _ 1 1 Tryz.underlying26 hi hz hs hby rfl (by omega) v xs.length (U8 xs) hown ad 0 c [] rfl (by simp) (by simp) (by simp only [maxLen]; omega) (by simpa using hb) hbase
      exact ⟨v', w', hrun, by simpa [Own] using h2, h3, h5⟩
  · have hl : 0 < ys.length := List.length_pos_iff.2 h0
    obtain ⟨b, off, rfl, _, _⟩ := hr.at0 hl
    obtain ⟨v', w', hrun, h2, h3, _, h5⟩ := run_append_own_at (P := Tryz.prog) w base 26 ty 5 i _ 1 1 Tryz.underlying26 hi hz hs hby rfl (by omega) v xs.length (U8 xs) hown ⟨b, off, none⟩ ys.length c (U8 ys) (by simp [U8]) hr.cells (U8_one ys) (by simp only [maxLen]; omega) (by omega) hbase
    exact ⟨v', w', hrun, Own.mk' h2 (by simp) (U8_append _ _).symm, h3, h5⟩

/-- THE ARM: 'out = append(out, src...)', out an own row: go_wp2_with (at_builtin; refine app_own ..). -/
theorem app_own {w : World} {ops : Array Oper} {rest : List Oper} {o : Oper} {a : Act} {Q : Exit → Act → World → Prop} (hgd : o.guard = none) (s x : Operand)
    (ho : o.op = .call { callee := .builtin .append, args := #[s, x], argTypes := #[26, 26] })
    (base : Nat) (v : Value) (xs : List Int) (hs : a.eval s = v) (hown : Own w base v xs) (B : Nat) (A : Option Addr) (m c : Nat) (ys : List Int)
    (hx : a.eval x = .slice A m c) (hm : m = ys.length) (hr : Rd w B A .u8 ys) (hb : xs.length + ys.length ≤ 140737488355328) (hbase : base ≤ w.heap.size)
    (h : ∀ v' w', Own w' base v' (xs ++ ys) → Below base w w' → w.grownBy w' v.ownBlock → (v'.ownBlock = v.ownBlock ∨ v'.ownBlock = some w.heap.size) → wpList Tryz.prog ops Q rest (a.put o.dst v') w') :
    wpList Tryz.prog ops Q (o :: rest) a w := by
  subst hm
  refine wpList_plain hgd fun K hK => ?_
  obtain ⟨v', w', hrun, h2, h3, h4⟩ := run_app w o.type base v xs hown B A c ys hr hb hbase
  unfold Oper.wp execOp
  simp only [ho, resolve, invoke, builtin, Sem.run_bind, Sem.run_pure, Result.andThen_ok, List.map_toArray, List.map_cons, List.map_nil, hs, hx, hrun]
  exact hK _ _ (h v' w' h2 (below_of_grown h3 hbase (fun g hg => (hown.lt hg).1)) h3 h4)

/-- The same as one step of a region that draws its order. -/
theorem step_app_own {w : World} {ops : Array Oper} {o : Oper} {a : Act} {K : Act → World → Prop} {Q : Exit → Act → World → Prop} {E : Prop} (hgd : o.guard = none) (s x : Operand)
    (ho : o.op = .call { callee := .builtin .append, args := #[s, x], argTypes := #[26, 26] })
    (base : Nat) (v : Value) (xs : List Int) (hs : a.eval s = v) (hown : Own w base v xs) (B : Nat) (A : Option Addr) (m c : Nat) (ys : List Int)
    (hx : a.eval x = .slice A m c) (hm : m = ys.length) (hr : Rd w B A .u8 ys) (hb : xs.length + ys.length ≤ 140737488355328) (hbase : base ≤ w.heap.size)
    (h : ∀ v' w', Own w' base v' (xs ++ ys) → Below base w w' → w.grownBy w' v.ownBlock → (v'.ownBlock = v.ownBlock ∨ v'.ownBlock = some w.heap.size) → K (a.put o.dst v') w') :
    if Region.wanted o (yielded ops a.tmps) = true then Oper.wp Tryz.prog o a w K Q else E := by
  have hw : Region.wanted o (yielded ops a.tmps) = true := by simp [Region.wanted, hgd]
  rw [if_pos hw]
  subst hm
  obtain ⟨v', w', hrun, h2, h3, h4⟩ := run_app w o.type base v xs hown B A c ys hr hb hbase
  unfold Oper.wp execOp
  simp only [ho, resolve, invoke, builtin, Sem.run_bind, Sem.run_pure, Result.andThen_ok, List.map_toArray, List.map_cons, List.map_nil, hs, hx, hrun]
  exact h v' w' h2 (below_of_grown h3 hbase (fun g hg => (hown.lt hg).1)) h3 h4

/-- A block that has just been laid, of these numbers. -/
theorem Rd.new (w : World) (k : IntKind) (xs : List Int) (t : TypeId) : Rd (w.alloc (.cells (xs.map (Value.int k)).toArray t)) (w.heap.size + 1) (some ⟨w.heap.size, 0, none⟩) k xs := by
  refine Rd.of _ 0 (by omega) fun j hj => ?_
  rw [Nat.zero_add, cell_of_row _ _ _ _ _ _ (heap_alloc_new w _)]
  simp [hj]

theorem own_made (w : World) (base n m : Nat) (hnm : n ≤ m) (hm : m ≤ maxLen) (hbase : base ≤ w.heap.size) :
    Own (w.alloc (.cells (madeCells #[.int .u8 0] m) 5)) base (.slice (some ⟨w.heap.size, 0, none⟩) n m) (List.replicate n 0) := by
  refine Own.mk' (n := n) (l := U8 (List.replicate n 0)) ⟨by simp [U8], .inr ⟨w.heap.size, m, _, rfl, hbase, heap_alloc_new w _, hnm, hm, by rw [size_madeCells]; omega, ?_⟩⟩ (by simp) rfl
  rw [toList_madeCells_one, List.take_replicate, ← U8_zeros]
  congr 1; omega

/-- THE ARM: 'make([]byte, n, m)': go_wp2_with (at_make; refine make_own ..). -/
theorem make_own {w : World} {ops : Array Oper} {rest : List Oper} {o : Oper} {a : Act} {Q : Exit → Act → World → Prop} (hgd : o.guard = none) (l c : Operand) (ho : o.op = .makeSlice 26 l c)
    (base : Nat) (kl kc : IntKind) (L C : Int) (n m : Nat) (hl : a.eval l = .int kl L) (hc : a.eval c = .int kc C) (hL : L = (n : Int)) (hC : C = (m : Int)) (hnm : n ≤ m) (hm : m ≤ 140737488355328) (hbase : base ≤ w.heap.size)
    (h : ∀ w', Own w' base (.slice (some ⟨w.heap.size, 0, none⟩) n m) (List.replicate n 0) → Below w.heap.size w w' → w.heap.size < w'.heap.size → wpList Tryz.prog ops Q rest (a.put o.dst (.slice (some ⟨w.heap.size, 0, none⟩) n m)) w') :
    wpList Tryz.prog ops Q (o :: rest) a w := by
  subst hL; subst hC
  obtain ⟨i, hi, hz, hs, hby⟩ := info_parts u8info
  refine wpList_plain hgd fun K hK => ?_
  have hrun := run_make (P := Tryz.prog) w 26 5 i _ Tryz.underlying26 hi hz kl kc (n : Int) (m : Int) (by omega) (by omega) (by rw [hby]; omega) (by omega)
  rw [hs] at hrun
  simp only [Int.toNat_natCast, Nat.mul_one] at hrun
  unfold Oper.wp execOp
  simp only [ho, Sem.run_bind, Sem.run_pure, hl, hc]
  have h2 := h _ (own_made w base n m hnm (by simp only [maxLen]; omega) hbase) ((Below.refl _ _).alloc (Nat.le_refl _) _) (by simp)
  have e : Value.cells (.int .u8 0) = #[.int .u8 0] := rfl
  rw [e] at hrun
  rw [hrun]
  exact hK _ _ h2

theorem take_splice {α : Type} (L : List α) (n off : Nat) (cs : List α) (h : off + cs.length ≤ n) (hn : n ≤ L.length) : (splice L off cs).take n = splice (L.take n) off cs := by
  apply List.ext_getElem?
  intro j
  unfold splice
  by_cases h1 : j < off
  · simp [List.getElem?_append, show j < min off L.length by omega, show j < n by omega, show j < min off (min n L.length) by omega]
  · by_cases h2 : j < off + cs.length
    · simp [List.getElem?_append, List.getElem?_take, show j < n by omega, show min off L.length = off by omega, show min off (min n L.length) = off by omega, show j - off < cs.length by omega]
    · by_cases h3 : j < n
      · simp [List.getElem?_append, List.getElem?_take, h3, show min off L.length = off by omega, show min off (min n L.length) = off by omega, show ¬ j - off < cs.length by omega, show off + cs.length + (j - off - cs.length) < n by omega]
      · simp [List.getElem?_append, List.getElem?_take, h3, show min off (min n L.length) = off by omega, show ¬ j - off < cs.length by omega, show ¬ off + cs.length + (j - off - cs.length) < n by omega]
theorem splice_map (xs : List Int) (off : Nat) (ys : List Int) : splice (U8 xs) off (U8 ys) = U8 (splice xs off ys) := by
  simp [splice, U8, List.map_take, List.map_drop]

theorem run_copy_own (w : World) (ty : TypeId) (base g n cap : Nat) (xs : List Int) (hown : Own w base (.slice (some ⟨g, 0, none⟩) n cap) xs) (off : Nat) (dp sp : Option Addr) (dLen dCap sLen sCap : Nat) (ys : List Int)
    (hn : ys.length = Nat.min sLen dLen) (hdp : 0 < ys.length → dp = some ⟨g, off, none⟩) (B : Nat) (hr : Rd w B sp .u8 ys) (hfit : off + ys.length ≤ n) :
    ∃ w', (Builtin.copy_ #[26, 26] ty #[.slice dp dLen dCap, .slice sp sLen sCap]).run Tryz.prog w = .ok (goInt ys.length) w' ∧ Own w' base (.slice (some ⟨g, 0, none⟩) n cap) (splice xs off ys) ∧ w.grownBy w' (some g) ∧ Below g w w' := by
  have hnl := hown.len
  obtain ⟨i, hi, _, hs, _⟩ := info_parts u8info
  have hsz : ((Tryz.prog).info? 5).map (·.size) = some 1 := by rw [hi]; simp [hs]
  by_cases h0 : ys.length = 0
  · obtain rfl : ys = [] := List.eq_nil_of_length_eq_zero h0
    refine ⟨w, by simpa using run_copy_none (P := Tryz.prog) w 26 26 ty 5 dp sp dLen dCap sLen sCap Tryz.underlying26 hsz (by simpa using hn.symm), by simpa [splice] using hown, World.grownBy.refl _ _, Below.refl _ _⟩
  · have hl : 0 < ys.length := by omega
    obtain rfl := hdp hl
    obtain ⟨b, o, rfl, _, _⟩ := hr.at0 hl
    obtain ⟨g', cap', cur, e, hb, hg, hnc, hm, hcs, ht⟩ := hown.2.resolve_left (by simp)
    simp only [Value.slice.injEq, Option.some.injEq, Addr.mk.injEq, and_true] at e
    obtain ⟨rfl, _, rfl⟩ := e
    have hcl : cur.toList.length = cap := by simpa using hcs
    have hrun := run_copy_row (P := Tryz.prog) w 26 26 ty 5 g off dLen dCap ⟨b, o, none⟩ sLen sCap cur _ (U8 ys) Tryz.underlying26 hsz hg (by rw [U8_length]; exact hn) hr.cells (by rw [U8_length, ← Array.length_toList]; omega) (U8_one ys)
    rw [U8_length] at hrun
    refine ⟨_, hrun, ?_, ⟨rfl, rfl, rfl, by simp, fun k hk hne => setRow_other w g k _ (fun e => hne (by rw [e]))⟩, below_setRow (Below.refl _ _) (Nat.le_refl _) _⟩
    have hsp : cur.toList.take off ++ U8 ys ++ cur.toList.drop (off + ys.length) = splice cur.toList off (U8 ys) := by simp [splice, U8_length]
    rw [hsp]
    have hlen : (splice xs off ys).length = xs.length := length_splice _ _ _ (by omega)
    refine Own.mk' (n := n) (l := U8 (splice xs off ys)) ⟨by rw [U8_length, hlen, hnl, Nat.mul_one], .inr ⟨g, cap, _, rfl, hb, setRow_heap w g cur _ _ _ hg, by omega, hm, ?_, ?_⟩⟩ (by rw [hlen, hnl]) rfl
    · rw [← Array.length_toList, length_splice _ _ _ (by rw [U8_length]; omega), hcl, Nat.mul_one]
    · rw [Nat.mul_one] at ht ⊢
      rw [← hnl] at ht
      show (splice cur.toList off (U8 ys)).take n = _
      rw [take_splice _ _ _ _ (by rw [U8_length]; omega) (by omega), ht, splice_map]

theorem step_copy_own {w : World} {ops : Array Oper} {o : Oper} {a : Act} {K : Act → World → Prop} {Q : Exit → Act → World → Prop} {E : Prop} (hgd : o.guard = none) (d s : Operand)
    (ho : o.op = .call { callee := .builtin .copy, args := #[d, s], argTypes := #[26, 26] })
    (base g n cap : Nat) (xs : List Int) (hown : Own w base (.slice (some ⟨g, 0, none⟩) n cap) xs) (off : Nat) (dp sp : Option Addr) (dLen dCap sLen sCap : Nat) (hd : a.eval d = .slice dp dLen dCap) (hs : a.eval s = .slice sp sLen sCap) (ys : List Int)
    (hn : ys.length = Nat.min sLen dLen) (hdp : 0 < ys.length → dp = some ⟨g, off, none⟩) (B : Nat) (hr : Rd w B sp .u8 ys) (hfit : off + ys.length ≤ n)
    (h : ∀ w', Own w' base (.slice (some ⟨g, 0, none⟩) n cap) (splice xs off ys) → w.grownBy w' (some g) → Below g w w' → K (a.put o.dst (goInt ys.length)) w') :
    if Region.wanted o (yielded ops a.tmps) = true then Oper.wp Tryz.prog o a w K Q else E := by
  have hw : Region.wanted o (yielded ops a.tmps) = true := by simp [Region.wanted, hgd]
  rw [if_pos hw]
  obtain ⟨w', hrun, h2, h3, h4⟩ := run_copy_own w o.type base g n cap xs hown off dp sp dLen dCap sLen sCap ys hn hdp B hr hfit
  unfold Oper.wp execOp
  simp only [ho, resolve, invoke, builtin, Sem.run_bind, Sem.run_pure, Result.andThen_ok, List.map_toArray, List.map_cons, List.map_nil, hd, hs, hrun]
  exact h w' h2 h3 h4

end Go.Proofs.YtebeekjcepjcnaaGreatDoor
