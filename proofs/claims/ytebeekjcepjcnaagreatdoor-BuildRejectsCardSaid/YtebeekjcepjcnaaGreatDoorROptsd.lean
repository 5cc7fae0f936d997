/-
  opts.Read: the options of some bytes: their kinds, and the first error.
-/
import Derived.Test.YtebeekjcepjcnaaGreatDoorROptsc
namespace Go.Proofs.YtebeekjcepjcnaaGreatDoor
open Go.RowKit Go.Shelf
attribute [local go_sem] Oper.semAt_some
def metN (ks : List Int) (g : Nat) : Nat := ks.countP (fun k => optGroup k == g)
def metA (ks : List Int) : Array Value := #[.int .i64 0, .int .i64 (metN ks 1), .int .i64 (metN ks 2), .int .i64 (metN ks 3)]
theorem metN_snoc (ks : List Int) (k : Int) (g : Nat) : metN (ks ++ [k]) g = metN ks g + (if optGroup k = g then 1 else 0) := by
  unfold metN
  rw [List.countP_append]
  by_cases h : optGroup k = g <;> simp [h]
theorem metN_any (ks : List Int) (g : Nat) : (ks.any fun k => optGroup k == g) = decide (0 < metN ks g) := by
  unfold metN
  rw [Bool.eq_iff_iff, List.any_eq_true, decide_eq_true_iff, List.countP_pos_iff]
theorem optGroup_le (k : Int) : optGroup k ≤ 3 := by unfold optGroup; split <;> (try split) <;> (try split) <;> (try split) <;> omega
def optCells (l : List OptY) : List Value := l.flatMap fun x => [.int .u8 x.k, .slice x.A x.n x.c]
theorem optCells_snoc (l : List OptY) (x : OptY) : optCells (l ++ [x]) = optCells l ++ [.int .u8 x.k, .slice x.A x.n x.c] := by simp [optCells]
theorem optsR_cons (x : OptY) (l : List (Int × Int)) (acc : List Int) : optsR (x.key :: l) acc = if x.e ≠ 0 then ([], x.e) else if 0 < optGroup x.k ∧ acc.any (fun y => optGroup y == optGroup x.k) then ([], 63) else optsR l (acc ++ [x.k]) := rfl
/-- So far no error. -/
def SoFar (l : List OptY) : Prop := ∀ rest, optsR (l.map OptY.key ++ rest) [] = optsR rest (l.map OptY.k)
theorem SoFar.nil : SoFar [] := fun _ => rfl
theorem SoFar.snoc {l : List OptY} (h : SoFar l) {x : OptY} (he : x.e = 0) (hg : ¬ (0 < optGroup x.k ∧ 0 < metN (l.map OptY.k) (optGroup x.k))) : SoFar (l ++ [x]) := fun rest => by
  rw [List.map_append, List.append_assoc, h]
  show optsR (x.key :: rest) _ = _
  rw [optsR_cons, if_neg (by simpa using he), if_neg (by rw [metN_any]; simpa using hg), List.map_append]
  rfl
theorem SoFar.bad {l : List OptY} (h : SoFar l) {x : OptY} (he : x.e ≠ 0) (rest : List (Int × Int)) : optsR ((l ++ [x]).map OptY.key ++ rest) [] = ([], x.e) := by
  rw [List.map_append, List.append_assoc, h]
  show optsR (x.key :: rest) _ = _
  rw [optsR_cons, if_pos he]
theorem SoFar.twice {l : List OptY} (h : SoFar l) {x : OptY} (he : x.e = 0) (hg : 0 < optGroup x.k ∧ 0 < metN (l.map OptY.k) (optGroup x.k)) (rest : List (Int × Int)) : optsR ((l ++ [x]).map OptY.key ++ rest) [] = ([], 63) := by
  rw [List.map_append, List.append_assoc, h]
  show optsR (x.key :: rest) _ = _
  rw [optsR_cons, if_neg (by simpa using he), if_pos (by rw [metN_any]; simpa using hg)]

/-- The variables of opts.Read between two rounds. -/
structure OptI (w : World) (l : List OptY) (W : World) : Prop where
  below : Below w.heap.size w W
  size : w.heap.size + 5 ≤ W.heap.size
  r : Blk W w.heap.size 63 #[.slice none 0 0]
  e : Blk W (w.heap.size + 1) 46 #[.int .i64 0]
  o : ∃ v, Blk W (w.heap.size + 2) 63 #[v] ∧ W.ownsRow (w.heap.size + 5) 104 2 v l.length (optCells l)
  m : Blk W (w.heap.size + 3) 106 (metA (l.map OptY.k))
  ok : SoFar l
theorem OptI.bears (w : World) (B : Nat) (hB : w.heap.size + 5 ≤ B) : Bears B (w.heap.size + 4) (OptI w) := fun l W W' row h hg hr => by
  have hz := h.size
  have hne : ∀ g, g < w.heap.size + 4 → some g ≠ row := fun g hgl e => by
    rcases hr g e.symm with h1 | ⟨h1, _⟩ <;> omega
  obtain ⟨v, ho1, ho2⟩ := h.o
  refine ⟨h.below.grown hg (by omega) (fun g e => ?_), Nat.le_trans hz hg.size, h.r.grown hg (hne _ (by omega)), h.e.grown hg (hne _ (by omega)), ⟨v, ho1.grown hg (hne _ (by omega)), ho2.kept hg ?_⟩, h.m.grown hg (hne _ (by omega)), h.ok⟩
  · rcases hr g e with h1 | ⟨h1, _⟩ <;> omega
  · rcases ho2.2 with ⟨rfl, _⟩ | ⟨g, cap, cur, rfl, hb, hgg, _⟩
    · exact .inl rfl
    · refine .inr (fun e => ?_)
      rcases hr g e.symm with h1 | ⟨h1, o, ho, hc⟩
      · omega
      · rw [hgg] at ho
        injection ho with ho
        subst ho
        cases hc
/-- It has returned with an error. -/
structure OptX (w : World) (l : List OptY) (W : World) : Prop where
  below : Below w.heap.size w W
  size : w.heap.size + 5 ≤ W.heap.size
  r : Blk W w.heap.size 63 #[.slice none 0 0]
  e : ∃ x, x ≠ 0 ∧ Blk W (w.heap.size + 1) 46 #[.int .i64 x] ∧ ∀ rest, optsR (l.map OptY.key ++ rest) [] = ([], x)
theorem OptX.bears (w : World) (B : Nat) (hB : w.heap.size + 5 ≤ B) : Bears B (w.heap.size + 4) (OptX w) := fun l W W' row h hg hr => by
  have hz := h.size
  have hne : ∀ g, g < w.heap.size + 4 → some g ≠ row := fun g hgl e => by
    rcases hr g e.symm with h1 | ⟨h1, _⟩ <;> omega
  obtain ⟨x, hx, hb, hR⟩ := h.e
  refine ⟨h.below.grown hg (by omega) (fun g e => ?_), Nat.le_trans hz hg.size, h.r.grown hg (hne _ (by omega)), ⟨x, hx, hb.grown hg (hne _ (by omega)), hR⟩⟩
  rcases hr g e with h1 | ⟨h1, _⟩ <;> omega

theorem wpIn_at {F : Fence} {n : Nat} {P : Program} {c : Code} {Q : Exit → Act → World → Prop} {a : Act} {w : World} (P0 : World → Prop) (h0 : P0 w) (h : ∀ W, P0 W → c.wpIn F n P Q a W) : c.wpIn F n P Q a w := h _ h0
theorem optInfo : (Tryz.prog.info? 104).map (fun i => (i.zero, i.size, i.bytes)) = some (some (.agg #[.int .u8 0, .slice none 0 0]), 2, 32) := by kernel_rfl
theorem OptI.grow {w W W' : World} {l : List OptY} (h : OptI w l W) (hb : Below W.heap.size W W') : OptI w l W' := OptI.bears w (w.heap.size + 5) (Nat.le_refl _) l W W' none h (grown_of_below hb) (fun r e => by cases e)
theorem KpB.alloc {n₀ Bs : Nat} {W : World} (hn : n₀ ≤ W.heap.size) (hB : Bs < W.heap.size) (o : Obj) : KpB n₀ Bs W (W.alloc o) := ⟨(Below.refl _ _).alloc hn _, Below.heap_alloc _ _ _ hB⟩
theorem metA_0 (l : List Int) (k : Int) (h : optGroup k = 0) : metA (l ++ [k]) = metA l := by simp [metA, metN_snoc, h]
theorem metA_g (l : List Int) (k : Int) (g : Nat) (h : optGroup k = g) (g0 : 0 < g) (u : Value) (hu : u = .int .i64 ((metN l g : Int) + 1)) : (metA l).setIfInBounds g u = metA (l ++ [k]) := by
  subst hu
  have := optGroup_le k
  rcases (show g = 1 ∨ g = 2 ∨ g = 3 by omega) with rfl | rfl | rfl <;> simp [metA, metN_snoc, h]
/-- One option more. -/
theorem OptI.next {w W W1 w3 : World} {pre : List OptY} {x : OptY} {v v' : Value} {o : Obj} {B0 : Nat} (hB0 : B0 = w.heap.size + 5) (hI : OptI w pre W) (hb1 : W.grownBy W1 (some (w.heap.size + 3))) (hm : Blk W1 (w.heap.size + 3) 106 (metA ((pre ++ [x]).map OptY.k)))
    (hov : Blk W (w.heap.size + 2) 63 #[v]) (how : W.ownsRow (w.heap.size + 5) 104 2 v pre.length (optCells pre)) (how' : w3.ownsRow (w.heap.size + 5) 104 2 v' (pre.length + 1) (optCells pre ++ [.int .u8 x.k, .slice x.A x.n x.c]))
    (hg3 : (W1.alloc o).grownBy w3 v.ownBlock) (hok : SoFar (pre ++ [x])) :
    KeepsFrom B0 W (w3.setCell ⟨w.heap.size + 2, 0, none⟩ v') ∧ KpB w.heap.size (w.heap.size + 4) W (w3.setCell ⟨w.heap.size + 2, 0, none⟩ v') ∧ OptI w (pre ++ [x]) (w3.setCell ⟨w.heap.size + 2, 0, none⟩ v') := by
  subst hB0
  have hz := hI.size
  have hz1 := hb1.size
  have hvb : ∀ g, v.ownBlock = some g → w.heap.size + 5 ≤ g ∧ ∃ cs t f, W.heap[g]? = some (.cells cs t f) := fun g e => by
    rcases how.2 with ⟨rfl, _⟩ | ⟨g', cap, cur, rfl, hb, hgg, _⟩
    · cases e
    · simp only [Value.ownBlock, Option.some.injEq] at e
      subst e
      exact ⟨hb, _, _, _, hgg⟩
  have step : ∀ (i : Nat) (ob : Obj), i < w.heap.size + 5 → i ≠ w.heap.size + 3 → i ≠ w.heap.size + 2 → W.heap[i]? = some ob → (w3.setCell ⟨w.heap.size + 2, 0, none⟩ v').heap[i]? = some ob := fun i ob h1 h2 h3 h4 => by
    have e1 : W1.heap[i]? = some ob := (hb1.block i (by omega) (by simp; omega)).trans h4
    have e2 : (W1.alloc o).heap[i]? = some ob := (Below.heap_alloc W1 o i (by omega)).trans e1
    have e3 : w3.heap[i]? = some ob := (hg3.block i (by simp; omega) (fun e => by have := (hvb i e.symm).1; omega)).trans e2
    exact (Below.heap_setCell _ ⟨w.heap.size + 2, 0, none⟩ _ _ (by simpa using h3)).trans e3
  have hm3 : Blk w3 (w.heap.size + 3) 106 (metA ((pre ++ [x]).map OptY.k)) := (hg3.block _ (by simp; omega) (fun e => by have := (hvb _ e.symm).1; omega)).trans ((Below.heap_alloc _ _ _ hm.lt).trans hm)
  have hov3 : Blk w3 (w.heap.size + 2) 63 #[v] := (hg3.block (w.heap.size + 2) (by simp; omega) (fun e => by have := (hvb _ e.symm).1; omega)).trans ((Below.heap_alloc W1 o (w.heap.size + 2) (by omega)).trans ((hb1.block (w.heap.size + 2) (by omega) (by simp)).trans hov))
  have hz3 : w.heap.size + 5 ≤ w3.heap.size := by have := hg3.size; simp at this; omega
  have hb3 : Below w.heap.size W w3 := (((Below.refl _ W).grown hb1 (by omega) (fun g e => by injection e with e; omega)).alloc (by omega) o).grown hg3 (by simp; omega) (fun g e => by have := (hvb g e).1; omega)
  refine ⟨⟨by simp; have := hb3.size; omega, fun i ob h1 h2 h3 => ?_⟩, ⟨hb3.setCell (p := ⟨w.heap.size + 2, 0, none⟩) (by show w.heap.size ≤ w.heap.size + 2; omega) _, ?_⟩, ⟨(hI.below.trans hb3).setCell (p := ⟨w.heap.size + 2, 0, none⟩) (by show w.heap.size ≤ w.heap.size + 2; omega) _, by simpa using hz3, step _ _ (by omega) (by omega) (by omega) hI.r, step _ _ (by omega) (by omega) (by omega) hI.e, ⟨v', hov3.set 0 v', ?_⟩, hm3.far (p := ⟨w.heap.size + 2, 0, none⟩) (by simp) _, hok⟩⟩
  · have hlt := lt_of_block h2
    have e1 : W1.heap[i]? = some ob := (hb1.block i hlt (by simp; omega)).trans h2
    have e2 : (W1.alloc o).heap[i]? = some ob := (Below.heap_alloc W1 o i (by omega)).trans e1
    have e3 : w3.heap[i]? = some ob := (hg3.block i (by simp; omega) (fun e => by
      obtain ⟨_, cs, t, f, hc⟩ := hvb i e.symm
      rw [h2] at hc
      injection hc with hc
      subst hc
      cases h3)).trans e2
    exact (Below.heap_setCell _ ⟨w.heap.size + 2, 0, none⟩ _ _ (by show i ≠ w.heap.size + 2; omega)).trans e3
  · have hlt : w.heap.size + 4 < W.heap.size := by omega
    rw [Array.getElem?_eq_getElem hlt]
    exact step _ _ (by omega) (by omega) (by omega) (Array.getElem?_eq_getElem hlt)
  · have hl : (pre ++ [x]).length = pre.length + 1 := by simp
    rw [hl, optCells_snoc]
    exact ownsRow_setCell_other how' (fun e => by
      rcases how'.2 with ⟨e0, _⟩ | ⟨g', cap, cur, rfl, hb, hgg, _⟩
      · rw [e0] at e; cases e
      · simp only [Value.ownBlock, Option.some.injEq] at e
        omega) _
theorem two_new (W : World) (t : TypeId) (a b : Value) : ∀ j u, [a, b][j]? = some u → (W.alloc (.cells #[a, b] t)).cell? ((⟨W.heap.size, 0, none⟩ : Addr).add j) = some u := by
  intro j u hu
  rcases j with _ | _ | j
  · simp only [List.getElem?_cons_zero, Option.some.injEq] at hu
    subst hu
    simp [Addr.add]
  · simp only [List.getElem?_cons_succ, List.getElem?_cons_zero, Option.some.injEq] at hu
    subst hu
    simp [Addr.add]
  · simp at hu
theorem row_ne {w W : World} {l : List OptY} {v : Value} (h : Hid (W.ownsRow (w.heap.size + 5) 104 2 v l.length (optCells l))) : v.ownBlock = none ∨ v.ownBlock ≠ some (w.heap.size + 3) := by
  rcases h.out.2 with ⟨rfl, _⟩ | ⟨g', cap, cur, rfl, hb, hgg, _⟩
  · exact .inl rfl
  · exact .inr (by simp [Value.ownBlock]; omega)
theorem row_ne2 {w W : World} {l : List OptY} {v : Value} (h : Hid (W.ownsRow (w.heap.size + 5) 104 2 v l.length (optCells l))) : some (w.heap.size + 2) ≠ v.ownBlock := by
  rcases h.out.2 with ⟨rfl, _⟩ | ⟨g', cap, cur, rfl, hb, hgg, _⟩
  · simp [Value.ownBlock]
  · simp [Value.ownBlock]; omega
theorem optCells_get : ∀ (l : List OptY) (j : Nat), j < l.length → (optCells l)[j * 2]? = some (.int .u8 ((l.map OptY.k).getD j 0)) ∧ ∃ A n c, (optCells l)[j * 2 + 1]? = some (.slice A n c)
  | [], j, h => by simp at h
  | x :: l, 0, _ => ⟨rfl, _, _, _, rfl⟩
  | x :: l, j + 1, h => by
    have := optCells_get l j (by simpa using h)
    have e : (j + 1) * 2 = j * 2 + 1 + 1 := by omega
    rw [e]
    exact this
theorem optsAt_of {W : World} {base : Nat} {l : List OptY} {A : Option Addr} {c : Nat} (h : W.ownsRow base 104 2 (.slice A l.length c) l.length (optCells l)) : OptsAt W W.heap.size A (l.map OptY.k) := fun j hj => by
  rw [List.length_map] at hj
  rcases h.2 with ⟨e, h0⟩ | ⟨g, cap, cur, e, hb, hgg, _⟩
  · omega
  · simp only [Value.slice.injEq] at e
    obtain ⟨rfl, _, rfl⟩ := e
    obtain ⟨h1, A, n, c, h2⟩ := optCells_get l j hj
    have e1 := World.ownsRow.cellAt h (j * 2) (by omega)
    have e2 := World.ownsRow.cellAt h (j * 2 + 1) (by omega)
    exact ⟨g, 0, .slice A n c, rfl, lt_of_block hgg, rfl, by rw [Nat.zero_add, e1, h1], by rw [Nat.zero_add, e2, h2]⟩
theorem optRead_ok {b : List Int} {ys : List OptY} (hl : b.length ≤ 40) (h : ys.map OptY.key = optsY b.length b) (hs : SoFar ys) : optRead b = (ys.map OptY.k, 0) := by
  unfold optRead
  rw [if_neg (by omega), ← h]
  have := hs []
  rw [List.append_nil] at this
  rw [this]; rfl
theorem optRead_bad {b : List Int} {ys t : List OptY} {x : Int} (hl : b.length ≤ 40) (h : (ys ++ t).map OptY.key = optsY b.length b) (hs : ∀ rest, optsR (ys.map OptY.key ++ rest) [] = ([], x)) : optRead b = ([], x) := by
  unfold optRead
  rw [if_neg (by omega), ← h, List.map_append]
  exact hs _
theorem row_far {w W : World} {l : List OptY} {v : Value} (h : Hid (W.ownsRow (w.heap.size + 5) 104 2 v l.length (optCells l))) {a : Nat} (ha : a < w.heap.size + 5) : v.ownBlock ≠ some a := by
  rcases h.out.2 with ⟨rfl, _⟩ | ⟨g', cap, cur, rfl, hb, hgg, _⟩
  · simp [Value.ownBlock]
  · simp [Value.ownBlock]; omega
def OptXx (w : World) (c : Code) (l : List OptY) (W : World) : Prop := c = .ret ∧ OptX w l W
set_option maxRecDepth 100000 in
set_option maxHeartbeats 20000000 in
theorem optsRead_any (A : Option Addr) (cap n : Nat) (b : List Int) (w : World) (hn : b.length = n) (hcap : n ≤ cap) (hl : n ≤ 40) (hB : Byt b) (hr : Rd w w.heap.size A .u8 b) :
    Calls Tryz.prog 61 #[.slice A n cap] w fun e W' => ∃ A' c', e = .returned (.tuple #[.slice A' (optRead b).1.length c', .int .i64 (optRead b).2]) ∧ OptsAt W' W'.heap.size A' (optRead b).1 ∧ Below w.heap.size w W' := by
  refine (callsIn_wide (n := 6)).1 ?_
  have hro : Fence.wide.round = none := rfl
  refine callsIn_of_wp_marks Tryz.func61 rfl trivial ?_ hro
  simp only [Tryz.ntmps61, List.size_toArray, List.length_cons, List.length_nil, Nat.reduceAdd, Nat.reduceSub, Array.replicate_succ, Array.replicate_zero, List.push_toArray, List.append_toArray, List.nil_append, List.cons_append]
  have g1 : ¬ (40 : Int) < n := by omega
  have HOp : Hid (∀ w0, CallsIn Fence.wide 5 Tryz.prog 85 #[.slice A n cap] w0 fun e w' => e = .returned (.func (.func 102) #[] #[.pointer (some ⟨w0.heap.size, 0, none⟩)]) ∧ w' = w0.alloc (.cells #[.slice A n cap] 26)) := Lib.hid fun w0 => callsIn_wide.2 (by
    go_enter Tryz.func85, Tryz.ntmps85
    go_wp2
    go_ret
    exact ⟨rfl, rfl⟩)
  gi_wp2_with fail
  refine ⟨trivial, (HOp.out _).mono ?_⟩
  rintro e w' ⟨rfl, rfl⟩
  gi_wp2_with fail
  simp only [Nat.add_assoc, Nat.reduceAdd]
  refine wpIn_at (fun W0 => OptI w [] W0 ∧ W0.heap.size = w.heap.size + 5 ∧ Blk W0 (w.heap.size + 4) 26 #[.slice A n cap] ∧ Rd W0 w.heap.size A .u8 b) ?start ?_
  case start =>
    refine ⟨⟨((((((Below.refl _ _).alloc (Nat.le_refl _) _).alloc (by simp) _).alloc (by simp; omega) _).alloc (by simp; omega) _).alloc (by simp; omega) _), by simp, ((((Blk.new _ _ _).alloc _).alloc _).alloc _).alloc _, (((Blk.next (by simp) _ _).alloc _).alloc _).alloc _, ⟨.slice none 0 0, ((Blk.next (by simp) _ _).alloc _).alloc _, World.ownsRow_nil _ _ _ _⟩, (Blk.next (by simp) _ _).alloc _, SoFar.nil⟩, by simp, Blk.next (by simp) _ _, ?_⟩
    exact ((((hr.alloc (Nat.le_refl _) _).alloc (by simp) _).alloc (by simp; omega) _).alloc (by simp; omega) _).alloc (by simp; omega) _
  rintro W0 ⟨hI0, hz0, hbox, hrd⟩
  have hbears := OptI.bears w W0.heap.size (by omega)
  refine wpIn_rangeFunc_box hro (by omega : 1 ≤ 6) (gf := 102) (lb := #[.pointer (some ⟨w.heap.size + 4, 0, none⟩)]) rfl trivial (enters_of Tryz.func102 (by kernel_rfl) rfl) (encs := OptY.enc) (n₀ := w.heap.size) (Bs := w.heap.size + 4) (S := fun ys => ys.map OptY.key = optsY n b) (N := 41)
    (fun l J Jx W hW hJ hJx hY h0 => optIter_in n 5 (by omega) l (w.heap.size + 4) w.heap.size b hn hl hB J Jx hJ hY A cap hcap W (by have := hW.size; omega) (by omega) (hbox.below hW (by omega)) (hrd.below hW (by omega)) h0)
    (by omega) (by omega) (fun _ => rfl) (OptI w) (OptXx w)
    (fun pre x a1 W => OptI w pre W ∧ ∃ Bo, w.heap.size + 5 ≤ Bo ∧ Blk W Bo 104 #[.int .u8 x.k, .slice x.A x.n x.c] ∧ a1 = ⟨#[.slice A n cap, undef, .pointer (some ⟨w.heap.size, 0, none⟩), .pointer (some ⟨w.heap.size + 1, 0, none⟩), .pointer (some ⟨w.heap.size + 2, 0, none⟩), .pointer (some ⟨w.heap.size + 3, 0, none⟩), .pointer (some ⟨Bo, 0, none⟩), .int .i64 x.e, undef, .slice A n cap, .int .i64 n, .bool false, .slice A n cap, .func (.func 102) #[] #[.pointer (some ⟨w.heap.size + 4, 0, none⟩)], .agg #[.int .u8 x.k, .slice x.A x.n x.c], .int .i64 x.e, undef, undef, undef, undef, undef, undef, undef, undef, undef, undef, undef, undef, undef, undef, undef, undef, undef, undef, undef, undef, undef, undef], []⟩)
    hbears (fun c => ?bearsX) ?bearsA hI0 ?assign ?body ?done ?stop
  case bearsX => exact fun s X Y row ⟨h1, h2⟩ hg hr => ⟨h1, OptX.bears w W0.heap.size (by omega) s X Y row h2 hg hr⟩
  case bearsA =>
    rintro pre x a1 s X Y row ⟨hI, Bo, hBo, hob, ha⟩ hg hr
    refine ⟨hbears pre X Y row hI hg hr, Bo, hBo, hob.grown hg (fun e => ?_), ha⟩
    rcases hr Bo e.symm with h1 | ⟨h1, o, ho, hc⟩
    · omega
    · rw [show X.heap[Bo]? = _ from hob] at ho
      injection ho with ho
      subst ho
      cases hc
  case assign =>
    intro l pre x W hI hsz
    dsimp only [OptY.enc]
    gi_wp2
    exact ⟨(KeepsOthers.alloc _ _).from _, KpB.alloc (by omega) (by omega) _, hI.grow ((Below.refl _ _).alloc (Nat.le_refl _) _), W.heap.size, by omega, Blk.new _ _ _, rfl⟩
  case body =>
    rintro l pre ⟨k, A2, n2, c2, e⟩ a1 W ⟨hI, Bo, hBo, hob, rfl⟩ hlen
    dsimp only at hob ⊢
    have hrc := hI.r.cell 0
    have hrf := hI.r.frozen 0
    have hec := hI.e.cell 0
    have hef := hI.e.frozen 0
    obtain ⟨v, hov, how⟩ := hI.o
    have hov0 := hov.cell 0
    have hovf := hov.frozen 0
    have hob0 := hob.cell 0
    have hob1 := hob.cell 1
    have hsz := hI.size
    have HI := Lib.hid hI
    by_cases he : e = 0
    · subst he
      have Hov := Lib.hid hov
      have How := Lib.hid how
      obtain ⟨i0, hi, hz0i, hz1i, hz2i⟩ := info_parts optInfo
      by_cases hg : optGroup k = 0
      · have HG : Hid (∀ W, Calls Tryz.prog 36 #[.int .u8 k] W fun e w' => e = .returned (.int .i64 0) ∧ W = w') := Lib.hid fun W => by have := optGroup_any k W; rw [hg] at this; exact this
        have Hg := Lib.hid hg
        clear hg hov how hI hob
        gi_wp2_with fail
        refine ⟨trivial, (CallsIn.inRound l (callsIn_wide.2 (HG.out _))).mono ?_⟩
        rintro e w' ⟨rfl, rfl⟩
        have HW1 : Hid (W.grownBy W (some (w.heap.size + 3))) := Lib.hid (grown_of_below (Below.refl _ _))
        have HM1 : Hid (Blk W (w.heap.size + 3) 106 (metA ((pre ++ [(⟨k, A2, n2, c2, 0⟩ : OptY)]).map OptY.k))) := Lib.hid (by rw [List.map_append]; rw [show [(⟨k, A2, n2, c2, 0⟩ : OptY)].map OptY.k = [k] from rfl, metA_0 _ _ Hg.out]; exact HI.out.m)
        have HOK : Hid (SoFar (pre ++ [⟨k, A2, n2, c2, 0⟩])) := Lib.hid (HI.out.ok.snoc (x := ⟨k, A2, n2, c2, 0⟩) rfl (by intro h; have := Hg.out; simp only at h; omega))
        have HHo : Hid (W.ownsRow (w.heap.size + 5) 104 2 v pre.length (optCells pre)) := Lib.hid (How.out.kept HW1.out (row_ne How))
        have HH4 : Hid (∀ o w3, (W.alloc o).grownBy w3 v.ownBlock → Blk w3 (w.heap.size + 2) 63 #[v]) := Lib.hid fun o w3 hg3 => (hg3.block (w.heap.size + 2) (by have := HW1.out.size; simp; omega) (row_ne2 How)).trans ((Below.heap_alloc W o (w.heap.size + 2) (by have := HW1.out.size; omega)).trans ((HW1.out.block (w.heap.size + 2) (by omega) (by simp)).trans Hov.out))
        gi_wp2_with (first | (gi_at_builtin; refine wpListIn_append_own _ rfl _ _ 63 rfl (w.heap.size + 5) 104 i0 _ 2 32 Tryz.underlying63 hi hz0i hz1i hz2i rfl (by decide) v pre.length (optCells pre) rfl (World.ownsRow.alloc HHo.out _) ⟨W.heap.size, 0, none⟩ 1 1 [.int .u8 k, .slice A2 n2 c2] rfl rfl (by first | exact two_new _ _ _ _ | (simpa using two_new W 104 (.int .u8 k) (.slice A2 n2 c2))) (by simp [Value.oneCell']) (by unfold maxLen; omega) (by omega) (by have := HW1.out.size; simp at *; omega) ?_; intro v' w3 how' hg3 _; obtain ⟨g', cap', rfl⟩ := ownsRow_succ how'; have hov3 := HH4.out _ _ hg3; have hxc := hov3.cell 0; have hxf := hov3.frozen 0; have HHow := Lib.hid how'; have HHg3 := Lib.hid hg3; clear how' hg3 hov3) | fail)
        exact OptI.next (x := ⟨k, A2, n2, c2, 0⟩) hz0 HI.out HW1.out HM1.out Hov.out How.out HHow.out HHg3.out HOK.out
      · have hle := optGroup_le k
        rcases (show optGroup k = 1 ∨ optGroup k = 2 ∨ optGroup k = 3 by omega) with hg | hg | hg
        · have HG : Hid (∀ W, Calls Tryz.prog 36 #[.int .u8 k] W fun e w' => e = .returned (.int .i64 1) ∧ W = w') := Lib.hid fun W => by have := optGroup_any k W; rw [hg] at this; exact this
          have Hg := Lib.hid hg
          have hmc : W.cell? ⟨w.heap.size + 3, 1, none⟩ = some (.int .i64 (metN (pre.map OptY.k) 1)) := hI.m.cell 1
          have hmf := hI.m.frozen 1
          have hmb : metN (pre.map OptY.k) 1 ≤ 41 := by
            have := List.countP_le_length (p := fun k => optGroup k == 1) (l := pre.map OptY.k)
            rw [List.length_map] at this
            unfold metN; omega
          rcases Nat.eq_zero_or_pos (metN (pre.map OptY.k) 1) with hm0 | hm0
          · have Hm0 := Lib.hid hm0
            rw [hm0] at hmc
            clear hg hov how hI hob hmb hm0 hle
            gi_wp2_with fail
            refine ⟨trivial, (CallsIn.inRound l (callsIn_wide.2 (HG.out _))).mono ?_⟩
            rintro e w' ⟨rfl, rfl⟩
            have HW1 : Hid (W.grownBy (W.setCell ⟨w.heap.size + 3, 1, none⟩ (.int .i64 1)) (some (w.heap.size + 3))) := Lib.hid (only_setCell (grown_of_below (row := some (w.heap.size + 3)) (Below.refl _ W)) (p := ⟨w.heap.size + 3, 1, none⟩) (.inl rfl) (.int .i64 1))
            have HM1 : Hid (Blk (W.setCell ⟨w.heap.size + 3, 1, none⟩ (.int .i64 1)) (w.heap.size + 3) 106 (metA ((pre ++ [(⟨k, A2, n2, c2, 0⟩ : OptY)]).map OptY.k))) := Lib.hid (by rw [List.map_append, show [(⟨k, A2, n2, c2, 0⟩ : OptY)].map OptY.k = [k] from rfl, ← metA_g _ k 1 Hg.out (by decide) (.int .i64 1) (by rw [Hm0.out]; rfl)]; exact HI.out.m.set 1 _)
            have HOK : Hid (SoFar (pre ++ [⟨k, A2, n2, c2, 0⟩])) := Lib.hid (HI.out.ok.snoc (x := ⟨k, A2, n2, c2, 0⟩) rfl (by intro h; have := h.2; simp only at this; rw [Hg.out, Hm0.out] at this; omega))
            have HHo : Hid ((W.setCell ⟨w.heap.size + 3, 1, none⟩ (.int .i64 1)).ownsRow (w.heap.size + 5) 104 2 v pre.length (optCells pre)) := Lib.hid (How.out.kept HW1.out (row_ne How))
            have HH4 : Hid (∀ o w3, ((W.setCell ⟨w.heap.size + 3, 1, none⟩ (.int .i64 1)).alloc o).grownBy w3 v.ownBlock → Blk w3 (w.heap.size + 2) 63 #[v]) := Lib.hid fun o w3 hg3 => (hg3.block (w.heap.size + 2) (by have := HW1.out.size; simp; omega) (row_ne2 How)).trans ((Below.heap_alloc (W.setCell ⟨w.heap.size + 3, 1, none⟩ (.int .i64 1)) o (w.heap.size + 2) (by have := HW1.out.size; omega)).trans ((HW1.out.block (w.heap.size + 2) (by omega) (by simp)).trans Hov.out))
            gi_wp2_with (first | (gi_at_builtin; refine wpListIn_append_own _ rfl _ _ 63 rfl (w.heap.size + 5) 104 i0 _ 2 32 Tryz.underlying63 hi hz0i hz1i hz2i rfl (by decide) v pre.length (optCells pre) rfl (World.ownsRow.alloc HHo.out _) ⟨W.heap.size, 0, none⟩ 1 1 [.int .u8 k, .slice A2 n2 c2] rfl rfl (by first | exact two_new _ _ _ _ | (simpa using two_new (W.setCell ⟨w.heap.size + 3, 1, none⟩ (.int .i64 1)) 104 (.int .u8 k) (.slice A2 n2 c2))) (by simp [Value.oneCell']) (by unfold maxLen; omega) (by omega) (by have := HW1.out.size; simp at *; omega) ?_; intro v' w3 how' hg3 _; obtain ⟨g', cap', rfl⟩ := ownsRow_succ how'; have hov3 := HH4.out _ _ hg3; have hxc := hov3.cell 0; have hxf := hov3.frozen 0; have HHow := Lib.hid how'; have HHg3 := Lib.hid hg3; clear how' hg3 hov3) | fail)
            exact OptI.next (x := ⟨k, A2, n2, c2, 0⟩) hz0 HI.out HW1.out HM1.out Hov.out How.out HHow.out HHg3.out HOK.out
          · have HE := Lib.hid (show RoundEnd W0.heap.size w.heap.size (w.heap.size + 4) (OptI w) (OptXx w) (pre ++ [⟨k, A2, n2, c2, 0⟩]) W .ret ⟨#[], []⟩ (((W.setCell ⟨w.heap.size + 3, 1, none⟩ (.int .i64 ((metN (pre.map OptY.k) 1 : Int) + 1))).setCell ⟨w.heap.size, 0, none⟩ (.slice none 0 0)).setCell ⟨w.heap.size + 1, 0, none⟩ (.int .i64 63)) from
              ⟨(((KeepsOthers.setCell _ _ _).trans (KeepsOthers.setCell _ _ _)).trans (KeepsOthers.setCell _ _ _)).from _, rfl, ((HI.out.below.setCell (p := ⟨w.heap.size + 3, 1, none⟩) (by show w.heap.size ≤ w.heap.size + 3; omega) _).setCell (p := ⟨w.heap.size, 0, none⟩) (Nat.le_refl _) _).setCell (p := ⟨w.heap.size + 1, 0, none⟩) (by show w.heap.size ≤ w.heap.size + 1; omega) _, by simpa using hsz, ((HI.out.r.far (p := ⟨w.heap.size + 3, 1, none⟩) (by simp) _).set 0 (.slice none 0 0)).far (p := ⟨w.heap.size + 1, 0, none⟩) (by simp) _, 63, by decide, ((HI.out.e.far (p := ⟨w.heap.size + 3, 1, none⟩) (by simp) _).far (p := ⟨w.heap.size, 0, none⟩) (by simp) _).set 0 _, HI.out.ok.twice (x := ⟨k, A2, n2, c2, 0⟩) rfl (by show 0 < optGroup k ∧ 0 < metN _ (optGroup k); rw [hg]; exact ⟨by decide, hm0⟩)⟩)
            have hgt : (0 : Int) < (metN (pre.map OptY.k) 1 : Int) := by omega
            have hgl : (metN (pre.map OptY.k) 1 : Int) ≤ 41 := by omega
            clear hg hov how hI hob hmb hm0 hle
            generalize (metN (pre.map OptY.k) 1 : Int) = M at *
            gi_wp2_with fail
            refine ⟨trivial, (CallsIn.inRound l (callsIn_wide.2 (HG.out _))).mono ?_⟩
            rintro e w' ⟨rfl, rfl⟩
            gi_wp2_with fail
            exact HE.out
        · have HG : Hid (∀ W, Calls Tryz.prog 36 #[.int .u8 k] W fun e w' => e = .returned (.int .i64 2) ∧ W = w') := Lib.hid fun W => by have := optGroup_any k W; rw [hg] at this; exact this
          have Hg := Lib.hid hg
          have hmc : W.cell? ⟨w.heap.size + 3, 2, none⟩ = some (.int .i64 (metN (pre.map OptY.k) 2)) := hI.m.cell 2
          have hmf := hI.m.frozen 2
          have hmb : metN (pre.map OptY.k) 2 ≤ 41 := by
            have := List.countP_le_length (p := fun k => optGroup k == 2) (l := pre.map OptY.k)
            rw [List.length_map] at this
            unfold metN; omega
          rcases Nat.eq_zero_or_pos (metN (pre.map OptY.k) 2) with hm0 | hm0
          · have Hm0 := Lib.hid hm0
            rw [hm0] at hmc
            clear hg hov how hI hob hmb hm0 hle
            gi_wp2_with fail
            refine ⟨trivial, (CallsIn.inRound l (callsIn_wide.2 (HG.out _))).mono ?_⟩
            rintro e w' ⟨rfl, rfl⟩
            have HW1 : Hid (W.grownBy (W.setCell ⟨w.heap.size + 3, 2, none⟩ (.int .i64 1)) (some (w.heap.size + 3))) := Lib.hid (only_setCell (grown_of_below (row := some (w.heap.size + 3)) (Below.refl _ W)) (p := ⟨w.heap.size + 3, 2, none⟩) (.inl rfl) (.int .i64 1))
            have HM1 : Hid (Blk (W.setCell ⟨w.heap.size + 3, 2, none⟩ (.int .i64 1)) (w.heap.size + 3) 106 (metA ((pre ++ [(⟨k, A2, n2, c2, 0⟩ : OptY)]).map OptY.k))) := Lib.hid (by rw [List.map_append, show [(⟨k, A2, n2, c2, 0⟩ : OptY)].map OptY.k = [k] from rfl, ← metA_g _ k 2 Hg.out (by decide) (.int .i64 1) (by rw [Hm0.out]; rfl)]; exact HI.out.m.set 2 _)
            have HOK : Hid (SoFar (pre ++ [⟨k, A2, n2, c2, 0⟩])) := Lib.hid (HI.out.ok.snoc (x := ⟨k, A2, n2, c2, 0⟩) rfl (by intro h; have := h.2; simp only at this; rw [Hg.out, Hm0.out] at this; omega))
            have HHo : Hid ((W.setCell ⟨w.heap.size + 3, 2, none⟩ (.int .i64 1)).ownsRow (w.heap.size + 5) 104 2 v pre.length (optCells pre)) := Lib.hid (How.out.kept HW1.out (row_ne How))
            have HH4 : Hid (∀ o w3, ((W.setCell ⟨w.heap.size + 3, 2, none⟩ (.int .i64 1)).alloc o).grownBy w3 v.ownBlock → Blk w3 (w.heap.size + 2) 63 #[v]) := Lib.hid fun o w3 hg3 => (hg3.block (w.heap.size + 2) (by have := HW1.out.size; simp; omega) (row_ne2 How)).trans ((Below.heap_alloc (W.setCell ⟨w.heap.size + 3, 2, none⟩ (.int .i64 1)) o (w.heap.size + 2) (by have := HW1.out.size; omega)).trans ((HW1.out.block (w.heap.size + 2) (by omega) (by simp)).trans Hov.out))
            gi_wp2_with (first | (gi_at_builtin; refine wpListIn_append_own _ rfl _ _ 63 rfl (w.heap.size + 5) 104 i0 _ 2 32 Tryz.underlying63 hi hz0i hz1i hz2i rfl (by decide) v pre.length (optCells pre) rfl (World.ownsRow.alloc HHo.out _) ⟨W.heap.size, 0, none⟩ 1 1 [.int .u8 k, .slice A2 n2 c2] rfl rfl (by first | exact two_new _ _ _ _ | (simpa using two_new (W.setCell ⟨w.heap.size + 3, 2, none⟩ (.int .i64 1)) 104 (.int .u8 k) (.slice A2 n2 c2))) (by simp [Value.oneCell']) (by unfold maxLen; omega) (by omega) (by have := HW1.out.size; simp at *; omega) ?_; intro v' w3 how' hg3 _; obtain ⟨g', cap', rfl⟩ := ownsRow_succ how'; have hov3 := HH4.out _ _ hg3; have hxc := hov3.cell 0; have hxf := hov3.frozen 0; have HHow := Lib.hid how'; have HHg3 := Lib.hid hg3; clear how' hg3 hov3) | fail)
            exact OptI.next (x := ⟨k, A2, n2, c2, 0⟩) hz0 HI.out HW1.out HM1.out Hov.out How.out HHow.out HHg3.out HOK.out
          · have HE := Lib.hid (show RoundEnd W0.heap.size w.heap.size (w.heap.size + 4) (OptI w) (OptXx w) (pre ++ [⟨k, A2, n2, c2, 0⟩]) W .ret ⟨#[], []⟩ (((W.setCell ⟨w.heap.size + 3, 2, none⟩ (.int .i64 ((metN (pre.map OptY.k) 2 : Int) + 1))).setCell ⟨w.heap.size, 0, none⟩ (.slice none 0 0)).setCell ⟨w.heap.size + 1, 0, none⟩ (.int .i64 63)) from
              ⟨(((KeepsOthers.setCell _ _ _).trans (KeepsOthers.setCell _ _ _)).trans (KeepsOthers.setCell _ _ _)).from _, rfl, ((HI.out.below.setCell (p := ⟨w.heap.size + 3, 2, none⟩) (by show w.heap.size ≤ w.heap.size + 3; omega) _).setCell (p := ⟨w.heap.size, 0, none⟩) (Nat.le_refl _) _).setCell (p := ⟨w.heap.size + 1, 0, none⟩) (by show w.heap.size ≤ w.heap.size + 1; omega) _, by simpa using hsz, ((HI.out.r.far (p := ⟨w.heap.size + 3, 2, none⟩) (by simp) _).set 0 (.slice none 0 0)).far (p := ⟨w.heap.size + 1, 0, none⟩) (by simp) _, 63, by decide, ((HI.out.e.far (p := ⟨w.heap.size + 3, 2, none⟩) (by simp) _).far (p := ⟨w.heap.size, 0, none⟩) (by simp) _).set 0 _, HI.out.ok.twice (x := ⟨k, A2, n2, c2, 0⟩) rfl (by show 0 < optGroup k ∧ 0 < metN _ (optGroup k); rw [hg]; exact ⟨by decide, hm0⟩)⟩)
            have hgt : (0 : Int) < (metN (pre.map OptY.k) 2 : Int) := by omega
            have hgl : (metN (pre.map OptY.k) 2 : Int) ≤ 41 := by omega
            clear hg hov how hI hob hmb hm0 hle
            generalize (metN (pre.map OptY.k) 2 : Int) = M at *
            gi_wp2_with fail
            refine ⟨trivial, (CallsIn.inRound l (callsIn_wide.2 (HG.out _))).mono ?_⟩
            rintro e w' ⟨rfl, rfl⟩
            gi_wp2_with fail
            exact HE.out
        · have HG : Hid (∀ W, Calls Tryz.prog 36 #[.int .u8 k] W fun e w' => e = .returned (.int .i64 3) ∧ W = w') := Lib.hid fun W => by have := optGroup_any k W; rw [hg] at this; exact this
          have Hg := Lib.hid hg
          have hmc : W.cell? ⟨w.heap.size + 3, 3, none⟩ = some (.int .i64 (metN (pre.map OptY.k) 3)) := hI.m.cell 3
          have hmf := hI.m.frozen 3
          have hmb : metN (pre.map OptY.k) 3 ≤ 41 := by
            have := List.countP_le_length (p := fun k => optGroup k == 3) (l := pre.map OptY.k)
            rw [List.length_map] at this
            unfold metN; omega
          rcases Nat.eq_zero_or_pos (metN (pre.map OptY.k) 3) with hm0 | hm0
          · have Hm0 := Lib.hid hm0
            rw [hm0] at hmc
            clear hg hov how hI hob hmb hm0 hle
            gi_wp2_with fail
            refine ⟨trivial, (CallsIn.inRound l (callsIn_wide.2 (HG.out _))).mono ?_⟩
            rintro e w' ⟨rfl, rfl⟩
            have HW1 : Hid (W.grownBy (W.setCell ⟨w.heap.size + 3, 3, none⟩ (.int .i64 1)) (some (w.heap.size + 3))) := Lib.hid (only_setCell (grown_of_below (row := some (w.heap.size + 3)) (Below.refl _ W)) (p := ⟨w.heap.size + 3, 3, none⟩) (.inl rfl) (.int .i64 1))
            have HM1 : Hid (Blk (W.setCell ⟨w.heap.size + 3, 3, none⟩ (.int .i64 1)) (w.heap.size + 3) 106 (metA ((pre ++ [(⟨k, A2, n2, c2, 0⟩ : OptY)]).map OptY.k))) := Lib.hid (by rw [List.map_append, show [(⟨k, A2, n2, c2, 0⟩ : OptY)].map OptY.k = [k] from rfl, ← metA_g _ k 3 Hg.out (by decide) (.int .i64 1) (by rw [Hm0.out]; rfl)]; exact HI.out.m.set 3 _)
            have HOK : Hid (SoFar (pre ++ [⟨k, A2, n2, c2, 0⟩])) := Lib.hid (HI.out.ok.snoc (x := ⟨k, A2, n2, c2, 0⟩) rfl (by intro h; have := h.2; simp only at this; rw [Hg.out, Hm0.out] at this; omega))
            have HHo : Hid ((W.setCell ⟨w.heap.size + 3, 3, none⟩ (.int .i64 1)).ownsRow (w.heap.size + 5) 104 2 v pre.length (optCells pre)) := Lib.hid (How.out.kept HW1.out (row_ne How))
            have HH4 : Hid (∀ o w3, ((W.setCell ⟨w.heap.size + 3, 3, none⟩ (.int .i64 1)).alloc o).grownBy w3 v.ownBlock → Blk w3 (w.heap.size + 2) 63 #[v]) := Lib.hid fun o w3 hg3 => (hg3.block (w.heap.size + 2) (by have := HW1.out.size; simp; omega) (row_ne2 How)).trans ((Below.heap_alloc (W.setCell ⟨w.heap.size + 3, 3, none⟩ (.int .i64 1)) o (w.heap.size + 2) (by have := HW1.out.size; omega)).trans ((HW1.out.block (w.heap.size + 2) (by omega) (by simp)).trans Hov.out))
            gi_wp2_with (first | (gi_at_builtin; refine wpListIn_append_own _ rfl _ _ 63 rfl (w.heap.size + 5) 104 i0 _ 2 32 Tryz.underlying63 hi hz0i hz1i hz2i rfl (by decide) v pre.length (optCells pre) rfl (World.ownsRow.alloc HHo.out _) ⟨W.heap.size, 0, none⟩ 1 1 [.int .u8 k, .slice A2 n2 c2] rfl rfl (by first | exact two_new _ _ _ _ | (simpa using two_new (W.setCell ⟨w.heap.size + 3, 3, none⟩ (.int .i64 1)) 104 (.int .u8 k) (.slice A2 n2 c2))) (by simp [Value.oneCell']) (by unfold maxLen; omega) (by omega) (by have := HW1.out.size; simp at *; omega) ?_; intro v' w3 how' hg3 _; obtain ⟨g', cap', rfl⟩ := ownsRow_succ how'; have hov3 := HH4.out _ _ hg3; have hxc := hov3.cell 0; have hxf := hov3.frozen 0; have HHow := Lib.hid how'; have HHg3 := Lib.hid hg3; clear how' hg3 hov3) | fail)
            exact OptI.next (x := ⟨k, A2, n2, c2, 0⟩) hz0 HI.out HW1.out HM1.out Hov.out How.out HHow.out HHg3.out HOK.out
          · have HE := Lib.hid (show RoundEnd W0.heap.size w.heap.size (w.heap.size + 4) (OptI w) (OptXx w) (pre ++ [⟨k, A2, n2, c2, 0⟩]) W .ret ⟨#[], []⟩ (((W.setCell ⟨w.heap.size + 3, 3, none⟩ (.int .i64 ((metN (pre.map OptY.k) 3 : Int) + 1))).setCell ⟨w.heap.size, 0, none⟩ (.slice none 0 0)).setCell ⟨w.heap.size + 1, 0, none⟩ (.int .i64 63)) from
              ⟨(((KeepsOthers.setCell _ _ _).trans (KeepsOthers.setCell _ _ _)).trans (KeepsOthers.setCell _ _ _)).from _, rfl, ((HI.out.below.setCell (p := ⟨w.heap.size + 3, 3, none⟩) (by show w.heap.size ≤ w.heap.size + 3; omega) _).setCell (p := ⟨w.heap.size, 0, none⟩) (Nat.le_refl _) _).setCell (p := ⟨w.heap.size + 1, 0, none⟩) (by show w.heap.size ≤ w.heap.size + 1; omega) _, by simpa using hsz, ((HI.out.r.far (p := ⟨w.heap.size + 3, 3, none⟩) (by simp) _).set 0 (.slice none 0 0)).far (p := ⟨w.heap.size + 1, 0, none⟩) (by simp) _, 63, by decide, ((HI.out.e.far (p := ⟨w.heap.size + 3, 3, none⟩) (by simp) _).far (p := ⟨w.heap.size, 0, none⟩) (by simp) _).set 0 _, HI.out.ok.twice (x := ⟨k, A2, n2, c2, 0⟩) rfl (by show 0 < optGroup k ∧ 0 < metN _ (optGroup k); rw [hg]; exact ⟨by decide, hm0⟩)⟩)
            have hgt : (0 : Int) < (metN (pre.map OptY.k) 3 : Int) := by omega
            have hgl : (metN (pre.map OptY.k) 3 : Int) ≤ 41 := by omega
            clear hg hov how hI hob hmb hm0 hle
            generalize (metN (pre.map OptY.k) 3 : Int) = M at *
            gi_wp2_with fail
            refine ⟨trivial, (CallsIn.inRound l (callsIn_wide.2 (HG.out _))).mono ?_⟩
            rintro e w' ⟨rfl, rfl⟩
            gi_wp2_with fail
            exact HE.out
    · have he2 : (e == 0) = false := by simpa using he
      have hE := Lib.hid (show RoundEnd W0.heap.size w.heap.size (w.heap.size + 4) (OptI w) (OptXx w) (pre ++ [⟨k, A2, n2, c2, e⟩]) W .ret ⟨#[], []⟩ ((W.setCell ⟨w.heap.size, 0, none⟩ (.slice none 0 0)).setCell ⟨w.heap.size + 1, 0, none⟩ (.int .i64 e)) from
        ⟨((KeepsOthers.setCell _ _ _).trans (KeepsOthers.setCell _ _ _)).from _, rfl, (HI.out.below.setCell (p := ⟨w.heap.size, 0, none⟩) (Nat.le_refl _) _).setCell (p := ⟨w.heap.size + 1, 0, none⟩) (by show w.heap.size ≤ w.heap.size + 1; omega) _, by simpa using hsz, (HI.out.r.set 0 (.slice none 0 0)).far (p := ⟨w.heap.size + 1, 0, none⟩) (by simp) _, e, he, (HI.out.e.far (p := ⟨w.heap.size, 0, none⟩) (by simp) _).set 0 _, HI.out.ok.bad (x := ⟨k, A2, n2, c2, e⟩) he⟩)
      clear he hI hov how hob
      gi_wp2_with fail
      exact hE.out
  case done =>
    rintro D ys W hD hS hI hK
    obtain ⟨v, hov, how⟩ := hI.o
    have hov0 := hov.cell 0
    have hrc := hI.r.cell 0
    have hrf := hI.r.frozen 0
    have hec := hI.e.cell 0
    have hef := hI.e.frozen 0
    have HI := Lib.hid hI
    have HK := Lib.hid hK
    have HS := Lib.hid hS
    have Hov := Lib.hid hov
    have How := Lib.hid how
    have hvf : ∃ A' c', v = .slice A' ys.length c' := by
      rcases how.2 with ⟨e, h0⟩ | ⟨g, cap, cur, e, _⟩
      · exact ⟨none, 0, by rw [e, h0]⟩
      · exact ⟨_, _, e⟩
    obtain ⟨A', c', rfl⟩ := hvf
    clear hI hK hS hov how
    gi_wp2_with fail
    have hsz := HI.out.size
    have hne : w.heap.size ≠ D ∧ w.heap.size + 1 ≠ D := by omega
    have br : Blk (((W.setCell ⟨w.heap.size, 0, none⟩ (.slice A' ys.length c')).setCell ⟨w.heap.size + 1, 0, none⟩ (.int .i64 0)).putObj D (.deferred none)) w.heap.size 63 #[.slice A' ys.length c'] :=
      (World.putObj_heap_other hne.1).trans ((HI.out.r.set 0 (.slice A' ys.length c')).far (p := ⟨w.heap.size + 1, 0, none⟩) (by simp) _)
    have be : Blk (((W.setCell ⟨w.heap.size, 0, none⟩ (.slice A' ys.length c')).setCell ⟨w.heap.size + 1, 0, none⟩ (.int .i64 0)).putObj D (.deferred none)) (w.heap.size + 1) 46 #[.int .i64 0] :=
      (World.putObj_heap_other hne.2).trans ((HI.out.e.far (p := ⟨w.heap.size, 0, none⟩) (by simp) _).set 0 _)
    have hK2 := ((KeepsOthers.setCell W ⟨w.heap.size, 0, none⟩ (.slice A' ys.length c')).trans (KeepsOthers.setCell _ ⟨w.heap.size + 1, 0, none⟩ (.int .i64 0))).same D _ HK.out rfl
    have hrow := ownsRow_putObj (ownsRow_setCell_other (ownsRow_setCell_other How.out (a := ⟨w.heap.size, 0, none⟩) (row_far How (by simp)) (.slice A' ys.length c')) (a := ⟨w.heap.size + 1, 0, none⟩) (row_far How (by simp)) (.int .i64 0)) (.deferred none) hK2 rfl
    have hbel := ((HI.out.below.setCell (p := ⟨w.heap.size, 0, none⟩) (Nat.le_refl _) (.slice A' ys.length c')).setCell (p := ⟨w.heap.size + 1, 0, none⟩) (by show w.heap.size ≤ w.heap.size + 1; omega) (.int .i64 0)).trans (belowK_b (w := w) (Nat.le_refl _) _ D _ (.deferred none) (by omega) hK2 rfl rfl)
    have c0 := br.cell 0
    have c1 := be.cell 0
    refine ⟨by simp, .inl ⟨_, _, rfl, run_takeDeferred hK2, ?_⟩⟩
    rw [optRead_ok (by omega) (by rw [hn]; exact HS.out) HI.out.ok]
    exact ⟨.tuple #[.slice A' ys.length c', .int .i64 0], by simp [results, Tryz.results61, go_sem, c0, c1], A', c', by simp, optsAt_of hrow, hbel⟩
  case stop =>
    rintro D c pre W hD ⟨t, hS⟩ ⟨rfl, hX⟩ hK
    have HX := Lib.hid hX
    have HK := Lib.hid hK
    have HS := Lib.hid hS
    clear hX hK hS
    gi_wp2_with fail
    have hsz := HX.out.size
    obtain ⟨x, hx, hbx, hbad⟩ := HX.out.e
    have hne : w.heap.size ≠ D ∧ w.heap.size + 1 ≠ D := by omega
    have br : Blk (W.putObj D (.deferred none)) w.heap.size 63 #[.slice none 0 0] := (World.putObj_heap_other hne.1).trans HX.out.r
    have be : Blk (W.putObj D (.deferred none)) (w.heap.size + 1) 46 #[.int .i64 x] := (World.putObj_heap_other hne.2).trans hbx
    have hbel := HX.out.below.trans (belowK_b (w := w) (Nat.le_refl _) _ D _ (.deferred none) (by omega) HK.out rfl rfl)
    have c0 := br.cell 0
    have c1 := be.cell 0
    refine ⟨by simp, .inl ⟨_, _, rfl, run_takeDeferred HK.out, ?_⟩⟩
    rw [optRead_bad (by omega) (by rw [hn]; exact HS.out) hbad]
    exact ⟨.tuple #[.slice none 0 0, .int .i64 x], by simp [results, Tryz.results61, go_sem, c0, c1], none, 0, by simp, fun j hj => by simp at hj, hbel⟩
end Go.Proofs.YtebeekjcepjcnaaGreatDoor
