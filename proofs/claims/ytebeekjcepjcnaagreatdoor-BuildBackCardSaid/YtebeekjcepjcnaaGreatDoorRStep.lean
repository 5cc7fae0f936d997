/-
  The steps of the walk of a region; what is known of the world in it.
  Maps with integer keys that a call makes: a new key, a look-up. Package build: the table of sorts.
-/
import Derived.Deep.MidRow
import Derived.MapKept
import Derived.Test.YtebeekjcepjcnaaGreatDoorRWalk
namespace Go.Proofs.YtebeekjcepjcnaaGreatDoor
open Go.RowKit

section
variable {P : Program} {ops : Array Oper} {Q : Exit → Act → World → Prop} {E : Nat → World → Prop} {S : List Nat} {G : World → World → Prop} {fr : List Nat} {FF : Nat → Value → World → Prop} {Fs : List (World → Prop)} {k : Nat} {o : Oper} {rest : List Nat} {a a' : Act} {x : Value}
/-- An operation of one value. -/
theorem Walk.det (ho : ops[k]? = some o) (hs : S.contains k = false) (hf : fr.contains k = false)
    (hrun : ∀ c W, E c W → Facts' Fs W → wpList P ops (Exit.then (TextPost a' fun W' => G W W' ∧ E c W') NoQ) [o] a W) (hv : a' = a.put o.dst x) (hrest : Walk P ops Q E S G fr FF Fs rest a') : Walk P ops Q E S G fr FF Fs (k :: rest) a := by
  subst hv
  refine ⟨o, ho, .inl ⟨x, hf, fun c W _ hE hF => ?_, hrest⟩⟩
  have := hrun c W hE hF
  rw [hs]
  exact this
/-- Store number n of the chain. -/
theorem Walk.store (n : Nat) (ho : ops[k]? = some o) (hs : S.contains k = true) (hn : S.idxOf k = n) (hf : fr.contains k = false)
    (hrun : ∀ W, E n W → Facts' Fs W → wpList P ops (Exit.then (TextPost a' fun W' => G W W' ∧ E (n + 1) W') NoQ) [o] a W) (hv : a' = a.put o.dst x) (hrest : Walk P ops Q E S G fr FF Fs rest a') : Walk P ops Q E S G fr FF Fs (k :: rest) a := by
  subst hv
  refine ⟨o, ho, .inl ⟨x, hf, fun c W hc hE hF => ?_, hrest⟩⟩
  have hc' := (hc hs).trans hn
  subst hc'
  have := hrun W hE hF
  rw [hs]
  exact this
/-- An operation of whatever value, of which F is known; all behind it but the free ones wait for it. -/
theorem Walk.any (F : Value → World → Prop) (hF : ∀ u W W', F u W → G W W' → F u W') (ho : ops[k]? = some o) (hs : S.contains k = false) (hf : fr.contains k = false) (hw : waitAll ops fr [k] rest = true)
    (hrun : ∀ c W, E c W → Facts' Fs W → wpList P ops (Exit.then (AnyPost a o.dst F fun W' => G W W' ∧ E c W') NoQ) [o] a W) (hrest : ∀ u, Walk P ops Q E S G fr FF (F u :: Fs) rest (a.put o.dst u)) : Walk P ops Q E S G fr FF Fs (k :: rest) a := by
  refine ⟨o, ho, .inr ⟨F, (fun h => by rw [hf] at h; cases h), hF, hw, fun c W _ hE hF => ?_, hrest⟩⟩
  have := hrun c W hE hF
  rw [hs]
  exact this
/-- A free one: it may come up at any time. -/
theorem Walk.free (hF : ∀ u W W', FF k u W → G W W' → FF k u W') (ho : ops[k]? = some o) (hs : S.contains k = false) (hw : waitAll ops fr [k] rest = true)
    (hrun : ∀ a c W, E c W → wpList P ops (Exit.then (AnyPost a o.dst (FF k) fun W' => G W W' ∧ E c W') NoQ) [o] a W) (hrest : ∀ u, Walk P ops Q E S G fr FF (FF k u :: Fs) rest (a.put o.dst u)) : Walk P ops Q E S G fr FF Fs (k :: rest) a := by
  refine ⟨o, ho, .inr ⟨FF k, fun _ => rfl, hF, hw, fun c W _ hE _ => ?_, hrest⟩⟩
  have := hrun a c W hE
  rw [hs]
  exact this
theorem Walk.done (h : ∀ W, E S.length W → Facts' Fs W → Q .normal a W) : Walk P ops Q E S G fr FF Fs [] a := h
theorem Facts'.head {f : World → Prop} {W : World} (h : Facts' (f :: Fs) W) : f W := h f (by simp)
theorem Facts'.tail {f : World → Prop} {W : World} (h : Facts' (f :: Fs) W) : Facts' Fs W := fun g hg => h g (by simp [hg])
/-- A region whose operations are all of one value. -/
theorem wp_region_walk0 {id : Nat} {w : World} {l : List Oper} {a0 : Act} (hm : P.follows .mixedOrders = true) (E : Nat → World → Prop) (S : List Nat) (G : World → World → Prop) (ord : List Nat) (hB : walkB l.toArray S ord = true)
    (hE0 : E 0 w.drew) (h : Walk P l.toArray Q E S G [] (fun _ _ _ => True) [] ord a0) : (Code.region id l.toArray true).wp P Q a0 w :=
  wp_region_walk hm E S G [] _ ord hB (fun _ h => by simp at h) hE0 h
end

/-- Is the next operation a load, a build? -/
theorem look_load {P : Program} {ops : Array Oper} {Q : Exit → Act → World → Prop} {a : Act} {w : World} {rest : List Oper} {d : Option Tmp} {ty t : TypeId} {x : Operand} {p : String} {af : Array Edge} {g : Option (Nat × Bool)}
    (h : wpList P ops Q ((⟨d, .load ty x, t, p, af, g⟩ : Oper) :: rest) a w) : wpList P ops Q ((⟨d, .load ty x, t, p, af, g⟩ : Oper) :: rest) a w := h
theorem grown_of_below {W W' : World} {row : Option Nat} (h : Below W.heap.size W W') : W.grownBy W' row := ⟨h.os, h.tape, h.output, h.size, fun i hi _ => h.block i hi⟩

/-- What is known of the world: below B all is as at w; these blocks hold this. -/
def St (w : World) (B : Nat) (L : List (Nat × TypeId × Array Value)) (W : World) : Prop := Below B w W ∧ B ≤ W.heap.size ∧ ∀ x ∈ L, Blk W x.1 x.2.1 x.2.2
section
variable {w W W' : World} {B : Nat} {L : List (Nat × TypeId × Array Value)}
theorem St.get (h : St w B L W) (i : Nat) {g : Nat} {t : TypeId} {cs : Array Value} (hi : L[i]? = some (g, t, cs)) : Blk W g t cs := h.2.2 _ (List.mem_of_getElem? hi)
theorem St.below (h : St w B L W) (hb : Below W.heap.size W W') : St w B L W' :=
  ⟨h.1.trans (hb.mono h.2.1), Nat.le_trans h.2.1 hb.size, fun x hx => (h.2.2 x hx).below hb (h.2.2 x hx).lt⟩
theorem St.drew (h : St w B L W) : St w B L W.drew := ⟨h.1.drew, h.2.1, fun x hx => (h.2.2 x hx).drew⟩
theorem St.alloc (h : St w B L W) (o : Obj) : St w B L (W.alloc o) := h.below ((Below.refl _ _).alloc (Nat.le_refl _) _)
theorem St.nil (hb : Below B w W) (hB : B ≤ W.heap.size) : St w B [] W := ⟨hb, hB, fun x hx => by simp at hx⟩
theorem St.cons (h : St w B L W) {g : Nat} {t : TypeId} {cs : Array Value} (hg : Blk W g t cs) : St w B ((g, t, cs) :: L) W :=
  ⟨h.1, h.2.1, fun x hx => by
    rcases List.mem_cons.1 hx with rfl | hx
    · exact hg
    · exact h.2.2 x hx⟩
/-- A cell of a block of its own is written. -/
theorem St.setFar (h : St w B L W) {p : Addr} (hp : B ≤ p.block) (hne : ∀ x ∈ L, x.1 ≠ p.block) (u : Value) : St w B L (W.setCell p u) :=
  ⟨h.1.setCell hp u, by simpa using h.2.1, fun x hx => (h.2.2 x hx).far (hne x hx) u⟩
theorem St.rowFar (h : St w B L W) {R : Nat} (hp : B ≤ R) (hne : ∀ x ∈ L, x.1 ≠ R) (cs : Array Value) : St w B L (W.setRow R cs) :=
  ⟨below_setRow h.1 hp cs, by simpa using h.2.1, fun x hx => (setRow_other _ _ _ _ (hne x hx)).trans (h.2.2 x hx)⟩
end

/-- The same, and a block that the region stores into once. -/
def St1 (w : World) (B : Nat) (L : List (Nat × TypeId × Array Value)) (R : Nat) (t : TypeId) (z n : Array Value) (c : Nat) (W : World) : Prop := St w B L W ∧ B ≤ R ∧ (∀ x ∈ L, x.1 ≠ R) ∧ Blk W R t (if c = 0 then z else n)
theorem St1.below {w W W' : World} {B : Nat} {L : List (Nat × TypeId × Array Value)} {R : Nat} {t : TypeId} {z n : Array Value} {c : Nat} (h : St1 w B L R t z n c W) (hb : Below W.heap.size W W') : St1 w B L R t z n c W' :=
  ⟨h.1.below hb, h.2.1, h.2.2.1, h.2.2.2.below hb h.2.2.2.lt⟩
theorem St1.drew {w W : World} {B : Nat} {L : List (Nat × TypeId × Array Value)} {R : Nat} {t : TypeId} {z n : Array Value} {c : Nat} (h : St1 w B L R t z n c W) : St1 w B L R t z n c W.drew :=
  ⟨h.1.drew, h.2.1, h.2.2.1, h.2.2.2.drew⟩
theorem St1.put {w W : World} {B : Nat} {L : List (Nat × TypeId × Array Value)} {R : Nat} {t : TypeId} {z n : Array Value} (h : St1 w B L R t z n 0 W) : St1 w B L R t z n 1 (W.setRow R n) :=
  ⟨h.1.rowFar h.2.1 h.2.2.1 n, h.2.1, h.2.2.1, setRow_heap _ _ _ _ _ _ h.2.2.2⟩
theorem Blk.range {W : World} {g : Nat} {t : TypeId} {cs : Array Value} (h : Blk W g t cs) (o : Nat) {l : List Value} (hl : (cs.toList.drop o).take l.length = l) : W.rangeAt g o l := fun j v hj => by
  rw [h.cell]
  have hlt : j < l.length := (List.getElem?_eq_some_iff.1 hj).1
  rw [← hl, List.getElem?_take_of_lt hlt, List.getElem?_drop] at hj
  simpa using hj

/-- A store into a block of type t that was made in the region: the others are as they were. -/
structure Late (B : Nat) (t : TypeId) (z n : Array Value) (W W' : World) : Prop where
  below : Below B W W'
  keep : ∀ (g : Nat) (x : Obj), W.heap[g]? = some x → x ≠ .cells z t (0, 0) → W'.heap[g]? = some x
  turn : ∀ g, Blk W g t z → Blk W' g t z ∨ Blk W' g t n
theorem Late.refl {B : Nat} {t : TypeId} {z n : Array Value} (W : World) : Late B t z n W W := ⟨Below.refl _ _, fun _ _ h _ => h, fun _ h => .inl h⟩
theorem Late.grown {B : Nat} {t : TypeId} {z n : Array Value} {W W' : World} (h : Below W.heap.size W W') (hB : B ≤ W.heap.size) : Late B t z n W W' :=
  ⟨h.mono hB, fun g _ hg _ => (h.block g (lt_of_block hg)).trans hg, fun _ hg => .inl (hg.below h hg.lt)⟩
theorem Late.store {B : Nat} {t : TypeId} {z n : Array Value} {W : World} {g : Nat} (hg : Blk W g t z) (hB : B ≤ g) : Late B t z n W (W.setRow g n) :=
  ⟨below_setRow (Below.refl _ _) hB n, fun k _ hk hne => (setRow_other W g k n (fun e => by subst e; rw [hg] at hk; injection hk with hk; exact hne hk.symm)).trans hk,
   fun k hk => by
    by_cases e : k = g
    · subst e; exact .inr (setRow_heap W k z n t _ hk)
    · exact .inl ((setRow_other W g k n e).trans hk)⟩

theorem Late.again {B : Nat} {t : TypeId} {z n : Array Value} {W : World} {g : Nat} (hg : Blk W g t n) (hB : B ≤ g) : Late B t z n W (W.setRow g n) := by
  have hs : ∀ k (x : Obj), W.heap[k]? = some x → (W.setRow g n).heap[k]? = some x := fun k x hk => by
    by_cases e : k = g
    · subst e; rw [hg] at hk; rw [← hk]; exact setRow_heap W k n n t _ hg
    · exact (setRow_other W g k n e).trans hk
  exact ⟨below_setRow (Below.refl _ _) hB n, fun k x hk _ => hs k x hk, fun k hk => .inl (hs k _ hk)⟩
/-- A block that the region makes: as it was made, or as it was stored into. -/
def LateB (b : Nat) (t : TypeId) (z n : Array Value) (u : Value) (W : World) : Prop := ∃ g, u = .pointer (some ⟨g, 0, none⟩) ∧ b ≤ g ∧ (Blk W g t z ∨ Blk W g t n)
def LateN (b : Nat) (t : TypeId) (n : Array Value) (u : Value) (W : World) : Prop := ∃ g, u = .pointer (some ⟨g, 0, none⟩) ∧ b ≤ g ∧ Blk W g t n
theorem LateN.keep {B b : Nat} {t : TypeId} {z n : Array Value} (u : Value) (W W' : World) (h : LateN b t n u W) (hG : Late B t z n W W') : LateN b t n u W' := by
  obtain ⟨g, e, hb, hg⟩ := h
  by_cases hne : n = z
  · subst hne
    exact ⟨g, e, hb, (hG.turn g hg).elim id id⟩
  · exact ⟨g, e, hb, hG.keep g _ hg (by simpa using hne)⟩
theorem LateB.keep {B b : Nat} {t : TypeId} {z n : Array Value} (u : Value) (W W' : World) (h : LateB b t z n u W) (hG : Late B t z n W W') : LateB b t z n u W' := by
  obtain ⟨g, e, hb, hg | hg⟩ := h
  · exact ⟨g, e, hb, hG.turn g hg⟩
  · obtain ⟨g', e', hb', hg'⟩ := LateN.keep u W W' ⟨g, e, hb, hg⟩ hG
    exact ⟨g', e', hb', .inr hg'⟩

section
variable {P : Program} {c : Code} {Q : Exit → Act → World → Prop} {a : Act} {w : World} {A A1 A2 A3 : Array Value} {t t1 t2 t3 : TypeId}
theorem blocks1 : Below w.heap.size w (w.alloc (.cells A t)) ∧ (w.alloc (.cells A t)).heap.size = w.heap.size + 1 ∧ Blk (w.alloc (.cells A t)) w.heap.size t A :=
  ⟨(Below.refl _ _).alloc (Nat.le_refl _) _, by simp, Blk.new _ _ _⟩
theorem Blk.next {W : World} {n : Nat} (hs : W.heap.size = n) (t : TypeId) (A : Array Value) : Blk (W.alloc (.cells A t)) n t A := by subst hs; exact Blk.new _ _ _
theorem blocks2 : Below w.heap.size w ((w.alloc (.cells A t)).alloc (.cells A1 t1)) ∧ ((w.alloc (.cells A t)).alloc (.cells A1 t1)).heap.size = w.heap.size + 2 ∧ Blk ((w.alloc (.cells A t)).alloc (.cells A1 t1)) w.heap.size t A ∧ Blk ((w.alloc (.cells A t)).alloc (.cells A1 t1)) (w.heap.size + 1) t1 A1 :=
  ⟨blocks1.1.alloc (by simp) _, by simp, blocks1.2.2.alloc _, Blk.next blocks1.2.1 _ _⟩
theorem wp_name1 (h : ∀ w1, Below w.heap.size w w1 → w1.heap.size = w.heap.size + 1 → Blk w1 w.heap.size t A → c.wp P Q a w1) : c.wp P Q a (w.alloc (.cells A t)) :=
  h _ blocks1.1 blocks1.2.1 blocks1.2.2
theorem wp_name2 (h : ∀ w1, Below w.heap.size w w1 → w1.heap.size = w.heap.size + 2 → Blk w1 w.heap.size t A → Blk w1 (w.heap.size + 1) t1 A1 → c.wp P Q a w1) : c.wp P Q a ((w.alloc (.cells A t)).alloc (.cells A1 t1)) :=
  h _ blocks2.1 blocks2.2.1 blocks2.2.2.1 blocks2.2.2.2
theorem wp_name3 (h : ∀ w1, Below w.heap.size w w1 → w1.heap.size = w.heap.size + 3 → Blk w1 w.heap.size t A → Blk w1 (w.heap.size + 1) t1 A1 → Blk w1 (w.heap.size + 2) t2 A2 → c.wp P Q a w1) :
    c.wp P Q a (((w.alloc (.cells A t)).alloc (.cells A1 t1)).alloc (.cells A2 t2)) :=
  h _ (blocks2.1.alloc (by simp; omega) _) (by simp) (blocks2.2.2.1.alloc _) (blocks2.2.2.2.alloc _) (Blk.next blocks2.2.1 _ _)
end

end Go.Proofs.YtebeekjcepjcnaaGreatDoor
namespace Go.Proofs.YtebeekjcepjcnaaGreatDoor
open Go.RowKit

section
variable {P : Program} {mty kt et : TypeId} {K : IntKind}
theorem setObj_new (W : World) (o o' : Obj) : ({ W.alloc o with heap := (W.alloc o).heap.setIfInBounds W.heap.size o' } : World) = W.alloc o' := by
  have : (W.heap.push o).setIfInBounds W.heap.size o' = W.heap.push o' := by
    apply Array.ext
    · simp
    · intro i h1 h2
      simp only [Array.size_setIfInBounds, Array.size_push] at h1
      by_cases hi : i = W.heap.size
      · subst hi; simp
      · rw [Array.getElem_setIfInBounds_ne (by simpa using h1) (Ne.symm hi), Array.getElem_push_lt (by omega), Array.getElem_push_lt (by omega)]
  show ({ W.alloc o with heap := _ } : World) = _
  rw [show (W.alloc o).heap = W.heap.push o from rfl, this]
  rfl
theorem run_insert_int (hm : P.underlying mty = some (.map kt et)) (hk : P.underlying kt = some (.int K)) (W : World) (es : Array MapEntry) (c : Nat) (k : Int) (v : Value) (hf : Instr.findNow (.int K) (.int K k) es.toList 0 = some none) :
    (Instr.mapUpdate mty (.map (some W.heap.size)) (.int K k) v).run P (W.alloc (.map es c)) = .ok () (W.alloc (.map (es.push ⟨.int K k, v, c⟩) (c + 1))) := by
  have hb : (W.alloc (.map es c)).heap[W.heap.size]? = some (.map es c) := heap_alloc_new W _
  have hc : (Instr.checkKey false 10000 kt (.int K k)).run P (W.alloc (.map es c)) = .ok () (W.alloc (.map es c)) := MapKept.run_checkKey (k := .int K k) hk (by simp [MapKept.IsKey]) false 9999
  have hso := setObj_new W (.map es c) (.map (es.push ⟨.int K k, v, c⟩) (c + 1))
  simp [Instr.mapUpdate, run_underlying hm, MapKept.run_getObj_map hb, hc, MapKept.run_findKey hk hf, MapKept.run_setObj_map _ hb, Result.andThen]
  exact hso
theorem run_lookup_int (hm : P.underlying mty = some (.map kt et)) (hk : P.underlying kt = some (.int K)) (W : World) (m : Nat) (es : Array MapEntry) (c : Nat) (k : Int) (i : Nat) (v : Value) (ok : Bool) (hb : W.heap[m]? = some (.map es c)) (hf : Instr.findNow (.int K) (.int K k) es.toList 0 = some (some (i, v))) :
    (Instr.lookup mty (.map (some m)) (.int K k) ok).run P W = .ok (if ok then .tuple #[v, .bool true] else v) W := by
  have hc : (Instr.checkKey es.isEmpty 10000 kt (.int K k)).run P W = .ok () W := MapKept.run_checkKey (k := .int K k) hk (by simp [MapKept.IsKey]) _ 9999
  simp [Instr.lookup, run_underlying hm, MapKept.run_getObj_map hb, hc, MapKept.run_findKey hk hf, Result.andThen]
theorem run_lookup_int_none (hm : P.underlying mty = some (.map kt et)) (hk : P.underlying kt = some (.int K)) (W : World) (m : Nat) (es : Array MapEntry) (c : Nat) (k : Int) (z : Value) (ok : Bool) (hb : W.heap[m]? = some (.map es c)) (hf : Instr.findNow (.int K) (.int K k) es.toList 0 = some none) (hz : (zeroValue et).run P W = .ok z W) :
    (Instr.lookup mty (.map (some m)) (.int K k) ok).run P W = .ok (if ok then .tuple #[z, .bool false] else z) W := by
  have hc : (Instr.checkKey es.isEmpty 10000 kt (.int K k)).run P W = .ok () W := MapKept.run_checkKey (k := .int K k) hk (by simp [MapKept.IsKey]) _ 9999
  simp [Instr.lookup, run_underlying hm, MapKept.run_getObj_map hb, hc, MapKept.run_findKey hk hf, hz, Result.andThen]
end

/-- What the table holds. -/
def sortV (p : Int) (f d : Nat) : Value := .agg #[.int .u8 p, .func (.func f) #[] #[], .func (.func d) #[] #[]]
def sortsE : Nat → Array MapEntry
  | 0 => #[]
  | 1 => #[⟨.int .u8 1, sortV 6 42 43, 0⟩]
  | 2 => #[⟨.int .u8 1, sortV 6 42 43, 0⟩, ⟨.int .u8 2, sortV 17 44 45, 1⟩]
  | 3 => #[⟨.int .u8 1, sortV 6 42 43, 0⟩, ⟨.int .u8 2, sortV 17 44 45, 1⟩, ⟨.int .u8 3, sortV 1 46 47, 2⟩]
  | 4 => #[⟨.int .u8 1, sortV 6 42 43, 0⟩, ⟨.int .u8 2, sortV 17 44 45, 1⟩, ⟨.int .u8 3, sortV 1 46 47, 2⟩, ⟨.int .u8 4, sortV 1 46 47, 3⟩]
  | _ => #[⟨.int .u8 1, sortV 6 42 43, 0⟩, ⟨.int .u8 2, sortV 17 44 45, 1⟩, ⟨.int .u8 3, sortV 1 46 47, 2⟩, ⟨.int .u8 4, sortV 1 46 47, 3⟩, ⟨.int .u8 5, sortV 1 48 49, 4⟩]
def SortsM (W : World) (m : Nat) : Prop := W.heap[m]? = some (.map (sortsE 5) 5)
theorem SortsM.grown {W W' : World} {m : Nat} {row : Option Nat} (h : SortsM W m) (hg : W.grownBy W' row) (hr : some m ≠ row) : SortsM W' m := (hg.block m (by
  rcases Nat.lt_or_ge m W.heap.size with hl | hl
  · exact hl
  · unfold SortsM at h; rw [Array.getElem?_eq_none hl] at h; cases h) hr).trans h

set_option maxHeartbeats 400000 in
theorem sorts_any (w : World) : Calls Tryz.prog 22 #[] w fun e w' => ∃ m, e = .returned (.map (some m)) ∧ w.heap.size ≤ m ∧ SortsM w' m ∧ Below w.heap.size w w' := by
  have hmm := run_makeMap (P := Tryz.prog) 78 w
  have i1 := run_insert_int (P := Tryz.prog) Tryz.underlying78 Tryz.underlying5 w (sortsE 0) 0 1 (sortV 6 42 43) (by rfl)
  have i2 := run_insert_int (P := Tryz.prog) Tryz.underlying78 Tryz.underlying5 w (sortsE 1) 1 2 (sortV 17 44 45) (by rfl)
  have i3 := run_insert_int (P := Tryz.prog) Tryz.underlying78 Tryz.underlying5 w (sortsE 2) 2 3 (sortV 1 46 47) (by rfl)
  have i4 := run_insert_int (P := Tryz.prog) Tryz.underlying78 Tryz.underlying5 w (sortsE 3) 3 4 (sortV 1 46 47) (by rfl)
  have i5 := run_insert_int (P := Tryz.prog) Tryz.underlying78 Tryz.underlying5 w (sortsE 4) 4 5 (sortV 1 48 49) (by rfl)
  rw [show (#[] : Array MapEntry) = sortsE 0 from rfl] at hmm
  rw [show (sortsE 0).push ⟨.int .u8 1, sortV 6 42 43, 0⟩ = sortsE 1 from rfl] at i1
  rw [show (sortsE 1).push ⟨.int .u8 2, sortV 17 44 45, 1⟩ = sortsE 2 from rfl] at i2
  rw [show (sortsE 2).push ⟨.int .u8 3, sortV 1 46 47, 2⟩ = sortsE 3 from rfl] at i3
  rw [show (sortsE 3).push ⟨.int .u8 4, sortV 1 46 47, 3⟩ = sortsE 4 from rfl] at i4
  rw [show (sortsE 4).push ⟨.int .u8 5, sortV 1 48 49, 4⟩ = sortsE 5 from rfl] at i5
  unfold sortV at i1 i2 i3 i4 i5
  have Hs := Lib.hid (show SortsM (w.alloc (.map (sortsE 5) 5)) w.heap.size from heap_alloc_new w _)
  generalize sortsE 0 = e0 at *
  generalize sortsE 1 = e1 at *
  generalize sortsE 2 = e2 at *
  generalize sortsE 3 = e3 at *
  generalize sortsE 4 = e4 at *
  generalize sortsE 5 = e5 at *
  go_enter Tryz.func22, Tryz.ntmps22
  go_wp2_with fail
  go_ret
  exact ⟨_, rfl, Nat.le_refl _, Hs.out, (Below.refl _ _).alloc (Nat.le_refl _) _⟩

def protoS (k : Int) : Int := if k = 1 then 6 else if k = 2 then 17 else 1
def fieldsS (k : Int) : Nat := if k = 1 then 42 else if k = 2 then 44 else if k = 5 then 48 else 46
def dataS (k : Int) : Nat := if k = 1 then 43 else if k = 2 then 45 else if k = 5 then 49 else 47
def noSort : Value := .agg #[.int .u8 0, .nilFunc, .nilFunc]
theorem lookup_sorts (W : World) (m : Nat) (h : SortsM W m) (k : Int) (h0 : 1 ≤ k) (h1 : k ≤ 5) (ok : Bool) :
    (Instr.lookup 78 (.map (some m)) (.int .u8 k) ok).run Tryz.prog W = .ok (if ok then .tuple #[sortV (protoS k) (fieldsS k) (dataS k), .bool true] else sortV (protoS k) (fieldsS k) (dataS k)) W := by
  rcases (show k = 1 ∨ k = 2 ∨ k = 3 ∨ k = 4 ∨ k = 5 by omega) with rfl | rfl | rfl | rfl | rfl
  · exact run_lookup_int Tryz.underlying78 Tryz.underlying5 W m _ _ 1 0 _ ok h rfl
  · exact run_lookup_int Tryz.underlying78 Tryz.underlying5 W m _ _ 2 1 _ ok h rfl
  · exact run_lookup_int Tryz.underlying78 Tryz.underlying5 W m _ _ 3 2 _ ok h rfl
  · exact run_lookup_int Tryz.underlying78 Tryz.underlying5 W m _ _ 4 3 _ ok h rfl
  · exact run_lookup_int Tryz.underlying78 Tryz.underlying5 W m _ _ 5 4 _ ok h rfl
theorem lookup_sorts_none (W : World) (m : Nat) (h : SortsM W m) (k : Int) (hk : ¬ (1 ≤ k ∧ k ≤ 5)) (ok : Bool) :
    (Instr.lookup 78 (.map (some m)) (.int .u8 k) ok).run Tryz.prog W = .ok (if ok then .tuple #[noSort, .bool false] else noSort) W := by
  have hne : ∀ j : Int, 1 ≤ j → j ≤ 5 → (k == j) = false := fun j a b => by simp; omega
  refine run_lookup_int_none Tryz.underlying78 Tryz.underlying5 W m _ _ k noSort ok h ?_ (by kernel_rfl)
  have e1 := hne 1 (by omega) (by omega)
  have e2 := hne 2 (by omega) (by omega)
  have e3 := hne 3 (by omega) (by omega)
  have e4 := hne 4 (by omega) (by omega)
  have e5 := hne 5 (by omega) (by omega)
  simp [sortsE, Instr.findNow, Instr.sameNow, e1, e2, e3, e4, e5]

end Go.Proofs.YtebeekjcepjcnaaGreatDoor
