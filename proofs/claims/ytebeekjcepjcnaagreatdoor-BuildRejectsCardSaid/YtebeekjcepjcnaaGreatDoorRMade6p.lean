/-
  bafflelaw06.Made: options that are right and do not exclude one another (at kinds that are no route).
  The bytes of options that are right are read as these options (plain).
-/
import Derived.Deep.CutBlock
import Derived.Test.YtebeekjcepjcnaaGreatDoorROptsd
import Derived.Test.YtebeekjcepjcnaaGreatDoorRMade8
namespace Go.Proofs.YtebeekjcepjcnaaGreatDoor
open Go.RowKit
/-- An option in small numbers, and where its bytes are. -/
structure OSm where
  kind : Int
  many : Int
  used : Int
  A : Option Addr
  n : Nat
  c : Nat
  bytes : List Int
structure OSm.Ok (x : OSm) : Prop where
  k0 : 0 ≤ x.kind
  k1 : x.kind < 256
  m0 : 0 ≤ x.many
  m1 : x.many < 256
  u0 : 0 ≤ x.used
  u1 : x.used < 256
  len : x.bytes.length = x.n
  cap : x.n ≤ x.c
  byt : Byt x.bytes
def OSm.cells (x : OSm) : List Value := [.int .u8 x.kind, .int .u8 x.many, .int .u8 x.used, .slice x.A x.n x.c]
/-- A slice of them. -/
def OSmAt (W : World) (B : Nat) (A : Option Addr) (l : List OSm) : Prop :=
  ∀ j x, l[j]? = some x → x.Ok ∧ ∃ b off, A = some ⟨b, off, none⟩ ∧ b < B ∧ (∀ i u, x.cells[i]? = some u → W.cell? ⟨b, off + j * 4 + i, none⟩ = some u) ∧ Rd W B x.A .u8 x.bytes
theorem OSmAt.below {W W' : World} {B C : Nat} {A : Option Addr} {l : List OSm} (h : OSmAt W B A l) (hb : Below C W W') (hC : B ≤ C) : OSmAt W' B A l := fun j x hx => by
  obtain ⟨ok, b, off, e, hB, h1, h2⟩ := h j x hx
  exact ⟨ok, b, off, e, hB, fun i u hu => (hb.cell (p := ⟨b, off + j * 4 + i, none⟩) (by show b < C; omega)).trans (h1 i u hu), h2.below hb hC⟩
/-- An option as it stands in memory, and its data. -/
structure OE where
  k : Int
  A : Option Addr
  c : Nat
  d : List Int
def OE.cells (o : OE) : List Value := [.int .u8 o.k, .slice o.A o.d.length o.c]
def oeC (l : List OE) : List Value := l.flatMap OE.cells
/-- The bytes of an option. -/
def OE.bytes (o : OE) : List Int := if o.k = 1 then [1] else o.k :: ((o.d.length : Int) + 2) :: o.d
def oeB (l : List OE) : List Int := l.flatMap OE.bytes
/-- Options that are right, and none that excludes another. -/
structure OsOk (l : List OE) : Prop where
  right : ∀ o ∈ l, optRight o.k o.d = true ∧ Byt o.d ∧ 1 ≤ o.k ∧ o.k < 256 ∧ optGroup o.k ≠ 3
  one7 : l.countP (fun o => o.k == 7) ≤ 1
  one68 : l.countP (fun o => o.k == 68) ≤ 1
  len : (oeB l).length ≤ 40
structure M6 (w : World) (i : Nat) (os : List OE) (v : Value) (tot : Nat) (W : World) : Prop where
  below : Below w.heap.size w W
  met : Blk W w.heap.size 102 #[.int .i64 (os.countP fun o => o.k == 7), .int .i64 0, .int .i64 (os.countP fun o => o.k == 68)]
  row : W.ownsRow (w.heap.size + 1) 104 2 v os.length (oeC os)
  ok : OsOk os
  tot : (oeB os).length = tot
  len : os.length ≤ i
  data : ∀ o ∈ os, Own W (w.heap.size + 1) (.slice o.A o.d.length o.c) o.d ∧ ∀ g, v.ownBlock = some g → (Value.slice o.A o.d.length o.c).ownBlock ≠ some g
theorem M6.start (w : World) : M6 w 0 [] (.slice none 0 0) 0 (w.alloc (.cells #[.int .i64 0, .int .i64 0, .int .i64 0] 102)) :=
  ⟨(Below.refl _ _).alloc (Nat.le_refl _) _, Blk.new _ _ _, World.ownsRow_nil _ _ _ _, ⟨fun o h => by simp at h, by simp, by simp, by simp [oeB]⟩, rfl, Nat.le_refl _, fun o h => by simp at h⟩
/-- The option that is being made, and its data. -/
def DS (w0 : World) (R : Nat) (K : Int) (dv : Value) (D : List Int) (W : World) : Prop := Below R w0 W ∧ R + 1 ≤ W.heap.size ∧ Blk W R 104 #[.int .u8 K, dv] ∧ Own W (R + 1) dv D
theorem DS.drew {w0 W : World} {R : Nat} {K : Int} {dv : Value} {D : List Int} (h : DS w0 R K dv D W) : DS w0 R K dv D W.drew := ⟨h.1.drew, h.2.1, h.2.2.1.drew, h.2.2.2.drew⟩
theorem DS.below {w0 W W' : World} {R : Nat} {K : Int} {dv : Value} {D : List Int} (h : DS w0 R K dv D W) (hb : Below W.heap.size W W') : DS w0 R K dv D W' :=
  ⟨h.1.trans (hb.mono (by have := h.2.1; omega)), by have := h.2.1; have := hb.size; omega, h.2.2.1.below hb h.2.2.1.lt, h.2.2.2.below hb (Nat.le_refl _)⟩
theorem DS.set {w0 W : World} {R : Nat} {K : Int} {g n c : Nat} {D : List Int} (h : DS w0 R K (.slice (some ⟨g, 0, none⟩) n c) D W) (i : Nat) (x : Int) : DS w0 R K (.slice (some ⟨g, 0, none⟩) n c) (D.set i x) (W.setCell ⟨g, i, none⟩ (.int .u8 x)) := by
  have hg : R + 1 ≤ g := (h.2.2.2.lt rfl).1
  exact ⟨h.1.setCell (p := ⟨g, i, none⟩) (by show R ≤ g; omega) _, by simpa using h.2.1, h.2.2.1.far (p := ⟨g, i, none⟩) (by show R ≠ g; omega) _, h.2.2.2.set i x⟩
def stD (D D' : List Int) (t c : Nat) : List Int := if c ≤ t then D else D'
theorem stD_no (D D' : List Int) (t c : Nat) (h : c ≤ t) : stD D D' t c = D := if_pos h
theorem stD_yes (D D' : List Int) (t c : Nat) (h : ¬ c ≤ t) : stD D D' t c = D' := if_neg h
theorem grown_set6 (w : World) (a : Addr) (u : Value) : w.grownBy (w.setCell a u) (some a.block) :=
  ⟨rfl, rfl, rfl, by simp, fun k _ hk => Below.heap_setCell w a u k (fun e => hk (by rw [e]))⟩
def flI (many : Int) : Int := [(0 : Int), 1, 3].getD (many % 3).toNat 0
theorem sl_inj3 : ∀ g h : Nat, Value.slice (some ⟨g, 0, none⟩) 3 3 = Value.slice (some ⟨h, 0, none⟩) 3 3 → g = h := fun g h e => by simpa using e
def szI (many : Int) : Int := if many % 3 = 0 then 4 else 8
/-- The group, the head and the size of an entry, by the kind. -/
def GHS (K many g h sz : Int) : Prop := (K = 7 ∧ g = 0 ∧ h = 1 ∧ sz = 4) ∨ (K = 68 ∧ g = 2 ∧ h = 2 ∧ sz = szI many) ∨ (K = 148 ∧ g = -1 ∧ h = 2 ∧ sz = 1) ∨ ((K = 1 ∨ K = 130 ∨ 2 ≤ K ∧ K ≤ 6) ∧ g = -1 ∧ h = 0 ∧ sz = 1)
def M6Post (w : World) (m : Nat) (e : Ending) (W : World) : Prop := ∃ (os : List OE) (v : Value) (tot : Nat), e = .returned (.tuple #[v, .int .i64 tot]) ∧ M6 w m os v tot W

theorem OsOk.snoc {os : List OE} {o : OE} (h : OsOk os) (ho : optRight o.k o.d = true ∧ Byt o.d ∧ 1 ≤ o.k ∧ o.k < 256 ∧ optGroup o.k ≠ 3) (h7 : o.k = 7 → os.countP (fun o => o.k == 7) = 0)
    (h68 : o.k = 68 → os.countP (fun o => o.k == 68) = 0) (hl : (oeB os).length + o.bytes.length ≤ 40) : OsOk (os ++ [o]) := by
  refine ⟨fun p hp => ?_, ?_, ?_, ?_⟩
  · rcases List.mem_append.1 hp with hp | hp
    · exact h.right p hp
    · obtain rfl : p = o := by simpa using hp
      exact ho
  · rw [List.countP_append, List.countP_singleton]
    have := h.one7
    by_cases hk : o.k = 7
    · rw [h7 hk]; split <;> omega
    · simp [hk]; exact this
  · rw [List.countP_append, List.countP_singleton]
    have := h.one68
    by_cases hk : o.k = 68
    · rw [h68 hk]; split <;> omega
    · simp [hk]; exact this
  · unfold oeB at *
    rw [List.flatMap_append, List.length_append]
    simpa using hl
theorem made6_right {K many g h sz : Int} {nn j : Nat} {D : List Int} (hG : GHS K many g h sz) (hN : h + (nn : Int) * sz = j) (hn0 : K = 1 ∨ K = 148 → nn = 0) (hD : D.length = j) (hB : Byt D) (hj : K ≠ 1 → j ≤ 38)
    (h0 : 0 ≤ g → ∃ u : Nat, u ≤ nn ∧ D.getD 0 0 = 3 + h + u * sz) (h1 : g = 2 → D.getD 1 0 % 16 = flI many) : optRight K D = true ∧ Byt D ∧ 1 ≤ K ∧ K < 256 ∧ optGroup K ≠ 3 := by
  unfold GHS at hG
  rcases hG with ⟨rfl, rfl, rfl, rfl⟩ | ⟨rfl, rfl, rfl, rfl⟩ | ⟨rfl, rfl, rfl, rfl⟩ | ⟨hK, rfl, rfl, rfl⟩
  · obtain ⟨u, hu, e⟩ := h0 (by omega)
    have := hj (by omega)
    refine ⟨?_, hB, by omega, by omega, by decide⟩
    show (addrB D && decide (D.length ≤ 38)) = true
    unfold addrB
    rw [e, hD]
    simp
    omega
  · obtain ⟨u, hu, e⟩ := h0 (by omega)
    have e1 := h1 rfl
    have := hj (by omega)
    refine ⟨?_, hB, by omega, by omega, by decide⟩
    show (stampB D && decide (D.length ≤ 38)) = true
    unfold stampB
    rw [e1, e, hD]
    unfold flI szI at *
    rcases (show (many % 3).toNat = 0 ∧ many % 3 = 0 ∨ (many % 3).toNat = 1 ∧ many % 3 ≠ 0 ∨ (many % 3).toNat = 2 ∧ many % 3 ≠ 0 by omega) with ⟨q1, q2⟩ | ⟨q1, q2⟩ | ⟨q1, q2⟩
    · rw [q1]
      rw [if_pos q2] at hN ⊢
      simp [stampS]
      omega
    · rw [q1]
      rw [if_neg q2] at hN ⊢
      simp [stampS]
      omega
    · rw [q1]
      rw [if_neg q2] at hN ⊢
      simp [stampS]
      omega
  · have := hn0 (.inr rfl)
    refine ⟨?_, hB, by omega, by omega, by decide⟩
    show ((D.length == 2) && decide (D.length ≤ 38)) = true
    rw [hD]
    simp
    omega
  · clear h0 h1
    have hgr : optGroup K ≠ 3 := by unfold optGroup; rw [if_neg (by omega), if_neg (by omega), if_neg (by omega), if_neg (by omega)]; decide
    refine ⟨?_, hB, by omega, by omega, hgr⟩
    unfold optRight
    by_cases h1' : K = 1
    · subst h1'
      have := hn0 (.inl rfl)
      rw [if_pos (.inr rfl), hD]
      simp
      omega
    · rw [if_neg (by omega)]
      have := hj h1'
      unfold shapeB
      rw [if_neg (by omega), if_neg (by omega), if_neg (by omega), hD]
      simp
      omega
theorem OE.bytes_len (o : OE) : o.bytes.length = if o.k = 1 then 1 else o.d.length + 2 := by
  unfold OE.bytes; split <;> simp
theorem count_snoc (os : List OE) (o : OE) (k : Int) : (os ++ [o]).countP (fun o => o.k == k) = os.countP (fun o => o.k == k) + if o.k = k then 1 else 0 := by
  rw [List.countP_append, List.countP_singleton]; simp
theorem M6.keep {w W W' : World} {k : Nat} {os : List OE} {v : Value} {tot : Nat} (h : M6 w k os v tot W) (hb : Below W.heap.size W W') : M6 w (k + 1) os v tot W' := by
  have hs := h.below.size
  have hm := h.met.lt
  exact ⟨h.below.trans (hb.mono (by omega)), h.met.below hb hm, h.row.kept (grown_of_below (row := none) hb) (Decidable.em _), h.ok, h.tot, by have := h.len; omega, fun o ho => ⟨(h.data o ho).1.below hb (Nat.le_refl _), (h.data o ho).2⟩⟩
theorem M6.add {w wo wg Wb W' : World} {k : Nat} {os : List OE} {v v' : Value} {tot R : Nat} {o : OE} {ob : Obj} (hJ : M6 w k os v tot wo) (hl : Below wo.heap.size wo wg) (hR : wo.heap.size < R) (hO : Own wg R (.slice o.A o.d.length o.c) o.d)
    (hgb : wg.grownBy Wb (some w.heap.size)) (hbb : Below w.heap.size w Wb) (hmet : Blk Wb w.heap.size 102 #[.int .i64 ((os ++ [o]).countP fun o => o.k == 7), .int .i64 0, .int .i64 ((os ++ [o]).countP fun o => o.k == 68)])
    (hok : OsOk (os ++ [o])) (hrow : W'.ownsRow (w.heap.size + 1) 104 2 v' (os.length + 1) (oeC os ++ [.int .u8 o.k, .slice o.A o.d.length o.c])) (hg : (Wb.alloc ob).grownBy W' v.ownBlock)
    (hat : v'.ownBlock = v.ownBlock ∨ v'.ownBlock = some (Wb.alloc ob).heap.size) : M6 w (k + 1) (os ++ [o]) v' (tot + o.bytes.length) W' := by
  have hs := hJ.below.size
  have hvl : ∀ z, v.ownBlock = some z → w.heap.size + 1 ≤ z ∧ z < wo.heap.size := fun z e => hJ.row.lt z e
  have hmw : w.heap.size < wo.heap.size := hJ.met.lt
  have hWb : wg.heap.size ≤ Wb.heap.size := hgb.size
  have hwg := hl.size
  have hold : ∀ p ∈ os, Own Wb (w.heap.size + 1) (.slice p.A p.d.length p.c) p.d := fun p hp =>
    (((hJ.data p hp).1.below hl (Nat.le_refl _))).grown hgb (by
      cases e : (Value.slice p.A p.d.length p.c).ownBlock with
      | none => exact .inl rfl
      | some z => exact .inr (fun h => by injection h with h; have := ((hJ.data p hp).1.lt e).1; omega))
  have hnew : Own Wb R (.slice o.A o.d.length o.c) o.d := hO.grown hgb (by
      cases e : (Value.slice o.A o.d.length o.c).ownBlock with
      | none => exact .inl rfl
      | some z => exact .inr (fun h => by injection h with h; have := (hO.lt e).1; omega))
  refine ⟨?_, ?_, ?_, hok, ?_, ?_, fun p hp => ?_⟩
  · exact (hbb.alloc (by omega) _).grown hg (by simp; omega) (fun z e => by have := (hvl z e).1; omega)
  · exact (hmet.alloc _).grown hg (fun e => by have := (hvl _ e.symm).1; omega)
  · rw [List.length_append]
    have e : oeC (os ++ [o]) = oeC os ++ [.int .u8 o.k, .slice o.A o.d.length o.c] := by unfold oeC; rw [List.flatMap_append]; simp [OE.cells]
    rw [e]
    exact hrow
  · unfold oeB
    rw [List.flatMap_append, List.length_append]
    have := hJ.tot
    unfold oeB at this
    simp [this]
  · have := hJ.len
    simp; omega
  · rcases List.mem_append.1 hp with hp | hp
    · refine ⟨((hold p hp).alloc _).grown hg ?_, fun z hz => ?_⟩
      · cases e : (Value.slice p.A p.d.length p.c).ownBlock with
        | none => exact .inl rfl
        | some z => exact .inr (fun h => (hJ.data p hp).2 z h.symm e)
      · rcases hat with hat | hat
        · exact (hJ.data p hp).2 z (hat ▸ hz)
        · intro e
          have h1 := ((hold p hp).lt e).2
          rw [hz] at hat
          injection hat with hat
          simp at hat
          omega
    · obtain rfl : p = o := by simpa using hp
      have hne : ∀ z, v.ownBlock = some z → (Value.slice p.A p.d.length p.c).ownBlock ≠ some z := fun z hz e => by
        have h1 := (hnew.lt e).1
        have h2 := (hvl z hz).2
        omega
      refine ⟨((hnew.base_le (by omega)).alloc _).grown hg ?_, fun z hz => ?_⟩
      · cases e : (Value.slice p.A p.d.length p.c).ownBlock with
        | none => exact .inl rfl
        | some z => exact .inr (fun h => hne z h.symm e)
      · rcases hat with hat | hat
        · exact hne z (hat ▸ hz)
        · intro e
          have h1 := (hnew.lt e).2
          rw [hz] at hat
          injection hat with hat
          simp at hat
          omega

end Go.Proofs.YtebeekjcepjcnaaGreatDoor
namespace Go.Proofs.YtebeekjcepjcnaaGreatDoor
open Go.RowKit
theorem oeB_cons (o : OE) (os : List OE) : oeB (o :: os) = o.bytes ++ oeB os := rfl
theorem optsY_flat : ∀ (os : List OE) (z n : Nat), (∀ o ∈ os, optRight o.k o.d = true ∧ 1 ≤ o.k) → (oeB os).length + z ≤ n → optsY n (oeB os ++ List.replicate z 0) = os.map fun o => (o.k, (0 : Int))
  | [], z, n, _, _ => by
    rcases n with _ | n
    · rfl
    · unfold optsY
      rcases z with _ | z
      · rfl
      · have h1 : (oeB [] ++ List.replicate (z + 1) (0 : Int)).length ≠ 0 := by simp [oeB]
        have h2 : (oeB [] ++ List.replicate (z + 1) (0 : Int)).getD 0 0 = 0 := rfl
        have h3 : (oeB [] ++ List.replicate (z + 1) (0 : Int)).any (fun x => decide (0 < x)) = false := by simp [oeB]
        rw [if_neg h1, if_pos h2, h3]
        rfl
  | o :: os, z, n, h, hl => by
    obtain ⟨hr, hk⟩ := h o (by simp)
    rw [oeB_cons, List.append_assoc]
    rw [oeB_cons, List.length_append] at hl
    have ih := fun n hn => optsY_flat os z n (fun p hp => h p (by simp [hp])) hn
    have hrest : (oeB os ++ List.replicate z (0 : Int)).length = (oeB os).length + z := by rw [List.length_append, List.length_replicate]
    generalize oeB os ++ List.replicate z (0 : Int) = rest at *
    rw [List.map_cons]
    by_cases h1 : o.k = 1
    · have hb : o.bytes = [1] := if_pos h1
      rw [hb] at hl ⊢
      obtain ⟨n, rfl⟩ : ∃ n', n = n' + 1 := ⟨n - 1, by simp at hl; omega⟩
      unfold optsY
      rw [if_neg (by simp), if_neg (by simp), if_pos (by simp), h1]
      rw [show ([1] ++ rest : List Int).drop 1 = rest from rfl, ih n (by simp at hl; omega)]
    · have hb : o.bytes = o.k :: ((o.d.length : Int) + 2) :: o.d := if_neg h1
      rw [hb] at hl ⊢
      obtain ⟨n, rfl⟩ : ∃ n', n = n' + 1 := ⟨n - 1, by simp at hl; omega⟩
      have e0 : (o.k :: ((o.d.length : Int) + 2) :: o.d ++ rest).getD 0 0 = o.k := rfl
      have e1 : (o.k :: ((o.d.length : Int) + 2) :: o.d ++ rest).getD 1 0 = (o.d.length : Int) + 2 := rfl
      have el : (o.k :: ((o.d.length : Int) + 2) :: o.d ++ rest).length = o.d.length + 2 + rest.length := by simp; omega
      have et : ((o.d.length : Int) + 2).toNat = o.d.length + 2 := by omega
      have ed : ((o.k :: ((o.d.length : Int) + 2) :: o.d ++ rest).take (o.d.length + 2)).drop 2 = o.d := by
        show (o.k :: ((o.d.length : Int) + 2) :: (o.d ++ rest).take o.d.length).drop 2 = o.d
        simp
      have er : (o.k :: ((o.d.length : Int) + 2) :: o.d ++ rest).drop (o.d.length + 2) = rest := by
        show (o.d ++ rest).drop o.d.length = rest
        simp
      unfold optsY
      rw [e0, e1, el, et, ed, er]
      rw [if_neg (by omega), if_neg (by omega), if_neg h1, if_neg (by omega), if_neg (by omega), if_neg (by omega), if_pos hr, ih n (by simp at hl; omega)]
theorem optsR_fine : ∀ (os : List OE) (acc : List Int), (∀ o ∈ os, optGroup o.k ≠ 3) → acc.countP (fun x => x == 7) + os.countP (fun o => o.k == 7) ≤ 1 → acc.countP (fun x => x == 68) + os.countP (fun o => o.k == 68) ≤ 1 → (∀ x ∈ acc, optGroup x ≠ 3) →
    optsR (os.map fun o => (o.k, (0 : Int))) acc = (acc ++ os.map OE.k, 0)
  | [], acc, _, _, _, _ => by simp [optsR]
  | o :: os, acc, h3, h7, h68, hacc => by
    rw [List.map_cons]
    unfold optsR
    rw [if_neg (by decide)]
    rw [List.countP_cons] at h7 h68
    have hg := h3 o (by simp)
    have hno : ¬ (0 < optGroup o.k ∧ acc.any (fun x => optGroup x == optGroup o.k) = true) := by
      rintro ⟨hp, hany⟩
      obtain ⟨x, hx, hxo⟩ := List.any_eq_true.1 hany
      simp only [beq_iff_eq] at hxo
      have hx3 := hacc x hx
      have hcase : (o.k = 7 ∧ x = 7) ∨ (o.k = 68 ∧ x = 68) := by
        unfold optGroup at hp hg hxo hx3
        by_cases a1 : o.k = 7
        · rw [if_pos a1] at hxo
          by_cases b1 : x = 7
          · exact .inl ⟨a1, b1⟩
          · rw [if_neg b1] at hxo
            exfalso
            split at hxo; · omega
            split at hxo; · omega
            split at hxo <;> omega
        · rw [if_neg a1] at hxo hp hg
          by_cases a2 : o.k = 68
          · rw [if_pos a2] at hxo
            by_cases b2 : x = 68
            · exact .inr ⟨a2, b2⟩
            · exfalso
              rw [if_neg b2] at hxo
              split at hxo; · omega
              split at hxo; · omega
              split at hxo <;> omega
          · exfalso
            rw [if_neg a2] at hp hg
            by_cases a3 : o.k = 131
            · rw [if_pos a3] at hg; exact hg rfl
            · rw [if_neg a3] at hp hg
              by_cases a4 : o.k = 137
              · rw [if_pos a4] at hg; exact hg rfl
              · rw [if_neg a4] at hp; omega
      rcases hcase with ⟨a, b⟩ | ⟨a, b⟩
      · subst b
        have : 0 < acc.countP (fun x => x == 7) := List.countP_pos_iff.2 ⟨7, hx, by decide⟩
        simp [a] at h7
        omega
      · subst b
        have : 0 < acc.countP (fun x => x == 68) := List.countP_pos_iff.2 ⟨68, hx, by decide⟩
        simp [a] at h68
        omega
    rw [if_neg hno, optsR_fine os (acc ++ [o.k]) (fun p hp => h3 p (by simp [hp]))]
    · simp
    · rw [List.countP_append, List.countP_singleton]; omega
    · rw [List.countP_append, List.countP_singleton]; omega
    · intro x hx
      rcases List.mem_append.1 hx with hx | hx
      · exact hacc x hx
      · obtain rfl : x = o.k := by simpa using hx
        exact hg
theorem optRead_os {os : List OE} (h : OsOk os) (z : Nat) (hz : (oeB os).length + z ≤ 40) : optRead (oeB os ++ List.replicate z 0) = (os.map OE.k, 0) ∧ routedB (os.map OE.k) = false := by
  constructor
  · unfold optRead
    have hl : (oeB os ++ List.replicate z (0 : Int)).length = (oeB os).length + z := by rw [List.length_append, List.length_replicate]
    rw [if_neg (by omega), hl, optsY_flat os z _ (fun o ho => ⟨(h.right o ho).1, (h.right o ho).2.2.1⟩) (Nat.le_refl _)]
    have h1 := h.one7
    have h2 := h.one68
    rw [optsR_fine os [] (fun o ho => (h.right o ho).2.2.2.2) (by simpa using h1) (by simpa using h2) (fun x hx => by simp at hx)]
    rfl
  · unfold routedB
    rw [List.any_eq_false]
    intro x hx
    obtain ⟨o, ho, rfl⟩ := List.mem_map.1 hx
    have := (h.right o ho).2.2.2.2
    simpa using this
theorem oeB_byt {os : List OE} (h : OsOk os) : Byt (oeB os) := by
  intro x hx
  obtain ⟨o, ho, hxo⟩ := List.mem_flatMap.1 hx
  obtain ⟨_, hB, k0, k1, _⟩ := h.right o ho
  have hlen : o.bytes.length ≤ 40 := by
    have := h.len
    obtain ⟨a, b, rfl⟩ := List.append_of_mem ho
    unfold oeB at this
    rw [List.flatMap_append, List.flatMap_cons] at this
    simp only [List.length_append] at this
    omega
  unfold OE.bytes at hxo hlen
  split at hxo
  · simp at hxo; omega
  · rename_i hk
    rw [if_neg hk] at hlen
    simp only [List.mem_cons] at hxo
    simp at hlen
    rcases hxo with rfl | rfl | hxo
    · omega
    · omega
    · exact hB x hxo
end Go.Proofs.YtebeekjcepjcnaaGreatDoor
