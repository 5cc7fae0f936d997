/-
  What bafflelaw11.Made returns; an append of rows of small options onto a fresh slice.
-/
import Derived.Test.YtebeekjcepjcnaaGreatDoorROptw
import Derived.Test.YtebeekjcepjcnaaGreatDoorRIcmprd
namespace Go.Proofs.YtebeekjcepjcnaaGreatDoor
open Go.RowKit
def hostI (a : Int) : Int := 1 + a % 3758096383
theorem hostI_bd (a : Int) : 1 ≤ hostI a ∧ hostI a ≤ 3758096383 := by unfold hostI; omega
theorem host_any (a : Int) (w : World) (a0 : 0 ≤ a) (_a1 : a < 4294967296) : Calls Tryz.prog 16 #[.int .u32 a] w fun e w' => e = .returned (.int .u32 (hostI a)) ∧ w = w' := by
  have htm : a.tmod 3758096383 = a % 3758096383 := Int.tmod_eq_emod_of_nonneg a0
  have hw : IntKind.u32.wrap (1 + a % 3758096383) = hostI a := by rw [IntKind.wrap_u32]; unfold hostI; omega
  go_enter Tryz.func16, Tryz.ntmps16
  go_wp2_with fail
  go_ret
  exact ⟨rfl, rfl⟩
/-- The address of the other side. -/
def dstI (s d : Int) : Int := if hostI s = hostI d then hostI ((d + 1) % 4294967296) else hostI d
theorem dstI_ne (s d : Int) (d0 : 0 ≤ d) (d1 : d < 4294967296) : dstI s d ≠ hostI s ∧ 1 ≤ dstI s d ∧ dstI s d ≤ 3758096383 := by
  unfold dstI
  have h1 := hostI_bd d
  have h2 := hostI_bd ((d + 1) % 4294967296)
  split
  · rename_i h
    refine ⟨?_, h2⟩
    rw [h]
    unfold hostI
    by_cases h3 : d = 4294967295
    · subst h3; decide
    · rw [Int.emod_eq_of_lt (by omega) (by omega : d + 1 < 4294967296)]
      omega
  · rename_i h
    exact ⟨fun e => h e.symm, h1⟩
/-- The rows of small options. -/
def osC (l : List OSm) : List Value := l.flatMap OSm.cells
theorem osC_len (l : List OSm) : (osC l).length = l.length * 4 := by
  induction l with
  | nil => rfl
  | cons x l ih => simp only [osC, List.flatMap_cons, List.length_append] at *; rw [ih]; simp [OSm.cells]; omega
theorem osC_get : ∀ (l : List OSm) (j : Nat) (u : Value), (osC l)[j]? = some u → ∃ q i x, j = q * 4 + i ∧ i < 4 ∧ l[q]? = some x ∧ x.cells[i]? = some u
  | [], j, u, h => by simp [osC] at h
  | x :: l, j, u, h => by
    simp only [osC, List.flatMap_cons] at h
    have hl : x.cells.length = 4 := rfl
    by_cases hj : j < 4
    · rw [List.getElem?_append_left (by omega)] at h
      exact ⟨0, j, x, by omega, hj, rfl, h⟩
    · rw [List.getElem?_append_right (by omega), hl] at h
      obtain ⟨q, i, y, e, hi, h1, h2⟩ := osC_get l (j - 4) u h
      exact ⟨q + 1, i, y, by omega, hi, by simpa using h1, h2⟩
theorem osC_at : ∀ (l : List OSm) (q i : Nat) (x : OSm), l[q]? = some x → i < 4 → (osC l)[q * 4 + i]? = x.cells[i]?
  | [], q, i, x, h, _ => by simp at h
  | y :: l, q, i, x, h, hi => by
    simp only [osC, List.flatMap_cons]
    have hl : y.cells.length = 4 := rfl
    rcases q with _ | q
    · simp only [List.getElem?_cons_zero, Option.some.injEq] at h
      subst h
      rw [Nat.zero_mul, Nat.zero_add, List.getElem?_append_left (by omega)]
    · rw [List.getElem?_append_right (by omega), hl, show (q + 1) * 4 + i - 4 = q * 4 + i by omega]
      exact osC_at l q i x (by simpa using h) hi
theorem osC_set : ∀ (l : List OSm) (q : Nat) (x : OSm) (k : Int), l[q]? = some x → (osC l).set (q * 4) (.int .u8 k) = osC (l.set q { x with kind := k })
  | [], q, x, k, h => by simp at h
  | y :: l, q, x, k, h => by
    have hl : y.cells.length = 4 := rfl
    rcases q with _ | q
    · simp only [List.getElem?_cons_zero, Option.some.injEq] at h
      subst h
      rfl
    · have ih := osC_set l q x k (by simpa using h)
      simp only [osC, List.flatMap_cons, List.set_cons_succ] at *
      rw [List.set_append_right _ _ (by omega), hl, show (q + 1) * 4 - 4 = q * 4 by omega, ih]
/-- No route of the source. -/
def fixO (x : OSm) : OSm := if x.kind % 8 = 2 ∨ x.kind % 8 = 3 then { x with kind := 1 } else x
def fixN (l : List OSm) (j : Nat) : List OSm := (l.take j).map fixO ++ l.drop j
theorem fixN_zero (l : List OSm) : fixN l 0 = l := by simp [fixN]
theorem fixN_at (l : List OSm) (j : Nat) (x : OSm) (h : l[j]? = some x) : (fixN l j)[j]? = some x := by
  have hj : j < l.length := (List.getElem?_eq_some_iff.1 h).1
  unfold fixN
  have hl : ((l.take j).map fixO).length = j := by simp; omega
  rw [List.getElem?_append_right (by omega), hl, Nat.sub_self, List.getElem?_drop, Nat.add_zero, h]
theorem fixN_next (l : List OSm) (j : Nat) (x : OSm) (h : l[j]? = some x) : fixN l (j + 1) = (fixN l j).set j (fixO x) := by
  have hj : j < l.length := (List.getElem?_eq_some_iff.1 h).1
  unfold fixN
  have hl : ((l.take j).map fixO).length = j := by simp; omega
  rw [List.set_append_right _ _ (by omega), hl, Nat.sub_self]
  have hd : l.drop j = x :: l.drop (j + 1) := by
    rw [List.drop_eq_getElem_cons hj]
    congr 1
    rw [List.getElem?_eq_getElem hj] at h
    simpa using h
  rw [hd, List.set_cons_zero, take_snoc_get h, List.map_append]
  simp
theorem fixN_full (l : List OSm) (k : Nat) (hk : l.length = k) : fixN l k = l.map fixO := by
  subst hk; simp [fixN]
theorem fixO_ok {x : OSm} (h : x.Ok) : (fixO x).Ok := by
  unfold fixO
  split
  · exact ⟨by show (0 : Int) ≤ 1; decide, by show (1 : Int) < 256; decide, h.m0, h.m1, h.u0, h.u1, h.len, h.cap, h.byt⟩
  · exact h
theorem fixO_kind (x : OSm) : (fixO x).kind % 8 ≠ 2 ∧ (fixO x).kind % 8 ≠ 3 := by
  unfold fixO
  split
  · exact ⟨by show (1 : Int) % 8 ≠ 2; decide, by show (1 : Int) % 8 ≠ 3; decide⟩
  · rename_i h; omega
theorem fixO_same (x : OSm) : (fixO x).A = x.A ∧ (fixO x).bytes = x.bytes := by
  unfold fixO
  split <;> exact ⟨rfl, rfl⟩
theorem smInfo : (Tryz.prog.info? 62).map (fun i => (i.zero, i.size, i.bytes)) = some (some (.agg #[.int .u8 0, .int .u8 0, .int .u8 0, .slice none 0 0]), 4, 32) := by kernel_rfl
theorem run_append_rows0 (w : World) (g : Nat) (ty : TypeId) (c : Nat) :
    (Builtin.append_ #[24, 24] ty #[.slice (some ⟨g, 0, none⟩) 0 0, .slice none 0 c]).run Tryz.prog w = .ok (.slice (some ⟨g, 0, none⟩) 0 0) w := by
  obtain ⟨i, hi, _, _, _⟩ := info_parts smInfo
  simp [Builtin.append_, run_underlying Tryz.underlying24, sizeOf, typeInfo, hi, Builtin.lenOf, Builtin.firstCells, storeCells, loadCells, loadCellsFrom]
theorem app_rows {w : World} {ops : Array Oper} {rest : List Oper} {o : Oper} {a : Act} {Q : Exit → Act → World → Prop} (hgd : o.guard = none) (s x : Operand)
    (ho : o.op = .call { callee := .builtin .append, args := #[s, x], argTypes := #[24, 24] })
    (base g : Nat) (hs : a.eval s = .slice (some ⟨g, 0, none⟩) 0 0) (hown : w.ownsRow base 62 4 (.slice (some ⟨g, 0, none⟩) 0 0) 0 []) (hb : w.heap.size ≤ g + 1) (A : Option Addr) (m c : Nat) (ys : List OSm)
    (hx : a.eval x = .slice A m c) (hm : m = ys.length) (h6 : m ≤ 6) (hr : OSmAt w w.heap.size A ys) (hbase : base ≤ w.heap.size)
    (h : ∀ v' w', w'.ownsRow base 62 4 v' m (osC ys) → Below g w w' → g + 1 ≤ w'.heap.size → wpList Tryz.prog ops Q rest (a.put o.dst v') w') :
    wpList Tryz.prog ops Q (o :: rest) a w := by
  obtain ⟨i, hi, hz0, hz1, hz2⟩ := info_parts smInfo
  have hgs := (hown.lt g rfl).2
  rcases A with _ | ad
  · have hnil : ys = [] := by
      rcases ys with _ | ⟨y, ys⟩
      · rfl
      · obtain ⟨_, b, off, e, _⟩ := hr 0 y rfl
        cases e
    subst hnil
    obtain rfl : m = 0 := hm
    refine wpList_plain hgd fun K hK => ?_
    have hrun := run_append_rows0 w g o.type c
    unfold Oper.wp execOp
    simp only [ho, resolve, invoke, builtin, Sem.run_bind, Sem.run_pure, Result.andThen_ok, List.map_toArray, List.map_cons, List.map_nil, hs, hx, hrun]
    exact hK _ _ (h _ _ hown (Below.refl _ _) (by omega))
  · refine wpList_append_own_at w hgd s x 24 ho base 62 i _ 4 32 Tryz.underlying24 hi hz0 hz1 hz2 rfl (by decide) _ 0 [] hs hown ad m c (osC ys) hx (by rw [osC_len, ← hm]) ?_ ?_ (by simp only [maxLen]; omega) (by omega) hbase ?_
    · intro j u hu
      obtain ⟨q, i, y, rfl, hi4, h1, h2⟩ := osC_get ys j u hu
      obtain ⟨_, b, off, e, _, hc, _⟩ := hr q y h1
      cases e
      have := hc i u h2
      unfold Addr.add
      split
      · rename_i h0
        obtain rfl : q = 0 := by omega
        obtain rfl : i = 0 := by omega
        simpa using this
      · simpa [Nat.add_assoc] using this
    · intro u hu
      unfold osC at hu
      obtain ⟨y, _, hy⟩ := List.mem_flatMap.1 hu
      simp only [OSm.cells, List.mem_cons, List.not_mem_nil, or_false] at hy
      rcases hy with rfl | rfl | rfl | rfl <;> rfl
    · intro v' w' h1 h2 _ h4
      rw [Nat.zero_add, List.nil_append] at h1
      exact h v' w' h1 (below_of_grown h2 (by omega) (fun g' e => by simp only [Value.ownBlock, Option.some.injEq] at e; omega)) (by have := h2.size; omega)
/-- The blocks of Made: its argument, the two results, the header. -/
def M11B (w : World) (cs row : Array Value) (W : World) : Prop := Below w.heap.size w W ∧ w.heap.size + 4 ≤ W.heap.size ∧ Blk W w.heap.size 34 cs ∧ Blk W (w.heap.size + 1) 37 #[.int .u8 0, .int .u16 0, .bool false, .bool false, .int .i64 0, .int .u8 0, .int .u8 0, .int .u32 0, .int .u32 0, .slice none 0 0] ∧ Blk W (w.heap.size + 2) 41 #[.int .u8 0, .int .u32 0, .int .u32 0, .int .u16 0, .int .u16 0, .int .u8 0, .int .u8 0, .int .u8 0, .int .u8 0, .int .u32 0, .int .u32 0, .int .i64 0, .int .i64 0, .int .u8 0, .int .u32 0, .int .u32 0, .int .u16 0, .int .u16 0, .int .u8 0] ∧ Blk W (w.heap.size + 3) 37 row
theorem M11B.below {w W W' : World} {cs row : Array Value} {B : Nat} (h : M11B w cs row W) (hb : Below B W W') (hB : w.heap.size + 4 ≤ B) (hs : W.heap.size ≤ W'.heap.size) : M11B w cs row W' :=
  ⟨h.1.trans (hb.mono (by omega)), by have := h.2.1; omega, h.2.2.1.below hb (by omega), h.2.2.2.1.below hb (by omega), h.2.2.2.2.1.below hb (by omega), h.2.2.2.2.2.below hb (by omega)⟩
theorem M11B.next {w W W' : World} {cs row : Array Value} (h : M11B w cs row W) (hb : Below W.heap.size W W') : M11B w cs row W' := h.below hb h.2.1 hb.size
theorem M11B.set {w W : World} {cs row : Array Value} (h : M11B w cs row W) (i : Nat) (u : Value) : M11B w cs (row.setIfInBounds i u) (W.setCell ⟨w.heap.size + 3, i, none⟩ u) :=
  ⟨h.1.setCell (p := ⟨w.heap.size + 3, i, none⟩) (by show w.heap.size ≤ w.heap.size + 3; omega) u, by simpa using h.2.1, h.2.2.1.far (p := ⟨w.heap.size + 3, i, none⟩) (by show w.heap.size ≠ w.heap.size + 3; omega) u, h.2.2.2.1.far (p := ⟨w.heap.size + 3, i, none⟩) (by show w.heap.size + 1 ≠ w.heap.size + 3; omega) u, h.2.2.2.2.1.far (p := ⟨w.heap.size + 3, i, none⟩) (by show w.heap.size + 2 ≠ w.heap.size + 3; omega) u, h.2.2.2.2.2.set i u⟩
theorem set_getD_same (tm : Array Value) (i : Nat) : tm.setIfInBounds i (tm.getD i undef) = tm := by
  refine Array.ext (by simp) fun j h1 h2 => ?_
  rw [Array.getElem_setIfInBounds h2]
  split
  · rename_i h; subst h; simp [Array.getD, h2]
  · rfl
/-- The law of a region that draws its order and sets four slots, at the frame that it begins with. -/
theorem wp_region_inv4 {ops : Array Oper} {Q : Exit → Act → World → Prop} {id : Nat} {tm : Array Value} {w : World} (i0 i1 i2 i4 : Nat) (I : (Nat → Bool) → Value → Value → Value → Value → World → Prop) (hm : Tryz.prog.follows .mixedOrders = true) (hdep : ∀ (i : Nat) (o : Oper), ops[i]? = some o → ∀ e : Edge, e ∈ o.after → Region.binds .any e = true → e.on < i)
    (h0 : ∀ v0 v1 v2 v4, I (fun _ => false) v0 v1 v2 v4 w.drew)
    (hstep : ∀ (L : Nat → Bool) (v0 v1 v2 v4 : Value) (W : World) (i : Nat) (o : Oper), ops[i]? = some o → L i = false → (∀ e : Edge, e ∈ o.after → Region.binds .any e = true → L e.on = true) → I L v0 v1 v2 v4 W → wpList Tryz.prog ops (Exit.then (fun a W' => ∃ u0 u1 u2 u4, a = ⟨(((tm.setIfInBounds i0 u0).setIfInBounds i1 u1).setIfInBounds i2 u2).setIfInBounds i4 u4, []⟩ ∧ I (fun j => j == i || L j) u0 u1 u2 u4 W') Q) [o] ⟨(((tm.setIfInBounds i0 v0).setIfInBounds i1 v1).setIfInBounds i2 v2).setIfInBounds i4 v4, []⟩ W)
    (hend : ∀ (L : Nat → Bool) (v0 v1 v2 v4 : Value) (W : World), (∀ i, i < ops.size → L i = true) → I L v0 v1 v2 v4 W → Q .normal ⟨(((tm.setIfInBounds i0 v0).setIfInBounds i1 v1).setIfInBounds i2 v2).setIfInBounds i4 v4, []⟩ W) : (Code.region id ops true).wp Tryz.prog Q ⟨tm, []⟩ w := by
  refine wp_region_inv hm hdep (fun L a W => ∃ v0 v1 v2 v4, a = ⟨(((tm.setIfInBounds i0 v0).setIfInBounds i1 v1).setIfInBounds i2 v2).setIfInBounds i4 v4, []⟩ ∧ I L v0 v1 v2 v4 W) ⟨tm.getD i0 undef, tm.getD i1 undef, tm.getD i2 undef, tm.getD i4 undef, ?_, h0 _ _ _ _⟩ ?_ ?_
  · rw [set_getD_same, set_getD_same, set_getD_same, set_getD_same]
  · rintro L a W i o ho hLi hd ⟨v0, v1, v2, v4, rfl, hI⟩
    exact hstep L v0 v1 v2 v4 W i o ho hLi hd hI
  · rintro L a W hL ⟨v0, v1, v2, v4, rfl, hI⟩
    exact hend L v0 v1 v2 v4 W hL hI
/-- The header that is made. -/
def m11H (x : Sm) (p : Int) (os : List OE) : IpH := ⟨x.tos, x.id, x.df, false, 0, max x.ttl 1, p, hostI x.src, dstI x.src x.dst, oeB os ++ List.replicate ((4 - (oeB os).length % 4) % 4) 0⟩
/-- The facts of the packet that is made. -/
def m11F (x : Sm) (f : Facts) : Facts := { f with key := { f.key with src := hostI x.src, dst := dstI x.src x.dst } }
def Made11Post (x : Sm) (w : World) (e : Ending) (W : World) : Prop := ∃ (os : List OE) (oA : Option Addr) (oc : Nat) (p : Option Addr × Nat) (data : List Int) (f : Facts), e = .returned (.tuple #[(m11H x f.key.proto os).val oA oc, .slice p.1 data.length p.2, (m11F x f).val]) ∧
  Own W w.heap.size (.slice oA (m11H x f.key.proto os).opts.length oc) (m11H x f.key.proto os).opts ∧ Own W w.heap.size (.slice p.1 data.length p.2) data ∧ (∀ g, (Value.slice oA (m11H x f.key.proto os).opts.length oc).ownBlock = some g → (Value.slice p.1 data.length p.2).ownBlock ≠ some g) ∧ OsOk os ∧ Cont (x.kind % 4).toNat data f ∧ (x.kind % 4 = 3 → ipSize (data.drop 8) = 20 + (x.tos % 3 * 4).toNat) ∧ Below w.heap.size w W
/-- The blocks of the last region. -/
def M11C (w : World) (gf : Nat) (RH RF : Array Value) (s1 : Value) (o1 : List Int) (s2 : Value) (o2 : List Int) (l3 l5 : Bool) (W : World) : Prop := Below w.heap.size w W ∧ Blk W (w.heap.size + 1) 37 (if l3 then RH else #[.int .u8 0, .int .u16 0, .bool false, .bool false, .int .i64 0, .int .u8 0, .int .u8 0, .int .u32 0, .int .u32 0, .slice none 0 0]) ∧ Blk W (w.heap.size + 2) 41 (if l5 then RF else #[.int .u8 0, .int .u32 0, .int .u32 0, .int .u16 0, .int .u16 0, .int .u8 0, .int .u8 0, .int .u8 0, .int .u8 0, .int .u32 0, .int .u32 0, .int .i64 0, .int .i64 0, .int .u8 0, .int .u32 0, .int .u32 0, .int .u16 0, .int .u16 0, .int .u8 0]) ∧ Blk W (w.heap.size + 3) 37 RH ∧ Blk W gf 41 RF ∧ w.heap.size + 4 ≤ gf ∧ Own W (w.heap.size + 4) s1 o1 ∧ Own W (w.heap.size + 4) s2 o2
theorem M11C.drew {w W : World} {gf : Nat} {RH RF : Array Value} {s1 s2 : Value} {o1 o2 : List Int} {l3 l5 : Bool} (h : M11C w gf RH RF s1 o1 s2 o2 l3 l5 W) : M11C w gf RH RF s1 o1 s2 o2 l3 l5 W.drew := ⟨h.1.drew, h.2.1.drew, h.2.2.1.drew, h.2.2.2.1.drew, h.2.2.2.2.1.drew, h.2.2.2.2.2.1, h.2.2.2.2.2.2.1.drew, h.2.2.2.2.2.2.2.drew⟩
theorem Own.setRow_far {w W : World} {g : Nat} {v : Value} {xs : List Int} (h : Own W (w.heap.size + 4) v xs) (hg : g < w.heap.size + 4) (cs : Array Value) : Own (W.setRow g cs) (w.heap.size + 4) v xs :=
  h.grown (grown_setRow W g cs) (by
    cases hv : v.ownBlock with
    | none => exact .inl rfl
    | some g' =>
      refine .inr (fun e => ?_)
      have := (h.lt hv).1
      simp only [Option.some.injEq] at e
      omega)
theorem M11C.put3 {w W : World} {gf : Nat} {RH RF : Array Value} {s1 s2 : Value} {o1 o2 : List Int} {l3 l5 : Bool} (h : M11C w gf RH RF s1 o1 s2 o2 l3 l5 W) : M11C w gf RH RF s1 o1 s2 o2 true l5 (W.setRow (w.heap.size + 1) RH) := by
  obtain ⟨h1, h2, h3, h4, h5, h6, h7, h8⟩ := h
  refine ⟨below_setRow h1 (by omega) RH, setRow_heap _ _ _ _ _ _ h2, (setRow_other _ _ _ _ (by omega)).trans h3, (setRow_other _ _ _ _ (by omega)).trans h4, (setRow_other _ _ _ _ (by omega)).trans h5, h6, h7.setRow_far (by omega) _, h8.setRow_far (by omega) _⟩
theorem M11C.put5 {w W : World} {gf : Nat} {RH RF : Array Value} {s1 s2 : Value} {o1 o2 : List Int} {l3 l5 : Bool} (h : M11C w gf RH RF s1 o1 s2 o2 l3 l5 W) : M11C w gf RH RF s1 o1 s2 o2 l3 true (W.setRow (w.heap.size + 2) RF) := by
  obtain ⟨h1, h2, h3, h4, h5, h6, h7, h8⟩ := h
  refine ⟨below_setRow h1 (by omega) RF, (setRow_other _ _ _ _ (by omega)).trans h2, setRow_heap _ _ _ _ _ _ h3, (setRow_other _ _ _ _ (by omega)).trans h4, (setRow_other _ _ _ _ (by omega)).trans h5, h6, h7.setRow_far (by omega) _, h8.setRow_far (by omega) _⟩
theorem results_cell_tmp_cell {P : Program} {fn : Func} {p q r : Tmp} {ty ty2 : TypeId} (h : fn.results = #[.cell p ty, .tmp q, .cell r ty2]) (tmps : Array Value) (w : World) (g : Nat) (t : TypeId) (cs : Array Value) (fr : Nat × Nat) (d : TypeDesc)
    (hp : tmps.getD p undef = .pointer (some ⟨g, 0, none⟩)) (hg : w.heap[g]? = some (.cells cs t fr))
    (hu : P.underlying ty = some d) (hd : (match d with | .struct _ | .array _ _ => true | _ => false) = true) (hi : (P.info? ty).map (·.size) = some cs.size)
    (g2 : Nat) (t2 : TypeId) (cs2 : Array Value) (fr2 : Nat × Nat) (d2 : TypeDesc)
    (hp2 : tmps.getD r undef = .pointer (some ⟨g2, 0, none⟩)) (hg2 : w.heap[g2]? = some (.cells cs2 t2 fr2))
    (hu2 : P.underlying ty2 = some d2) (hd2 : (match d2 with | .struct _ | .array _ _ => true | _ => false) = true) (hi2 : (P.info? ty2).map (·.size) = some cs2.size) :
    (results fn tmps).run P w = .ok (.tuple #[.agg cs, tmps.getD q undef, .agg cs2]) w := by
  have hp' : tmps[p]?.getD undef = .pointer (some ⟨g, 0, none⟩) := by simpa using hp
  have hp2' : tmps[r]?.getD undef = .pointer (some ⟨g2, 0, none⟩) := by simpa using hp2
  simp [results, h, hp', hp2', asAddr, run_loadVar_row w g t ty cs fr d hg hu hd hi, run_loadVar_row w g2 t2 ty2 cs2 fr2 d2 hg2 hu2 hd2 hi2]
end Go.Proofs.YtebeekjcepjcnaaGreatDoor
