/-
  Package opts: what an option is.
-/
import Derived.Test.YtebeekjcepjcnaaGreatDoorRIpread
namespace Go.Proofs.YtebeekjcepjcnaaGreatDoor
open Go.RowKit
set_option maxHeartbeats 400000 in
theorem optGroup_any (k : Int) (w : World) : Calls Tryz.prog 36 #[.int .u8 k] w fun e w' => e = .returned (.int .i64 (optGroup k)) ∧ w = w' := by
  unfold optGroup
  by_cases h7 : k = 7
  · subst h7
    go_enter Tryz.func36, Tryz.ntmps36
    go_wp2
    go_ret
    exact ⟨rfl, rfl⟩
  rw [if_neg h7]
  by_cases h68 : k = 68
  · subst h68
    go_enter Tryz.func36, Tryz.ntmps36
    go_wp2
    go_ret
    exact ⟨rfl, rfl⟩
  rw [if_neg h68]
  by_cases h131 : k = 131
  · subst h131
    go_enter Tryz.func36, Tryz.ntmps36
    go_wp2
    go_ret
    exact ⟨rfl, rfl⟩
  rw [if_neg h131]
  by_cases h137 : k = 137
  · subst h137
    go_enter Tryz.func36, Tryz.ntmps36
    go_wp2
    go_ret
    exact ⟨rfl, rfl⟩
  rw [if_neg h137]
  have e1 : (k == 7) = false := by simpa using h7
  have e2 : (k == 68) = false := by simpa using h68
  have e3 : (k == 131) = false := by simpa using h131
  have e4 : (k == 137) = false := by simpa using h137
  go_enter Tryz.func36, Tryz.ntmps36
  go_wp2
  go_ret
  exact ⟨rfl, rfl⟩

set_option maxHeartbeats 1000000 in
theorem shapeA_any (A : Option Addr) (cap n : Nat) (d : List Int) (w : World) (hn : d.length = n) (hl : n ≤ 1000000) (hB : Byt d) (hr : Rd w w.heap.size A .u8 d) :
    Calls Tryz.prog 97 #[.slice A n cap] w fun e w' => e = .returned (.bool (addrB d)) ∧ w = w' := by
  unfold addrB
  rw [hn]
  by_cases h1 : n % 4 = 1
  · obtain ⟨b, off, rfl, hbl, hc⟩ := hr.at0 (by omega)
    have c0 := hc 0 (by omega)
    rw [Nat.add_zero] at c0
    obtain ⟨x0, x1⟩ := hB.at_ 0
    clear hc hr hB hn
    generalize d.getD 0 0 = x at *
    have e1 : (n % 4 == 1) = true := by simpa using h1
    rw [e1, Bool.true_and]
    have g1 : ((n : Int) % 4 == 1) = true := by simp; omega
    have gi : (0 : Int) < n := by omega
    clear e1 h1
    by_cases h2 : 4 ≤ x
    · have e2 : decide (4 ≤ x) = true := by simpa using h2
      rw [e2, Bool.true_and]
      by_cases h3 : x % 4 = 0
      · have e3 : (x % 4 == 0) = true := by simpa using h3
        rw [e3, Bool.true_and]
        clear h3
        go_enter Tryz.func97, Tryz.ntmps97
        go_wp2
        go_ret
        exact ⟨rfl, rfl⟩
      · have e3 : (x % 4 == 0) = false := by simpa using h3
        rw [e3, Bool.false_and]
        clear h3
        go_enter Tryz.func97, Tryz.ntmps97
        go_wp2
        go_ret
        exact ⟨rfl, rfl⟩
    · have e2 : decide (4 ≤ x) = false := by simpa using h2
      rw [e2, Bool.false_and, Bool.false_and]
      go_enter Tryz.func97, Tryz.ntmps97
      go_wp2
      go_ret
      exact ⟨rfl, rfl⟩
  · have e1 : (n % 4 == 1) = false := by simpa using h1
    rw [e1, Bool.false_and, Bool.false_and, Bool.false_and]
    have g1 : ((n : Int) % 4 == 1) = false := by simp; omega
    clear e1 h1
    go_enter Tryz.func97, Tryz.ntmps97
    go_wp2
    go_ret
    exact ⟨rfl, rfl⟩

set_option maxHeartbeats 400000 in
theorem shapeB_any (A : Option Addr) (cap n : Nat) (w : World) : Calls Tryz.prog 98 #[.slice A n cap] w fun e w' => e = .returned (.bool (n == 2)) ∧ w = w' := by
  have Hg := Lib.hid (show (n == 2) = ((n : Int) == 2) by rw [Bool.eq_iff_iff]; simp; omega)
  rw [Hg.out]
  go_enter Tryz.func98, Tryz.ntmps98
  go_wp2
  go_ret
  exact ⟨rfl, rfl⟩

set_option maxHeartbeats 1000000 in
theorem shapeC_any (A : Option Addr) (cap n : Nat) (d : List Int) (w : World) (hn : d.length = n) (hl : n ≤ 1000000) (hB : Byt d) (hr : Rd w w.heap.size A .u8 d) :
    Calls Tryz.prog 99 #[.slice A n cap] w fun e w' => e = .returned (.bool (stampB d)) ∧ Below w.heap.size w w' := by
  unfold stampB
  rw [hn]
  by_cases h1 : n < 2
  · rw [if_pos h1]
    have g1 : decide ((n : Int) < 2) = true := by simp; omega
    go_enter Tryz.func99, Tryz.ntmps99
    go_wp2
    go_ret
    exact ⟨rfl, Below.refl _ _⟩
  · rw [if_neg h1]
    obtain ⟨b, off, rfl, hbl, hc⟩ := hr.at0 (by omega)
    have c0 := hc 0 (by omega)
    rw [Nat.add_zero] at c0
    have c1 := hc 1 (by omega)
    obtain ⟨x0, x1⟩ := hB.at_ 0
    obtain ⟨y0, y1⟩ := hB.at_ 1
    clear hc hr hB hn
    generalize d.getD 0 0 = x at *
    generalize d.getD 1 0 = y at *
    have g1 : decide ((n : Int) < 2) = false := by simp; omega
    have gi : (1 : Int) < n := by omega
    have gi0 : (0 : Int) < n := by omega
    obtain ⟨z0, z1⟩ : 0 ≤ y % 16 ∧ y % 16 < 16 := by omega
    have d0 := (World.cell?_alloc_lt w (.cells #[.int .i64 4, .int .i64 8, .int .i64 0, .int .i64 8] 3) ⟨b, off, none⟩ hbl).trans c0
    have d1 := (World.cell?_alloc_lt w (.cells #[.int .i64 4, .int .i64 8, .int .i64 0, .int .i64 8] 3) ⟨b, off + 1, none⟩ hbl).trans c1
    rcases (show y % 16 = 0 ∨ y % 16 = 1 ∨ y % 16 = 2 ∨ y % 16 = 3 ∨ 3 < y % 16 by omega) with hz | hz | hz | hz | hz
    · rw [hz, if_neg (by omega), show stampS 0 = 4 from rfl]
      by_cases q1 : ((n : Int) - 2) % 4 = 0
      · by_cases q2 : 0 ≤ x - 5
        · by_cases q3 : (x - 5) % 4 = 0
          · have e1 : (((n : Int) - 2) % 4 == 0) = true := by simpa using q1
            have e2 : decide (0 ≤ x - 5) = true := by simpa using q2
            have e3 : ((x - 5) % 4 == 0) = true := by simpa using q3
            rw [e1, e2, e3, Bool.true_and, Bool.true_and, Bool.true_and]
            clear q1 q3
            go_enter Tryz.func99, Tryz.ntmps99
            go_wp2
            go_ret
            exact ⟨rfl, (Below.refl _ _).alloc (Nat.le_refl _) _⟩
          · have e1 : (((n : Int) - 2) % 4 == 0) = true := by simpa using q1
            have e2 : decide (0 ≤ x - 5) = true := by simpa using q2
            have e3 : ((x - 5) % 4 == 0) = false := by simpa using q3
            rw [e1, e2, e3, Bool.true_and, Bool.true_and, Bool.false_and]
            clear q1 q3
            go_enter Tryz.func99, Tryz.ntmps99
            go_wp2
            go_ret
            exact ⟨rfl, (Below.refl _ _).alloc (Nat.le_refl _) _⟩
        · have e1 : (((n : Int) - 2) % 4 == 0) = true := by simpa using q1
          have e2 : decide (0 ≤ x - 5) = false := by simpa using q2
          rw [e1, e2, Bool.true_and, Bool.false_and, Bool.false_and]
          clear q1
          go_enter Tryz.func99, Tryz.ntmps99
          go_wp2
          go_ret
          exact ⟨rfl, (Below.refl _ _).alloc (Nat.le_refl _) _⟩
      · have e1 : (((n : Int) - 2) % 4 == 0) = false := by simpa using q1
        rw [e1, Bool.false_and, Bool.false_and, Bool.false_and]
        clear q1
        go_enter Tryz.func99, Tryz.ntmps99
        go_wp2
        go_ret
        exact ⟨rfl, (Below.refl _ _).alloc (Nat.le_refl _) _⟩
    · rw [hz, if_neg (by omega), show stampS 1 = 8 from rfl]
      by_cases q1 : ((n : Int) - 2) % 8 = 0
      · by_cases q2 : 0 ≤ x - 5
        · by_cases q3 : (x - 5) % 8 = 0
          · have e1 : (((n : Int) - 2) % 8 == 0) = true := by simpa using q1
            have e2 : decide (0 ≤ x - 5) = true := by simpa using q2
            have e3 : ((x - 5) % 8 == 0) = true := by simpa using q3
            rw [e1, e2, e3, Bool.true_and, Bool.true_and, Bool.true_and]
            clear q1 q3
            go_enter Tryz.func99, Tryz.ntmps99
            go_wp2
            go_ret
            exact ⟨rfl, (Below.refl _ _).alloc (Nat.le_refl _) _⟩
          · have e1 : (((n : Int) - 2) % 8 == 0) = true := by simpa using q1
            have e2 : decide (0 ≤ x - 5) = true := by simpa using q2
            have e3 : ((x - 5) % 8 == 0) = false := by simpa using q3
            rw [e1, e2, e3, Bool.true_and, Bool.true_and, Bool.false_and]
            clear q1 q3
            go_enter Tryz.func99, Tryz.ntmps99
            go_wp2
            go_ret
            exact ⟨rfl, (Below.refl _ _).alloc (Nat.le_refl _) _⟩
        · have e1 : (((n : Int) - 2) % 8 == 0) = true := by simpa using q1
          have e2 : decide (0 ≤ x - 5) = false := by simpa using q2
          rw [e1, e2, Bool.true_and, Bool.false_and, Bool.false_and]
          clear q1
          go_enter Tryz.func99, Tryz.ntmps99
          go_wp2
          go_ret
          exact ⟨rfl, (Below.refl _ _).alloc (Nat.le_refl _) _⟩
      · have e1 : (((n : Int) - 2) % 8 == 0) = false := by simpa using q1
        rw [e1, Bool.false_and, Bool.false_and, Bool.false_and]
        clear q1
        go_enter Tryz.func99, Tryz.ntmps99
        go_wp2
        go_ret
        exact ⟨rfl, (Below.refl _ _).alloc (Nat.le_refl _) _⟩
    · rw [if_pos (by omega)]
      go_enter Tryz.func99, Tryz.ntmps99
      go_wp2
      go_ret
      exact ⟨rfl, (Below.refl _ _).alloc (Nat.le_refl _) _⟩
    · rw [hz, if_neg (by omega), show stampS 3 = 8 from rfl]
      by_cases q1 : ((n : Int) - 2) % 8 = 0
      · by_cases q2 : 0 ≤ x - 5
        · by_cases q3 : (x - 5) % 8 = 0
          · have e1 : (((n : Int) - 2) % 8 == 0) = true := by simpa using q1
            have e2 : decide (0 ≤ x - 5) = true := by simpa using q2
            have e3 : ((x - 5) % 8 == 0) = true := by simpa using q3
            rw [e1, e2, e3, Bool.true_and, Bool.true_and, Bool.true_and]
            clear q1 q3
            go_enter Tryz.func99, Tryz.ntmps99
            go_wp2
            go_ret
            exact ⟨rfl, (Below.refl _ _).alloc (Nat.le_refl _) _⟩
          · have e1 : (((n : Int) - 2) % 8 == 0) = true := by simpa using q1
            have e2 : decide (0 ≤ x - 5) = true := by simpa using q2
            have e3 : ((x - 5) % 8 == 0) = false := by simpa using q3
            rw [e1, e2, e3, Bool.true_and, Bool.true_and, Bool.false_and]
            clear q1 q3
            go_enter Tryz.func99, Tryz.ntmps99
            go_wp2
            go_ret
            exact ⟨rfl, (Below.refl _ _).alloc (Nat.le_refl _) _⟩
        · have e1 : (((n : Int) - 2) % 8 == 0) = true := by simpa using q1
          have e2 : decide (0 ≤ x - 5) = false := by simpa using q2
          rw [e1, e2, Bool.true_and, Bool.false_and, Bool.false_and]
          clear q1
          go_enter Tryz.func99, Tryz.ntmps99
          go_wp2
          go_ret
          exact ⟨rfl, (Below.refl _ _).alloc (Nat.le_refl _) _⟩
      · have e1 : (((n : Int) - 2) % 8 == 0) = false := by simpa using q1
        rw [e1, Bool.false_and, Bool.false_and, Bool.false_and]
        clear q1
        go_enter Tryz.func99, Tryz.ntmps99
        go_wp2
        go_ret
        exact ⟨rfl, (Below.refl _ _).alloc (Nat.le_refl _) _⟩
    · rw [if_pos (by omega)]
      have hmn : min (y % 16) 3 = 3 := by omega
      go_enter Tryz.func99, Tryz.ntmps99
      go_wp2
      go_ret
      exact ⟨rfl, (Below.refl _ _).alloc (Nat.le_refl _) _⟩

def fnV (f : Nat) : Value := .func (.func f) #[] #[]
def shapesE : Nat → Array MapEntry
  | 0 => #[]
  | 1 => #[⟨.int .u8 7, fnV 97, 0⟩]
  | 2 => #[⟨.int .u8 7, fnV 97, 0⟩, ⟨.int .u8 131, fnV 97, 1⟩]
  | 3 => #[⟨.int .u8 7, fnV 97, 0⟩, ⟨.int .u8 131, fnV 97, 1⟩, ⟨.int .u8 137, fnV 97, 2⟩]
  | 4 => #[⟨.int .u8 7, fnV 97, 0⟩, ⟨.int .u8 131, fnV 97, 1⟩, ⟨.int .u8 137, fnV 97, 2⟩, ⟨.int .u8 148, fnV 98, 3⟩]
  | _ => #[⟨.int .u8 7, fnV 97, 0⟩, ⟨.int .u8 131, fnV 97, 1⟩, ⟨.int .u8 137, fnV 97, 2⟩, ⟨.int .u8 148, fnV 98, 3⟩, ⟨.int .u8 68, fnV 99, 4⟩]
def ShapesM (W : World) (m : Nat) : Prop := W.heap[m]? = some (.map (shapesE 5) 5)
theorem heap_grow {W W' : World} {m : Nat} {o : Obj} (h : W.heap[m]? = some o) (hG : Grow W W') : W'.heap[m]? = some o := (hG.block m (by
  rcases Nat.lt_or_ge m W.heap.size with hl | hl
  · exact hl
  · rw [Array.getElem?_eq_none hl] at h; cases h)).trans h
theorem ShapesM.grow {W W' : World} {m : Nat} (h : ShapesM W m) (hG : Grow W W') : ShapesM W' m := heap_grow h hG
set_option maxHeartbeats 400000 in
theorem shapes_any (w : World) : Calls Tryz.prog 72 #[] w fun e w' => ∃ m, e = .returned (.map (some m)) ∧ w.heap.size ≤ m ∧ ShapesM w' m ∧ Below w.heap.size w w' := by
  have hmm := run_makeMap (P := Tryz.prog) 148 w
  have i1 := run_insert_int (P := Tryz.prog) Tryz.underlying148 Tryz.underlying5 w (shapesE 0) 0 7 (fnV 97) (by rfl)
  have i2 := run_insert_int (P := Tryz.prog) Tryz.underlying148 Tryz.underlying5 w (shapesE 1) 1 131 (fnV 97) (by rfl)
  have i3 := run_insert_int (P := Tryz.prog) Tryz.underlying148 Tryz.underlying5 w (shapesE 2) 2 137 (fnV 97) (by rfl)
  have i4 := run_insert_int (P := Tryz.prog) Tryz.underlying148 Tryz.underlying5 w (shapesE 3) 3 148 (fnV 98) (by rfl)
  have i5 := run_insert_int (P := Tryz.prog) Tryz.underlying148 Tryz.underlying5 w (shapesE 4) 4 68 (fnV 99) (by rfl)
  rw [show (#[] : Array MapEntry) = shapesE 0 from rfl] at hmm
  rw [show (shapesE 0).push ⟨.int .u8 7, fnV 97, 0⟩ = shapesE 1 from rfl] at i1
  rw [show (shapesE 1).push ⟨.int .u8 131, fnV 97, 1⟩ = shapesE 2 from rfl] at i2
  rw [show (shapesE 2).push ⟨.int .u8 137, fnV 97, 2⟩ = shapesE 3 from rfl] at i3
  rw [show (shapesE 3).push ⟨.int .u8 148, fnV 98, 3⟩ = shapesE 4 from rfl] at i4
  rw [show (shapesE 4).push ⟨.int .u8 68, fnV 99, 4⟩ = shapesE 5 from rfl] at i5
  unfold fnV at i1 i2 i3 i4 i5
  have Hs := Lib.hid (show ShapesM (w.alloc (.map (shapesE 5) 5)) w.heap.size from heap_alloc_new w _)
  generalize shapesE 0 = e0 at *
  generalize shapesE 1 = e1 at *
  generalize shapesE 2 = e2 at *
  generalize shapesE 3 = e3 at *
  generalize shapesE 4 = e4 at *
  generalize shapesE 5 = e5 at *
  go_enter Tryz.func72, Tryz.ntmps72
  go_wp2_with fail
  go_ret
  exact ⟨_, rfl, Nat.le_refl _, Hs.out, (Below.refl _ _).alloc (Nat.le_refl _) _⟩
def shapeFn (k : Int) : Nat := if k = 148 then 98 else if k = 68 then 99 else 97
def shapedB (k : Int) : Bool := k == 7 || k == 131 || k == 137 || k == 148 || k == 68
theorem lookup_shapes (W : World) (m : Nat) (h : ShapesM W m) (k : Int) (hk : shapedB k = true) (ok : Bool) :
    (Instr.lookup 148 (.map (some m)) (.int .u8 k) ok).run Tryz.prog W = .ok (if ok then .tuple #[fnV (shapeFn k), .bool true] else fnV (shapeFn k)) W := by
  simp only [shapedB, Bool.or_eq_true, beq_iff_eq] at hk
  rcases hk with (((rfl | rfl) | rfl) | rfl) | rfl
  · exact run_lookup_int Tryz.underlying148 Tryz.underlying5 W m _ _ 7 0 _ ok h rfl
  · exact run_lookup_int Tryz.underlying148 Tryz.underlying5 W m _ _ 131 1 _ ok h rfl
  · exact run_lookup_int Tryz.underlying148 Tryz.underlying5 W m _ _ 137 2 _ ok h rfl
  · exact run_lookup_int Tryz.underlying148 Tryz.underlying5 W m _ _ 148 3 _ ok h rfl
  · exact run_lookup_int Tryz.underlying148 Tryz.underlying5 W m _ _ 68 4 _ ok h rfl
theorem lookup_shapes_none (W : World) (m : Nat) (h : ShapesM W m) (k : Int) (hk : shapedB k = false) (ok : Bool) :
    (Instr.lookup 148 (.map (some m)) (.int .u8 k) ok).run Tryz.prog W = .ok (if ok then .tuple #[.nilFunc, .bool false] else .nilFunc) W := by
  simp only [shapedB, Bool.or_eq_false_iff] at hk
  obtain ⟨⟨⟨⟨e1, e2⟩, e3⟩, e4⟩, e5⟩ := hk
  refine run_lookup_int_none Tryz.underlying148 Tryz.underlying5 W m _ _ k .nilFunc ok h ?_ (by kernel_rfl)
  simp [shapesE, Instr.findNow, Instr.sameNow, e1, e2, e3, e4, e5]

theorem shape_any (k : Int) (hk : shapedB k = true) (A : Option Addr) (cap n : Nat) (d : List Int) (w : World) (hn : d.length = n) (hl : n ≤ 1000000) (hB : Byt d) (hr : Rd w w.heap.size A .u8 d) :
    Calls Tryz.prog (shapeFn k) #[.slice A n cap] w fun e w' => e = .returned (.bool (shapeB k d)) ∧ Below w.heap.size w w' := by
  simp only [shapedB, Bool.or_eq_true, beq_iff_eq] at hk
  rcases hk with (((rfl | rfl) | rfl) | rfl) | rfl
  · exact (shapeA_any A cap n d w hn hl hB hr).mono fun e w' ⟨he, h⟩ => ⟨he, h ▸ Below.refl _ _⟩
  · exact (shapeA_any A cap n d w hn hl hB hr).mono fun e w' ⟨he, h⟩ => ⟨he, h ▸ Below.refl _ _⟩
  · exact (shapeA_any A cap n d w hn hl hB hr).mono fun e w' ⟨he, h⟩ => ⟨he, h ▸ Below.refl _ _⟩
  · exact (shapeB_any A cap n w).mono fun e w' ⟨he, h⟩ => ⟨by rw [he]; simp [shapeB, hn], h ▸ Below.refl _ _⟩
  · exact shapeC_any A cap n d w hn hl hB hr
theorem callFunc_sh (k : Int) (args : Array Value) (W : World) : (callFunc (shapeFn k) args).run Tryz.prog W = .ok (.enter (shapeFn k) args) W := by
  unfold shapeFn
  split
  · kernel_rfl
  · split <;> kernel_rfl

set_option maxRecDepth 100000 in
set_option maxHeartbeats 2000000 in
/-- opts.Right. -/
theorem optRight_any (k : Int) (A : Option Addr) (cap n : Nat) (d : List Int) (w : World) (hn : d.length = n) (hl : n ≤ 1000000) (hB : Byt d) (hr : Rd w w.heap.size A .u8 d) :
    Calls Tryz.prog 35 #[.agg #[.int .u8 k, .slice A n cap]] w fun e w' => e = .returned (.bool (optRight k d)) ∧ Below w.heap.size w w' := by
  unfold optRight
  by_cases h0 : k = 0
  · rw [if_pos (.inl h0)]
    subst h0
    go_enter Tryz.func35, Tryz.ntmps35
    go_wp2_with (first | ((with_reducible refine look_store ?_); refine wpList_store_new rfl _ _ _ rfl _ _ rfl rfl _ _ rfl (by kernel_rfl) (by simp) (by simp [Value.oneCell']) ?_) | fail)
    go_ret
    exact ⟨rfl, (Below.refl _ _).alloc (Nat.le_refl _) _⟩
  by_cases h1 : k = 1
  · rw [if_pos (.inr h1)]
    subst h1
    have Hg := Lib.hid (show ((1 : Int) == 1 && d.length == 0) = ((n : Int) == 0) by rw [hn, Bool.eq_iff_iff]; simp)
    rw [Hg.out]
    go_enter Tryz.func35, Tryz.ntmps35
    go_wp2_with (first | ((with_reducible refine look_store ?_); refine wpList_store_new rfl _ _ _ rfl _ _ rfl rfl _ _ rfl (by kernel_rfl) (by simp) (by simp [Value.oneCell']) ?_) | fail)
    go_ret
    exact ⟨rfl, (Below.refl _ _).alloc (Nat.le_refl _) _⟩
  rw [if_neg (by omega)]
  have e0 : (k == 0) = false := by simpa using h0
  have e1 : (k == 1) = false := by simpa using h1
  have Hl := Lib.hid (show decide (d.length ≤ 38) = decide ((n : Int) ≤ 38) by rw [hn, Bool.eq_iff_iff]; simp; omega)
  rw [Hl.out]
  rcases hs : shapedB k with _ | _
  · have Hsh := Lib.hid (show shapeB k d = true by
      simp only [shapedB, Bool.or_eq_false_iff, beq_eq_false_iff_ne] at hs
      obtain ⟨⟨⟨⟨a1, a2⟩, a3⟩, a4⟩, a5⟩ := hs
      unfold shapeB
      rw [if_neg (by omega), if_neg (by omega), if_neg (by omega)])
    rw [Hsh.out, Bool.true_and]
    go_enter Tryz.func35, Tryz.ntmps35
    go_upto_region 3 with (first | ((with_reducible refine look_store ?_); refine wpList_store_new rfl _ _ _ rfl _ _ rfl rfl _ _ rfl (by kernel_rfl) (by simp) (by simp [Value.oneCell']) ?_) | fail)
    refine wp_name1 ?_
    intro w1 hb1 hs1 bx
    have hSt := (St.nil hb1 hb1.size).cons bx
    clear hs1 hb1 bx
    refine wp_region_walk0 (by kernel_rfl) (fun _ W => St w w.heap.size _ W) [] Grow [1, 2, 0, 3, 4, 5, 6, 7, 8] (by kernel_rfl) hSt.drew ?_
    iterate 2
      apply Walk.one rfl rfl rfl
      case hrun =>
        intro c W hE hF
        have hc0 := (hE.get 0 rfl).cell 0
        go_wp2_with fail
        exact TextPost.mk ⟨Grow.refl _, hE⟩
      case hv => rfl
    refine Walk.anyOf (fun m : Nat => .map (some m)) (fun x y h => by simpa using h) (fun m W => ShapesM W m) (fun m W W' h hG => h.grow hG) rfl rfl rfl (by kernel_rfl) (by kernel_rfl) ?_ (fun m => ?_)
    · intro c W hE hF
      go_wp2_with fail
      refine (shapes_any W).mono ?_
      rintro e W2 ⟨m, rfl, hm0, hm, l⟩
      go_wp2_with fail
      exact ⟨m, rfl, hm, l, hE.below l⟩
    dsimp only [Act.put]
    simp only [List.setIfInBounds_toArray, List.set_cons_succ, List.set_cons_zero]
    apply Walk.one rfl rfl rfl
    case hrun =>
      intro c W hE hF
      have hlk := lookup_shapes_none W m hF.head k hs true
      go_wp2_with fail
      exact TextPost.mk ⟨Grow.refl _, hE⟩
    case hv => rfl
    iterate 5
      apply Walk.one rfl rfl rfl
      case hrun =>
        intro c W hE hF
        go_wp2_with fail
        exact TextPost.mk ⟨Grow.refl _, hE⟩
      case hv => rfl
    refine Walk.done (fun W hE hF => ?_)
    have hbx := hE.get 0 rfl
    have hc1 := hbx.cell 1
    have hbW := hE.1
    clear hF hSt
    clear hE hbx
    go_wp2_with fail
    go_ret
    exact ⟨rfl, hbW⟩
  · have HSH := Lib.hid (fun W (h : Rd W W.heap.size A .u8 d) => shape_any k hs A cap n d W hn hl hB h)
    have hcf := callFunc_sh k
    have Hr := Lib.hid hr
    clear hr hn
    rcases hx : shapeB k d with _ | _
    · rw [hx] at HSH
      rw [Bool.false_and]
      go_enter Tryz.func35, Tryz.ntmps35
      go_upto_region 3 with (first | ((with_reducible refine look_store ?_); refine wpList_store_new rfl _ _ _ rfl _ _ rfl rfl _ _ rfl (by kernel_rfl) (by simp) (by simp [Value.oneCell']) ?_) | fail)
      refine wp_name1 ?_
      intro w1 hb1 hs1 bx
      have hSt := (St.nil hb1 hb1.size).cons bx
      clear hs1 hb1 bx
      refine wp_region_walk0 (by kernel_rfl) (fun _ W => St w w.heap.size _ W) [] Grow [1, 2, 0, 3, 4, 5, 6, 7, 8] (by kernel_rfl) hSt.drew ?_
      iterate 2
        apply Walk.one rfl rfl rfl
        case hrun =>
          intro c W hE hF
          have hc0 := (hE.get 0 rfl).cell 0
          go_wp2_with fail
          exact TextPost.mk ⟨Grow.refl _, hE⟩
        case hv => rfl
      refine Walk.anyOf (fun m : Nat => .map (some m)) (fun x y h => by simpa using h) (fun m W => ShapesM W m) (fun m W W' h hG => h.grow hG) rfl rfl rfl (by kernel_rfl) (by kernel_rfl) ?_ (fun m => ?_)
      · intro c W hE hF
        go_wp2_with fail
        refine (shapes_any W).mono ?_
        rintro e W2 ⟨m, rfl, hm0, hm, l⟩
        go_wp2_with fail
        exact ⟨m, rfl, hm, l, hE.below l⟩
      dsimp only [Act.put]
      simp only [List.setIfInBounds_toArray, List.set_cons_succ, List.set_cons_zero]
      apply Walk.one rfl rfl rfl
      case hrun =>
        intro c W hE hF
        have hlk := lookup_shapes W m hF.head k hs true
        unfold fnV at hlk
        go_wp2_with fail
        exact TextPost.mk ⟨Grow.refl _, hE⟩
      case hv => rfl
      iterate 5
        apply Walk.one rfl rfl rfl
        case hrun =>
          intro c W hE hF
          go_wp2_with fail
          exact TextPost.mk ⟨Grow.refl _, hE⟩
        case hv => rfl
      refine Walk.done (fun W hE hF => ?_)
      have hbx := hE.get 0 rfl
      have hc1 := hbx.cell 1
      have hbW := hE.1
      clear hF hSt
      have Hr2 := Lib.hid ((Hr.out.below hbW (Nat.le_refl _)).more hbW.size)
      clear hE
      go_wp2_with fail
      refine (HSH.out _ Hr2.out).mono ?_
      rintro e w3 ⟨rfl, l3⟩
      have hbx3 := hbx.below l3 hbx.lt
      have hc3 := hbx3.cell 1
      have hz := hbW.size
      clear hc1
      go_wp2_with fail
      go_ret
      exact ⟨rfl, hbW.trans (l3.mono hz)⟩
    · rw [hx] at HSH
      rw [Bool.true_and]
      go_enter Tryz.func35, Tryz.ntmps35
      go_upto_region 3 with (first | ((with_reducible refine look_store ?_); refine wpList_store_new rfl _ _ _ rfl _ _ rfl rfl _ _ rfl (by kernel_rfl) (by simp) (by simp [Value.oneCell']) ?_) | fail)
      refine wp_name1 ?_
      intro w1 hb1 hs1 bx
      have hSt := (St.nil hb1 hb1.size).cons bx
      clear hs1 hb1 bx
      refine wp_region_walk0 (by kernel_rfl) (fun _ W => St w w.heap.size _ W) [] Grow [1, 2, 0, 3, 4, 5, 6, 7, 8] (by kernel_rfl) hSt.drew ?_
      iterate 2
        apply Walk.one rfl rfl rfl
        case hrun =>
          intro c W hE hF
          have hc0 := (hE.get 0 rfl).cell 0
          go_wp2_with fail
          exact TextPost.mk ⟨Grow.refl _, hE⟩
        case hv => rfl
      refine Walk.anyOf (fun m : Nat => .map (some m)) (fun x y h => by simpa using h) (fun m W => ShapesM W m) (fun m W W' h hG => h.grow hG) rfl rfl rfl (by kernel_rfl) (by kernel_rfl) ?_ (fun m => ?_)
      · intro c W hE hF
        go_wp2_with fail
        refine (shapes_any W).mono ?_
        rintro e W2 ⟨m, rfl, hm0, hm, l⟩
        go_wp2_with fail
        exact ⟨m, rfl, hm, l, hE.below l⟩
      dsimp only [Act.put]
      simp only [List.setIfInBounds_toArray, List.set_cons_succ, List.set_cons_zero]
      apply Walk.one rfl rfl rfl
      case hrun =>
        intro c W hE hF
        have hlk := lookup_shapes W m hF.head k hs true
        unfold fnV at hlk
        go_wp2_with fail
        exact TextPost.mk ⟨Grow.refl _, hE⟩
      case hv => rfl
      iterate 5
        apply Walk.one rfl rfl rfl
        case hrun =>
          intro c W hE hF
          go_wp2_with fail
          exact TextPost.mk ⟨Grow.refl _, hE⟩
        case hv => rfl
      refine Walk.done (fun W hE hF => ?_)
      have hbx := hE.get 0 rfl
      have hc1 := hbx.cell 1
      have hbW := hE.1
      clear hF hSt
      have Hr2 := Lib.hid ((Hr.out.below hbW (Nat.le_refl _)).more hbW.size)
      clear hE
      go_wp2_with fail
      refine (HSH.out _ Hr2.out).mono ?_
      rintro e w3 ⟨rfl, l3⟩
      have hbx3 := hbx.below l3 hbx.lt
      have hc3 := hbx3.cell 1
      have hz := hbW.size
      clear hc1
      go_wp2_with fail
      go_ret
      exact ⟨rfl, hbW.trans (l3.mono hz)⟩

end Go.Proofs.YtebeekjcepjcnaaGreatDoor
