/-
  Small facts on bits at the numbers that the code uses.
  Facts on bits at the numbers by which packets are read.
  Laws on byte slices at this seat's program: an append onto a row of the call's own, whatever its source; make; copy.
-/
import Derived.WalkKit
import Derived.WalkSpells
import Derived.WalkLawsBesides
import Derived.WalkSmall
import Derived.Lib.Hide
import Derived.Deep.AppendLies
import Derived.Maps.AppendAt
import Derived.Laws.AppendOwnNone
import Derived.Laws.CopyOwn
import Derived.OneCell
import Derived.Test.YtebeekjcepjcnaaDoorProg
import Derived.Test.YtebeekjcepjcnaaDoorGBase
namespace Go.Proofs.YtebeekjcepjcnaaDoor
open Go.RowKit
theorem wraps_i64_8 (n : Int) (h0 : 0 ≤ n) (h1 : n < 2 ^ 62) : IntKind.i64.wrap n = n := by rw [IntKind.wrap_i64]; omega
theorem wraps_u32_32 (n : Int) (h0 : 0 ≤ n) (h1 : n < 2 ^ 32) : IntKind.u32.wrap n = n := by rw [IntKind.wrap_u32]; omega
theorem or_i64_64 (y : Int) (h0 : 0 ≤ y) (h1 : y < 64) : bits .or .i64 64 y = 64 + y :=
  bits_join .i64 62 (by decide) wraps_i64_8 6 64 y (by decide) (by decide) (by decide) h0 (by omega) (by omega)
theorem or_u32_16384 (x : Int) (h0 : 0 ≤ x) (h1 : x < 8192) : bits .or .u32 x 16384 = x + 16384 := by
  obtain ⟨a, rfl⟩ := Int.eq_ofNat_of_zero_le h0
  have h := bits_join .u32 32 (by decide) wraps_u32_32 14 16384 (a : Int) (by decide) (by decide) (by decide) h0 (by omega) (by omega)
  have e1 := (bits_nat .u32 32 (by decide) wraps_u32_32 a 16384 (by omega) (by omega)).2
  have e2 := (bits_nat .u32 32 (by decide) wraps_u32_32 16384 a (by omega) (by omega)).2
  rw [Nat.or_comm] at e2
  have e3 : bits .or .u32 (a : Int) 16384 = bits .or .u32 16384 (a : Int) := e1.trans e2.symm
  rw [e3, h]; omega
theorem or_u32_8192 (x : Int) (h0 : 0 ≤ x) (h1 : x % 16384 < 8192) (h2 : x < 32768) : bits .or .u32 x 8192 = x + 8192 := by
  obtain ⟨a, rfl⟩ := Int.eq_ofNat_of_zero_le h0
  have e1 := (bits_nat .u32 32 (by decide) wraps_u32_32 a 8192 (by omega) (by omega)).2
  by_cases hx : (a : Int) < 8192
  · have h := bits_join .u32 32 (by decide) wraps_u32_32 13 8192 (a : Int) (by decide) (by decide) (by decide) h0 (by omega) (by omega)
    have e2 := (bits_nat .u32 32 (by decide) wraps_u32_32 8192 a (by omega) (by omega)).2
    rw [Nat.or_comm] at e2
    have e3 : bits .or .u32 (a : Int) 8192 = bits .or .u32 8192 (a : Int) := e1.trans e2.symm
    rw [e3, h]; omega
  · obtain ⟨b, rfl⟩ : ∃ b, a = 16384 + b := ⟨a - 16384, by omega⟩
    have hb : b < 8192 := by omega
    have e3 : (16384 + b) ||| 8192 = 16384 + 8192 + b := by
      have r1 : 16384 + b = 16384 ||| b := by
        have := Nat.two_pow_add_eq_or_of_lt (i := 14) (b := b) (by omega) 1
        simpa using this
      have r2 : 8192 + b = 8192 ||| b := by
        have := Nat.two_pow_add_eq_or_of_lt (i := 13) (b := b) (by omega) 1
        simpa using this
      have r3 : 16384 + (8192 + b) = 16384 ||| (8192 + b) := by
        have := Nat.two_pow_add_eq_or_of_lt (i := 14) (b := 8192 + b) (by omega) 1
        simpa using this
      rw [r1, Nat.add_assoc, r3, r2, Nat.or_assoc, Nat.or_comm b 8192]
    have e1' : bits .or .u32 ((16384 + b : Nat) : Int) 8192 = ((16384 + b ||| 8192 : Nat) : Int) := e1
    rw [e1', e3]; omega
end Go.Proofs.YtebeekjcepjcnaaDoor
namespace Go.Proofs.YtebeekjcepjcnaaDoor
open Go.RowKit
theorem or_i64_word (a b : Int) (a0 : 0 ≤ a) (a1 : a < 256) (b0 : 0 ≤ b) (b1 : b < 256) : bits .or .i64 (a * 256) b = 256 * a + b := by
  rw [bits_join .i64 62 (by decide) wraps_i64_8 8 (a * 256) b (by omega) (by omega) (by omega) b0 (by omega) (by omega)]; omega
theorem or_u32_long (a b : Int) (a0 : 0 ≤ a) (a1 : a < 65536) (b0 : 0 ≤ b) (b1 : b < 65536) : bits .or .u32 (a * 65536) b = 65536 * a + b := by
  rw [bits_join .u32 32 (by decide) wraps_u32_32 16 (a * 65536) b (by omega) (by omega) (by omega) b0 (by omega) (by omega)]; omega
theorem and_nat_i64 (x m : Nat) (hx : x < 65536) (hm : m < 65536) : bits .and .i64 (x : Int) (m : Int) = ((x &&& m : Nat) : Int) :=
  (bits_nat .i64 62 (by decide) wraps_i64_8 x m (by omega) (by omega)).1
theorem and_bit (x i : Nat) : x &&& 2 ^ i = 2 ^ i * (x / 2 ^ i % 2) := by
  apply Nat.eq_of_testBit_eq
  intro j
  rw [Nat.testBit_and, Nat.testBit_two_pow]
  by_cases h : i = j
  · subst h
    rw [Nat.testBit_two_pow_mul]
    simp [Nat.testBit_eq_decide_div_mod_eq]
  · rw [Nat.testBit_two_pow_mul]
    have : decide (i = j) = false := by simpa using h
    rw [this, Bool.and_false]
    by_cases hj : j ≥ i
    · have h2 : 0 < j - i := by omega
      have : (x / 2 ^ i % 2).testBit (j - i) = false := Nat.testBit_lt_two_pow (Nat.lt_of_lt_of_le (Nat.mod_lt _ (by decide)) (by
        have := Nat.pow_le_pow_right (n := 2) (by decide) h2
        simpa using this))
      simp [this]
    · simp [hj]
theorem and_i64_32768 (x : Int) (h0 : 0 ≤ x) (h1 : x < 65536) : (bits .and .i64 x 32768 != 0) = decide (32768 ≤ x) := by
  obtain ⟨n, rfl⟩ : ∃ n : Nat, x = n := ⟨x.toNat, by omega⟩
  have e := and_nat_i64 n 32768 (by omega) (by omega)
  have e2 : (n &&& 32768) = 32768 * (n / 32768 % 2) := and_bit n 15
  rw [e2, show ((32768 : Nat) : Int) = 32768 from rfl] at e
  rw [e]
  rcases (show n / 32768 % 2 = 0 ∨ n / 32768 % 2 = 1 by omega) with h | h
  · rw [h]
    have : ¬ (32768 ≤ (n : Int)) := by omega
    simp [this]
  · rw [h]
    have : 32768 ≤ (n : Int) := by omega
    simp [this]
theorem and_i64_16384 (x : Int) (h0 : 0 ≤ x) (h1 : x < 65536) : (bits .and .i64 x 16384 != 0) = (x / 16384 % 2 == 1) := by
  obtain ⟨n, rfl⟩ : ∃ n : Nat, x = n := ⟨x.toNat, by omega⟩
  have e := and_nat_i64 n 16384 (by omega) (by omega)
  have e2 : (n &&& 16384) = 16384 * (n / 16384 % 2) := and_bit n 14
  rw [e2, show ((16384 : Nat) : Int) = 16384 from rfl] at e
  rw [e]
  rcases (show n / 16384 % 2 = 0 ∨ n / 16384 % 2 = 1 by omega) with h | h
  · rw [h]
    have : (n : Int) / 16384 % 2 = 0 := by omega
    rw [this]; rfl
  · rw [h]
    have : (n : Int) / 16384 % 2 = 1 := by omega
    rw [this]; rfl
theorem and_i64_8192 (x : Int) (h0 : 0 ≤ x) (h1 : x < 65536) : (bits .and .i64 x 8192 != 0) = (x / 8192 % 2 == 1) := by
  obtain ⟨n, rfl⟩ : ∃ n : Nat, x = n := ⟨x.toNat, by omega⟩
  have e := and_nat_i64 n 8192 (by omega) (by omega)
  have e2 : (n &&& 8192) = 8192 * (n / 8192 % 2) := and_bit n 13
  rw [e2, show ((8192 : Nat) : Int) = 8192 from rfl] at e
  rw [e]
  rcases (show n / 8192 % 2 = 0 ∨ n / 8192 % 2 = 1 by omega) with h | h
  · rw [h]
    have : (n : Int) / 8192 % 2 = 0 := by omega
    rw [this]; rfl
  · rw [h]
    have : (n : Int) / 8192 % 2 = 1 := by omega
    rw [this]; rfl
theorem and_i64_8191 (x : Int) (h0 : 0 ≤ x) (h1 : x < 65536) : bits .and .i64 x 8191 = x % 8192 := by
  obtain ⟨n, rfl⟩ := Int.eq_ofNat_of_zero_le h0
  have := and_nat_i64 n 8191 (by omega) (by omega)
  rw [show ((8191 : Nat) : Int) = 8191 from rfl] at this
  rw [this]
  have : (n &&& 8191) = n % 8192 := Nat.and_two_pow_sub_one_eq_mod n 13
  rw [this]; omega
theorem and_u8_15 (x : Int) (h0 : 0 ≤ x) (h1 : x < 256) : bits .and .u8 x 15 = x % 16 := by
  rw [u8_and x 15 h0 h1 (by decide) (by decide)]
  have : (x.toNat &&& (15 : Int).toNat) = x.toNat % 16 := Nat.and_two_pow_sub_one_eq_mod x.toNat 4
  rw [this]; omega
theorem and_u8_63 (x : Int) (h0 : 0 ≤ x) (h1 : x < 256) : bits .and .u8 x 63 = x % 64 := by
  rw [u8_and x 63 h0 h1 (by decide) (by decide)]
  have : (x.toNat &&& (63 : Int).toNat) = x.toNat % 64 := Nat.and_two_pow_sub_one_eq_mod x.toNat 6
  rw [this]; omega
theorem andNot_u16_24576 (x : Int) (h0 : 0 ≤ x) (h1 : x < 65536) : (bits .andNot .u16 x 24576 != 0) = !(decide (x < 32768) && x % 8192 == 0) := by
  obtain ⟨n, rfl⟩ : ∃ n : Nat, x = n := ⟨x.toNat, by omega⟩
  have e := u16_andNot_nat n 24576 (by omega) (by omega)
  rw [show ((24576 : Nat) : Int) = 24576 from rfl] at e
  rw [e, show 65535 - 24576 = 32768 ||| 8191 from rfl, Nat.and_or_distrib_left]
  have e1 : (n &&& 8191) = n % 8192 := Nat.and_two_pow_sub_one_eq_mod n 13
  have e2 : (n &&& 32768) = 32768 * (n / 32768 % 2) := and_bit n 15
  rw [e1, e2]
  by_cases a : n < 32768
  · have a1 : n / 32768 % 2 = 0 := by omega
    rw [a1, Nat.mul_zero, Nat.zero_or]
    have a2 : ((n : Int) < 32768) := by omega
    by_cases b : n % 8192 = 0
    · have b2 : (n : Int) % 8192 = 0 := by omega
      simp [b, a2, b2]
    · have b2 : ¬ (n : Int) % 8192 = 0 := by omega
      have c1 : ((n % 8192 : Nat) : Int) = (n : Int) % 8192 := by omega
      rw [c1, show ((n : Int) % 8192 != 0) = true by simpa using b2, show ((n : Int) % 8192 == 0) = false by simpa using b2, Bool.and_false]; rfl
  · have a2 : ¬ ((n : Int) < 32768) := by omega
    have a1 : n / 32768 % 2 = 1 := by omega
    rw [a1, Nat.mul_one]
    have hne : (32768 ||| n % 8192) ≠ 0 := by
      have := @Nat.left_le_or 32768 (n % 8192)
      omega
    have : ((32768 ||| n % 8192 : Nat) : Int) ≠ 0 := by omega
    simp only [a2, decide_false, Bool.false_and, Bool.not_false, bne_iff_ne, ne_eq]
    exact this
end Go.Proofs.YtebeekjcepjcnaaDoor
namespace Go.Proofs.YtebeekjcepjcnaaDoor
open Go.RowKit

theorem u8info : (Tryd.prog.info? 5).map (fun i => (i.zero, i.size, i.bytes)) = some (some (.int .u8 0), 1, 1) := by kernel_rfl

theorem run_append_empty (w : World) (base : Nat) (v : Value) (n : Nat) (xs : List Value) (ty : TypeId) (hown : w.ownsRow base 5 1 v n xs) (c : Nat) :
    (Builtin.append_ #[34, 34] ty #[v, .slice none 0 c]).run Tryd.prog w = .ok v w := by
  obtain ⟨i, hi, _, _, _⟩ := info_parts u8info
  rcases hown.2 with ⟨rfl, rfl⟩ | ⟨g, cap, cur, rfl, _, _, hnc, _⟩
  · simp [Builtin.append_, run_underlying Tryd.underlying34, sizeOf, typeInfo, hi, Builtin.lenOf, Builtin.firstCells]
  · simp [Builtin.append_, run_underlying Tryd.underlying34, sizeOf, typeInfo, hi, Builtin.lenOf, Builtin.firstCells, hnc, storeCells]

/-- An append onto an own row: the run. -/
theorem run_app (w : World) (ty : TypeId) (base : Nat) (v : Value) (xs : List Int) (hown : Own w base v xs) (B : Nat) (A : Option Addr) (c : Nat) (ys : List Int)
    (hr : Rd w B A .u8 ys) (hb : xs.length + ys.length ≤ 140737488355328) (hbase : base ≤ w.heap.size) :
    ∃ v' w', (Builtin.append_ #[34, 34] ty #[v, .slice A ys.length c]).run Tryd.prog w = .ok v' w' ∧ Own w' base v' (xs ++ ys) ∧ w.grownBy w' v.ownBlock ∧
      (v'.ownBlock = v.ownBlock ∨ v'.ownBlock = some w.heap.size) := by
  obtain ⟨i, hi, hz, hs, hby⟩ := info_parts u8info
  by_cases h0 : ys = []
  · subst h0
    rcases A with _ | ad
    · exact ⟨v, w, run_append_empty w base v _ _ ty hown c, by simpa using hown, World.grownBy.refl w _, .inl rfl⟩
    · obtain ⟨v', w', hrun, h2, h3, _, h5⟩ := run_append_own_at (P := Tryd.prog) w base 34 ty 5 i _ 1 1 Tryd.underlying34 hi hz hs hby rfl (by omega) v xs.length (U8 xs) hown ad 0 c [] rfl (by simp) (by simp) (by simp only [maxLen]; omega) (by simpa using hb) hbase
      exact ⟨v', w', hrun, by simpa [Own] using h2, h3, h5⟩
  · have hl : 0 < ys.length := List.length_pos_iff.2 h0
    obtain ⟨b, off, rfl, _, _⟩ := hr.at0 hl
    obtain ⟨v', w', hrun, h2, h3, _, h5⟩ := run_append_own_at (P := Tryd.prog) w base 34 ty 5 i _ 1 1 Tryd.underlying34 hi hz hs hby rfl (by omega) v xs.length (U8 xs) hown ⟨b, off, none⟩ ys.length c (U8 ys) (by simp [U8]) hr.cells (U8_one ys) (by simp only [maxLen]; omega) (by omega) hbase
    exact ⟨v', w', hrun, Own.mk' h2 (by simp) (U8_append _ _).symm, h3, h5⟩

/-- THE ARM: 'out = append(out, src...)', out an own row: go_wp2_with (at_builtin; refine app_own ..). -/
theorem app_own {w : World} {ops : Array Oper} {rest : List Oper} {o : Oper} {a : Act} {Q : Exit → Act → World → Prop} (hgd : o.guard = none) (s x : Operand)
    (ho : o.op = .call { callee := .builtin .append, args := #[s, x], argTypes := #[34, 34] })
    (base : Nat) (v : Value) (xs : List Int) (hs : a.eval s = v) (hown : Own w base v xs) (B : Nat) (A : Option Addr) (m c : Nat) (ys : List Int)
    (hx : a.eval x = .slice A m c) (hm : m = ys.length) (hr : Rd w B A .u8 ys) (hb : xs.length + ys.length ≤ 140737488355328) (hbase : base ≤ w.heap.size)
    (h : ∀ v' w', Own w' base v' (xs ++ ys) → Below base w w' → w.grownBy w' v.ownBlock → (v'.ownBlock = v.ownBlock ∨ v'.ownBlock = some w.heap.size) → wpList Tryd.prog ops Q rest (a.put o.dst v') w') :
    wpList Tryd.prog ops Q (o :: rest) a w := by
  subst hm
  refine wpList_plain hgd fun K hK => ?_
  obtain ⟨v', w', hrun, h2, h3, h4⟩ := run_app w o.type base v xs hown B A c ys hr hb hbase
  unfold Oper.wp execOp
  simp only [ho, resolve, invoke, builtin, Sem.run_bind, Sem.run_pure, Result.andThen_ok, List.map_toArray, List.map_cons, List.map_nil, hs, hx, hrun]
  exact hK _ _ (h v' w' h2 (below_of_grown h3 hbase (fun g hg => (hown.lt hg).1)) h3 h4)

/-- The same as one step of a region that draws its order. -/
theorem step_app_own {w : World} {ops : Array Oper} {o : Oper} {a : Act} {K : Act → World → Prop} {Q : Exit → Act → World → Prop} {E : Prop} (hgd : o.guard = none) (s x : Operand)
    (ho : o.op = .call { callee := .builtin .append, args := #[s, x], argTypes := #[34, 34] })
    (base : Nat) (v : Value) (xs : List Int) (hs : a.eval s = v) (hown : Own w base v xs) (B : Nat) (A : Option Addr) (m c : Nat) (ys : List Int)
    (hx : a.eval x = .slice A m c) (hm : m = ys.length) (hr : Rd w B A .u8 ys) (hb : xs.length + ys.length ≤ 140737488355328) (hbase : base ≤ w.heap.size)
    (h : ∀ v' w', Own w' base v' (xs ++ ys) → Below base w w' → w.grownBy w' v.ownBlock → (v'.ownBlock = v.ownBlock ∨ v'.ownBlock = some w.heap.size) → K (a.put o.dst v') w') :
    if Region.wanted o (yielded ops a.tmps) = true then Oper.wp Tryd.prog o a w K Q else E := by
  have hw : Region.wanted o (yielded ops a.tmps) = true := by simp [Region.wanted, hgd]
  rw [if_pos hw]
  subst hm
  obtain ⟨v', w', hrun, h2, h3, h4⟩ := run_app w o.type base v xs hown B A c ys hr hb hbase
  unfold Oper.wp execOp
  simp only [ho, resolve, invoke, builtin, Sem.run_bind, Sem.run_pure, Result.andThen_ok, List.map_toArray, List.map_cons, List.map_nil, hs, hx, hrun]
  exact h v' w' h2 (below_of_grown h3 hbase (fun g hg => (hown.lt hg).1)) h3 h4

/-- A block that has just been laid, of these numbers. -/
theorem Rd.new (w : World) (k : IntKind) (xs : List Int) (t : TypeId) : Rd (w.alloc (.cells (xs.map (Value.int k)).toArray t)) (w.heap.size + 1) (some ⟨w.heap.size, 0, none⟩) k xs := by
  refine Rd.of _ 0 (by omega) fun j hj => ?_
  rw [Nat.zero_add, cell_of_row _ _ _ _ _ _ (heap_alloc_new w _)]
  simp [hj]

theorem own_made (w : World) (base n m : Nat) (hnm : n ≤ m) (hm : m ≤ maxLen) (hbase : base ≤ w.heap.size) :
    Own (w.alloc (.cells (madeCells #[.int .u8 0] m) 5)) base (.slice (some ⟨w.heap.size, 0, none⟩) n m) (List.replicate n 0) := by
  refine Own.mk' (n := n) (l := U8 (List.replicate n 0)) ⟨by simp [U8], .inr ⟨w.heap.size, m, _, rfl, hbase, heap_alloc_new w _, hnm, hm, by rw [size_madeCells]; omega, ?_⟩⟩ (by simp) rfl
  rw [toList_madeCells_one, List.take_replicate, ← U8_zeros]
  congr 1; omega

/-- THE ARM: 'make([]byte, n, m)': go_wp2_with (at_make; refine make_own ..). -/
theorem make_own {w : World} {ops : Array Oper} {rest : List Oper} {o : Oper} {a : Act} {Q : Exit → Act → World → Prop} (hgd : o.guard = none) (l c : Operand) (ho : o.op = .makeSlice 34 l c)
    (base : Nat) (kl kc : IntKind) (L C : Int) (n m : Nat) (hl : a.eval l = .int kl L) (hc : a.eval c = .int kc C) (hL : L = (n : Int)) (hC : C = (m : Int)) (hnm : n ≤ m) (hm : m ≤ 140737488355328) (hbase : base ≤ w.heap.size)
    (h : ∀ w', Own w' base (.slice (some ⟨w.heap.size, 0, none⟩) n m) (List.replicate n 0) → Below w.heap.size w w' → w.heap.size < w'.heap.size → wpList Tryd.prog ops Q rest (a.put o.dst (.slice (some ⟨w.heap.size, 0, none⟩) n m)) w') :
    wpList Tryd.prog ops Q (o :: rest) a w := by
  subst hL; subst hC
  obtain ⟨i, hi, hz, hs, hby⟩ := info_parts u8info
  refine wpList_plain hgd fun K hK => ?_
  have hrun := run_make (P := Tryd.prog) w 34 5 i _ Tryd.underlying34 hi hz kl kc (n : Int) (m : Int) (by omega) (by omega) (by rw [hby]; omega) (by omega)
  rw [hs] at hrun
  simp only [Int.toNat_natCast, Nat.mul_one] at hrun
  unfold Oper.wp execOp
  simp only [ho, Sem.run_bind, Sem.run_pure, hl, hc]
  have h2 := h _ (own_made w base n m hnm (by simp only [maxLen]; omega) hbase) ((Below.refl _ _).alloc (Nat.le_refl _) _) (by simp)
  have e : Value.cells (.int .u8 0) = #[.int .u8 0] := rfl
  rw [e] at hrun
  rw [hrun]
  exact hK _ _ h2

theorem take_splice {α : Type} (L : List α) (n off : Nat) (cs : List α) (h : off + cs.length ≤ n) (hn : n ≤ L.length) : (splice L off cs).take n = splice (L.take n) off cs := by
  apply List.ext_getElem?
  intro j
  unfold splice
  by_cases h1 : j < off
  · simp [List.getElem?_append, show j < min off L.length by omega, show j < n by omega, show j < min off (min n L.length) by omega]
  · by_cases h2 : j < off + cs.length
    · simp [List.getElem?_append, List.getElem?_take, show j < n by omega, show min off L.length = off by omega, show min off (min n L.length) = off by omega, show j - off < cs.length by omega]
    · by_cases h3 : j < n
      · simp [List.getElem?_append, List.getElem?_take, h3, show min off L.length = off by omega, show min off (min n L.length) = off by omega, show ¬ j - off < cs.length by omega, show off + cs.length + (j - off - cs.length) < n by omega]
      · simp [List.getElem?_append, List.getElem?_take, h3, show min off (min n L.length) = off by omega, show ¬ j - off < cs.length by omega, show ¬ off + cs.length + (j - off - cs.length) < n by omega]
theorem splice_map (xs : List Int) (off : Nat) (ys : List Int) : splice (U8 xs) off (U8 ys) = U8 (splice xs off ys) := by
  simp [splice, U8, List.map_take, List.map_drop]

theorem run_copy_own (w : World) (ty : TypeId) (base g n cap : Nat) (xs : List Int) (hown : Own w base (.slice (some ⟨g, 0, none⟩) n cap) xs) (off : Nat) (dp sp : Option Addr) (dLen dCap sLen sCap : Nat) (ys : List Int)
    (hn : ys.length = Nat.min sLen dLen) (hdp : 0 < ys.length → dp = some ⟨g, off, none⟩) (B : Nat) (hr : Rd w B sp .u8 ys) (hfit : off + ys.length ≤ n) :
    ∃ w', (Builtin.copy_ #[34, 34] ty #[.slice dp dLen dCap, .slice sp sLen sCap]).run Tryd.prog w = .ok (goInt ys.length) w' ∧ Own w' base (.slice (some ⟨g, 0, none⟩) n cap) (splice xs off ys) ∧ w.grownBy w' (some g) ∧ Below g w w' := by
  have hnl := hown.len
  obtain ⟨i, hi, _, hs, _⟩ := info_parts u8info
  have hsz : ((Tryd.prog).info? 5).map (·.size) = some 1 := by rw [hi]; simp [hs]
  by_cases h0 : ys.length = 0
  · obtain rfl : ys = [] := List.eq_nil_of_length_eq_zero h0
    refine ⟨w, by simpa using run_copy_none (P := Tryd.prog) w 34 34 ty 5 dp sp dLen dCap sLen sCap Tryd.underlying34 hsz (by simpa using hn.symm), by simpa [splice] using hown, World.grownBy.refl _ _, Below.refl _ _⟩
  · have hl : 0 < ys.length := by omega
    obtain rfl := hdp hl
    obtain ⟨b, o, rfl, _, _⟩ := hr.at0 hl
    obtain ⟨g', cap', cur, e, hb, hg, hnc, hm, hcs, ht⟩ := hown.2.resolve_left (by simp)
    simp only [Value.slice.injEq, Option.some.injEq, Addr.mk.injEq, and_true] at e
    obtain ⟨rfl, _, rfl⟩ := e
    have hcl : cur.toList.length = cap := by simpa using hcs
    have hrun := run_copy_row (P := Tryd.prog) w 34 34 ty 5 g off dLen dCap ⟨b, o, none⟩ sLen sCap cur _ (U8 ys) Tryd.underlying34 hsz hg (by rw [U8_length]; exact hn) hr.cells (by rw [U8_length, ← Array.length_toList]; omega) (U8_one ys)
    rw [U8_length] at hrun
    refine ⟨_, hrun, ?_, ⟨rfl, rfl, rfl, by simp, fun k hk hne => setRow_other w g k _ (fun e => hne (by rw [e]))⟩, below_setRow (Below.refl _ _) (Nat.le_refl _) _⟩
    have hsp : cur.toList.take off ++ U8 ys ++ cur.toList.drop (off + ys.length) = splice cur.toList off (U8 ys) := by simp [splice, U8_length]
    rw [hsp]
    have hlen : (splice xs off ys).length = xs.length := length_splice _ _ _ (by omega)
    refine Own.mk' (n := n) (l := U8 (splice xs off ys)) ⟨by rw [U8_length, hlen, hnl, Nat.mul_one], .inr ⟨g, cap, _, rfl, hb, setRow_heap w g cur _ _ _ hg, by omega, hm, ?_, ?_⟩⟩ (by rw [hlen, hnl]) rfl
    · rw [← Array.length_toList, length_splice _ _ _ (by rw [U8_length]; omega), hcl, Nat.mul_one]
    · rw [Nat.mul_one] at ht ⊢
      rw [← hnl] at ht
      show (splice cur.toList off (U8 ys)).take n = _
      rw [take_splice _ _ _ _ (by rw [U8_length]; omega) (by omega), ht, splice_map]

theorem step_copy_own {w : World} {ops : Array Oper} {o : Oper} {a : Act} {K : Act → World → Prop} {Q : Exit → Act → World → Prop} {E : Prop} (hgd : o.guard = none) (d s : Operand)
    (ho : o.op = .call { callee := .builtin .copy, args := #[d, s], argTypes := #[34, 34] })
    (base g n cap : Nat) (xs : List Int) (hown : Own w base (.slice (some ⟨g, 0, none⟩) n cap) xs) (off : Nat) (dp sp : Option Addr) (dLen dCap sLen sCap : Nat) (hd : a.eval d = .slice dp dLen dCap) (hs : a.eval s = .slice sp sLen sCap) (ys : List Int)
    (hn : ys.length = Nat.min sLen dLen) (hdp : 0 < ys.length → dp = some ⟨g, off, none⟩) (B : Nat) (hr : Rd w B sp .u8 ys) (hfit : off + ys.length ≤ n)
    (h : ∀ w', Own w' base (.slice (some ⟨g, 0, none⟩) n cap) (splice xs off ys) → w.grownBy w' (some g) → Below g w w' → K (a.put o.dst (goInt ys.length)) w') :
    if Region.wanted o (yielded ops a.tmps) = true then Oper.wp Tryd.prog o a w K Q else E := by
  have hw : Region.wanted o (yielded ops a.tmps) = true := by simp [Region.wanted, hgd]
  rw [if_pos hw]
  obtain ⟨w', hrun, h2, h3, h4⟩ := run_copy_own w o.type base g n cap xs hown off dp sp dLen dCap sLen sCap ys hn hdp B hr hfit
  unfold Oper.wp execOp
  simp only [ho, resolve, invoke, builtin, Sem.run_bind, Sem.run_pure, Result.andThen_ok, List.map_toArray, List.map_cons, List.map_nil, hd, hs, hrun]
  exact h w' h2 h3 h4

end Go.Proofs.YtebeekjcepjcnaaDoor
