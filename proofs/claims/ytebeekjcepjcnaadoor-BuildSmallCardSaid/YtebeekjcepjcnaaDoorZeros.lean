/-
  Laws on byte slices at this seat's program: a prefix of an own row is an own row; an append of zeros onto an own row.
-/
import Derived.Test.YtebeekjcepjcnaaDoorProg
import Derived.Test.YtebeekjcepjcnaaDoorBase
import Derived.Test.YtebeekjcepjcnaaDoorMem
import Derived.Lib.AppendZeros
namespace Go.Proofs.YtebeekjcepjcnaaDoor
open Go.RowKit

theorem Own.take_ {w : World} {base g n cap : Nat} {xs : List Int} (h : Own w base (.slice (some ⟨g, 0, none⟩) n cap) xs) (m : Nat) (hm : m ≤ n) : Own w base (.slice (some ⟨g, 0, none⟩) m cap) (xs.take m) := by
  have hn := h.len
  obtain ⟨g', cap', cur, e, hb, hg, hnc, hmx, hcs, ht⟩ := h.2.resolve_left (by simp)
  simp only [Value.slice.injEq, Option.some.injEq, Addr.mk.injEq, and_true] at e
  obtain ⟨rfl, _, rfl⟩ := e
  refine Own.mk' (n := m) (l := U8 (xs.take m)) ⟨by simp [U8]; omega, .inr ⟨g, cap, cur, rfl, hb, hg, by omega, hmx, hcs, ?_⟩⟩ (by simp; omega) rfl
  rw [Nat.mul_one] at ht ⊢
  rw [← U8_take, ← ht, List.take_take]
  congr 1; omega

theorem zeroCells_u8 (m : Nat) : Builtin.zeroCells (Value.cells (.int .u8 0)) m = (U8 (List.replicate m 0)).toArray := by
  rw [← U8_zeros]
  apply Array.ext'
  have h1 : ∀ i : Nat, i % 1 = 0 := fun i => Nat.mod_one i
  simp [Builtin.zeroCells, Value.cells, h1, List.map_const']

set_option maxRecDepth 100000 in
set_option maxHeartbeats 1000000 in
theorem run_app_zeros (w : World) (ty : TypeId) (base g n cap : Nat) (xs : List Int) (hown : Own w base (.slice (some ⟨g, 0, none⟩) n cap) xs) (m : Nat) (hb : xs.length + m ≤ 140737488355328) (hbase : base ≤ w.heap.size) :
    ∃ v' w', (Builtin.append_ #[34, 3] ty #[.slice (some ⟨g, 0, none⟩) n cap, .int .i64 m]).run Tryd.prog w = .ok v' w' ∧ Own w' base v' (xs ++ List.replicate m 0) ∧ w.grownBy w' (some g) ∧
      (v'.ownBlock = some g ∨ v'.ownBlock = some w.heap.size) := by
  obtain rfl := hown.len
  obtain ⟨i, hi, hz, hs, hby⟩ := info_parts u8info
  obtain ⟨g', cap', cur, e, hbg, hg, hnc, hmx, hcs, ht⟩ := hown.2.resolve_left (by simp)
  simp only [Value.slice.injEq, Option.some.injEq, Addr.mk.injEq, and_true] at e
  obtain ⟨rfl, _, rfl⟩ := e
  have hw : IntKind.i64.wrap (m : Int) = m := by rw [IntKind.wrap_i64]; omega
  have hneg : ¬ ((m : Int) < 0) := by omega
  have h48i : ¬ (281474976710656 < (m : Int)) := by omega
  have hZ := zeroCells_u8 m
  have hlZ : (U8 (List.replicate m 0)).length = m := by simp [U8]
  have hlen : (U8 (xs ++ List.replicate m 0)).length = (xs.length + m) * 1 := by simp [U8]
  have hcl : cur.toList.length = cap := by simpa using hcs
  rw [Nat.mul_one] at ht
  by_cases hroom : xs.length + m ≤ cap
  · have hst := run_storeCells_at Tryd.prog g xs.length 5 (U8 (List.replicate m 0)) 0 cur w hg (by rw [hlZ]; omega) (U8_one _)
    simp only [Nat.add_zero, hlZ] at hst
    refine ⟨.slice (some ⟨g, 0, none⟩) (xs.length + m) cap, w.setRow g (cur.toList.take xs.length ++ U8 (List.replicate m 0) ++ cur.toList.drop (xs.length + m)).toArray, ?_, ?_, ?_, .inl rfl⟩
    · by_cases hm : m = 0
      · subst hm
        have hw0 : IntKind.i64.wrap 0 = 0 := by rw [IntKind.wrap_i64]; omega
        simp [U8] at hst
        simp [Builtin.append_, run_underlying Tryd.underlying34, run_underlying Tryd.underlying3, sizeOf, typeInfo, zeroValue, hi, hz, hs, hby, asInt, asIntOf, hw0, hnc, hst, U8, Addr.add_lit]
      · simp [Builtin.append_, run_underlying Tryd.underlying34, run_underlying Tryd.underlying3, sizeOf, typeInfo, zeroValue, hi, hz, hs, hby, asInt, asIntOf, hw, hneg, h48i, hroom, hm, hZ, hst, Addr.add_lit]
    · refine Own.mk' (n := xs.length + m) ⟨hlen, .inr ⟨g, cap, _, rfl, hbg, setRow_heap w g cur _ _ _ hg, hroom, hmx, ?_, ?_⟩⟩ (by simp) rfl
      · simp only [List.size_toArray, List.length_append, List.length_take, List.length_drop, hcl, hlZ]
        omega
      · rw [ht, ← U8_append, ← hlen]
        exact List.take_left
    · exact ⟨rfl, rfl, rfl, by simp, fun k _ hk => setRow_other w g k _ (fun e => hk (by rw [e]))⟩
  · have hn : ¬ (xs.length + m ≤ cap) := hroom
    have hm : m ≠ 0 := by omega
    have h63' : ¬ (9223372036854775807 < ((xs.length : Int) + (m : Int))) := by omega
    have hfit : Builtin.nextslicecap (xs.length + m) cap * 1 ≤ 281474976710656 := growslice_fits (by omega) (by omega)
    have h48' : ¬ (281474976710656 < Builtin.nextslicecap (xs.length + m) cap) := by omega
    have holds : ∀ j u, (U8 xs)[j]? = some u → w.cell? ((⟨g, 0, none⟩ : Addr).add j) = some u := hown.rd.cells
    have hfo := run_firstCells_some (P := Tryd.prog) w.drew i.size xs.length ⟨g, 0, none⟩ xs.length cap (U8 xs) (by rw [hs, U8_length]; omega) (by simpa using holds)
    rw [hs] at hfo
    have hge := grownCap_ge w (xs.length + m) cap 5
    have hcm : grownCap w (xs.length + m) cap 5 ≤ maxLen := grownCap_le_maxLen w (xs.length + m) cap 5 (by simp only [maxLen]; omega)
    refine ⟨.slice (some ⟨w.heap.size, 0, none⟩) (xs.length + m) (grownCap w (xs.length + m) cap 5), w.drew.alloc (.cells ((U8 xs).toArray ++ (U8 (List.replicate m 0)).toArray ++ Builtin.zeroCells (Value.cells (.int .u8 0)) (grownCap w (xs.length + m) cap 5 - (xs.length + m))) 5), ?_, ?_, ?_, .inr rfl⟩
    · simp [Builtin.append_, run_underlying Tryd.underlying34, run_underlying Tryd.underlying3, sizeOf, typeInfo, zeroValue, hi, hz, hs, hby, asInt, asIntOf, hw, hneg, h48i, hn, hm, h63', h48', hZ, hfo, Question.forced, newRow, grownCap]
      congr 2
      apply Array.ext'
      simp [List.append_assoc]
    · refine Own.mk' (n := xs.length + m) ⟨hlen, .inr ⟨w.heap.size, _, _, rfl, hbase, heap_alloc_new w.drew _, hge, hcm, ?_, ?_⟩⟩ (by simp) rfl
      · simp only [Array.size_append, List.size_toArray, size_zeroCells, hlZ, U8_length]
        simp [Value.cells]
        omega
      · simp only [Array.toList_append, List.append_assoc]
        rw [← List.append_assoc, ← U8_append, ← hlen]
        exact List.take_left
    · exact ⟨rfl, rfl, rfl, by simp, fun k hk _ => heap_alloc_old w.drew _ hk⟩

/-- THE ARM: 'append(data, make([]byte, m)...)', data an own row that is not nil. -/
theorem app_zeros {w : World} {ops : Array Oper} {rest : List Oper} {o : Oper} {a : Act} {Q : Exit → Act → World → Prop} (hgd : o.guard = none) (s x : Operand)
    (ho : o.op = .call { callee := .builtin .append, args := #[s, x], argTypes := #[34, 3] })
    (base g n cap : Nat) (xs : List Int) (hs : a.eval s = .slice (some ⟨g, 0, none⟩) n cap) (hown : Own w base (.slice (some ⟨g, 0, none⟩) n cap) xs) (z : Int) (m : Nat)
    (hx : a.eval x = .int .i64 z) (hz : z = (m : Int)) (hb : xs.length + m ≤ 140737488355328) (hbase : base ≤ w.heap.size)
    (h : ∀ v' w', Own w' base v' (xs ++ List.replicate m 0) → Below base w w' → w.grownBy w' (some g) → (v'.ownBlock = some g ∨ v'.ownBlock = some w.heap.size) → wpList Tryd.prog ops Q rest (a.put o.dst v') w') :
    wpList Tryd.prog ops Q (o :: rest) a w := by
  subst hz
  refine wpList_plain hgd fun K hK => ?_
  obtain ⟨v', w', hrun, h2, h3, h4⟩ := run_app_zeros w o.type base g n cap xs hown m hb hbase
  unfold Oper.wp execOp
  simp only [ho, resolve, invoke, builtin, Sem.run_bind, Sem.run_pure, Result.andThen_ok, List.map_toArray, List.map_cons, List.map_nil, hs, hx, hrun]
  exact hK _ _ (h v' w' h2 (below_of_grown h3 hbase (fun k hk => (hown.lt (by simpa [Value.ownBlock] using hk)).1)) h3 h4)

/-- An append onto an own row that has room: in place. -/
theorem run_app_room (w : World) (ty : TypeId) (base g n cap : Nat) (xs : List Int) (hown : Own w base (.slice (some ⟨g, 0, none⟩) n cap) xs) (B : Nat) (A : Option Addr) (c : Nat) (ys : List Int) (hr : Rd w B A .u8 ys) (h0 : 0 < ys.length) (hroom : n + ys.length ≤ cap) :
    ∃ w', (Builtin.append_ #[34, 34] ty #[.slice (some ⟨g, 0, none⟩) n cap, .slice A ys.length c]).run Tryd.prog w = .ok (.slice (some ⟨g, 0, none⟩) (n + ys.length) cap) w' ∧ Own w' base (.slice (some ⟨g, 0, none⟩) (n + ys.length) cap) (xs ++ ys) ∧ w.grownBy w' (some g) := by
  obtain rfl := hown.len
  obtain ⟨i, hi, hz, hs, hby⟩ := info_parts u8info
  obtain ⟨g', cap', cur, e, hbg, hg, hnc, hmx, hcs, ht⟩ := hown.2.resolve_left (by simp)
  simp only [Value.slice.injEq, Option.some.injEq, Addr.mk.injEq, and_true] at e
  obtain ⟨rfl, _, rfl⟩ := e
  obtain ⟨b, off, rfl, _, _⟩ := hr.at0 h0
  have hcl : cur.toList.length = cap := by simpa using hcs
  have hlen : (U8 (xs ++ ys)).length = (xs.length + ys.length) * 1 := by simp [U8]
  rw [Nat.mul_one] at ht
  have hrun := run_append_room (P := Tryd.prog) w 34 ty 5 i Tryd.underlying34 hi g xs.length cap cur hg ⟨b, off, none⟩ ys.length c (U8 ys) (by rw [U8_length, hs]; omega) hr.cells (U8_one ys) hroom (by rw [hs, U8_length, ← Array.length_toList]; omega)
  rw [hs, Nat.mul_one] at hrun
  refine ⟨_, hrun, ?_, ⟨rfl, rfl, rfl, by simp, fun k _ hk => setRow_other w g k _ (fun e => hk (by rw [e]))⟩⟩
  refine Own.mk' (n := xs.length + ys.length) ⟨hlen, .inr ⟨g, cap, _, rfl, hbg, setRow_heap w g cur _ _ _ hg, hroom, hmx, ?_, ?_⟩⟩ (by simp) rfl
  · simp only [List.size_toArray, List.length_append, List.length_take, List.length_drop, hcl, U8_length]
    omega
  · rw [ht, ← U8_append, ← hlen]
    exact List.take_left
/-- THE ARM. -/
theorem app_room {w : World} {ops : Array Oper} {rest : List Oper} {o : Oper} {a : Act} {Q : Exit → Act → World → Prop} (hgd : o.guard = none) (s x : Operand)
    (ho : o.op = .call { callee := .builtin .append, args := #[s, x], argTypes := #[34, 34] })
    (base g n cap : Nat) (xs : List Int) (hs : a.eval s = .slice (some ⟨g, 0, none⟩) n cap) (hown : Own w base (.slice (some ⟨g, 0, none⟩) n cap) xs) (B : Nat) (A : Option Addr) (m c : Nat) (ys : List Int)
    (hx : a.eval x = .slice A m c) (hm : m = ys.length) (hr : Rd w B A .u8 ys) (h0 : 0 < ys.length) (hroom : n + ys.length ≤ cap)
    (h : ∀ w', Own w' base (.slice (some ⟨g, 0, none⟩) (n + ys.length) cap) (xs ++ ys) → w.grownBy w' (some g) → wpList Tryd.prog ops Q rest (a.put o.dst (.slice (some ⟨g, 0, none⟩) (n + ys.length) cap)) w') :
    wpList Tryd.prog ops Q (o :: rest) a w := by
  subst hm
  refine wpList_plain hgd fun K hK => ?_
  obtain ⟨w', hrun, h2, h3⟩ := run_app_room w o.type base g n cap xs hown B A c ys hr h0 hroom
  unfold Oper.wp execOp
  simp only [ho, resolve, invoke, builtin, Sem.run_bind, Sem.run_pure, Result.andThen_ok, List.map_toArray, List.map_cons, List.map_nil, hs, hx, hrun]
  exact hK _ _ (h w' h2 h3)

end Go.Proofs.YtebeekjcepjcnaaDoor
