/-
  An append onto an empty slice of the call's own that has no room: a new block, or nothing.
-/
import Derived.Lib.MinMax
import Derived.Test.YtebeekjcepjcnaaGreatDoorRIprd
namespace Go.Proofs.YtebeekjcepjcnaaGreatDoor
open Go.RowKit
theorem run_append_none (w : World) (g : Nat) (ty : TypeId) (A : Option Addr) (c : Nat) :
    (Builtin.append_ #[26, 26] ty #[.slice (some ⟨g, 0, none⟩) 0 0, .slice A 0 c]).run Tryz.prog w = .ok (.slice (some ⟨g, 0, none⟩) 0 0) w := by
  obtain ⟨i, hi, _, _, _⟩ := info_parts u8info
  rcases A with _ | ad <;> simp [Builtin.append_, run_underlying Tryz.underlying26, sizeOf, typeInfo, hi, Builtin.lenOf, Builtin.firstCells, storeCells, loadCells, loadCellsFrom]
theorem app_fresh {w : World} {ops : Array Oper} {rest : List Oper} {o : Oper} {a : Act} {Q : Exit → Act → World → Prop} (hgd : o.guard = none) (s x : Operand)
    (ho : o.op = .call { callee := .builtin .append, args := #[s, x], argTypes := #[26, 26] })
    (base g : Nat) (hs : a.eval s = .slice (some ⟨g, 0, none⟩) 0 0) (hown : Own w base (.slice (some ⟨g, 0, none⟩) 0 0) []) (B : Nat) (A : Option Addr) (m c : Nat) (ys : List Int)
    (hx : a.eval x = .slice A m c) (hm : m = ys.length) (hr : Rd w B A .u8 ys) (hb : ys.length ≤ 140737488355328) (hbase : base ≤ w.heap.size)
    (h : ∀ v' w', Own w' base v' ys → Below w.heap.size w w' → wpList Tryz.prog ops Q rest (a.put o.dst v') w') :
    wpList Tryz.prog ops Q (o :: rest) a w := by
  subst hm
  by_cases h0 : ys = []
  · subst h0
    refine wpList_plain hgd fun K hK => ?_
    have hrun := run_append_none w g o.type A c
    unfold Oper.wp execOp
    simp only [ho, resolve, invoke, builtin, Sem.run_bind, Sem.run_pure, Result.andThen_ok, List.map_toArray, List.map_cons, List.map_nil, hs, hx, List.length_nil, hrun]
    exact hK _ _ (h _ _ hown (Below.refl _ _))
  · have hl : 0 < ys.length := List.length_pos_iff.2 h0
    exact app_grow hgd s x ho base g 0 0 [] hs hown B A ys.length c ys hx rfl hr hl (by omega) (by omega) base hbase h
theorem sl_injg : ∀ g h : Nat, Value.slice (some ⟨g, 0, none⟩) 0 0 = Value.slice (some ⟨h, 0, none⟩) 0 0 → g = h := fun g h e => by simpa using e
theorem sl_inj0 (m : Nat) : ∀ x y : Option Addr × Nat, (Value.slice x.1 m x.2) = .slice y.1 m y.2 → x = y := fun x y h => by
  injection h with h1 h2 h3
  exact Prod.ext h1 h3
end Go.Proofs.YtebeekjcepjcnaaGreatDoor
