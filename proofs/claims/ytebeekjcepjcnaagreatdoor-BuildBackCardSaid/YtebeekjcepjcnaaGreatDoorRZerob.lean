/-
  An append of zeros whose number is a uint8, onto an own row.
-/
import Derived.Test.YtebeekjcepjcnaaGreatDoorRData
namespace Go.Proofs.YtebeekjcepjcnaaGreatDoor
open Go.RowKit
theorem run_app_u8 (w : World) (ty : TypeId) (A : Option Addr) (n cap : Nat) (m : Int) : (Builtin.append_ #[26, 5] ty #[.slice A n cap, .int .u8 m]).run Tryz.prog w = (Builtin.append_ #[26, 3] ty #[.slice A n cap, .int .i64 m]).run Tryz.prog w := by
  simp [Builtin.append_, run_underlying Tryz.underlying26, run_underlying Tryz.underlying3, run_underlying Tryz.underlying5, asInt, asIntOf]
/-- THE ARM: 'append(data, make([]byte, m)...)', m a uint8. -/
theorem app_zeros8 {w : World} {ops : Array Oper} {rest : List Oper} {o : Oper} {a : Act} {Q : Exit → Act → World → Prop} (hgd : o.guard = none) (s x : Operand)
    (ho : o.op = .call { callee := .builtin .append, args := #[s, x], argTypes := #[26, 5] })
    (base g n cap : Nat) (xs : List Int) (hs : a.eval s = .slice (some ⟨g, 0, none⟩) n cap) (hown : Own w base (.slice (some ⟨g, 0, none⟩) n cap) xs) (z : Int) (m : Nat)
    (hx : a.eval x = .int .u8 z) (hz : z = (m : Int)) (hb : xs.length + m ≤ 140737488355328) (hbase : base ≤ w.heap.size)
    (h : ∀ v' w', Own w' base v' (xs ++ List.replicate m 0) → Below base w w' → w.grownBy w' (some g) → (v'.ownBlock = some g ∨ v'.ownBlock = some w.heap.size) → wpList Tryz.prog ops Q rest (a.put o.dst v') w') :
    wpList Tryz.prog ops Q (o :: rest) a w := by
  subst hz
  refine wpList_plain hgd fun K hK => ?_
  obtain ⟨v', w', hrun, h2, h3, h4⟩ := run_app_zeros w o.type base g n cap xs hown m hb hbase
  rw [← run_app_u8] at hrun
  unfold Oper.wp execOp
  simp only [ho, resolve, invoke, builtin, Sem.run_bind, Sem.run_pure, Result.andThen_ok, List.map_toArray, List.map_cons, List.map_nil, hs, hx, hrun]
  exact hK _ _ (h v' w' h2 (below_of_grown h3 hbase (fun k hk => (hown.lt (by simpa [Value.ownBlock] using hk)).1)) h3 h4)
end Go.Proofs.YtebeekjcepjcnaaGreatDoor
