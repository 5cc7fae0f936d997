/-
  A region that draws its order, by an invariant: whatever order its edges allow, each operation takes the invariant on.
-/
import Derived.WalkKit
import Derived.WalkSpells
import Derived.WalkLawsBesides
import Derived.WalkSmall
import Derived.Lib.Hide
import Derived.Deep.AppendLies
import Derived.Maps.AppendAt
import Derived.Laws.AppendOwnNone
import Derived.Laws.CopyOwn
import Derived.OneCell
import Derived.Orders
import Derived.RegionTactic
import Derived.Test.YtebeekjcepjcnaaDoorEBase
namespace Go.Proofs.YtebeekjcepjcnaaDoor
open Go.RowKit

theorem ready_nil_all {ops : Array Oper} {listed : Array Bool} (hsz : listed.size = ops.size) (hdep : ∀ (i : Nat) (o : Oper), ops[i]? = some o → ∀ e : Edge, e ∈ o.after → Region.binds .any e = true → e.on < i) (hr : Region.ready .any ops listed = []) :
    ∀ i, i < ops.size → listed.getD i true = true := by
  intro i
  induction i using Nat.strongRecOn with
  | ind i ih =>
    intro hi
    rcases hb : listed.getD i true with _ | _
    · exfalso
      have hmem : i ∈ Region.ready .any ops listed := by
        unfold Region.ready
        rw [List.mem_filter]
        refine ⟨List.mem_range.2 hi, ?_⟩
        rw [hb]
        have ho : ops[i]? = some ops[i] := Array.getElem?_eq_getElem hi
        rw [ho]
        simp only [Option.map_some, Option.getD_some, Bool.not_false, Bool.true_and]
        rw [Array.all_eq_true']
        intro e he
        rcases hbe : Region.binds .any e with _ | _
        · simp
        have hlt := hdep i _ ho e he hbe
        have := ih e.on hlt (by omega)
        have hs : e.on < listed.size := by omega
        rw [Array.getD_eq_getD_getElem?, Array.getElem?_eq_getElem hs] at this ⊢
        simp only [Option.getD_some] at this ⊢
        rw [this]; simp
      rw [hr] at hmem
      cases hmem
    · rfl

def depsOk (ops : Array Oper) : Bool := (List.range ops.size).all fun i => ((ops[i]?).map fun o => o.after.all fun e => !Region.binds .any e || decide (e.on < i)).getD true
theorem depsOk_spec {ops : Array Oper} (h : depsOk ops = true) : ∀ (i : Nat) (o : Oper), ops[i]? = some o → ∀ e : Edge, e ∈ o.after → Region.binds .any e = true → e.on < i := by
  intro i o ho e he hbe
  have hi : i < ops.size := (Array.getElem?_eq_some_iff.1 ho).1
  have := List.all_eq_true.1 h i (List.mem_range.2 hi)
  rw [ho] at this
  simp only [Option.map_some, Option.getD_some] at this
  rw [Array.all_eq_true'] at this
  have h2 := this e he
  rw [hbe] at h2
  simpa using h2

section
variable {P : Program} {ops : Array Oper} {Q : Exit → Act → World → Prop}

theorem wpOp_of_list {i : Nat} {o : Oper} {K : Act → World → Prop} {a : Act} {w : World} (ho : ops[i]? = some o) (h : wpList P ops (Exit.then K Q) [o] a w) : wpOp P ops Q i K a w := by
  unfold wpOp
  rw [ho]
  simp only [wpList] at h
  by_cases hw : Region.wanted o (yielded ops a.tmps) = true
  · simp only [hw, if_true] at h ⊢
    refine h.imp (fun h => ?_) (fun ⟨h1, h2⟩ => ⟨h1, h2⟩)
    have h' := Oper.wp_mono (K' := K) (fun a w hk => hk) h
    unfold Oper.wp at h' ⊢
    generalize (execOp a.eval o).run P w = r at *
    cases r with
    | ok n w' =>
      cases n <;> simp only [Oper.upon] at h' ⊢ <;> first
        | exact h'
        | exact h'.mono (fun e w'' he => by cases e <;> exact he)
    | halt x w' => cases x <;> simp only [Oper.upon] at h' ⊢ <;> exact h'
  · simp only [hw] at h ⊢
    exact h

theorem wpAny_inv (hdep : ∀ (i : Nat) (o : Oper), ops[i]? = some o → ∀ e : Edge, e ∈ o.after → Region.binds .any e = true → e.on < i) (I : (Nat → Bool) → Act → World → Prop)
    (hstep : ∀ (L : Nat → Bool) (a : Act) (w : World) (i : Nat) (o : Oper), ops[i]? = some o → L i = false → (∀ e : Edge, e ∈ o.after → Region.binds .any e = true → L e.on = true) → I L a w → wpList P ops (Exit.then (I (fun j => j == i || L j)) Q) [o] a w)
    (hend : ∀ (L : Nat → Bool) (a : Act) (w : World), (∀ i, i < ops.size → L i = true) → I L a w → Q .normal a w) :
    ∀ (fuel : Nat) (listed : Array Bool) (a : Act) (w : World), listed.size = ops.size → ops.size ≤ fuel + (listed.toList.filter (· == true)).length →
      I (fun j => listed.getD j false) a w → wpAny P .any ops Q fuel listed a w := by
  have hget : ∀ (listed : Array Bool) (i : Nat), i < listed.size → listed.getD i true = listed.getD i false := by
    intro l i hi
    rw [Array.getD_eq_getD_getElem?, Array.getD_eq_getD_getElem?, Array.getElem?_eq_getElem hi]; rfl
  have hend' : ∀ (listed : Array Bool) (a : Act) (w : World), listed.size = ops.size → I (fun j => listed.getD j false) a w → Region.ready .any ops listed = [] → Q .normal a w := by
    intro listed a w hsz hI hr
    refine hend _ a w (fun i hi => ?_) hI
    have := ready_nil_all hsz hdep hr i hi
    rwa [hget _ _ (by omega)] at this
  intro fuel
  induction fuel with
  | zero =>
    intro listed a w hsz hf hI
    have hall : ∀ b ∈ listed.toList, (b == true) = true := by
      have hl : (listed.toList.filter (· == true)).length = listed.toList.length := by
        have h1 := List.length_filter_le (· == true) listed.toList
        have h2 : listed.toList.length = listed.size := Array.length_toList
        omega
      exact List.length_filter_eq_length_iff.1 hl
    have hr : Region.ready .any ops listed = [] := by
      unfold Region.ready
      rw [List.filter_eq_nil_iff]
      intro i hi
      have hi' : i < listed.size := by rw [hsz]; exact List.mem_range.1 hi
      have : listed.getD i true = true := by
        rw [Array.getD_eq_getD_getElem?, Array.getElem?_eq_getElem hi']
        have := hall listed[i] (by simp)
        simpa using this
      rw [this]; simp
    exact ⟨hr, hend' listed a w hsz hI hr⟩
  | succ fuel ih =>
    intro listed a w hsz hf hI
    refine ⟨fun hr => hend' listed a w hsz hI hr, fun i hi => ?_⟩
    unfold Region.ready at hi
    rw [List.mem_filter] at hi
    obtain ⟨hir, hc⟩ := hi
    have hil : i < ops.size := List.mem_range.1 hir
    have ho : ops[i]? = some ops[i] := Array.getElem?_eq_getElem hil
    rw [ho] at hc
    simp only [Option.map_some, Option.getD_some, Bool.and_eq_true, Bool.not_eq_true'] at hc
    obtain ⟨hc1, hc2⟩ := hc
    rw [Array.all_eq_true'] at hc2
    have hs := hstep (fun j => listed.getD j false) a w i _ ho (by rw [← hget _ _ (by omega)]; exact hc1) (fun e he hb => by
      have := hc2 e he
      rw [hb] at this
      simpa using this) hI
    refine wpOp_mono (fun a' w' hI' => ?_) (wpOp_of_list ho hs)
    refine ih _ a' w' (by simpa using hsz) ?_ ?_
    · have hfalse : listed[i]'(by omega) = false := by
        have := hc1
        rw [Array.getD_eq_getD_getElem?, Array.getElem?_eq_getElem (by omega)] at this
        simpa using this
      have hcount : ((listed.setIfInBounds i true).toList.filter (· == true)).length = (listed.toList.filter (· == true)).length + 1 := by
        rw [Array.toList_setIfInBounds]
        have hil' : i < listed.toList.length := by rw [Array.length_toList]; omega
        have hg : listed.toList[i] = false := by simpa using hfalse
        have e1 : listed.toList = listed.toList.take i ++ false :: listed.toList.drop (i + 1) := by
          conv => lhs; rw [← List.take_append_drop i listed.toList]
          rw [List.drop_eq_getElem_cons hil', hg]
        have e2 : listed.toList.set i true = listed.toList.take i ++ true :: listed.toList.drop (i + 1) := by
          rw [List.set_eq_take_append_cons_drop, if_pos hil']
        rw [e2]
        conv => rhs; rw [e1]
        simp [List.filter_append]
        omega
      omega
    · have : (fun j => (listed.setIfInBounds i true).getD j false) = fun j => j == i || listed.getD j false := by
        funext j
        by_cases hj : j = i
        · subst hj
          simp [Array.getD_eq_getD_getElem?, show j < listed.size by omega]
        · simp [Array.getD_eq_getD_getElem?, hj, Ne.symm hj]
      rw [this]
      exact hI'

/-- THE LAW: a region that draws its order, by an invariant. -/
theorem wp_region_inv {id : Nat} {a : Act} {w : World} (hm : P.follows .mixedOrders = true) (hdep : ∀ (i : Nat) (o : Oper), ops[i]? = some o → ∀ e : Edge, e ∈ o.after → Region.binds .any e = true → e.on < i) (I : (Nat → Bool) → Act → World → Prop)
    (h0 : I (fun _ => false) a w.drew)
    (hstep : ∀ (L : Nat → Bool) (a : Act) (w : World) (i : Nat) (o : Oper), ops[i]? = some o → L i = false → (∀ e : Edge, e ∈ o.after → Region.binds .any e = true → L e.on = true) → I L a w → wpList P ops (Exit.then (I (fun j => j == i || L j)) Q) [o] a w)
    (hend : ∀ (L : Nat → Bool) (a : Act) (w : World), (∀ i, i < ops.size → L i = true) → I L a w → Q .normal a w) : (Code.region id ops true).wp P Q a w := by
  refine wp_region_any hm (wpAny_inv hdep I hstep hend ops.size _ a _ (by simp) (by omega) ?_)
  have : (fun j => (Array.replicate ops.size false).getD j false) = fun _ => false := by
    funext j
    simp only [Array.getD_eq_getD_getElem?, Array.getElem?_replicate]
    split <;> rfl
  rw [this]
  exact h0
end
/-- The values of the operations that are done, one by one. -/
def upd (v : Nat → Value) (i : Nat) (x : Value) : Nat → Value := fun j => if j = i then x else v j
theorem upd_facts {F : Nat → Value → World → Prop} {L : Nat → Bool} {v : Nat → Value} {w w' : World} {i : Nat} {x : Value} (hF : ∀ j, L j = true → F j (v j) w) (hm : ∀ j y, F j y w → F j y w') (hx : F i x w') :
    ∀ j, (j == i || L j) = true → F j (upd v i x j) w' := by
  intro j hj
  unfold upd
  by_cases h : j = i
  · rw [if_pos h]; subst h; exact hx
  · rw [if_neg h]
    have : L j = true := by simpa [h] using hj
    exact hm _ _ (hF j this)
theorem results_cell_tmp {P : Program} {fn : Func} {p q : Tmp} {ty : TypeId} (h : fn.results = #[.cell p ty, .tmp q]) (tmps : Array Value) (w : World) (g : Nat) (t : TypeId) (cs : Array Value) (fr : Nat × Nat) (d : TypeDesc)
    (hp : tmps.getD p undef = .pointer (some ⟨g, 0, none⟩)) (hg : w.heap[g]? = some (.cells cs t fr))
    (hu : P.underlying ty = some d) (hd : (match d with | .struct _ | .array _ _ => true | _ => false) = true) (hi : (P.info? ty).map (·.size) = some cs.size) :
    (results fn tmps).run P w = .ok (.tuple #[.agg cs, tmps.getD q undef]) w := by
  have hp' : tmps[p]?.getD undef = .pointer (some ⟨g, 0, none⟩) := by simpa using hp
  simp [results, h, hp', asAddr, run_loadVar_row w g t ty cs fr d hg hu hd hi]

theorem setRow_new (W : World) (old cells : Array Value) (t : TypeId) : (W.alloc (.cells old t)).setRow W.heap.size cells = W.alloc (.cells cells t) := by
  have h : ∀ f : Obj → Obj, f (.cells old t) = .cells cells t → (W.heap.push (.cells old t)).modify W.heap.size f = W.heap.push (.cells cells t) := fun f hf => by
    refine Array.ext (by simp) fun i h1 h2 => ?_
    rw [Array.getElem_modify]
    by_cases hi : W.heap.size = i
    · subst hi; simp [hf]
    · simp only [Array.size_modify, Array.size_push] at h1
      rw [if_neg hi, Array.getElem_push_lt (by omega), Array.getElem_push_lt (by omega)]
  show ({ (W.alloc (.cells old t)) with heap := _ } : World) = _
  rw [show (W.alloc (.cells old t)).heap = W.heap.push (.cells old t) from rfl, h _ rfl]
  rfl

/-- A struct stored into the block that was made just before. -/
theorem wpList_store_new {P : Program} {ops : Array Oper} {rest : List Oper} {o : Oper} {a : Act} {W : World} {Q : Exit → Act → World → Prop} (hgd : o.guard = none) (ty : TypeId) (x y : Operand) (ho : o.op = .store ty x y)
    (g : Nat) (cells : Array Value) (hx : a.eval x = .pointer (some ⟨g, 0, none⟩)) (hy : a.eval y = .agg cells)
    (t : TypeId) (old : Array Value) (hg : g = W.heap.size) (hi : (P.info? ty).map (·.size) = some cells.size)
    (hold : old.size = cells.size) (h1 : cells.all (·.oneCell') = true)
    (h : wpList P ops Q rest (a.put o.dst undef) (W.alloc (.cells cells t))) : wpList P ops Q (o :: rest) a (W.alloc (.cells old t)) := by
  subst hg
  refine wpList_store_row hgd ty x y ho _ cells hx hy t old (heap_alloc_new W _) hi hold h1 ?_
  rw [setRow_new]
  exact h

/-- Is the next operation a store? -/
theorem look_store {P : Program} {ops : Array Oper} {Q : Exit → Act → World → Prop} {a : Act} {w : World} {rest : List Oper} {d : Option Tmp} {ty t : TypeId} {x y : Operand} {p : String} {af : Array Edge} {g : Option (Nat × Bool)}
    (h : wpList P ops Q ((⟨d, .store ty x y, t, p, af, g⟩ : Oper) :: rest) a w) : wpList P ops Q ((⟨d, .store ty x y, t, p, af, g⟩ : Oper) :: rest) a w := h

end Go.Proofs.YtebeekjcepjcnaaDoor
