/-
  Laws on byte slices at this seat's program: an append onto a row of the call's own, whatever its source; make; copy.
  Package csum of the program, and slices.Clone: what each call returns, as plain functions on lists of bytes.
-/
import Derived.Test.YtebeekjcepjcnaaDoorProg
import Derived.WalkKit
import Derived.WalkSpells
import Derived.WalkLawsBesides
import Derived.WalkSmall
import Derived.Lib.Hide
import Derived.Deep.AppendLies
import Derived.Maps.AppendAt
import Derived.Laws.AppendOwnNone
import Derived.Laws.CopyOwn
import Derived.OneCell
import Derived.Lib.SliceRun
import Derived.RangeFuncNested
import Derived.RangeFuncBound
import Derived.RangeFuncCalls
import Derived.RangeFuncLeaves
import Derived.Shelf.Abstract
import Derived.OwnWalkIn
import Derived.TacticsInMore
import Derived.LoopNIn
import Derived.LoopIn
import Derived.Test.YtebeekjcepjcnaaDoorKBase
namespace Go.Proofs.YtebeekjcepjcnaaDoor
open Go.RowKit

theorem u8info : (Tryd.prog.info? 5).map (fun i => (i.zero, i.size, i.bytes)) = some (some (.int .u8 0), 1, 1) := by kernel_rfl

theorem run_append_empty (w : World) (base : Nat) (v : Value) (n : Nat) (xs : List Value) (ty : TypeId) (hown : w.ownsRow base 5 1 v n xs) (c : Nat) :
    (Builtin.append_ #[34, 34] ty #[v, .slice none 0 c]).run Tryd.prog w = .ok v w := by
  obtain ⟨i, hi, _, _, _⟩ := info_parts u8info
  rcases hown.2 with ⟨rfl, rfl⟩ | ⟨g, cap, cur, rfl, _, _, hnc, _⟩
  · simp [Builtin.append_, run_underlying Tryd.underlying34, sizeOf, typeInfo, hi, Builtin.lenOf, Builtin.firstCells]
  · simp [Builtin.append_, run_underlying Tryd.underlying34, sizeOf, typeInfo, hi, Builtin.lenOf, Builtin.firstCells, hnc, storeCells]

/-- An append onto an own row: the run. -/
theorem run_app (w : World) (ty : TypeId) (base : Nat) (v : Value) (xs : List Int) (hown : Own w base v xs) (B : Nat) (A : Option Addr) (c : Nat) (ys : List Int)
    (hr : Rd w B A .u8 ys) (hb : xs.length + ys.length ≤ 140737488355328) (hbase : base ≤ w.heap.size) :
    ∃ v' w', (Builtin.append_ #[34, 34] ty #[v, .slice A ys.length c]).run Tryd.prog w = .ok v' w' ∧ Own w' base v' (xs ++ ys) ∧ w.grownBy w' v.ownBlock ∧
      (v'.ownBlock = v.ownBlock ∨ v'.ownBlock = some w.heap.size) := by
  obtain ⟨i, hi, hz, hs, hby⟩ := info_parts u8info
  by_cases h0 : ys = []
  · subst h0
    rcases A with _ | ad
    · exact ⟨v, w, run_append_empty w base v _ _ ty hown c, by simpa using hown, World.grownBy.refl w _, .inl rfl⟩
    · obtain ⟨v', w', hrun, h2, h3, _, h5⟩ := run_append_own_at (P := Tryd.prog) w base 34 ty 5 i _ 1 1 Tryd.underlying34 hi hz hs hby rfl (by omega) v xs.length (U8 xs) hown ad 0 c [] rfl (by simp) (by simp) (by simp only [maxLen]; omega) (by simpa using hb) hbase
      exact ⟨v', w', hrun, by simpa [Own] using h2, h3, h5⟩
  · have hl : 0 < ys.length := List.length_pos_iff.2 h0
    obtain ⟨b, off, rfl, _, _⟩ := hr.at0 hl
    obtain ⟨v', w', hrun, h2, h3, _, h5⟩ := run_append_own_at (P := Tryd.prog) w base 34 ty 5 i _ 1 1 Tryd.underlying34 hi hz hs hby rfl (by omega) v xs.length (U8 xs) hown ⟨b, off, none⟩ ys.length c (U8 ys) (by simp [U8]) hr.cells (U8_one ys) (by simp only [maxLen]; omega) (by omega) hbase
    exact ⟨v', w', hrun, Own.mk' h2 (by simp) (U8_append _ _).symm, h3, h5⟩

/-- THE ARM: 'out = append(out, src...)', out an own row: go_wp2_with (at_builtin; refine app_own ..). -/
theorem app_own {w : World} {ops : Array Oper} {rest : List Oper} {o : Oper} {a : Act} {Q : Exit → Act → World → Prop} (hgd : o.guard = none) (s x : Operand)
    (ho : o.op = .call { callee := .builtin .append, args := #[s, x], argTypes := #[34, 34] })
    (base : Nat) (v : Value) (xs : List Int) (hs : a.eval s = v) (hown : Own w base v xs) (B : Nat) (A : Option Addr) (m c : Nat) (ys : List Int)
    (hx : a.eval x = .slice A m c) (hm : m = ys.length) (hr : Rd w B A .u8 ys) (hb : xs.length + ys.length ≤ 140737488355328) (hbase : base ≤ w.heap.size)
    (h : ∀ v' w', Own w' base v' (xs ++ ys) → Below base w w' → w.grownBy w' v.ownBlock → (v'.ownBlock = v.ownBlock ∨ v'.ownBlock = some w.heap.size) → wpList Tryd.prog ops Q rest (a.put o.dst v') w') :
    wpList Tryd.prog ops Q (o :: rest) a w := by
  subst hm
  refine wpList_plain hgd fun K hK => ?_
  obtain ⟨v', w', hrun, h2, h3, h4⟩ := run_app w o.type base v xs hown B A c ys hr hb hbase
  unfold Oper.wp execOp
  simp only [ho, resolve, invoke, builtin, Sem.run_bind, Sem.run_pure, Result.andThen_ok, List.map_toArray, List.map_cons, List.map_nil, hs, hx, hrun]
  exact hK _ _ (h v' w' h2 (below_of_grown h3 hbase (fun g hg => (hown.lt hg).1)) h3 h4)

/-- The same as one step of a region that draws its order. -/
theorem step_app_own {w : World} {ops : Array Oper} {o : Oper} {a : Act} {K : Act → World → Prop} {Q : Exit → Act → World → Prop} {E : Prop} (hgd : o.guard = none) (s x : Operand)
    (ho : o.op = .call { callee := .builtin .append, args := #[s, x], argTypes := #[34, 34] })
    (base : Nat) (v : Value) (xs : List Int) (hs : a.eval s = v) (hown : Own w base v xs) (B : Nat) (A : Option Addr) (m c : Nat) (ys : List Int)
    (hx : a.eval x = .slice A m c) (hm : m = ys.length) (hr : Rd w B A .u8 ys) (hb : xs.length + ys.length ≤ 140737488355328) (hbase : base ≤ w.heap.size)
    (h : ∀ v' w', Own w' base v' (xs ++ ys) → Below base w w' → w.grownBy w' v.ownBlock → (v'.ownBlock = v.ownBlock ∨ v'.ownBlock = some w.heap.size) → K (a.put o.dst v') w') :
    if Region.wanted o (yielded ops a.tmps) = true then Oper.wp Tryd.prog o a w K Q else E := by
  have hw : Region.wanted o (yielded ops a.tmps) = true := by simp [Region.wanted, hgd]
  rw [if_pos hw]
  subst hm
  obtain ⟨v', w', hrun, h2, h3, h4⟩ := run_app w o.type base v xs hown B A c ys hr hb hbase
  unfold Oper.wp execOp
  simp only [ho, resolve, invoke, builtin, Sem.run_bind, Sem.run_pure, Result.andThen_ok, List.map_toArray, List.map_cons, List.map_nil, hs, hx, hrun]
  exact h v' w' h2 (below_of_grown h3 hbase (fun g hg => (hown.lt hg).1)) h3 h4

/-- A block that has just been laid, of these numbers. -/
theorem Rd.new (w : World) (k : IntKind) (xs : List Int) (t : TypeId) : Rd (w.alloc (.cells (xs.map (Value.int k)).toArray t)) (w.heap.size + 1) (some ⟨w.heap.size, 0, none⟩) k xs := by
  refine Rd.of _ 0 (by omega) fun j hj => ?_
  rw [Nat.zero_add, cell_of_row _ _ _ _ _ _ (heap_alloc_new w _)]
  simp [hj]

theorem own_made (w : World) (base n m : Nat) (hnm : n ≤ m) (hm : m ≤ maxLen) (hbase : base ≤ w.heap.size) :
    Own (w.alloc (.cells (madeCells #[.int .u8 0] m) 5)) base (.slice (some ⟨w.heap.size, 0, none⟩) n m) (List.replicate n 0) := by
  refine Own.mk' (n := n) (l := U8 (List.replicate n 0)) ⟨by simp [U8], .inr ⟨w.heap.size, m, _, rfl, hbase, heap_alloc_new w _, hnm, hm, by rw [size_madeCells]; omega, ?_⟩⟩ (by simp) rfl
  rw [toList_madeCells_one, List.take_replicate, ← U8_zeros]
  congr 1; omega

/-- THE ARM: 'make([]byte, n, m)': go_wp2_with (at_make; refine make_own ..). -/
theorem make_own {w : World} {ops : Array Oper} {rest : List Oper} {o : Oper} {a : Act} {Q : Exit → Act → World → Prop} (hgd : o.guard = none) (l c : Operand) (ho : o.op = .makeSlice 34 l c)
    (base : Nat) (kl kc : IntKind) (L C : Int) (n m : Nat) (hl : a.eval l = .int kl L) (hc : a.eval c = .int kc C) (hL : L = (n : Int)) (hC : C = (m : Int)) (hnm : n ≤ m) (hm : m ≤ 140737488355328) (hbase : base ≤ w.heap.size)
    (h : ∀ w', Own w' base (.slice (some ⟨w.heap.size, 0, none⟩) n m) (List.replicate n 0) → Below w.heap.size w w' → w.heap.size < w'.heap.size → wpList Tryd.prog ops Q rest (a.put o.dst (.slice (some ⟨w.heap.size, 0, none⟩) n m)) w') :
    wpList Tryd.prog ops Q (o :: rest) a w := by
  subst hL; subst hC
  obtain ⟨i, hi, hz, hs, hby⟩ := info_parts u8info
  refine wpList_plain hgd fun K hK => ?_
  have hrun := run_make (P := Tryd.prog) w 34 5 i _ Tryd.underlying34 hi hz kl kc (n : Int) (m : Int) (by omega) (by omega) (by rw [hby]; omega) (by omega)
  rw [hs] at hrun
  simp only [Int.toNat_natCast, Nat.mul_one] at hrun
  unfold Oper.wp execOp
  simp only [ho, Sem.run_bind, Sem.run_pure, hl, hc]
  have h2 := h _ (own_made w base n m hnm (by simp only [maxLen]; omega) hbase) ((Below.refl _ _).alloc (Nat.le_refl _) _) (by simp)
  have e : Value.cells (.int .u8 0) = #[.int .u8 0] := rfl
  rw [e] at hrun
  rw [hrun]
  exact hK _ _ h2

end Go.Proofs.YtebeekjcepjcnaaDoor
namespace Go.Proofs.YtebeekjcepjcnaaDoor
open Go.RowKit Go.Shelf
attribute [local go_sem] Oper.semAt_some

set_option maxHeartbeats 400000 in
/-- slices.Clone: a row of the call's own with the same bytes (nil for nil). -/
theorem clone_any (A : Option Addr) (cap : Nat) (bs : List Int) (w : World) (hr : Rd w w.heap.size A .u8 bs) (hl : bs.length ≤ 1000000) :
    Calls Tryd.prog 71 #[.slice A bs.length cap] w fun e w' => ∃ v, e = .returned v ∧ Own w' w.heap.size v bs ∧ Below w.heap.size w w' := by
  have hnil := fun (w : World) a n c => Lib.run_eql_slice_nil (P := Tryd.prog) w 34 5 a n c 0 0 Tryd.underlying34
  rcases A with _ | ad
  · have hb : bs = [] := by
      rcases Nat.eq_zero_or_pos bs.length with h | h
      · exact List.eq_nil_of_length_eq_zero h
      · obtain ⟨b, off, e, _⟩ := hr 0 h; cases e
    subst hb
    go_enter Tryd.func71, Tryd.ntmps71
    go_wp2
    go_ret
    exact ⟨_, rfl, Own.nil_ _ _, Below.refl _ _⟩
  · go_enter Tryd.func71, Tryd.ntmps71
    go_wp2_with (at_builtin; refine app_own rfl _ _ rfl w.heap.size _ [] rfl (Own.mk' (World.ownsRow_lit (base := w.heap.size) w #[] 0 (Nat.le_refl _) (by simp [maxLen]) rfl) rfl rfl) w.heap.size (some ad) _ cap bs rfl rfl (hr.alloc (Nat.le_refl _) _) (by simp; omega) (by simp) ?_; intro v w1 hown hbw _ _)
    go_ret
    exact ⟨_, rfl, hown, (((Below.refl _ _).alloc (Nat.le_refl _) _).trans hbw)⟩

/-- One fold of a 32-bit sum. -/
def fold1 (x : Int) : Int := x % 65536 + x / 65536
def joinL (l : List Int) : Int := l.foldl (fun s w => fold1 (s + w)) 0
theorem fold1_bd2 {x : Int} (h0 : 0 ≤ x) (h1 : x ≤ 131070) : 0 ≤ fold1 x ∧ fold1 x ≤ 65535 := by unfold fold1; omega
theorem joinL_snoc (l : List Int) (x : Int) : joinL (l ++ [x]) = fold1 (joinL l + x) := by simp [joinL]
def U16s (l : List Int) : Prop := ∀ x ∈ l, 0 ≤ x ∧ x < 65536
theorem U16s.at_ {l : List Int} (h : U16s l) (j : Nat) : 0 ≤ l.getD j 0 ∧ l.getD j 0 < 65536 := by
  by_cases hj : j < l.length
  · rw [List.getD_eq_getElem?_getD, List.getElem?_eq_getElem hj]; exact h _ (List.getElem_mem hj)
  · rw [List.getD_eq_getElem?_getD, List.getElem?_eq_none (by omega)]; simp
theorem foldl_joinL_bd (l : List Int) (h : U16s l) : ∀ s, 0 ≤ s → s ≤ 65535 → 0 ≤ l.foldl (fun s w => fold1 (s + w)) s ∧ l.foldl (fun s w => fold1 (s + w)) s ≤ 65535 := by
  induction l with
  | nil => intro s h0 h1; exact ⟨h0, h1⟩
  | cons x l ih =>
    intro s h0 h1
    have hx := h x (by simp)
    have hb := fold1_bd2 (x := s + x) (by omega) (by omega)
    exact ih (fun y hy => h y (by simp [hy])) _ hb.1 hb.2
theorem joinL_bd {l : List Int} (h : U16s l) : 0 ≤ joinL l ∧ joinL l ≤ 65535 := foldl_joinL_bd l h 0 (by omega) (by omega)
theorem U16s.take {l : List Int} (h : U16s l) (k : Nat) : U16s (l.take k) := fun x hx => h x (List.mem_of_mem_take hx)
theorem take_succ_getD (l : List Int) (k : Nat) (h : k < l.length) : l.take (k + 1) = l.take k ++ [l.getD k 0] := by
  rw [List.take_succ_eq_append_getElem h]; simp [h]

theorem and_u32_65535 (x : Int) (h0 : 0 ≤ x) (h1 : x < 4294967296) : bits .and .u32 x 65535 = x % 65536 := by
  rw [u32_and x 65535 h0 h1 (by omega) (by omega)]
  have : (x.toNat &&& (65535 : Int).toNat) = x.toNat % 65536 := Nat.and_two_pow_sub_one_eq_mod x.toNat 16
  rw [this]; omega

set_option maxHeartbeats 400000 in
/-- csum.Join. -/
theorem join_any (A : Option Addr) (cap : Nat) (ws : List Int) (w : World) (hl : ws.length ≤ 1000) (hb : U16s ws) (hr : Rd w w.heap.size A .u16 ws) :
    Calls Tryd.prog 163 #[.slice A ws.length cap] w fun e w' => e = .returned (.int .u16 (joinL ws)) ∧ w = w' := by
  have Hb := Lib.hid hb
  clear hb
  go_enter Tryd.func163, Tryd.ntmps163
  go_wp2
  go_loop [3, 5, 8] (fun s _ i => ∃ k : Nat, k ≤ ws.length ∧ i = .int .i64 k ∧ s = .int .u32 (joinL (ws.take k))) (fun _ _ i => ws.length - (intOf i).toNat)
  case atStart => exact ⟨0, by omega, rfl, rfl⟩
  case round =>
    obtain ⟨k, hk, rfl, rfl⟩ := hrel
    by_cases hlt : k < ws.length
    · obtain ⟨b, off, rfl, _, hcell⟩ := hr k hlt
      have Hs := Lib.hid ((congrArg joinL (take_succ_getD ws k hlt)).trans (joinL_snoc _ _))
      obtain ⟨hr1, hr2⟩ := joinL_bd (Hb.out.take k)
      obtain ⟨hw1, hw2⟩ := Hb.out.at_ k
      generalize hJ : joinL (ws.take k) = J at *
      generalize hX : ws.getD k 0 = x at *
      clear hJ hX
      have ha := and_u32_65535 (J + x) (by omega) (by omega)
      have hm : (J + x) % 4294967296 = J + x := by omega
      go_wp2
      go_round
      case rel =>
        refine ⟨k + 1, by omega, by go_num, ?_⟩
        rw [Hs.out]
        unfold fold1
        exact congrArg _ (by omega)
      case measure => simp [intOf]; omega
    · have hk' : k = ws.length := by omega
      subst hk'
      have hbd := joinL_bd Hb.out
      have Hw := Lib.hid (show joinL (ws.take ws.length) = joinL ws by rw [List.take_length])
      rw [Hw.out]
      obtain ⟨hr1, hr2⟩ := hbd
      have hm : (joinL ws) % 65536 = joinL ws := by omega
      go_wp2
      go_ret
      exact ⟨by simp, rfl⟩

/-- The words of some bytes. -/
def wordAt (bs : List Int) (k : Nat) : Int := 256 * bs.getD (2 * k) 0 + bs.getD (2 * k + 1) 0
def nWords (bs : List Int) : Nat := (bs.length + 1) / 2
def wordsTo (bs : List Int) (k : Nat) : List Int := (List.range k).map (wordAt bs)
def wordsL (bs : List Int) : List Int := wordsTo bs (nWords bs)
theorem wordsTo_succ (bs : List Int) (k : Nat) : wordsTo bs (k + 1) = wordsTo bs k ++ [wordAt bs k] := by simp [wordsTo, List.range_succ]
theorem wordAt_bd {bs : List Int} (h : Byt bs) (k : Nat) : 0 ≤ wordAt bs k ∧ wordAt bs k < 65536 := by
  have h1 := h.at_ (2 * k)
  have h2 := h.at_ (2 * k + 1)
  unfold wordAt; omega

theorem or_u16_word (x y : Int) (hx0 : 0 ≤ x) (hx1 : x < 256) (hy0 : 0 ≤ y) (hy1 : y < 256) : bits .or .u16 (x * 256) y = 256 * x + y := by
  obtain ⟨a, rfl⟩ := Int.eq_ofNat_of_zero_le hx0
  obtain ⟨b, rfl⟩ := Int.eq_ofNat_of_zero_le hy0
  rw [u16_or _ _ (by omega) (by omega) (by omega) (by omega)]
  have e1 : ((a : Int) * 256).toNat = 2 ^ 8 * a := by omega
  have e2 : ((b : Int)).toNat = b := by omega
  rw [e1, e2, ← Nat.two_pow_add_eq_or_of_lt (by omega)]
  omega

abbrev W16 := { x : Int // 0 ≤ x ∧ x < 65536 }
def wordsTo' (bs : List Int) (hb : Byt bs) (k : Nat) : List W16 := (List.range k).map fun j => ⟨wordAt bs j, wordAt_bd hb j⟩
theorem wordsTo'_succ (bs : List Int) (hb : Byt bs) (k : Nat) : wordsTo' bs hb (k + 1) = wordsTo' bs hb k ++ [⟨wordAt bs k, wordAt_bd hb k⟩] := by simp [wordsTo', List.range_succ]
theorem wordsTo'_length (bs : List Int) (hb : Byt bs) (k : Nat) : (wordsTo' bs hb k).length = k := by simp [wordsTo']
theorem wordsTo'_val (bs : List Int) (hb : Byt bs) (k : Nat) : (wordsTo' bs hb k).map (·.1) = wordsTo bs k := by simp [wordsTo', wordsTo]

/-- What a round keeps: all below n₀, and the box Bs. -/
def KpB (n₀ Bs : Nat) (W W' : World) : Prop := Below n₀ W W' ∧ W'.heap[Bs]? = W.heap[Bs]?
theorem KpB.t {n₀ Bs : Nat} {A B C : World} (h : KpB n₀ Bs A B) (k : KpB n₀ Bs B C) : KpB n₀ Bs A C := ⟨h.1.trans k.1, k.2.trans h.2⟩
theorem KpB.b {n₀ Bs : Nat} {w : World} (hn : n₀ ≤ w.heap.size) (hB : Bs < w.heap.size) (W : World) (l : Nat) (o o' : Obj) (hl : w.heap.size ≤ l) (h : W.heap[l]? = some o) (hc : o.isCells = false) (hw : o.isWalk = false) : KpB n₀ Bs W (W.putObj l o') :=
  ⟨belowK_b hn W l o o' hl h hc hw, World.putObj_heap_other (by omega)⟩

set_option maxRecDepth 100000 in
set_option maxHeartbeats 1000000 in
/-- The iterator of csum.words. -/
theorem words1_in (F : Fence) (n : Nat) (hF : F.fn 177) (hro : F.round = none) (hn : 1 ≤ n) (l Bs n₀ cap : Nat) (A : Option Addr) (bs : List Int) (hb : Byt bs) (hl : bs.length ≤ 1000000) (J Jx : List W16 → World → Prop)
    (hY : ∀ pre x W, J pre W → pre.length < nWords bs → YieldAt F (n - 1) Tryd.prog l #[.int .u16 x.1] W fun e W' =>
      (e = .returned (.bool true) ∧ J (pre ++ [x]) W' ∧ KpB n₀ Bs W W') ∨ (e = .returned (.bool false) ∧ Jx (pre ++ [x]) W'))
    (W : World) (hBs : W.cell? ⟨Bs, 0, none⟩ = some (.slice A bs.length cap)) (hr : Rd W n₀ A .u8 bs) (h0 : J [] W) :
    CallsIn F n Tryd.prog 177 #[.func (.yield l) #[] #[], .pointer (some ⟨Bs, 0, none⟩)] W fun e W' => (∃ v, e = .returned v) ∧
      ((∃ ys, ys = wordsTo' bs hb (nWords bs) ∧ J ys W') ∨ (∃ pre, (∃ k, k ≤ nWords bs ∧ pre = wordsTo' bs hb k) ∧ Jx pre W')) := by
  refine callsIn_of_wp Tryd.func177 rfl hF ?_ hro
  simp only [Tryd.ntmps177, List.size_toArray, List.length_cons, List.length_nil, Nat.reduceAdd, Nat.reduceSub, Array.replicate_succ, Array.replicate_zero, List.push_toArray, List.append_toArray, List.nil_append, List.cons_append]
  gi_wp2
  gi_loopw [3, 4] (fun i _ wr => ∃ k : Nat, k ≤ nWords bs ∧ i = .int .i64 ((2 * k : Nat) : Int) ∧ J (wordsTo' bs hb k) wr ∧ KpB n₀ Bs W wr)
    (fun i _ _ => nWords bs - (intOf i).toNat / 2)
  case atStart => exact ⟨0, Nat.zero_le _, rfl, h0, Below.refl _ _, rfl⟩
  case round =>
    obtain ⟨k, hk, rfl, hJs, hnx, hkb⟩ := hrel
    have hbox : wr.cell? ⟨Bs, 0, none⟩ = some (.slice A bs.length cap) := (World.cell?_of_block (a := ⟨Bs, 0, none⟩) hkb).trans hBs
    have Hkb := Lib.hid hkb
    clear hkb
    have hbn : nWords bs = (bs.length + 1) / 2 := rfl
    by_cases hlt : 2 * k < bs.length
    · obtain ⟨b, off, rfl, hbl, hc1⟩ := (hr.below hnx (Nat.le_refl _)) (2 * k) hlt
      have hcells := (hr.below hnx (Nat.le_refl _))
      have hx := hb.at_ (2 * k)
      have hy2 := hb.at_ (2 * k + 1)
      obtain ⟨hx0, hx1⟩ := hx
      obtain ⟨hy0, hy1⟩ := hy2
      by_cases hodd : 2 * k + 1 < bs.length
      · obtain ⟨b', off', he, _, hc2⟩ := hcells (2 * k + 1) hodd
        simp only [Option.some.injEq, Addr.mk.injEq, and_true] at he
        obtain ⟨rfl, rfl⟩ := he
        have Hv := Lib.hid (show wordAt bs k = bs.getD (2 * k) 0 * 256 + bs.getD (2 * k + 1) 0 by unfold wordAt; omega)
        generalize bs.getD (2 * k) 0 = x at *
        generalize bs.getD (2 * k + 1) 0 = y at *
        have ho := or_u16_word x y hx0 hx1 hy0 hy1
        rw [show 256 * x + y = x * 256 + y by omega] at ho
        obtain ⟨fn, tmps, assign, body, hy, hR⟩ := hY _ ⟨x * 256 + y, by omega⟩ wr hJs (by rw [wordsTo'_length]; omega)
        dsimp only at hy
        have Hsucc := Lib.hid (show wordsTo' bs hb k ++ [⟨x * 256 + y, by omega⟩] = wordsTo' bs hb (k + 1) by rw [wordsTo'_succ]; congr 2; exact Subtype.ext Hv.out.symm)
        clear hcells hlt
        have hlt1 : ((2 * k : Nat) : Int) < bs.length := by omega
        have hlt2 : ((2 * k : Nat) : Int) + 1 < bs.length := by omega
        gi_wp2
        refine hR.mono ?_
        rintro e W3 (⟨rfl, hJ3, hk3⟩ | ⟨rfl, hJx3⟩)
        · rw [Hsucc.out] at hJ3
          gi_wp2
          go_roundw
          case rel => exact ⟨k + 1, by omega, by go_num, hJ3, KpB.t ⟨hnx, Hkb.out⟩ hk3⟩
          case measure => simp [intOf]; omega
        · rw [Hsucc.out] at hJx3
          gi_wp2
          refine bodyPost_ret (results_none rfl _ _ _) rfl ?_
          exact ⟨⟨_, rfl⟩, .inr ⟨_, ⟨k + 1, by omega, rfl⟩, hJx3⟩⟩
      · have Hv := Lib.hid (show wordAt bs k = bs.getD (2 * k) 0 * 256 by
          unfold wordAt; rw [show bs.getD (2 * k + 1) 0 = 0 by rw [List.getD_eq_getElem?_getD, List.getElem?_eq_none (by omega)]; rfl]; omega)
        generalize bs.getD (2 * k) 0 = x at *
        clear hy0 hy1
        obtain ⟨fn, tmps, assign, body, hy, hR⟩ := hY _ ⟨x * 256, by omega⟩ wr hJs (by rw [wordsTo'_length]; omega)
        dsimp only at hy
        have Hsucc := Lib.hid (show wordsTo' bs hb k ++ [⟨x * 256, by omega⟩] = wordsTo' bs hb (k + 1) by rw [wordsTo'_succ]; congr 2; exact Subtype.ext Hv.out.symm)
        have hlt1 : ((2 * k : Nat) : Int) < bs.length := by omega
        have hlt2 : ¬ ((2 * k : Nat) : Int) + 1 < bs.length := by omega
        clear hcells hlt
        gi_wp2
        refine hR.mono ?_
        rintro e W3 (⟨rfl, hJ3, hk3⟩ | ⟨rfl, hJx3⟩)
        · rw [Hsucc.out] at hJ3
          gi_wp2
          go_roundw
          case rel => exact ⟨k + 1, by omega, by go_num, hJ3, KpB.t ⟨hnx, Hkb.out⟩ hk3⟩
          case measure => simp [intOf]; omega
        · rw [Hsucc.out] at hJx3
          gi_wp2
          refine bodyPost_ret (results_none rfl _ _ _) rfl ?_
          exact ⟨⟨_, rfl⟩, .inr ⟨_, ⟨k + 1, by omega, rfl⟩, hJx3⟩⟩
    · gi_wp2
      go_end0
      have hk2 : k = nWords bs := by omega
      exact ⟨⟨_, rfl⟩, .inl ⟨_, by rw [hk2], hJs⟩⟩

set_option maxHeartbeats 1000000 in
theorem words_in (F : Fence) (n : Nat) (hF : F.fn 162) (hro : F.round = none) (A : Option Addr) (len cap : Nat) (w : World) :
    CallsIn F n Tryd.prog 162 #[.slice A len cap] w fun e w' => e = .returned (.func (.func 177) #[] #[.pointer (some ⟨w.heap.size, 0, none⟩)]) ∧ w' = w.alloc (.cells #[.slice A len cap] 34) := by
  refine callsIn_of_wp Tryd.func162 rfl hF ?_ hro
  simp only [Tryd.ntmps162, List.size_toArray, List.length_cons, List.length_nil, Nat.reduceAdd, Nat.reduceSub, Array.replicate_succ, Array.replicate_zero, List.push_toArray, List.append_toArray, List.nil_append, List.cons_append]
  gi_wp2
  go_ret
  exact ⟨rfl, rfl⟩

/-- What is yielded, as a stopping sequence. -/
theorem words_stops (F : Fence) (n : Nat) (hF : F.fn 177) (hro : F.round = none) (hn : 1 ≤ n) (Bs n₀ cap : Nat) (A : Option Addr) (bs : List Int) (hb : Byt bs) (hl : bs.length ≤ 1000000) (w : World) (hBs0 : Bs < w.heap.size) (hn₀ : n₀ ≤ w.heap.size)
    (hBs : w.cell? ⟨Bs, 0, none⟩ = some (.slice A bs.length cap)) (hr : Rd w n₀ A .u8 bs) :
    SeqStopsK F n Tryd.prog 177 #[.pointer (some ⟨Bs, 0, none⟩)] (fun x : W16 => #[Value.int .u16 x.1]) (KpB n₀ Bs) (fun ys => ys = wordsTo' bs hb (nWords bs)) (fun pre => ∃ k, k ≤ nWords bs ∧ pre = wordsTo' bs hb k) (nWords bs) w :=
  fun l J Jx W hW _ _ hY h0 =>
    words1_in F n hF hro hn l Bs n₀ cap A bs hb hl J Jx hY W ((hW.cell (p := ⟨Bs, 0, none⟩) hBs0).trans hBs) (hr.below hW hn₀) h0

/-- The sum of some bytes. -/
def sumW (l : List Int) : Int := l.foldl (fun s w => joinL [s, w]) 0
def sumB (bs : List Int) : Int := sumW (wordsL bs)
theorem sumW_snoc (l : List Int) (x : Int) : sumW (l ++ [x]) = joinL [sumW l, x] := by simp [sumW]
theorem sumW_bd {l : List Int} (h : U16s l) : 0 ≤ sumW l ∧ sumW l ≤ 65535 := by
  have : ∀ (l : List Int), U16s l → ∀ s, 0 ≤ s → s ≤ 65535 → 0 ≤ l.foldl (fun s w => joinL [s, w]) s ∧ l.foldl (fun s w => joinL [s, w]) s ≤ 65535 := by
    intro l
    induction l with
    | nil => intro _ s h0 h1; exact ⟨h0, h1⟩
    | cons x l ih =>
      intro hl s h0 h1
      have hx := hl x (by simp)
      have := joinL_bd (l := [s, x]) (by intro y hy; simp at hy; rcases hy with rfl | rfl <;> omega)
      exact ih (fun y hy => hl y (by simp [hy])) _ this.1 this.2
  exact this l h 0 (by omega) (by omega)
theorem U16s.words (bs : List Int) (hb : Byt bs) (k : Nat) : U16s (wordsTo bs k) := by
  intro x hx
  obtain ⟨j, _, rfl⟩ := List.mem_map.1 hx
  exact wordAt_bd hb j
theorem sumB_bd {bs : List Int} (hb : Byt bs) : 0 ≤ sumB bs ∧ sumB bs ≤ 65535 := sumW_bd (U16s.words bs hb _)

end Go.Proofs.YtebeekjcepjcnaaDoor
