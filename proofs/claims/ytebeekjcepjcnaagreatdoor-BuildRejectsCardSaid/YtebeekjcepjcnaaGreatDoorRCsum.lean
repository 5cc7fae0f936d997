/-
  Package csum of the program, and slices.Clone: what each call returns, as plain functions on lists of bytes.
-/
import Derived.Lib.SliceRun
import Derived.RangeFuncNested
import Derived.RangeFuncBound
import Derived.RangeFuncCalls
import Derived.RangeFuncLeaves
import Derived.Shelf.Abstract
import Derived.OwnWalkIn
import Derived.TacticsInMore
import Derived.LoopNIn
import Derived.LoopIn
import Derived.Test.YtebeekjcepjcnaaGreatDoorRBase
namespace Go.Proofs.YtebeekjcepjcnaaGreatDoor
open Go.RowKit Go.Shelf
attribute [local go_sem] Oper.semAt_some

set_option maxHeartbeats 400000 in
/-- slices.Clone: a row of the call's own with the same bytes (nil for nil). -/
theorem clone_any (A : Option Addr) (cap : Nat) (bs : List Int) (w : World) (hr : Rd w w.heap.size A .u8 bs) (hl : bs.length ≤ 1000000) :
    Calls Tryz.prog 70 #[.slice A bs.length cap] w fun e w' => ∃ v, e = .returned v ∧ Own w' w.heap.size v bs ∧ Below w.heap.size w w' := by
  have hnil := fun (w : World) a n c => Lib.run_eql_slice_nil (P := Tryz.prog) w 26 5 a n c 0 0 Tryz.underlying26
  rcases A with _ | ad
  · have hb : bs = [] := by
      rcases Nat.eq_zero_or_pos bs.length with h | h
      · exact List.eq_nil_of_length_eq_zero h
      · obtain ⟨b, off, e, _⟩ := hr 0 h; cases e
    subst hb
    go_enter Tryz.func70, Tryz.ntmps70
    go_wp2
    go_ret
    exact ⟨_, rfl, Own.nil_ _ _, Below.refl _ _⟩
  · go_enter Tryz.func70, Tryz.ntmps70
    go_wp2_with (at_builtin; refine app_own rfl _ _ rfl w.heap.size _ [] rfl (Own.mk' (World.ownsRow_lit (base := w.heap.size) w #[] 0 (Nat.le_refl _) (by simp [maxLen]) rfl) rfl rfl) w.heap.size (some ad) _ cap bs rfl rfl (hr.alloc (Nat.le_refl _) _) (by simp; omega) (by simp) ?_; intro v w1 hown hbw _ _)
    go_ret
    exact ⟨_, rfl, hown, (((Below.refl _ _).alloc (Nat.le_refl _) _).trans hbw)⟩

/-- One fold of a 32-bit sum. -/
def fold1 (x : Int) : Int := x % 65536 + x / 65536
def joinL (l : List Int) : Int := l.foldl (fun s w => fold1 (s + w)) 0
theorem fold1_bd2 {x : Int} (h0 : 0 ≤ x) (h1 : x ≤ 131070) : 0 ≤ fold1 x ∧ fold1 x ≤ 65535 := by unfold fold1; omega
theorem joinL_snoc (l : List Int) (x : Int) : joinL (l ++ [x]) = fold1 (joinL l + x) := by simp [joinL]
def U16s (l : List Int) : Prop := ∀ x ∈ l, 0 ≤ x ∧ x < 65536
theorem U16s.at_ {l : List Int} (h : U16s l) (j : Nat) : 0 ≤ l.getD j 0 ∧ l.getD j 0 < 65536 := by
  by_cases hj : j < l.length
  · rw [List.getD_eq_getElem?_getD, List.getElem?_eq_getElem hj]; exact h _ (List.getElem_mem hj)
  · rw [List.getD_eq_getElem?_getD, List.getElem?_eq_none (by omega)]; simp
theorem foldl_joinL_bd (l : List Int) (h : U16s l) : ∀ s, 0 ≤ s → s ≤ 65535 → 0 ≤ l.foldl (fun s w => fold1 (s + w)) s ∧ l.foldl (fun s w => fold1 (s + w)) s ≤ 65535 := by
  induction l with
  | nil => intro s h0 h1; exact ⟨h0, h1⟩
  | cons x l ih =>
    intro s h0 h1
    have hx := h x (by simp)
    have hb := fold1_bd2 (x := s + x) (by omega) (by omega)
    exact ih (fun y hy => h y (by simp [hy])) _ hb.1 hb.2
theorem joinL_bd {l : List Int} (h : U16s l) : 0 ≤ joinL l ∧ joinL l ≤ 65535 := foldl_joinL_bd l h 0 (by omega) (by omega)
theorem U16s.take {l : List Int} (h : U16s l) (k : Nat) : U16s (l.take k) := fun x hx => h x (List.mem_of_mem_take hx)
theorem take_succ_getD (l : List Int) (k : Nat) (h : k < l.length) : l.take (k + 1) = l.take k ++ [l.getD k 0] := by
  rw [List.take_succ_eq_append_getElem h]; simp [h]

theorem and_u32_65535 (x : Int) (h0 : 0 ≤ x) (h1 : x < 4294967296) : bits .and .u32 x 65535 = x % 65536 := by
  rw [u32_and x 65535 h0 h1 (by omega) (by omega)]
  have : (x.toNat &&& (65535 : Int).toNat) = x.toNat % 65536 := Nat.and_two_pow_sub_one_eq_mod x.toNat 16
  rw [this]; omega

set_option maxHeartbeats 400000 in
/-- csum.Join. -/
theorem join_any (A : Option Addr) (cap : Nat) (ws : List Int) (w : World) (hl : ws.length ≤ 1000) (hb : U16s ws) (hr : Rd w w.heap.size A .u16 ws) :
    Calls Tryz.prog 100 #[.slice A ws.length cap] w fun e w' => e = .returned (.int .u16 (joinL ws)) ∧ w = w' := by
  have Hb := Lib.hid hb
  clear hb
  go_enter Tryz.func100, Tryz.ntmps100
  go_wp2
  go_loop [3, 5, 8] (fun s _ i => ∃ k : Nat, k ≤ ws.length ∧ i = .int .i64 k ∧ s = .int .u32 (joinL (ws.take k))) (fun _ _ i => ws.length - (intOf i).toNat)
  case atStart => exact ⟨0, by omega, rfl, rfl⟩
  case round =>
    obtain ⟨k, hk, rfl, rfl⟩ := hrel
    by_cases hlt : k < ws.length
    · obtain ⟨b, off, rfl, _, hcell⟩ := hr k hlt
      have Hs := Lib.hid ((congrArg joinL (take_succ_getD ws k hlt)).trans (joinL_snoc _ _))
      obtain ⟨hr1, hr2⟩ := joinL_bd (Hb.out.take k)
      obtain ⟨hw1, hw2⟩ := Hb.out.at_ k
      generalize hJ : joinL (ws.take k) = J at *
      generalize hX : ws.getD k 0 = x at *
      clear hJ hX
      have ha := and_u32_65535 (J + x) (by omega) (by omega)
      have hm : (J + x) % 4294967296 = J + x := by omega
      go_wp2
      go_round
      case rel =>
        refine ⟨k + 1, by omega, by go_num, ?_⟩
        rw [Hs.out]
        unfold fold1
        exact congrArg _ (by omega)
      case measure => simp [intOf]; omega
    · have hk' : k = ws.length := by omega
      subst hk'
      have hbd := joinL_bd Hb.out
      have Hw := Lib.hid (show joinL (ws.take ws.length) = joinL ws by rw [List.take_length])
      rw [Hw.out]
      obtain ⟨hr1, hr2⟩ := hbd
      have hm : (joinL ws) % 65536 = joinL ws := by omega
      go_wp2
      go_ret
      exact ⟨by simp, rfl⟩

/-- The words of some bytes. -/
def wordAt (bs : List Int) (k : Nat) : Int := 256 * bs.getD (2 * k) 0 + bs.getD (2 * k + 1) 0
def nWords (bs : List Int) : Nat := (bs.length + 1) / 2
def wordsTo (bs : List Int) (k : Nat) : List Int := (List.range k).map (wordAt bs)
def wordsL (bs : List Int) : List Int := wordsTo bs (nWords bs)
theorem wordsTo_succ (bs : List Int) (k : Nat) : wordsTo bs (k + 1) = wordsTo bs k ++ [wordAt bs k] := by simp [wordsTo, List.range_succ]
theorem wordAt_bd {bs : List Int} (h : Byt bs) (k : Nat) : 0 ≤ wordAt bs k ∧ wordAt bs k < 65536 := by
  have h1 := h.at_ (2 * k)
  have h2 := h.at_ (2 * k + 1)
  unfold wordAt; omega

theorem or_u16_word (x y : Int) (hx0 : 0 ≤ x) (hx1 : x < 256) (hy0 : 0 ≤ y) (hy1 : y < 256) : bits .or .u16 (x * 256) y = 256 * x + y := by
  obtain ⟨a, rfl⟩ := Int.eq_ofNat_of_zero_le hx0
  obtain ⟨b, rfl⟩ := Int.eq_ofNat_of_zero_le hy0
  rw [u16_or _ _ (by omega) (by omega) (by omega) (by omega)]
  have e1 : ((a : Int) * 256).toNat = 2 ^ 8 * a := by omega
  have e2 : ((b : Int)).toNat = b := by omega
  rw [e1, e2, ← Nat.two_pow_add_eq_or_of_lt (by omega)]
  omega

abbrev W16 := { x : Int // 0 ≤ x ∧ x < 65536 }
def wordsTo' (bs : List Int) (hb : Byt bs) (k : Nat) : List W16 := (List.range k).map fun j => ⟨wordAt bs j, wordAt_bd hb j⟩
theorem wordsTo'_succ (bs : List Int) (hb : Byt bs) (k : Nat) : wordsTo' bs hb (k + 1) = wordsTo' bs hb k ++ [⟨wordAt bs k, wordAt_bd hb k⟩] := by simp [wordsTo', List.range_succ]
theorem wordsTo'_length (bs : List Int) (hb : Byt bs) (k : Nat) : (wordsTo' bs hb k).length = k := by simp [wordsTo']
theorem wordsTo'_val (bs : List Int) (hb : Byt bs) (k : Nat) : (wordsTo' bs hb k).map (·.1) = wordsTo bs k := by simp [wordsTo', wordsTo]

/-- What a round keeps: all below n₀, and the box Bs. -/
def KpB (n₀ Bs : Nat) (W W' : World) : Prop := Below n₀ W W' ∧ W'.heap[Bs]? = W.heap[Bs]?
theorem KpB.t {n₀ Bs : Nat} {A B C : World} (h : KpB n₀ Bs A B) (k : KpB n₀ Bs B C) : KpB n₀ Bs A C := ⟨h.1.trans k.1, k.2.trans h.2⟩
theorem KpB.b {n₀ Bs : Nat} {w : World} (hn : n₀ ≤ w.heap.size) (hB : Bs < w.heap.size) (W : World) (l : Nat) (o o' : Obj) (hl : w.heap.size ≤ l) (h : W.heap[l]? = some o) (hc : o.isCells = false) (hw : o.isWalk = false) : KpB n₀ Bs W (W.putObj l o') :=
  ⟨belowK_b hn W l o o' hl h hc hw, World.putObj_heap_other (by omega)⟩

set_option maxRecDepth 100000 in
set_option maxHeartbeats 1000000 in
/-- The iterator of csum.words. -/
theorem words1_in (F : Fence) (n : Nat) (hF : F.fn 107) (hro : F.round = none) (hn : 1 ≤ n) (l Bs n₀ cap : Nat) (A : Option Addr) (bs : List Int) (hb : Byt bs) (hl : bs.length ≤ 1000000) (J Jx : List W16 → World → Prop)
    (hY : ∀ pre x W, J pre W → pre.length < nWords bs → YieldAt F (n - 1) Tryz.prog l #[.int .u16 x.1] W fun e W' =>
      (e = .returned (.bool true) ∧ J (pre ++ [x]) W' ∧ KpB n₀ Bs W W') ∨ (e = .returned (.bool false) ∧ Jx (pre ++ [x]) W'))
    (W : World) (hBs : W.cell? ⟨Bs, 0, none⟩ = some (.slice A bs.length cap)) (hr : Rd W n₀ A .u8 bs) (h0 : J [] W) :
    CallsIn F n Tryz.prog 107 #[.func (.yield l) #[] #[], .pointer (some ⟨Bs, 0, none⟩)] W fun e W' => (∃ v, e = .returned v) ∧
      ((∃ ys, ys = wordsTo' bs hb (nWords bs) ∧ J ys W') ∨ (∃ pre, (∃ k, k ≤ nWords bs ∧ pre = wordsTo' bs hb k) ∧ Jx pre W')) := by
  refine callsIn_of_wp Tryz.func107 rfl hF ?_ hro
  simp only [Tryz.ntmps107, List.size_toArray, List.length_cons, List.length_nil, Nat.reduceAdd, Nat.reduceSub, Array.replicate_succ, Array.replicate_zero, List.push_toArray, List.append_toArray, List.nil_append, List.cons_append]
  gi_wp2
  gi_loopw [3, 4] (fun i _ wr => ∃ k : Nat, k ≤ nWords bs ∧ i = .int .i64 ((2 * k : Nat) : Int) ∧ J (wordsTo' bs hb k) wr ∧ KpB n₀ Bs W wr)
    (fun i _ _ => nWords bs - (intOf i).toNat / 2)
  case atStart => exact ⟨0, Nat.zero_le _, rfl, h0, Below.refl _ _, rfl⟩
  case round =>
    obtain ⟨k, hk, rfl, hJs, hnx, hkb⟩ := hrel
    have hbox : wr.cell? ⟨Bs, 0, none⟩ = some (.slice A bs.length cap) := (World.cell?_of_block (a := ⟨Bs, 0, none⟩) hkb).trans hBs
    have Hkb := Lib.hid hkb
    clear hkb
    have hbn : nWords bs = (bs.length + 1) / 2 := rfl
    by_cases hlt : 2 * k < bs.length
    · obtain ⟨b, off, rfl, hbl, hc1⟩ := (hr.below hnx (Nat.le_refl _)) (2 * k) hlt
      have hcells := (hr.below hnx (Nat.le_refl _))
      have hx := hb.at_ (2 * k)
      have hy2 := hb.at_ (2 * k + 1)
      obtain ⟨hx0, hx1⟩ := hx
      obtain ⟨hy0, hy1⟩ := hy2
      by_cases hodd : 2 * k + 1 < bs.length
      · obtain ⟨b', off', he, _, hc2⟩ := hcells (2 * k + 1) hodd
        simp only [Option.some.injEq, Addr.mk.injEq, and_true] at he
        obtain ⟨rfl, rfl⟩ := he
        have Hv := Lib.hid (show wordAt bs k = bs.getD (2 * k) 0 * 256 + bs.getD (2 * k + 1) 0 by unfold wordAt; omega)
        generalize bs.getD (2 * k) 0 = x at *
        generalize bs.getD (2 * k + 1) 0 = y at *
        have ho := or_u16_word x y hx0 hx1 hy0 hy1
        rw [show 256 * x + y = x * 256 + y by omega] at ho
        obtain ⟨fn, tmps, assign, body, hy, hR⟩ := hY _ ⟨x * 256 + y, by omega⟩ wr hJs (by rw [wordsTo'_length]; omega)
        dsimp only at hy
        have Hsucc := Lib.hid (show wordsTo' bs hb k ++ [⟨x * 256 + y, by omega⟩] = wordsTo' bs hb (k + 1) by rw [wordsTo'_succ]; congr 2; exact Subtype.ext Hv.out.symm)
        clear hcells hlt
        have hlt1 : ((2 * k : Nat) : Int) < bs.length := by omega
        have hlt2 : ((2 * k : Nat) : Int) + 1 < bs.length := by omega
        gi_wp2
        refine hR.mono ?_
        rintro e W3 (⟨rfl, hJ3, hk3⟩ | ⟨rfl, hJx3⟩)
        · rw [Hsucc.out] at hJ3
          gi_wp2
          go_roundw
          case rel => exact ⟨k + 1, by omega, by go_num, hJ3, KpB.t ⟨hnx, Hkb.out⟩ hk3⟩
          case measure => simp [intOf]; omega
        · rw [Hsucc.out] at hJx3
          gi_wp2
          refine bodyPost_ret (results_none rfl _ _ _) rfl ?_
          exact ⟨⟨_, rfl⟩, .inr ⟨_, ⟨k + 1, by omega, rfl⟩, hJx3⟩⟩
      · have Hv := Lib.hid (show wordAt bs k = bs.getD (2 * k) 0 * 256 by
          unfold wordAt; rw [show bs.getD (2 * k + 1) 0 = 0 by rw [List.getD_eq_getElem?_getD, List.getElem?_eq_none (by omega)]; rfl]; omega)
        generalize bs.getD (2 * k) 0 = x at *
        clear hy0 hy1
        obtain ⟨fn, tmps, assign, body, hy, hR⟩ := hY _ ⟨x * 256, by omega⟩ wr hJs (by rw [wordsTo'_length]; omega)
        dsimp only at hy
        have Hsucc := Lib.hid (show wordsTo' bs hb k ++ [⟨x * 256, by omega⟩] = wordsTo' bs hb (k + 1) by rw [wordsTo'_succ]; congr 2; exact Subtype.ext Hv.out.symm)
        have hlt1 : ((2 * k : Nat) : Int) < bs.length := by omega
        have hlt2 : ¬ ((2 * k : Nat) : Int) + 1 < bs.length := by omega
        clear hcells hlt
        gi_wp2
        refine hR.mono ?_
        rintro e W3 (⟨rfl, hJ3, hk3⟩ | ⟨rfl, hJx3⟩)
        · rw [Hsucc.out] at hJ3
          gi_wp2
          go_roundw
          case rel => exact ⟨k + 1, by omega, by go_num, hJ3, KpB.t ⟨hnx, Hkb.out⟩ hk3⟩
          case measure => simp [intOf]; omega
        · rw [Hsucc.out] at hJx3
          gi_wp2
          refine bodyPost_ret (results_none rfl _ _ _) rfl ?_
          exact ⟨⟨_, rfl⟩, .inr ⟨_, ⟨k + 1, by omega, rfl⟩, hJx3⟩⟩
    · gi_wp2
      go_end0
      have hk2 : k = nWords bs := by omega
      exact ⟨⟨_, rfl⟩, .inl ⟨_, by rw [hk2], hJs⟩⟩

set_option maxHeartbeats 1000000 in
theorem words_in (F : Fence) (n : Nat) (hF : F.fn 106) (hro : F.round = none) (A : Option Addr) (len cap : Nat) (w : World) :
    CallsIn F n Tryz.prog 106 #[.slice A len cap] w fun e w' => e = .returned (.func (.func 107) #[] #[.pointer (some ⟨w.heap.size, 0, none⟩)]) ∧ w' = w.alloc (.cells #[.slice A len cap] 26) := by
  refine callsIn_of_wp Tryz.func106 rfl hF ?_ hro
  simp only [Tryz.ntmps106, List.size_toArray, List.length_cons, List.length_nil, Nat.reduceAdd, Nat.reduceSub, Array.replicate_succ, Array.replicate_zero, List.push_toArray, List.append_toArray, List.nil_append, List.cons_append]
  gi_wp2
  go_ret
  exact ⟨rfl, rfl⟩

/-- What is yielded, as a stopping sequence. -/
theorem words_stops (F : Fence) (n : Nat) (hF : F.fn 107) (hro : F.round = none) (hn : 1 ≤ n) (Bs n₀ cap : Nat) (A : Option Addr) (bs : List Int) (hb : Byt bs) (hl : bs.length ≤ 1000000) (w : World) (hBs0 : Bs < w.heap.size) (hn₀ : n₀ ≤ w.heap.size)
    (hBs : w.cell? ⟨Bs, 0, none⟩ = some (.slice A bs.length cap)) (hr : Rd w n₀ A .u8 bs) :
    SeqStopsK F n Tryz.prog 107 #[.pointer (some ⟨Bs, 0, none⟩)] (fun x : W16 => #[Value.int .u16 x.1]) (KpB n₀ Bs) (fun ys => ys = wordsTo' bs hb (nWords bs)) (fun pre => ∃ k, k ≤ nWords bs ∧ pre = wordsTo' bs hb k) (nWords bs) w :=
  fun l J Jx W hW _ _ hY h0 =>
    words1_in F n hF hro hn l Bs n₀ cap A bs hb hl J Jx hY W ((hW.cell (p := ⟨Bs, 0, none⟩) hBs0).trans hBs) (hr.below hW hn₀) h0

/-- The sum of some bytes. -/
def sumW (l : List Int) : Int := l.foldl (fun s w => joinL [s, w]) 0
def sumB (bs : List Int) : Int := sumW (wordsL bs)
theorem sumW_snoc (l : List Int) (x : Int) : sumW (l ++ [x]) = joinL [sumW l, x] := by simp [sumW]
theorem sumW_bd {l : List Int} (h : U16s l) : 0 ≤ sumW l ∧ sumW l ≤ 65535 := by
  have : ∀ (l : List Int), U16s l → ∀ s, 0 ≤ s → s ≤ 65535 → 0 ≤ l.foldl (fun s w => joinL [s, w]) s ∧ l.foldl (fun s w => joinL [s, w]) s ≤ 65535 := by
    intro l
    induction l with
    | nil => intro _ s h0 h1; exact ⟨h0, h1⟩
    | cons x l ih =>
      intro hl s h0 h1
      have hx := hl x (by simp)
      have := joinL_bd (l := [s, x]) (by intro y hy; simp at hy; rcases hy with rfl | rfl <;> omega)
      exact ih (fun y hy => hl y (by simp [hy])) _ this.1 this.2
  exact this l h 0 (by omega) (by omega)
theorem U16s.words (bs : List Int) (hb : Byt bs) (k : Nat) : U16s (wordsTo bs k) := by
  intro x hx
  obtain ⟨j, _, rfl⟩ := List.mem_map.1 hx
  exact wordAt_bd hb j
theorem sumB_bd {bs : List Int} (hb : Byt bs) : 0 ≤ sumB bs ∧ sumB bs ≤ 65535 := sumW_bd (U16s.words bs hb _)

end Go.Proofs.YtebeekjcepjcnaaGreatDoor
