/-
  What pkt reads depends on the first 136 bytes and the length alone (plain).
  Package build: the data of what an error quotes.
  Laws on byte slices at this seat's program: a prefix of an own row is an own row; an append of zeros onto an own row.
-/
import Derived.Test.YtebeekjcepjcnaaDoorProg
import Derived.WalkKit
import Derived.WalkSpells
import Derived.WalkLawsBesides
import Derived.WalkSmall
import Derived.Lib.Hide
import Derived.Deep.AppendLies
import Derived.Maps.AppendAt
import Derived.Laws.AppendOwnNone
import Derived.Laws.CopyOwn
import Derived.OneCell
import Derived.Lib.SliceRun
import Derived.RangeFuncNested
import Derived.RangeFuncBound
import Derived.RangeFuncCalls
import Derived.RangeFuncLeaves
import Derived.Shelf.Abstract
import Derived.OwnWalkIn
import Derived.TacticsInMore
import Derived.LoopNIn
import Derived.LoopIn
import Derived.Lib.AppendZeros
import Derived.BigRegion
import Derived.ChangeAlike
import Derived.Deep.RegionLaw
import Derived.Deep.DeepCutAuto
import Derived.Orders
import Derived.RegionTactic
import Derived.Still
import Derived.Deep.MidRow
import Derived.MapKept
import Derived.Deep.RegionHeld3
import Derived.Test.YtebeekjcepjcnaaDoorWBase
import Derived.Test.YtebeekjcepjcnaaDoorWBits
import Derived.Test.YtebeekjcepjcnaaDoorWCsum
import Derived.Test.YtebeekjcepjcnaaDoorWSum
import Derived.Test.YtebeekjcepjcnaaDoorWConcat
import Derived.Test.YtebeekjcepjcnaaDoorWFix
import Derived.Test.YtebeekjcepjcnaaDoorWFacts
import Derived.Test.YtebeekjcepjcnaaDoorWIpw
import Derived.Test.YtebeekjcepjcnaaDoorWPkt
import Derived.Test.YtebeekjcepjcnaaDoorWRegion
import Derived.Test.YtebeekjcepjcnaaDoorWWalk
import Derived.Test.YtebeekjcepjcnaaDoorWStep
import Derived.Test.YtebeekjcepjcnaaDoorWTcpw
import Derived.Test.YtebeekjcepjcnaaDoorWUdpw
import Derived.Test.YtebeekjcepjcnaaDoorWData
import Derived.Test.YtebeekjcepjcnaaDoorWMaps
import Derived.Test.YtebeekjcepjcnaaDoorWQuoted
import Derived.Test.YtebeekjcepjcnaaDoorWBuilda
import Derived.Test.YtebeekjcepjcnaaDoorWRerr
namespace Go.Proofs.YtebeekjcepjcnaaDoor
open Go.RowKit
def Eqn (k : Nat) (xs ys : List Int) : Prop := xs.length = ys.length ∧ xs.take k = ys.take k
theorem Eqn.at_ {k : Nat} {xs ys : List Int} (h : Eqn k xs ys) (i : Nat) (hi : i < k) : xs.getD i 0 = ys.getD i 0 := by
  rw [List.getD_eq_getElem?_getD, List.getD_eq_getElem?_getD, ← List.getElem?_take_of_lt hi, h.2, List.getElem?_take_of_lt hi]
theorem Eqn.w16 {k : Nat} {xs ys : List Int} (h : Eqn k xs ys) (i : Nat) (hi : i + 1 < k) : w16At xs i = w16At ys i := by
  unfold w16At; rw [h.at_ i (by omega), h.at_ (i + 1) hi]
theorem Eqn.take {k : Nat} {xs ys : List Int} (h : Eqn k xs ys) (j : Nat) (hj : j ≤ k) : xs.take j = ys.take j := by
  have := congrArg (List.take j) h.2
  rwa [List.take_take, List.take_take, Nat.min_eq_left hj] at this
theorem Eqn.drop {k : Nat} {xs ys : List Int} (h : Eqn k xs ys) (j m : Nat) (hj : j + m ≤ k) : Eqn m (xs.drop j) (ys.drop j) := by
  refine ⟨by rw [List.length_drop, List.length_drop, h.1], ?_⟩
  rw [List.take_drop, List.take_drop, h.take (j + m) hj]
theorem Eqn.cut {k : Nat} {xs ys : List Int} (h : Eqn k xs ys) (n : Nat) : Eqn k (xs.take n) (ys.take n) := by
  refine ⟨by rw [List.length_take, List.length_take, h.1], ?_⟩
  rw [List.take_take, List.take_take]
  exact h.take _ (Nat.min_le_left _ _)
theorem Eqn.size {k : Nat} {xs ys : List Int} (h : Eqn k xs ys) (hk : 0 < k) : ipSize xs = ipSize ys := by
  unfold ipSize; rw [h.at_ 0 hk]
end Go.Proofs.YtebeekjcepjcnaaDoor
namespace Go.Proofs.YtebeekjcepjcnaaDoor
open Go.RowKit

theorem callFunc_d (k : Int) (args : Array Value) (W : World) : (callFunc (dataS k) args).run Tryd.prog W = .ok (.enter (dataS k) args) W := by
  unfold dataS
  split
  · kernel_rfl
  · split
    · kernel_rfl
    · split <;> kernel_rfl
def Facts.qL (f : Facts) : List Int := if f.qkind = 1 then f.quotedF.segL else if f.qkind = 2 then f.quotedF.datL else f.quotedF.msgL
theorem quotedF_ok {f : Facts} (ho : f.Ok) : f.quotedF.Ok := by
  have h1 : 0 ≤ f.quotedF.flags ∧ f.quotedF.flags < 256 := by simp only [Facts.quotedF]; split <;> omega
  have h2 : 0 ≤ f.quotedF.type ∧ f.quotedF.type < 256 := by simp only [Facts.quotedF]; split <;> omega
  exact ⟨ho.quoted, ho.qkind0, ho.qkind1, h1.1, h1.2, h2.1, h2.2, by simp [Facts.quotedF, Facts.zero], by simp [Facts.quotedF, Facts.zero], by simp [Facts.quotedF, Facts.zero], by simp [Facts.quotedF, Facts.zero], by simp [Facts.quotedF, Facts.zero],
    by simp [Facts.quotedF, Facts.zero], by simp [Facts.quotedF, Facts.zero], by simp [Facts.quotedF, Facts.zero], by simp [Facts.quotedF, Facts.zero], by simp [Facts.quotedF, Facts.zero],
    ⟨by simp [Facts.quotedF, Facts.zero, Key.zero], by simp [Facts.quotedF, Facts.zero, Key.zero], by simp [Facts.quotedF, Facts.zero, Key.zero], by simp [Facts.quotedF, Facts.zero, Key.zero], by simp [Facts.quotedF, Facts.zero, Key.zero], by simp [Facts.quotedF, Facts.zero, Key.zero], by simp [Facts.quotedF, Facts.zero, Key.zero], by simp [Facts.quotedF, Facts.zero, Key.zero], by simp [Facts.quotedF, Facts.zero, Key.zero], by simp [Facts.quotedF, Facts.zero, Key.zero]⟩,
    by simp [Facts.quotedF, Facts.zero], by simp [Facts.quotedF, Facts.zero]⟩
theorem qdata_any (f : Facts) (w : World) (ho : f.Ok) (hq : isQ f.qkind = true) (hr : f.qRight = true) (hs : SortsAt w) :
    Calls Tryd.prog (dataS f.qkind) #[f.quotedF.val] w fun e w' => ∃ v, e = .returned v ∧ Own w' w.heap.size v f.qL ∧ Below w.heap.size w w' := by
  have hO := quotedF_ok ho
  simp only [isQ, Bool.and_eq_true, decide_eq_true_eq] at hq
  unfold Facts.qL dataS
  unfold Facts.qRight at hr
  by_cases h1 : f.qkind = 1
  · rw [if_pos h1] at hr
    rw [if_pos h1, if_pos h1]; exact segment_any f.quotedF w hO hr
  · rw [if_neg h1] at hr
    rw [if_neg h1, if_neg h1]
    by_cases h2 : f.qkind = 2
    · rw [if_neg (by omega)] at hr
      rw [if_pos h2, if_pos h2]; exact datagram_any f.quotedF w hO hr
    · rw [if_pos (by omega)] at hr
      rw [if_neg h2, if_neg h2, if_neg (by omega)]; exact message_any f.quotedF w hO hr hs

/-- The same with the sum of a datagram struck out. -/
def Facts.qIn (f : Facts) : List Int := if f.qkind = 2 then (f.qL.set 6 0).set 7 0 else f.qL
theorem qL_len {f : Facts} (h : f.quotedF.length = 0) : 8 ≤ f.qL.length ∧ f.qL.length ≤ 20 := by
  unfold Facts.qL
  split
  · unfold Facts.segL tcpL tcpSumL
    rw [length_splice]
    · simp [tcpL0, tcpHead, b16s_len, b32s_len, h, zerosL]
    · simp [tcpL0, tcpHead, b16s_len, b32s_len, h, zerosL]
  · split
    · unfold Facts.datL udpL
      simp [udp0_len, h, zerosL]
    · unfold Facts.msgL icmpL
      rw [fixL_len]
      simp [icmpHead, h, zerosL]
theorem quotedF_length (f : Facts) : f.quotedF.length = 0 := rfl
theorem qIn_len (f : Facts) : f.qIn.length = f.qL.length := by
  unfold Facts.qIn; split <;> simp
theorem qIn_byt {f : Facts} (ho : f.Ok) : Byt (f.qIn.take 8) := by
  have hO := quotedF_ok ho
  have hk := hO.key
  unfold Facts.qIn
  by_cases h2 : f.qkind = 2
  · rw [if_pos h2]
    have e : ((f.qL.set 6 0).set 7 0).take 8 = [f.quotedF.key.sp / 256, f.quotedF.key.sp % 256, f.quotedF.key.dp / 256, f.quotedF.key.dp % 256, 0, 8, 0, 0] := by
      unfold Facts.qL
      rw [if_neg (by omega), if_pos h2]
      simp [Facts.datL, udpL, udp0, udpS, quotedF_length, zerosL]
    rw [e]
    have := hk.sp0; have := hk.sp1; have := hk.dp0; have := hk.dp1
    exact .cons (by omega) (by omega) (.cons (by omega) (by omega) (.cons (by omega) (by omega) (.cons (by omega) (by omega) (.cons (by omega) (by omega) (.cons (by omega) (by omega) (.cons (by omega) (by omega) (.cons (by omega) (by omega) .nil)))))))
  · rw [if_neg h2]
    unfold Facts.qL
    by_cases h1 : f.qkind = 1
    · rw [if_pos h1]
      have e : f.quotedF.segL.take 8 = b16s [f.quotedF.key.sp, f.quotedF.key.dp] ++ b32s [f.quotedF.seqn] := by
        unfold Facts.segL tcpL tcpSumL splice
        rw [List.take_append_of_le_length (by simp [tcpL0, tcpHead, b16s_len, b32s_len]; omega), List.take_take]
        simp [tcpL0, tcpHead, b16s, b32s, b16, b32]
      rw [e]
      have := hk.sp0; have := hk.sp1; have := hk.dp0; have := hk.dp1; have := hO.seqn0; have := hO.seqn1
      exact Byt.append (b16s_byt (by intro y hy; simp at hy; rcases hy with rfl | rfl <;> omega)) (b32s_byt (by intro y hy; simp at hy; rcases hy with rfl; omega))
    · rw [if_neg h1, if_neg h2]
      have := hk.sp0; have := hk.sp1; have := hO.type0; have := hO.type1; have := hO.code0; have := hO.code1
      refine Byt.take ?_ 8
      unfold Facts.msgL icmpL icmpHead
      refine fixL_byt ?_ 2
      refine Byt.append ?_ (zerosL_byt _)
      exact .cons (by omega) (by omega) (.cons (by omega) (by omega) (.cons (by omega) (by omega) (.cons (by omega) (by omega) (.cons (by omega) (by omega) (.cons (by omega) (by omega) (.cons (by omega) (by omega) (.cons (by omega) (by omega) .nil)))))))
end Go.Proofs.YtebeekjcepjcnaaDoor
namespace Go.Proofs.YtebeekjcepjcnaaDoor
open Go.RowKit

theorem Own.take_ {w : World} {base g n cap : Nat} {xs : List Int} (h : Own w base (.slice (some ⟨g, 0, none⟩) n cap) xs) (m : Nat) (hm : m ≤ n) : Own w base (.slice (some ⟨g, 0, none⟩) m cap) (xs.take m) := by
  have hn := h.len
  obtain ⟨g', cap', cur, e, hb, hg, hnc, hmx, hcs, ht⟩ := h.2.resolve_left (by simp)
  simp only [Value.slice.injEq, Option.some.injEq, Addr.mk.injEq, and_true] at e
  obtain ⟨rfl, _, rfl⟩ := e
  refine Own.mk' (n := m) (l := U8 (xs.take m)) ⟨by simp [U8]; omega, .inr ⟨g, cap, cur, rfl, hb, hg, by omega, hmx, hcs, ?_⟩⟩ (by simp; omega) rfl
  rw [Nat.mul_one] at ht ⊢
  rw [← U8_take, ← ht, List.take_take]
  congr 1; omega

theorem zeroCells_u8 (m : Nat) : Builtin.zeroCells (Value.cells (.int .u8 0)) m = (U8 (List.replicate m 0)).toArray := by
  rw [← U8_zeros]
  apply Array.ext'
  have h1 : ∀ i : Nat, i % 1 = 0 := fun i => Nat.mod_one i
  simp [Builtin.zeroCells, Value.cells, h1, List.map_const']

set_option maxRecDepth 100000 in
set_option maxHeartbeats 1000000 in
theorem run_app_zeros (w : World) (ty : TypeId) (base g n cap : Nat) (xs : List Int) (hown : Own w base (.slice (some ⟨g, 0, none⟩) n cap) xs) (m : Nat) (hb : xs.length + m ≤ 140737488355328) (hbase : base ≤ w.heap.size) :
    ∃ v' w', (Builtin.append_ #[34, 3] ty #[.slice (some ⟨g, 0, none⟩) n cap, .int .i64 m]).run Tryd.prog w = .ok v' w' ∧ Own w' base v' (xs ++ List.replicate m 0) ∧ w.grownBy w' (some g) ∧
      (v'.ownBlock = some g ∨ v'.ownBlock = some w.heap.size) := by
  obtain rfl := hown.len
  obtain ⟨i, hi, hz, hs, hby⟩ := info_parts u8info
  obtain ⟨g', cap', cur, e, hbg, hg, hnc, hmx, hcs, ht⟩ := hown.2.resolve_left (by simp)
  simp only [Value.slice.injEq, Option.some.injEq, Addr.mk.injEq, and_true] at e
  obtain ⟨rfl, _, rfl⟩ := e
  have hw : IntKind.i64.wrap (m : Int) = m := by rw [IntKind.wrap_i64]; omega
  have hneg : ¬ ((m : Int) < 0) := by omega
  have h48i : ¬ (281474976710656 < (m : Int)) := by omega
  have hZ := zeroCells_u8 m
  have hlZ : (U8 (List.replicate m 0)).length = m := by simp [U8]
  have hlen : (U8 (xs ++ List.replicate m 0)).length = (xs.length + m) * 1 := by simp [U8]
  have hcl : cur.toList.length = cap := by simpa using hcs
  rw [Nat.mul_one] at ht
  by_cases hroom : xs.length + m ≤ cap
  · have hst := run_storeCells_at Tryd.prog g xs.length 5 (U8 (List.replicate m 0)) 0 cur w hg (by rw [hlZ]; omega) (U8_one _)
    simp only [Nat.add_zero, hlZ] at hst
    refine ⟨.slice (some ⟨g, 0, none⟩) (xs.length + m) cap, w.setRow g (cur.toList.take xs.length ++ U8 (List.replicate m 0) ++ cur.toList.drop (xs.length + m)).toArray, ?_, ?_, ?_, .inl rfl⟩
    · by_cases hm : m = 0
      · subst hm
        have hw0 : IntKind.i64.wrap 0 = 0 := by rw [IntKind.wrap_i64]; omega
        simp [U8] at hst
        simp [Builtin.append_, run_underlying Tryd.underlying34, run_underlying Tryd.underlying3, sizeOf, typeInfo, zeroValue, hi, hz, hs, hby, asInt, asIntOf, hw0, hnc, hst, U8, Addr.add_lit]
      · simp [Builtin.append_, run_underlying Tryd.underlying34, run_underlying Tryd.underlying3, sizeOf, typeInfo, zeroValue, hi, hz, hs, hby, asInt, asIntOf, hw, hneg, h48i, hroom, hm, hZ, hst, Addr.add_lit]
    · refine Own.mk' (n := xs.length + m) ⟨hlen, .inr ⟨g, cap, _, rfl, hbg, setRow_heap w g cur _ _ _ hg, hroom, hmx, ?_, ?_⟩⟩ (by simp) rfl
      · simp only [List.size_toArray, List.length_append, List.length_take, List.length_drop, hcl, hlZ]
        omega
      · rw [ht, ← U8_append, ← hlen]
        exact List.take_left
    · exact ⟨rfl, rfl, rfl, by simp, fun k _ hk => setRow_other w g k _ (fun e => hk (by rw [e]))⟩
  · have hn : ¬ (xs.length + m ≤ cap) := hroom
    have hm : m ≠ 0 := by omega
    have h63' : ¬ (9223372036854775807 < ((xs.length : Int) + (m : Int))) := by omega
    have hfit : Builtin.nextslicecap (xs.length + m) cap * 1 ≤ 281474976710656 := growslice_fits (by omega) (by omega)
    have h48' : ¬ (281474976710656 < Builtin.nextslicecap (xs.length + m) cap) := by omega
    have holds : ∀ j u, (U8 xs)[j]? = some u → w.cell? ((⟨g, 0, none⟩ : Addr).add j) = some u := hown.rd.cells
    have hfo := run_firstCells_some (P := Tryd.prog) w.drew i.size xs.length ⟨g, 0, none⟩ xs.length cap (U8 xs) (by rw [hs, U8_length]; omega) (by simpa using holds)
    rw [hs] at hfo
    have hge := grownCap_ge w (xs.length + m) cap 5
    have hcm : grownCap w (xs.length + m) cap 5 ≤ maxLen := grownCap_le_maxLen w (xs.length + m) cap 5 (by simp only [maxLen]; omega)
    refine ⟨.slice (some ⟨w.heap.size, 0, none⟩) (xs.length + m) (grownCap w (xs.length + m) cap 5), w.drew.alloc (.cells ((U8 xs).toArray ++ (U8 (List.replicate m 0)).toArray ++ Builtin.zeroCells (Value.cells (.int .u8 0)) (grownCap w (xs.length + m) cap 5 - (xs.length + m))) 5), ?_, ?_, ?_, .inr rfl⟩
    · simp [Builtin.append_, run_underlying Tryd.underlying34, run_underlying Tryd.underlying3, sizeOf, typeInfo, zeroValue, hi, hz, hs, hby, asInt, asIntOf, hw, hneg, h48i, hn, hm, h63', h48', hZ, hfo, Question.forced, newRow, grownCap]
      congr 2
      apply Array.ext'
      simp [List.append_assoc]
    · refine Own.mk' (n := xs.length + m) ⟨hlen, .inr ⟨w.heap.size, _, _, rfl, hbase, heap_alloc_new w.drew _, hge, hcm, ?_, ?_⟩⟩ (by simp) rfl
      · simp only [Array.size_append, List.size_toArray, size_zeroCells, hlZ, U8_length]
        simp [Value.cells]
        omega
      · simp only [Array.toList_append, List.append_assoc]
        rw [← List.append_assoc, ← U8_append, ← hlen]
        exact List.take_left
    · exact ⟨rfl, rfl, rfl, by simp, fun k hk _ => heap_alloc_old w.drew _ hk⟩

/-- THE ARM: 'append(data, make([]byte, m)...)', data an own row that is not nil. -/
theorem app_zeros {w : World} {ops : Array Oper} {rest : List Oper} {o : Oper} {a : Act} {Q : Exit → Act → World → Prop} (hgd : o.guard = none) (s x : Operand)
    (ho : o.op = .call { callee := .builtin .append, args := #[s, x], argTypes := #[34, 3] })
    (base g n cap : Nat) (xs : List Int) (hs : a.eval s = .slice (some ⟨g, 0, none⟩) n cap) (hown : Own w base (.slice (some ⟨g, 0, none⟩) n cap) xs) (z : Int) (m : Nat)
    (hx : a.eval x = .int .i64 z) (hz : z = (m : Int)) (hb : xs.length + m ≤ 140737488355328) (hbase : base ≤ w.heap.size)
    (h : ∀ v' w', Own w' base v' (xs ++ List.replicate m 0) → Below base w w' → w.grownBy w' (some g) → (v'.ownBlock = some g ∨ v'.ownBlock = some w.heap.size) → wpList Tryd.prog ops Q rest (a.put o.dst v') w') :
    wpList Tryd.prog ops Q (o :: rest) a w := by
  subst hz
  refine wpList_plain hgd fun K hK => ?_
  obtain ⟨v', w', hrun, h2, h3, h4⟩ := run_app_zeros w o.type base g n cap xs hown m hb hbase
  unfold Oper.wp execOp
  simp only [ho, resolve, invoke, builtin, Sem.run_bind, Sem.run_pure, Result.andThen_ok, List.map_toArray, List.map_cons, List.map_nil, hs, hx, hrun]
  exact hK _ _ (h v' w' h2 (below_of_grown h3 hbase (fun k hk => (hown.lt (by simpa [Value.ownBlock] using hk)).1)) h3 h4)

/-- An append onto an own row that has room: in place. -/
theorem run_app_room (w : World) (ty : TypeId) (base g n cap : Nat) (xs : List Int) (hown : Own w base (.slice (some ⟨g, 0, none⟩) n cap) xs) (B : Nat) (A : Option Addr) (c : Nat) (ys : List Int) (hr : Rd w B A .u8 ys) (h0 : 0 < ys.length) (hroom : n + ys.length ≤ cap) :
    ∃ w', (Builtin.append_ #[34, 34] ty #[.slice (some ⟨g, 0, none⟩) n cap, .slice A ys.length c]).run Tryd.prog w = .ok (.slice (some ⟨g, 0, none⟩) (n + ys.length) cap) w' ∧ Own w' base (.slice (some ⟨g, 0, none⟩) (n + ys.length) cap) (xs ++ ys) ∧ w.grownBy w' (some g) := by
  obtain rfl := hown.len
  obtain ⟨i, hi, hz, hs, hby⟩ := info_parts u8info
  obtain ⟨g', cap', cur, e, hbg, hg, hnc, hmx, hcs, ht⟩ := hown.2.resolve_left (by simp)
  simp only [Value.slice.injEq, Option.some.injEq, Addr.mk.injEq, and_true] at e
  obtain ⟨rfl, _, rfl⟩ := e
  obtain ⟨b, off, rfl, _, _⟩ := hr.at0 h0
  have hcl : cur.toList.length = cap := by simpa using hcs
  have hlen : (U8 (xs ++ ys)).length = (xs.length + ys.length) * 1 := by simp [U8]
  rw [Nat.mul_one] at ht
  have hrun := run_append_room (P := Tryd.prog) w 34 ty 5 i Tryd.underlying34 hi g xs.length cap cur hg ⟨b, off, none⟩ ys.length c (U8 ys) (by rw [U8_length, hs]; omega) hr.cells (U8_one ys) hroom (by rw [hs, U8_length, ← Array.length_toList]; omega)
  rw [hs, Nat.mul_one] at hrun
  refine ⟨_, hrun, ?_, ⟨rfl, rfl, rfl, by simp, fun k _ hk => setRow_other w g k _ (fun e => hk (by rw [e]))⟩⟩
  refine Own.mk' (n := xs.length + ys.length) ⟨hlen, .inr ⟨g, cap, _, rfl, hbg, setRow_heap w g cur _ _ _ hg, hroom, hmx, ?_, ?_⟩⟩ (by simp) rfl
  · simp only [List.size_toArray, List.length_append, List.length_take, List.length_drop, hcl, U8_length]
    omega
  · rw [ht, ← U8_append, ← hlen]
    exact List.take_left
/-- THE ARM. -/
theorem app_room {w : World} {ops : Array Oper} {rest : List Oper} {o : Oper} {a : Act} {Q : Exit → Act → World → Prop} (hgd : o.guard = none) (s x : Operand)
    (ho : o.op = .call { callee := .builtin .append, args := #[s, x], argTypes := #[34, 34] })
    (base g n cap : Nat) (xs : List Int) (hs : a.eval s = .slice (some ⟨g, 0, none⟩) n cap) (hown : Own w base (.slice (some ⟨g, 0, none⟩) n cap) xs) (B : Nat) (A : Option Addr) (m c : Nat) (ys : List Int)
    (hx : a.eval x = .slice A m c) (hm : m = ys.length) (hr : Rd w B A .u8 ys) (h0 : 0 < ys.length) (hroom : n + ys.length ≤ cap)
    (h : ∀ w', Own w' base (.slice (some ⟨g, 0, none⟩) (n + ys.length) cap) (xs ++ ys) → w.grownBy w' (some g) → wpList Tryd.prog ops Q rest (a.put o.dst (.slice (some ⟨g, 0, none⟩) (n + ys.length) cap)) w') :
    wpList Tryd.prog ops Q (o :: rest) a w := by
  subst hm
  refine wpList_plain hgd fun K hK => ?_
  obtain ⟨w', hrun, h2, h3⟩ := run_app_room w o.type base g n cap xs hown B A c ys hr h0 hroom
  unfold Oper.wp execOp
  simp only [ho, resolve, invoke, builtin, Sem.run_bind, Sem.run_pure, Result.andThen_ok, List.map_toArray, List.map_cons, List.map_nil, hs, hx, hrun]
  exact hK _ _ (h w' h2 h3)

end Go.Proofs.YtebeekjcepjcnaaDoor
