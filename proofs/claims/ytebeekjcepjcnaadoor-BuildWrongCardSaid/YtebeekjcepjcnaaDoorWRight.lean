/-
  Package build: Right.
-/
import Derived.WalkKit
import Derived.WalkSpells
import Derived.WalkLawsBesides
import Derived.WalkSmall
import Derived.Lib.Hide
import Derived.Deep.AppendLies
import Derived.Maps.AppendAt
import Derived.Laws.AppendOwnNone
import Derived.Laws.CopyOwn
import Derived.OneCell
import Derived.Orders
import Derived.RegionTactic
import Derived.Still
import Derived.Test.YtebeekjcepjcnaaDoorProg
import Derived.Deep.MidRow
import Derived.Lib.SliceRun
import Derived.RangeFuncNested
import Derived.RangeFuncBound
import Derived.RangeFuncCalls
import Derived.RangeFuncLeaves
import Derived.Shelf.Abstract
import Derived.OwnWalkIn
import Derived.TacticsInMore
import Derived.LoopNIn
import Derived.LoopIn
import Derived.Lib.AppendZeros
import Derived.MapKept
import Derived.Deep.DeepCutAuto
import Derived.Laws.StructEq
import Derived.Test.YtebeekjcepjcnaaDoorWBase
import Derived.Test.YtebeekjcepjcnaaDoorWBits
import Derived.Test.YtebeekjcepjcnaaDoorWCsum
import Derived.Test.YtebeekjcepjcnaaDoorWSum
import Derived.Test.YtebeekjcepjcnaaDoorWConcat
import Derived.Test.YtebeekjcepjcnaaDoorWFix
import Derived.Test.YtebeekjcepjcnaaDoorWFacts
import Derived.Test.YtebeekjcepjcnaaDoorWRegion
import Derived.Test.YtebeekjcepjcnaaDoorWWalk
import Derived.Test.YtebeekjcepjcnaaDoorWStep
import Derived.Test.YtebeekjcepjcnaaDoorWMaps
import Derived.Test.YtebeekjcepjcnaaDoorWQuoted
import Derived.Test.YtebeekjcepjcnaaDoorWBuilda
import Derived.Test.YtebeekjcepjcnaaDoorWRerr
import Derived.Test.YtebeekjcepjcnaaDoorWOptsb
namespace Go.Proofs.YtebeekjcepjcnaaDoor
open Go.RowKit

theorem wpList_load_g {P : Program} {ops : Array Oper} {rest : List Oper} {o : Oper} {a : Act} {w : World} {Q : Exit → Act → World → Prop} (hw : Region.wanted o (yielded ops a.tmps) = true) (ty : TypeId) (x : Operand) (ho : o.op = .load ty x)
    (g : Nat) (hx : a.eval x = .pointer (some ⟨g, 0, none⟩)) (t : TypeId) (cs : Array Value) (fr : Nat × Nat) (d : TypeDesc) (hg : w.heap[g]? = some (.cells cs t fr))
    (hu : P.underlying ty = some d) (hd : (match d with | .struct _ | .array _ _ => true | _ => false) = true) (hi : (P.info? ty).map (·.size) = some cs.size)
    (h : wpList P ops Q rest (a.put o.dst (.agg cs)) w) : wpList P ops Q (o :: rest) a w := by
  rw [wpList, if_pos hw]
  exact .inl (wp_load_row ty x ho g hx t cs fr d hg hu hd hi h)
def Facts.fPart (f : Facts) : Facts := if f.kind = 1 then f.tcpPart else if f.kind = 2 then f.udpPart else if f.kind = 5 then f.errorPart else f.queryPart
def Facts.fRight (f : Facts) : Bool := if f.kind = 1 then f.rightTCP else if f.kind = 2 then f.rightUDP else if f.kind = 5 then f.rightError else f.rightQuery
theorem fields_any (f : Facts) (w : World) (ho : f.Ok) (hs : SortsAt w) : Calls Tryd.prog (fieldsS f.kind) #[f.val] w fun e w' => e = .returned (.tuple #[f.fPart.val, .bool f.fRight]) ∧ Below w.heap.size w w' := by
  unfold Facts.fPart Facts.fRight fieldsS
  by_cases h1 : f.kind = 1
  · rw [if_pos h1, if_pos h1, if_pos h1]; exact rightTCP_any f w ho.flags0 ho.flags1
  · rw [if_neg h1, if_neg h1, if_neg h1]
    by_cases h2 : f.kind = 2
    · rw [if_pos h2, if_pos h2, if_pos h2]; exact rightUDP_any f w
    · rw [if_neg h2, if_neg h2, if_neg h2]
      by_cases h5 : f.kind = 5
      · rw [if_pos h5, if_pos h5, if_pos h5]; exact rightError_any f w hs ho.type0 ho.type1 ho.code0
      · rw [if_neg h5, if_neg h5, if_neg h5]; exact rightQuery_any f w hs ho.type0 ho.type1 ho.code0
theorem callFunc_s (k : Int) (args : Array Value) (W : World) : (callFunc (fieldsS k) args).run Tryd.prog W = .ok (.enter (fieldsS k) args) W := by
  unfold fieldsS
  split
  · kernel_rfl
  · split
    · kernel_rfl
    · split <;> kernel_rfl

def Facts.right (f : Facts) : Bool := decide (1 ≤ f.kind) && decide (f.kind ≤ 5) && (f.key.proto == protoS f.kind) && usualB f.key.src && usualB f.key.dst && !(f.key.src == f.key.dst) && f.fRight && f.fPart.eqB f

set_option maxRecDepth 100000 in
set_option maxHeartbeats 2000000 in
theorem right_other (f : Facts) (w : World) (hk : ¬ (1 ≤ f.kind ∧ f.kind ≤ 5)) :
    Calls Tryd.prog 34 #[f.val] w fun e w' => e = .returned (.bool false) ∧ Below w.heap.size w w' := by
  obtain ⟨⟨k0, k1, k2, k3, k4⟩, kind, flags, type, code, seqn, ackn, window, length, ⟨q0, q1, q2, q3, q4⟩, qkind⟩ := f
  have Hlk := Lib.hid (fun (W : World) (m : Nat) (h : SortsM W m) => lookup_sorts_none W m h kind hk true)
  clear hk
  unfold noSort at Hlk
  dsimp only [Facts.val, Facts.cells, Key.cells, List.cons_append, List.nil_append]
  go_enter Tryd.func34, Tryd.ntmps34
  go_wp2_with fail
  refine wp_name1 ?_
  intro w1 hb1 hs1 b0
  have hSt := (St.nil hb1 hb1.size).cons b0
  refine wp_region_walk (by kernel_rfl) (fun _ W => St w w.heap.size _ W) [] (Late w.heap.size 95 #[.int .u8 0, .nilFunc, .nilFunc] #[.int .u8 0, .nilFunc, .nilFunc])
    [7] (fun _ => LateB (w.heap.size + 1) 95 #[.int .u8 0, .nilFunc, .nilFunc] #[.int .u8 0, .nilFunc, .nilFunc]) [1, 2, 0, 3, 4, 5, 6, 7, 8, 9] (by kernel_rfl) ?hfree hSt.drew ?hwalk
  case hfree =>
    intro k hk
    obtain rfl : k = 7 := by simpa using hk
    refine ⟨rfl, LateB.keep, fun o ho a c W hE => ?_⟩
    simp at ho
    subst ho
    go_wp2_with fail
    have hl := (hE.get 0 rfl).lt
    exact ⟨_, rfl, ⟨W.heap.size, rfl, hl, .inl (Blk.new _ _ _)⟩, Late.grown ((Below.refl _ _).alloc (Nat.le_refl _) _) hE.2.1, hE.alloc _⟩
  iterate 2
    apply Walk.one rfl rfl rfl
    case hrun =>
      intro c W hE hF
      have hc2 := (hE.get 0 rfl).cell
      go_wp2_with fail
      exact TextPost.mk ⟨Late.refl _, hE⟩
    case hv => rfl
  refine Walk.whatever (fun u W => ∃ m, u = .map (some m) ∧ SortsM W m) ?_ rfl rfl rfl (by kernel_rfl) ?_ (fun u0 => ?_)
  · rintro u W W' ⟨m, e, hm⟩ hG
    exact ⟨m, e, hG.keep m _ hm (by simp)⟩
  · intro c W hE hF
    go_wp2_with fail
    refine (sorts_any _).mono ?_
    rintro e W2 ⟨m, rfl, hm0, hm, l⟩
    go_wp2_with fail
    exact ⟨_, rfl, ⟨m, rfl, hm⟩, Late.grown l hE.2.1, hE.below l⟩
  dsimp only [Act.put]
  simp only [List.setIfInBounds_toArray, List.set_cons_succ, List.set_cons_zero]
  apply Walk.one rfl rfl rfl
  case hrun =>
    intro c W hE hF
    have hlk : (Instr.lookup 96 u0 (.int .u8 kind) true).run Tryd.prog W = .ok (.tuple #[.agg #[.int .u8 0, .nilFunc, .nilFunc], .bool false]) W := by
      obtain ⟨m, rfl, hm⟩ := hF.head
      exact Hlk.out W m hm
    go_wp2_with fail
    exact TextPost.mk ⟨Late.refl _, hE⟩
  case hv => rfl
  iterate 3
    apply Walk.one rfl rfl rfl
    case hrun =>
      intro c W hE hF
      go_wp2_with fail
      exact TextPost.mk ⟨Late.refl _, hE⟩
    case hv => rfl
  refine Walk.freeOp LateB.keep rfl rfl (by kernel_rfl) ?_ (fun u8 => ?_)
  · intro a c W hE
    go_wp2_with fail
    have hl := (hE.get 0 rfl).lt
    exact ⟨_, rfl, ⟨W.heap.size, rfl, hl, .inl (Blk.new _ _ _)⟩, Late.grown ((Below.refl _ _).alloc (Nat.le_refl _) _) hE.2.1, hE.alloc _⟩
  dsimp only [Act.put]
  simp only [List.setIfInBounds_toArray, List.set_cons_succ, List.set_cons_zero]
  refine Walk.whatever (fun _ W => LateN (w.heap.size + 1) 95 #[.int .u8 0, .nilFunc, .nilFunc] u8 W) ?_ rfl rfl rfl (by kernel_rfl) ?_ (fun u9 => ?_)
  · exact fun _ => LateN.keep u8
  · intro c W hE hF
    obtain ⟨g, rfl, hg0, hg | hg⟩ := hF.head
    all_goals
      refine wpList_store_row rfl _ _ _ rfl g #[.int .u8 0, .nilFunc, .nilFunc] rfl rfl _ _ hg (by kernel_rfl) (by simp) (by simp [Value.oneCell']) ?_
      go_wp2_with fail
      refine ⟨undef, rfl, ⟨g, rfl, hg0, setRow_heap _ _ _ _ _ _ hg⟩, ?_, hE.rowFar (by omega) (by simp; omega) _⟩
    · exact Late.store hg (by omega)
    · exact Late.again hg (by omega)
  dsimp only [Act.put]
  apply Walk.one rfl rfl rfl
  case hrun =>
    intro c W hE hF
    go_wp2_with fail
    exact TextPost.mk ⟨Late.refl _, hE⟩
  case hv => rfl
  refine Walk.done (fun W hE hF => ?_)
  obtain ⟨g, rfl, hg0, hg⟩ := hF.head
  have hbW := hE.1
  clear hSt hE hF
  go_wp2_with fail
  go_ret
  exact ⟨rfl, hbW⟩

set_option maxRecDepth 100000 in
set_option maxHeartbeats 4000000 in
theorem right_in (f : Facts) (w : World) (ho : f.Ok) (hs : SortsAt w) (hk0 : 1 ≤ f.kind) (hk1 : f.kind ≤ 5) :
    Calls Tryd.prog 34 #[f.val] w fun e w' => e = .returned (.bool f.right) ∧ Below w.heap.size w w' := by
  have HF := Lib.hid (fun W h => fields_any f W ho h)
  have HE := Lib.hid (fun W => run_eq_facts f.fPart f W)
  obtain ⟨C, hC, hCs, hC1⟩ := val_cells f.fPart
  rw [hC] at HF HE
  have HCs := Lib.hid hCs
  have HC1 := Lib.hid hC1
  have Hs := Lib.hid hs
  have Hlk := Lib.hid (fun (W : World) (m : Nat) (h : SortsM W m) => lookup_sorts W m h f.kind hk0 hk1 true)
  have hcf := callFunc_s f.kind
  obtain ⟨c1, h1⟩ : ∃ c, (f.key.proto != protoS f.kind) = c := ⟨_, rfl⟩
  obtain ⟨c2, h2⟩ : ∃ c, usualB f.key.src = c := ⟨_, rfl⟩
  obtain ⟨c3, h3⟩ : ∃ c, usualB f.key.dst = c := ⟨_, rfl⟩
  obtain ⟨c4, h4⟩ : ∃ c, (f.key.src == f.key.dst) = c := ⟨_, rfl⟩
  have Hr := Lib.hid (show f.right = (!c1 && c2 && c3 && !c4 && f.fRight && f.fPart.eqB f) by
    have e1 : (f.key.proto == protoS f.kind) = !c1 := by rw [← h1]; simp [bne]
    have e0 : decide (1 ≤ f.kind) = true := by simpa using hk0
    have e00 : decide (f.kind ≤ 5) = true := by simpa using hk1
    unfold Facts.right; rw [e0, e00, e1, h2, h3, h4]; rfl)
  clear ho hs hk0 hk1 hC hCs hC1
  generalize f.right = RR at *
  generalize f.fRight = c5 at *
  generalize f.fPart.eqB f = c6 at *
  unfold sortV at Hlk
  generalize protoS f.kind = pr at *
  generalize fieldsS f.kind = fn at *
  generalize dataS f.kind = dn at *
  obtain ⟨⟨k0, k1, k2, k3, k4⟩, kind, flags, type, code, seqn, ackn, window, length, ⟨q0, q1, q2, q3, q4⟩, qkind⟩ := f
  dsimp only [Facts.val, Facts.cells, Key.cells, List.cons_append, List.nil_append]
  dsimp only [Facts.val, Facts.cells, Key.cells, List.cons_append, List.nil_append] at HF
  dsimp only [Facts.val, Facts.cells, Key.cells, List.cons_append, List.nil_append] at HE
  try dsimp only at Hlk
  try dsimp only at h1
  try dsimp only at h2
  try dsimp only at h3
  try dsimp only at h4
  go_enter Tryd.func34, Tryd.ntmps34
  go_wp2_with fail
  refine wp_name1 ?_
  intro w1 hb1 hs1 b0
  have hSt := (St.nil hb1 hb1.size).cons b0
  refine wp_region_walk (by kernel_rfl) (fun _ W => St w w.heap.size _ W) [] (Late w.heap.size 95 #[.int .u8 0, .nilFunc, .nilFunc] #[.int .u8 pr, .func (.func fn) #[] #[], .func (.func dn) #[] #[]])
    [7] (fun _ => LateB (w.heap.size + 1) 95 #[.int .u8 0, .nilFunc, .nilFunc] #[.int .u8 pr, .func (.func fn) #[] #[], .func (.func dn) #[] #[]]) [1, 2, 0, 3, 4, 5, 6, 7, 8, 9] (by kernel_rfl) ?hfree hSt.drew ?hwalk
  case hfree =>
    intro k hk
    obtain rfl : k = 7 := by simpa using hk
    refine ⟨rfl, LateB.keep, fun o ho a c W hE => ?_⟩
    simp at ho
    subst ho
    go_wp2_with fail
    have hl := (hE.get 0 rfl).lt
    exact ⟨_, rfl, ⟨W.heap.size, rfl, hl, .inl (Blk.new _ _ _)⟩, Late.grown ((Below.refl _ _).alloc (Nat.le_refl _) _) hE.2.1, hE.alloc _⟩
  iterate 2
    apply Walk.one rfl rfl rfl
    case hrun =>
      intro c W hE hF
      have hc2 := (hE.get 0 rfl).cell
      go_wp2_with fail
      exact TextPost.mk ⟨Late.refl _, hE⟩
    case hv => rfl
  refine Walk.whatever (fun u W => ∃ m, u = .map (some m) ∧ SortsM W m) ?_ rfl rfl rfl (by kernel_rfl) ?_ (fun u0 => ?_)
  · rintro u W W' ⟨m, e, hm⟩ hG
    exact ⟨m, e, hG.keep m _ hm (by simp)⟩
  · intro c W hE hF
    go_wp2_with fail
    refine (sorts_any _).mono ?_
    rintro e W2 ⟨m, rfl, hm0, hm, l⟩
    go_wp2_with fail
    exact ⟨_, rfl, ⟨m, rfl, hm⟩, Late.grown l hE.2.1, hE.below l⟩
  dsimp only [Act.put]
  simp only [List.setIfInBounds_toArray, List.set_cons_succ, List.set_cons_zero]
  apply Walk.one rfl rfl rfl
  case hrun =>
    intro c W hE hF
    have hlk : (Instr.lookup 96 u0 (.int .u8 kind) true).run Tryd.prog W = .ok (.tuple #[.agg #[.int .u8 pr, .func (.func fn) #[] #[], .func (.func dn) #[] #[]], .bool true]) W := by
      obtain ⟨m, rfl, hm⟩ := hF.head
      exact Hlk.out W m hm
    go_wp2_with fail
    exact TextPost.mk ⟨Late.refl _, hE⟩
  case hv => rfl
  iterate 3
    apply Walk.one rfl rfl rfl
    case hrun =>
      intro c W hE hF
      go_wp2_with fail
      exact TextPost.mk ⟨Late.refl _, hE⟩
    case hv => rfl
  refine Walk.freeOp LateB.keep rfl rfl (by kernel_rfl) ?_ (fun u8 => ?_)
  · intro a c W hE
    go_wp2_with fail
    have hl := (hE.get 0 rfl).lt
    exact ⟨_, rfl, ⟨W.heap.size, rfl, hl, .inl (Blk.new _ _ _)⟩, Late.grown ((Below.refl _ _).alloc (Nat.le_refl _) _) hE.2.1, hE.alloc _⟩
  dsimp only [Act.put]
  simp only [List.setIfInBounds_toArray, List.set_cons_succ, List.set_cons_zero]
  refine Walk.whatever (fun _ W => LateN (w.heap.size + 1) 95 #[.int .u8 pr, .func (.func fn) #[] #[], .func (.func dn) #[] #[]] u8 W) ?_ rfl rfl rfl (by kernel_rfl) ?_ (fun u9 => ?_)
  · exact fun _ => LateN.keep u8
  · intro c W hE hF
    obtain ⟨g, rfl, hg0, hg | hg⟩ := hF.head
    all_goals
      refine wpList_store_row rfl _ _ _ rfl g #[.int .u8 pr, .func (.func fn) #[] #[], .func (.func dn) #[] #[]] rfl rfl _ _ hg (by kernel_rfl) (by simp) (by simp [Value.oneCell']) ?_
      go_wp2_with fail
      refine ⟨undef, rfl, ⟨g, rfl, hg0, setRow_heap _ _ _ _ _ _ hg⟩, ?_, hE.rowFar (by omega) (by simp; omega) _⟩
    · exact Late.store hg (by omega)
    · exact Late.again hg (by omega)
  dsimp only [Act.put]
  apply Walk.one rfl rfl rfl
  case hrun =>
    intro c W hE hF
    go_wp2_with fail
    exact TextPost.mk ⟨Late.refl _, hE⟩
  case hv => rfl
  refine Walk.done (fun W hE hF => ?_)
  obtain ⟨g, rfl, hg0, hg⟩ := hF.head
  cases c1
  rotate_left
  · have hc0 := (hE.get 0 rfl).cell
    have hcg := hg.cell
    have hbW := hE.1
    clear hSt hE hF
    go_wp2_with (go_at_call 67; refine (usual_any _ _).mono ?_; rintro e wz ⟨rfl, rfl⟩)
    go_ret
    exact ⟨by rw [Hr.out]; rfl, hbW⟩
  cases c2
  · have hc0 := (hE.get 0 rfl).cell
    have hcg := hg.cell
    have hbW := hE.1
    clear hSt hE hF
    go_wp2_with (go_at_call 67; refine (usual_any _ _).mono ?_; rintro e wz ⟨rfl, rfl⟩)
    go_ret
    exact ⟨by rw [Hr.out]; rfl, hbW⟩
  cases c3
  · have hc0 := (hE.get 0 rfl).cell
    have hcg := hg.cell
    have hbW := hE.1
    clear hSt hE hF
    go_wp2_with (go_at_call 67; refine (usual_any _ _).mono ?_; rintro e wz ⟨rfl, rfl⟩)
    go_ret
    exact ⟨by rw [Hr.out]; rfl, hbW⟩
  cases c4
  rotate_left
  · have hc0 := (hE.get 0 rfl).cell
    have hcg := hg.cell
    have hbW := hE.1
    clear hSt hE hF
    go_wp2_with (go_at_call 67; refine (usual_any _ _).mono ?_; rintro e wz ⟨rfl, rfl⟩)
    go_ret
    exact ⟨by rw [Hr.out]; rfl, hbW⟩
  have b0' := hE.get 0 rfl
  have hc0 := b0'.cell
  have hcg := hg.cell
  have hbW := hE.1
  have Hs2 := Lib.hid (Hs.out.below hbW (Nat.le_refl _))
  clear hSt hE hF
  have heq := HE.out
  go_upto_region 5 with (first | ((with_reducible refine look_load ?_); refine wpList_load_row rfl _ _ rfl _ rfl _ _ _ _ b0' Tryd.underlying27 rfl (by kernel_rfl) ?_) | ((with_reducible refine look_store ?_); refine wpList_store_new rfl _ _ _ rfl _ C rfl rfl _ _ rfl (by rw [HCs.out]; kernel_rfl) (by rw [HCs.out]; rfl) HC1.out ?_) | (go_at_call 67; refine (usual_any _ _).mono ?_; rintro e wz ⟨rfl, rfl⟩) | ((with_reducible refine (HF.out _ Hs2.out).mono ?_); rintro e w5 ⟨rfl, l5⟩) | fail)
  clear hc0 hcg
  refine wp_name1 ?_
  intro w6 hb7 hs7 bC
  have b0 := (b0'.below l5 b0'.lt).below hb7 (Nat.lt_of_lt_of_le b0'.lt l5.size)
  have hb8 := (hbW.trans (l5.mono hbW.size)).trans (hb7.mono (Nat.le_trans hbW.size l5.size))
  cases c5
  · go_wp2_with fail
    go_ret
    exact ⟨by rw [Hr.out]; rfl, hb8⟩
  · go_wp2_with (first | ((with_reducible refine look_load ?_); refine wpList_load_g rfl _ _ rfl _ rfl _ _ _ _ b0 Tryd.underlying27 rfl (by kernel_rfl) ?_) | ((with_reducible refine look_load ?_); refine wpList_load_g rfl _ _ rfl _ rfl _ C _ _ bC Tryd.underlying27 rfl (by rw [HCs.out]; kernel_rfl) ?_) | fail)
    go_ret
    exact ⟨by rw [Hr.out]; rfl, hb8⟩

theorem right_all (f : Facts) (w : World) (ho : f.Ok) (hs : SortsAt w) : Calls Tryd.prog 34 #[f.val] w fun e w' => e = .returned (.bool f.right) ∧ Below w.heap.size w w' := by
  by_cases hk : 1 ≤ f.kind ∧ f.kind ≤ 5
  · exact right_in f w ho hs hk.1 hk.2
  · have hr : f.right = false := by
      unfold Facts.right
      by_cases h1 : 1 ≤ f.kind
      · have h2 : decide (f.kind ≤ 5) = false := by simp; omega
        rw [h2]; simp
      · have h2 : decide (1 ≤ f.kind) = false := by simp; omega
        rw [h2]; simp
    rw [hr]
    exact right_other f w hk

end Go.Proofs.YtebeekjcepjcnaaDoor
