/-
  Package build: the packet that an error quotes.
-/
import Derived.Test.YtebeekjcepjcnaaGreatDoorRStep
namespace Go.Proofs.YtebeekjcepjcnaaGreatDoor
open Go.RowKit

def isQ (k : Int) : Bool := decide (1 ≤ k) && decide (k ≤ 4)
def Facts.quotedF (f : Facts) : Facts := { Facts.zero with key := f.quoted, kind := f.qkind, flags := if f.qkind = 1 then 16 else 0, type := if f.qkind = 3 then 8 else 0 }
def qProto (k : Int) : Int := if isQ k then protoS k else 0
def qFields (k : Int) : Nat := if isQ k then fieldsS k else 44
def qData (k : Int) : Value := if isQ k then .func (.func (dataS k)) #[] #[] else .nilFunc
def Facts.quoteV (f : Facts) : Value := .agg (f.quotedF.cells ++ [.int .u8 (qProto f.qkind), .func (.func (qFields f.qkind)) #[] #[], qData f.qkind]).toArray
theorem isQ_no {k : Int} (h : ¬ (1 ≤ k ∧ k ≤ 5)) : isQ k = false := by
  unfold isQ
  simp only [Bool.and_eq_false_iff, decide_eq_false_iff_not]
  omega

set_option maxRecDepth 100000 in
set_option maxHeartbeats 1000000 in
theorem quoted_one (k0 k1 k2 k3 k4 kind flags type code seqn ackn window length q0 q1 q2 q3 q4 : Int) (w : World) :
    Calls Tryz.prog 82 #[(⟨⟨k0, k1, k2, k3, k4⟩, kind, flags, type, code, seqn, ackn, window, length, ⟨q0, q1, q2, q3, q4⟩, 1⟩ : Facts).val] w fun e w' => e = .returned (.tuple #[.agg #[.int .u8 q0, .int .u32 q1, .int .u32 q2, .int .u16 q3, .int .u16 q4, .int .u8 1, .int .u8 16, .int .u8 0, .int .u8 0, .int .u32 0, .int .u32 0, .int .i64 0, .int .i64 0, .int .u8 0, .int .u32 0, .int .u32 0, .int .u16 0, .int .u16 0, .int .u8 0, .int .u8 6, .func (.func 42) #[] #[], .func (.func 43) #[] #[]], .bool true]) ∧ Below w.heap.size w w' := by
  dsimp only [Facts.val, Facts.cells, Key.cells, List.cons_append, List.nil_append]
  go_enter Tryz.func82, Tryz.ntmps82
  go_upto_region 2 with (first | ((with_reducible refine look_store ?_); refine wpList_store_new rfl _ _ _ rfl _ _ rfl rfl _ _ (by first | (simp only [World.size_alloc] <;> omega) | rfl | omega) (by kernel_rfl) (by simp) (by simp [Value.oneCell']) ?_) | fail)
  dsimp only [Act.put]
  refine wp_name3 ?_
  intro w1 hb hs b0 b1 b2
  have hSt := (((St.nil hb (by omega)).cons b2).cons b1).cons b0
  refine wp_region_walk (by kernel_rfl) (fun _ W => St w w.heap.size _ W) [] (Late w.heap.size 77 #[.int .u8 0, .nilFunc, .nilFunc] #[.int .u8 6, .func (.func 42) #[] #[], .func (.func 43) #[] #[]])
    [8] (fun _ => LateB (w.heap.size + 3) 77 #[.int .u8 0, .nilFunc, .nilFunc] #[.int .u8 6, .func (.func 42) #[] #[], .func (.func 43) #[] #[]]) [1, 2, 3, 0, 4, 5, 6, 7, 8, 9, 10] (by kernel_rfl) ?hfree hSt.drew ?hwalk
  case hfree =>
    intro k hk
    obtain rfl : k = 8 := by simpa using hk
    refine ⟨rfl, LateB.keep, fun o ho a c W hE => ?_⟩
    simp at ho
    subst ho
    go_wp2_with fail
    have hl := (hE.get 2 rfl).lt
    exact ⟨_, rfl, ⟨W.heap.size, rfl, hl, .inl (Blk.new _ _ _)⟩, Late.grown ((Below.refl _ _).alloc (Nat.le_refl _) _) hE.2.1, hE.alloc _⟩
  iterate 3
    apply Walk.det rfl rfl rfl
    case hrun =>
      intro c W hE hF
      have hc2 := (hE.get 2 rfl).cell
      go_wp2_with fail
      exact TextPost.mk ⟨Late.refl _, hE⟩
    case hv => rfl
  refine Walk.any (fun u W => ∃ m, u = .map (some m) ∧ SortsM W m) ?_ rfl rfl rfl (by kernel_rfl) ?_ (fun u0 => ?_)
  · rintro u W W' ⟨m, e, hm⟩ hG
    exact ⟨m, e, hG.keep m _ hm (by simp)⟩
  · intro c W hE hF
    go_wp2_with fail
    refine (sorts_any _).mono ?_
    rintro e W2 ⟨m, rfl, hm0, hm, l⟩
    go_wp2_with fail
    exact ⟨_, rfl, ⟨m, rfl, hm⟩, Late.grown l hE.2.1, hE.below l⟩
  dsimp only [Act.put]
  simp only [List.setIfInBounds_toArray]
  apply Walk.det rfl rfl rfl
  case hrun =>
    intro c W hE hF
    have hlk : (Instr.lookup 78 u0 (.int .u8 1) true).run Tryz.prog W = .ok (.tuple #[.agg #[.int .u8 6, .func (.func 42) #[] #[], .func (.func 43) #[] #[]], .bool true]) W := by
      obtain ⟨m, rfl, hm⟩ := hF.head
      exact lookup_sorts W m hm 1 (by omega) (by omega) true
    go_wp2_with fail
    exact TextPost.mk ⟨Late.refl _, hE⟩
  case hv => rfl
  iterate 3
    apply Walk.det rfl rfl rfl
    case hrun =>
      intro c W hE hF
      go_wp2_with fail
      exact TextPost.mk ⟨Late.refl _, hE⟩
    case hv => rfl
  refine Walk.free LateB.keep rfl rfl (by kernel_rfl) ?_ (fun u8 => ?_)
  · intro a c W hE
    go_wp2_with fail
    have hl := (hE.get 2 rfl).lt
    exact ⟨_, rfl, ⟨W.heap.size, rfl, hl, .inl (Blk.new _ _ _)⟩, Late.grown ((Below.refl _ _).alloc (Nat.le_refl _) _) hE.2.1, hE.alloc _⟩
  dsimp only [Act.put]
  simp only [List.setIfInBounds_toArray]
  refine Walk.any (fun _ W => LateN (w.heap.size + 3) 77 #[.int .u8 6, .func (.func 42) #[] #[], .func (.func 43) #[] #[]] u8 W) ?_ rfl rfl rfl (by kernel_rfl) ?_ (fun u9 => ?_)
  · exact fun _ => LateN.keep u8
  · intro c W hE hF
    obtain ⟨g, rfl, hg0, hg | hg⟩ := hF.head
    all_goals
      refine wpList_store_row rfl _ _ _ rfl g #[.int .u8 6, .func (.func 42) #[] #[], .func (.func 43) #[] #[]] rfl rfl _ _ hg (by kernel_rfl) (by simp) (by simp [Value.oneCell']) ?_
      go_wp2_with fail
      refine ⟨undef, rfl, ⟨g, rfl, hg0, setRow_heap _ _ _ _ _ _ hg⟩, ?_, hE.rowFar (by omega) (by simp; omega) _⟩
    · exact Late.store hg (by omega)
    · exact Late.again hg (by omega)
  dsimp only [Act.put]
  apply Walk.det rfl rfl rfl
  case hrun =>
    intro c W hE hF
    go_wp2_with fail
    exact TextPost.mk ⟨Late.refl _, hE⟩
  case hv => rfl
  refine Walk.done (fun W hE hF => ?_)
  obtain ⟨g, rfl, hg0, hg⟩ := hF.head
  have hc2 := (hE.get 2 rfl).cell
  have hf2 := (hE.get 2 rfl).frozen
  go_upto_region 12 with (fail)
  have bq := (hE.get 2 rfl).set 6 (.int .u8 16)
  have bs := hg.far (p := ⟨w.heap.size + 2, 6, none⟩) (by simp; omega) (.int .u8 16)
  have br := (hE.get 1 rfl).far (p := ⟨w.heap.size + 2, 6, none⟩) (by simp) (.int .u8 16)
  have hbw : Below w.heap.size w (W.setCell ⟨w.heap.size + 2, 6, none⟩ (.int .u8 16)) := hE.1.setCell (by simp) _
  simp only [List.setIfInBounds_toArray] at bq
  generalize W.setCell ⟨w.heap.size + 2, 6, none⟩ (.int .u8 16) = W2 at *
  go_wp2_with (first | ((with_reducible refine look_load ?_); refine wpList_load_row rfl _ _ rfl _ rfl _ _ _ _ bq Tryz.underlying72 rfl (by kernel_rfl) ?_) | ((with_reducible refine look_load ?_); refine wpList_load_row rfl _ _ rfl _ rfl _ _ _ _ bs Tryz.underlying77 rfl (by kernel_rfl) ?_) | ((with_reducible refine look_store ?_); refine wpList_store_row rfl _ _ _ rfl _ _ rfl rfl _ _ br (by kernel_rfl) (by simp) (by simp [Value.oneCell']) ?_) | fail)
  exact bodyPost_ret (results_cell_tmp Tryz.results82 _ _ _ _ _ _ _ rfl (setRow_heap _ _ _ _ _ _ br) Tryz.underlying163 rfl (by kernel_rfl)) rfl ⟨rfl, below_setRow hbw (by omega) _⟩

set_option maxRecDepth 100000 in
set_option maxHeartbeats 1000000 in
theorem quoted_two (k0 k1 k2 k3 k4 kind flags type code seqn ackn window length q0 q1 q2 q3 q4 : Int) (w : World) :
    Calls Tryz.prog 82 #[(⟨⟨k0, k1, k2, k3, k4⟩, kind, flags, type, code, seqn, ackn, window, length, ⟨q0, q1, q2, q3, q4⟩, 2⟩ : Facts).val] w fun e w' => e = .returned (.tuple #[.agg #[.int .u8 q0, .int .u32 q1, .int .u32 q2, .int .u16 q3, .int .u16 q4, .int .u8 2, .int .u8 0, .int .u8 0, .int .u8 0, .int .u32 0, .int .u32 0, .int .i64 0, .int .i64 0, .int .u8 0, .int .u32 0, .int .u32 0, .int .u16 0, .int .u16 0, .int .u8 0, .int .u8 17, .func (.func 44) #[] #[], .func (.func 45) #[] #[]], .bool true]) ∧ Below w.heap.size w w' := by
  dsimp only [Facts.val, Facts.cells, Key.cells, List.cons_append, List.nil_append]
  go_enter Tryz.func82, Tryz.ntmps82
  go_upto_region 2 with (first | ((with_reducible refine look_store ?_); refine wpList_store_new rfl _ _ _ rfl _ _ rfl rfl _ _ (by first | (simp only [World.size_alloc] <;> omega) | rfl | omega) (by kernel_rfl) (by simp) (by simp [Value.oneCell']) ?_) | fail)
  dsimp only [Act.put]
  refine wp_name3 ?_
  intro w1 hb hs b0 b1 b2
  have hSt := (((St.nil hb (by omega)).cons b2).cons b1).cons b0
  refine wp_region_walk (by kernel_rfl) (fun _ W => St w w.heap.size _ W) [] (Late w.heap.size 77 #[.int .u8 0, .nilFunc, .nilFunc] #[.int .u8 17, .func (.func 44) #[] #[], .func (.func 45) #[] #[]])
    [8] (fun _ => LateB (w.heap.size + 3) 77 #[.int .u8 0, .nilFunc, .nilFunc] #[.int .u8 17, .func (.func 44) #[] #[], .func (.func 45) #[] #[]]) [1, 2, 3, 0, 4, 5, 6, 7, 8, 9, 10] (by kernel_rfl) ?hfree hSt.drew ?hwalk
  case hfree =>
    intro k hk
    obtain rfl : k = 8 := by simpa using hk
    refine ⟨rfl, LateB.keep, fun o ho a c W hE => ?_⟩
    simp at ho
    subst ho
    go_wp2_with fail
    have hl := (hE.get 2 rfl).lt
    exact ⟨_, rfl, ⟨W.heap.size, rfl, hl, .inl (Blk.new _ _ _)⟩, Late.grown ((Below.refl _ _).alloc (Nat.le_refl _) _) hE.2.1, hE.alloc _⟩
  iterate 3
    apply Walk.det rfl rfl rfl
    case hrun =>
      intro c W hE hF
      have hc2 := (hE.get 2 rfl).cell
      go_wp2_with fail
      exact TextPost.mk ⟨Late.refl _, hE⟩
    case hv => rfl
  refine Walk.any (fun u W => ∃ m, u = .map (some m) ∧ SortsM W m) ?_ rfl rfl rfl (by kernel_rfl) ?_ (fun u0 => ?_)
  · rintro u W W' ⟨m, e, hm⟩ hG
    exact ⟨m, e, hG.keep m _ hm (by simp)⟩
  · intro c W hE hF
    go_wp2_with fail
    refine (sorts_any _).mono ?_
    rintro e W2 ⟨m, rfl, hm0, hm, l⟩
    go_wp2_with fail
    exact ⟨_, rfl, ⟨m, rfl, hm⟩, Late.grown l hE.2.1, hE.below l⟩
  dsimp only [Act.put]
  simp only [List.setIfInBounds_toArray]
  apply Walk.det rfl rfl rfl
  case hrun =>
    intro c W hE hF
    have hlk : (Instr.lookup 78 u0 (.int .u8 2) true).run Tryz.prog W = .ok (.tuple #[.agg #[.int .u8 17, .func (.func 44) #[] #[], .func (.func 45) #[] #[]], .bool true]) W := by
      obtain ⟨m, rfl, hm⟩ := hF.head
      exact lookup_sorts W m hm 2 (by omega) (by omega) true
    go_wp2_with fail
    exact TextPost.mk ⟨Late.refl _, hE⟩
  case hv => rfl
  iterate 3
    apply Walk.det rfl rfl rfl
    case hrun =>
      intro c W hE hF
      go_wp2_with fail
      exact TextPost.mk ⟨Late.refl _, hE⟩
    case hv => rfl
  refine Walk.free LateB.keep rfl rfl (by kernel_rfl) ?_ (fun u8 => ?_)
  · intro a c W hE
    go_wp2_with fail
    have hl := (hE.get 2 rfl).lt
    exact ⟨_, rfl, ⟨W.heap.size, rfl, hl, .inl (Blk.new _ _ _)⟩, Late.grown ((Below.refl _ _).alloc (Nat.le_refl _) _) hE.2.1, hE.alloc _⟩
  dsimp only [Act.put]
  simp only [List.setIfInBounds_toArray]
  refine Walk.any (fun _ W => LateN (w.heap.size + 3) 77 #[.int .u8 17, .func (.func 44) #[] #[], .func (.func 45) #[] #[]] u8 W) ?_ rfl rfl rfl (by kernel_rfl) ?_ (fun u9 => ?_)
  · exact fun _ => LateN.keep u8
  · intro c W hE hF
    obtain ⟨g, rfl, hg0, hg | hg⟩ := hF.head
    all_goals
      refine wpList_store_row rfl _ _ _ rfl g #[.int .u8 17, .func (.func 44) #[] #[], .func (.func 45) #[] #[]] rfl rfl _ _ hg (by kernel_rfl) (by simp) (by simp [Value.oneCell']) ?_
      go_wp2_with fail
      refine ⟨undef, rfl, ⟨g, rfl, hg0, setRow_heap _ _ _ _ _ _ hg⟩, ?_, hE.rowFar (by omega) (by simp; omega) _⟩
    · exact Late.store hg (by omega)
    · exact Late.again hg (by omega)
  dsimp only [Act.put]
  apply Walk.det rfl rfl rfl
  case hrun =>
    intro c W hE hF
    go_wp2_with fail
    exact TextPost.mk ⟨Late.refl _, hE⟩
  case hv => rfl
  refine Walk.done (fun W hE hF => ?_)
  obtain ⟨g, rfl, hg0, hg⟩ := hF.head
  have hc2 := (hE.get 2 rfl).cell
  have hf2 := (hE.get 2 rfl).frozen
  go_upto_region 12 with (fail)
  have bq := hE.get 2 rfl
  have bs := hg
  have br := hE.get 1 rfl
  have hbw := hE.1
  clear hc2 hf2
  generalize W = W2 at *
  go_wp2_with (first | ((with_reducible refine look_load ?_); refine wpList_load_row rfl _ _ rfl _ rfl _ _ _ _ bq Tryz.underlying72 rfl (by kernel_rfl) ?_) | ((with_reducible refine look_load ?_); refine wpList_load_row rfl _ _ rfl _ rfl _ _ _ _ bs Tryz.underlying77 rfl (by kernel_rfl) ?_) | ((with_reducible refine look_store ?_); refine wpList_store_row rfl _ _ _ rfl _ _ rfl rfl _ _ br (by kernel_rfl) (by simp) (by simp [Value.oneCell']) ?_) | fail)
  exact bodyPost_ret (results_cell_tmp Tryz.results82 _ _ _ _ _ _ _ rfl (setRow_heap _ _ _ _ _ _ br) Tryz.underlying163 rfl (by kernel_rfl)) rfl ⟨rfl, below_setRow hbw (by omega) _⟩

set_option maxRecDepth 100000 in
set_option maxHeartbeats 1000000 in
theorem quoted_three (k0 k1 k2 k3 k4 kind flags type code seqn ackn window length q0 q1 q2 q3 q4 : Int) (w : World) :
    Calls Tryz.prog 82 #[(⟨⟨k0, k1, k2, k3, k4⟩, kind, flags, type, code, seqn, ackn, window, length, ⟨q0, q1, q2, q3, q4⟩, 3⟩ : Facts).val] w fun e w' => e = .returned (.tuple #[.agg #[.int .u8 q0, .int .u32 q1, .int .u32 q2, .int .u16 q3, .int .u16 q4, .int .u8 3, .int .u8 0, .int .u8 8, .int .u8 0, .int .u32 0, .int .u32 0, .int .i64 0, .int .i64 0, .int .u8 0, .int .u32 0, .int .u32 0, .int .u16 0, .int .u16 0, .int .u8 0, .int .u8 1, .func (.func 46) #[] #[], .func (.func 47) #[] #[]], .bool true]) ∧ Below w.heap.size w w' := by
  dsimp only [Facts.val, Facts.cells, Key.cells, List.cons_append, List.nil_append]
  go_enter Tryz.func82, Tryz.ntmps82
  go_upto_region 2 with (first | ((with_reducible refine look_store ?_); refine wpList_store_new rfl _ _ _ rfl _ _ rfl rfl _ _ (by first | (simp only [World.size_alloc] <;> omega) | rfl | omega) (by kernel_rfl) (by simp) (by simp [Value.oneCell']) ?_) | fail)
  dsimp only [Act.put]
  refine wp_name3 ?_
  intro w1 hb hs b0 b1 b2
  have hSt := (((St.nil hb (by omega)).cons b2).cons b1).cons b0
  refine wp_region_walk (by kernel_rfl) (fun _ W => St w w.heap.size _ W) [] (Late w.heap.size 77 #[.int .u8 0, .nilFunc, .nilFunc] #[.int .u8 1, .func (.func 46) #[] #[], .func (.func 47) #[] #[]])
    [8] (fun _ => LateB (w.heap.size + 3) 77 #[.int .u8 0, .nilFunc, .nilFunc] #[.int .u8 1, .func (.func 46) #[] #[], .func (.func 47) #[] #[]]) [1, 2, 3, 0, 4, 5, 6, 7, 8, 9, 10] (by kernel_rfl) ?hfree hSt.drew ?hwalk
  case hfree =>
    intro k hk
    obtain rfl : k = 8 := by simpa using hk
    refine ⟨rfl, LateB.keep, fun o ho a c W hE => ?_⟩
    simp at ho
    subst ho
    go_wp2_with fail
    have hl := (hE.get 2 rfl).lt
    exact ⟨_, rfl, ⟨W.heap.size, rfl, hl, .inl (Blk.new _ _ _)⟩, Late.grown ((Below.refl _ _).alloc (Nat.le_refl _) _) hE.2.1, hE.alloc _⟩
  iterate 3
    apply Walk.det rfl rfl rfl
    case hrun =>
      intro c W hE hF
      have hc2 := (hE.get 2 rfl).cell
      go_wp2_with fail
      exact TextPost.mk ⟨Late.refl _, hE⟩
    case hv => rfl
  refine Walk.any (fun u W => ∃ m, u = .map (some m) ∧ SortsM W m) ?_ rfl rfl rfl (by kernel_rfl) ?_ (fun u0 => ?_)
  · rintro u W W' ⟨m, e, hm⟩ hG
    exact ⟨m, e, hG.keep m _ hm (by simp)⟩
  · intro c W hE hF
    go_wp2_with fail
    refine (sorts_any _).mono ?_
    rintro e W2 ⟨m, rfl, hm0, hm, l⟩
    go_wp2_with fail
    exact ⟨_, rfl, ⟨m, rfl, hm⟩, Late.grown l hE.2.1, hE.below l⟩
  dsimp only [Act.put]
  simp only [List.setIfInBounds_toArray]
  apply Walk.det rfl rfl rfl
  case hrun =>
    intro c W hE hF
    have hlk : (Instr.lookup 78 u0 (.int .u8 3) true).run Tryz.prog W = .ok (.tuple #[.agg #[.int .u8 1, .func (.func 46) #[] #[], .func (.func 47) #[] #[]], .bool true]) W := by
      obtain ⟨m, rfl, hm⟩ := hF.head
      exact lookup_sorts W m hm 3 (by omega) (by omega) true
    go_wp2_with fail
    exact TextPost.mk ⟨Late.refl _, hE⟩
  case hv => rfl
  iterate 3
    apply Walk.det rfl rfl rfl
    case hrun =>
      intro c W hE hF
      go_wp2_with fail
      exact TextPost.mk ⟨Late.refl _, hE⟩
    case hv => rfl
  refine Walk.free LateB.keep rfl rfl (by kernel_rfl) ?_ (fun u8 => ?_)
  · intro a c W hE
    go_wp2_with fail
    have hl := (hE.get 2 rfl).lt
    exact ⟨_, rfl, ⟨W.heap.size, rfl, hl, .inl (Blk.new _ _ _)⟩, Late.grown ((Below.refl _ _).alloc (Nat.le_refl _) _) hE.2.1, hE.alloc _⟩
  dsimp only [Act.put]
  simp only [List.setIfInBounds_toArray]
  refine Walk.any (fun _ W => LateN (w.heap.size + 3) 77 #[.int .u8 1, .func (.func 46) #[] #[], .func (.func 47) #[] #[]] u8 W) ?_ rfl rfl rfl (by kernel_rfl) ?_ (fun u9 => ?_)
  · exact fun _ => LateN.keep u8
  · intro c W hE hF
    obtain ⟨g, rfl, hg0, hg | hg⟩ := hF.head
    all_goals
      refine wpList_store_row rfl _ _ _ rfl g #[.int .u8 1, .func (.func 46) #[] #[], .func (.func 47) #[] #[]] rfl rfl _ _ hg (by kernel_rfl) (by simp) (by simp [Value.oneCell']) ?_
      go_wp2_with fail
      refine ⟨undef, rfl, ⟨g, rfl, hg0, setRow_heap _ _ _ _ _ _ hg⟩, ?_, hE.rowFar (by omega) (by simp; omega) _⟩
    · exact Late.store hg (by omega)
    · exact Late.again hg (by omega)
  dsimp only [Act.put]
  apply Walk.det rfl rfl rfl
  case hrun =>
    intro c W hE hF
    go_wp2_with fail
    exact TextPost.mk ⟨Late.refl _, hE⟩
  case hv => rfl
  refine Walk.done (fun W hE hF => ?_)
  obtain ⟨g, rfl, hg0, hg⟩ := hF.head
  have hc2 := (hE.get 2 rfl).cell
  have hf2 := (hE.get 2 rfl).frozen
  go_upto_region 12 with (fail)
  have bq := (hE.get 2 rfl).set 7 (.int .u8 8)
  have bs := hg.far (p := ⟨w.heap.size + 2, 7, none⟩) (by simp; omega) (.int .u8 8)
  have br := (hE.get 1 rfl).far (p := ⟨w.heap.size + 2, 7, none⟩) (by simp) (.int .u8 8)
  have hbw : Below w.heap.size w (W.setCell ⟨w.heap.size + 2, 7, none⟩ (.int .u8 8)) := hE.1.setCell (by simp) _
  simp only [List.setIfInBounds_toArray] at bq
  generalize W.setCell ⟨w.heap.size + 2, 7, none⟩ (.int .u8 8) = W2 at *
  go_wp2_with (first | ((with_reducible refine look_load ?_); refine wpList_load_row rfl _ _ rfl _ rfl _ _ _ _ bq Tryz.underlying72 rfl (by kernel_rfl) ?_) | ((with_reducible refine look_load ?_); refine wpList_load_row rfl _ _ rfl _ rfl _ _ _ _ bs Tryz.underlying77 rfl (by kernel_rfl) ?_) | ((with_reducible refine look_store ?_); refine wpList_store_row rfl _ _ _ rfl _ _ rfl rfl _ _ br (by kernel_rfl) (by simp) (by simp [Value.oneCell']) ?_) | fail)
  exact bodyPost_ret (results_cell_tmp Tryz.results82 _ _ _ _ _ _ _ rfl (setRow_heap _ _ _ _ _ _ br) Tryz.underlying163 rfl (by kernel_rfl)) rfl ⟨rfl, below_setRow hbw (by omega) _⟩

set_option maxRecDepth 100000 in
set_option maxHeartbeats 1000000 in
theorem quoted_four (k0 k1 k2 k3 k4 kind flags type code seqn ackn window length q0 q1 q2 q3 q4 : Int) (w : World) :
    Calls Tryz.prog 82 #[(⟨⟨k0, k1, k2, k3, k4⟩, kind, flags, type, code, seqn, ackn, window, length, ⟨q0, q1, q2, q3, q4⟩, 4⟩ : Facts).val] w fun e w' => e = .returned (.tuple #[.agg #[.int .u8 q0, .int .u32 q1, .int .u32 q2, .int .u16 q3, .int .u16 q4, .int .u8 4, .int .u8 0, .int .u8 0, .int .u8 0, .int .u32 0, .int .u32 0, .int .i64 0, .int .i64 0, .int .u8 0, .int .u32 0, .int .u32 0, .int .u16 0, .int .u16 0, .int .u8 0, .int .u8 1, .func (.func 46) #[] #[], .func (.func 47) #[] #[]], .bool true]) ∧ Below w.heap.size w w' := by
  dsimp only [Facts.val, Facts.cells, Key.cells, List.cons_append, List.nil_append]
  go_enter Tryz.func82, Tryz.ntmps82
  go_upto_region 2 with (first | ((with_reducible refine look_store ?_); refine wpList_store_new rfl _ _ _ rfl _ _ rfl rfl _ _ (by first | (simp only [World.size_alloc] <;> omega) | rfl | omega) (by kernel_rfl) (by simp) (by simp [Value.oneCell']) ?_) | fail)
  dsimp only [Act.put]
  refine wp_name3 ?_
  intro w1 hb hs b0 b1 b2
  have hSt := (((St.nil hb (by omega)).cons b2).cons b1).cons b0
  refine wp_region_walk (by kernel_rfl) (fun _ W => St w w.heap.size _ W) [] (Late w.heap.size 77 #[.int .u8 0, .nilFunc, .nilFunc] #[.int .u8 1, .func (.func 46) #[] #[], .func (.func 47) #[] #[]])
    [8] (fun _ => LateB (w.heap.size + 3) 77 #[.int .u8 0, .nilFunc, .nilFunc] #[.int .u8 1, .func (.func 46) #[] #[], .func (.func 47) #[] #[]]) [1, 2, 3, 0, 4, 5, 6, 7, 8, 9, 10] (by kernel_rfl) ?hfree hSt.drew ?hwalk
  case hfree =>
    intro k hk
    obtain rfl : k = 8 := by simpa using hk
    refine ⟨rfl, LateB.keep, fun o ho a c W hE => ?_⟩
    simp at ho
    subst ho
    go_wp2_with fail
    have hl := (hE.get 2 rfl).lt
    exact ⟨_, rfl, ⟨W.heap.size, rfl, hl, .inl (Blk.new _ _ _)⟩, Late.grown ((Below.refl _ _).alloc (Nat.le_refl _) _) hE.2.1, hE.alloc _⟩
  iterate 3
    apply Walk.det rfl rfl rfl
    case hrun =>
      intro c W hE hF
      have hc2 := (hE.get 2 rfl).cell
      go_wp2_with fail
      exact TextPost.mk ⟨Late.refl _, hE⟩
    case hv => rfl
  refine Walk.any (fun u W => ∃ m, u = .map (some m) ∧ SortsM W m) ?_ rfl rfl rfl (by kernel_rfl) ?_ (fun u0 => ?_)
  · rintro u W W' ⟨m, e, hm⟩ hG
    exact ⟨m, e, hG.keep m _ hm (by simp)⟩
  · intro c W hE hF
    go_wp2_with fail
    refine (sorts_any _).mono ?_
    rintro e W2 ⟨m, rfl, hm0, hm, l⟩
    go_wp2_with fail
    exact ⟨_, rfl, ⟨m, rfl, hm⟩, Late.grown l hE.2.1, hE.below l⟩
  dsimp only [Act.put]
  simp only [List.setIfInBounds_toArray]
  apply Walk.det rfl rfl rfl
  case hrun =>
    intro c W hE hF
    have hlk : (Instr.lookup 78 u0 (.int .u8 4) true).run Tryz.prog W = .ok (.tuple #[.agg #[.int .u8 1, .func (.func 46) #[] #[], .func (.func 47) #[] #[]], .bool true]) W := by
      obtain ⟨m, rfl, hm⟩ := hF.head
      exact lookup_sorts W m hm 4 (by omega) (by omega) true
    go_wp2_with fail
    exact TextPost.mk ⟨Late.refl _, hE⟩
  case hv => rfl
  iterate 3
    apply Walk.det rfl rfl rfl
    case hrun =>
      intro c W hE hF
      go_wp2_with fail
      exact TextPost.mk ⟨Late.refl _, hE⟩
    case hv => rfl
  refine Walk.free LateB.keep rfl rfl (by kernel_rfl) ?_ (fun u8 => ?_)
  · intro a c W hE
    go_wp2_with fail
    have hl := (hE.get 2 rfl).lt
    exact ⟨_, rfl, ⟨W.heap.size, rfl, hl, .inl (Blk.new _ _ _)⟩, Late.grown ((Below.refl _ _).alloc (Nat.le_refl _) _) hE.2.1, hE.alloc _⟩
  dsimp only [Act.put]
  simp only [List.setIfInBounds_toArray]
  refine Walk.any (fun _ W => LateN (w.heap.size + 3) 77 #[.int .u8 1, .func (.func 46) #[] #[], .func (.func 47) #[] #[]] u8 W) ?_ rfl rfl rfl (by kernel_rfl) ?_ (fun u9 => ?_)
  · exact fun _ => LateN.keep u8
  · intro c W hE hF
    obtain ⟨g, rfl, hg0, hg | hg⟩ := hF.head
    all_goals
      refine wpList_store_row rfl _ _ _ rfl g #[.int .u8 1, .func (.func 46) #[] #[], .func (.func 47) #[] #[]] rfl rfl _ _ hg (by kernel_rfl) (by simp) (by simp [Value.oneCell']) ?_
      go_wp2_with fail
      refine ⟨undef, rfl, ⟨g, rfl, hg0, setRow_heap _ _ _ _ _ _ hg⟩, ?_, hE.rowFar (by omega) (by simp; omega) _⟩
    · exact Late.store hg (by omega)
    · exact Late.again hg (by omega)
  dsimp only [Act.put]
  apply Walk.det rfl rfl rfl
  case hrun =>
    intro c W hE hF
    go_wp2_with fail
    exact TextPost.mk ⟨Late.refl _, hE⟩
  case hv => rfl
  refine Walk.done (fun W hE hF => ?_)
  obtain ⟨g, rfl, hg0, hg⟩ := hF.head
  have hc2 := (hE.get 2 rfl).cell
  have hf2 := (hE.get 2 rfl).frozen
  go_upto_region 12 with (fail)
  have bq := hE.get 2 rfl
  have bs := hg
  have br := hE.get 1 rfl
  have hbw := hE.1
  clear hc2 hf2
  generalize W = W2 at *
  go_wp2_with (first | ((with_reducible refine look_load ?_); refine wpList_load_row rfl _ _ rfl _ rfl _ _ _ _ bq Tryz.underlying72 rfl (by kernel_rfl) ?_) | ((with_reducible refine look_load ?_); refine wpList_load_row rfl _ _ rfl _ rfl _ _ _ _ bs Tryz.underlying77 rfl (by kernel_rfl) ?_) | ((with_reducible refine look_store ?_); refine wpList_store_row rfl _ _ _ rfl _ _ rfl rfl _ _ br (by kernel_rfl) (by simp) (by simp [Value.oneCell']) ?_) | fail)
  exact bodyPost_ret (results_cell_tmp Tryz.results82 _ _ _ _ _ _ _ rfl (setRow_heap _ _ _ _ _ _ br) Tryz.underlying163 rfl (by kernel_rfl)) rfl ⟨rfl, below_setRow hbw (by omega) _⟩

set_option maxRecDepth 100000 in
set_option maxHeartbeats 1000000 in
theorem quoted_five (k0 k1 k2 k3 k4 kind flags type code seqn ackn window length q0 q1 q2 q3 q4 : Int) (w : World) :
    Calls Tryz.prog 82 #[(⟨⟨k0, k1, k2, k3, k4⟩, kind, flags, type, code, seqn, ackn, window, length, ⟨q0, q1, q2, q3, q4⟩, 5⟩ : Facts).val] w fun e w' => e = .returned (.tuple #[.agg #[.int .u8 q0, .int .u32 q1, .int .u32 q2, .int .u16 q3, .int .u16 q4, .int .u8 5, .int .u8 0, .int .u8 0, .int .u8 0, .int .u32 0, .int .u32 0, .int .i64 0, .int .i64 0, .int .u8 0, .int .u32 0, .int .u32 0, .int .u16 0, .int .u16 0, .int .u8 0, .int .u8 0, .func (.func 44) #[] #[], .nilFunc], .bool false]) ∧ Below w.heap.size w w' := by
  dsimp only [Facts.val, Facts.cells, Key.cells, List.cons_append, List.nil_append]
  go_enter Tryz.func82, Tryz.ntmps82
  go_upto_region 2 with (first | ((with_reducible refine look_store ?_); refine wpList_store_new rfl _ _ _ rfl _ _ rfl rfl _ _ (by first | (simp only [World.size_alloc] <;> omega) | rfl | omega) (by kernel_rfl) (by simp) (by simp [Value.oneCell']) ?_) | fail)
  dsimp only [Act.put]
  refine wp_name3 ?_
  intro w1 hb hs b0 b1 b2
  have hSt := (((St.nil hb (by omega)).cons b2).cons b1).cons b0
  refine wp_region_walk (by kernel_rfl) (fun _ W => St w w.heap.size _ W) [] (Late w.heap.size 77 #[.int .u8 0, .nilFunc, .nilFunc] #[.int .u8 1, .func (.func 48) #[] #[], .func (.func 49) #[] #[]])
    [8] (fun _ => LateB (w.heap.size + 3) 77 #[.int .u8 0, .nilFunc, .nilFunc] #[.int .u8 1, .func (.func 48) #[] #[], .func (.func 49) #[] #[]]) [1, 2, 3, 0, 4, 5, 6, 7, 8, 9, 10] (by kernel_rfl) ?hfree hSt.drew ?hwalk
  case hfree =>
    intro k hk
    obtain rfl : k = 8 := by simpa using hk
    refine ⟨rfl, LateB.keep, fun o ho a c W hE => ?_⟩
    simp at ho
    subst ho
    go_wp2_with fail
    have hl := (hE.get 2 rfl).lt
    exact ⟨_, rfl, ⟨W.heap.size, rfl, hl, .inl (Blk.new _ _ _)⟩, Late.grown ((Below.refl _ _).alloc (Nat.le_refl _) _) hE.2.1, hE.alloc _⟩
  iterate 3
    apply Walk.det rfl rfl rfl
    case hrun =>
      intro c W hE hF
      have hc2 := (hE.get 2 rfl).cell
      go_wp2_with fail
      exact TextPost.mk ⟨Late.refl _, hE⟩
    case hv => rfl
  refine Walk.any (fun u W => ∃ m, u = .map (some m) ∧ SortsM W m) ?_ rfl rfl rfl (by kernel_rfl) ?_ (fun u0 => ?_)
  · rintro u W W' ⟨m, e, hm⟩ hG
    exact ⟨m, e, hG.keep m _ hm (by simp)⟩
  · intro c W hE hF
    go_wp2_with fail
    refine (sorts_any _).mono ?_
    rintro e W2 ⟨m, rfl, hm0, hm, l⟩
    go_wp2_with fail
    exact ⟨_, rfl, ⟨m, rfl, hm⟩, Late.grown l hE.2.1, hE.below l⟩
  dsimp only [Act.put]
  simp only [List.setIfInBounds_toArray]
  apply Walk.det rfl rfl rfl
  case hrun =>
    intro c W hE hF
    have hlk : (Instr.lookup 78 u0 (.int .u8 5) true).run Tryz.prog W = .ok (.tuple #[.agg #[.int .u8 1, .func (.func 48) #[] #[], .func (.func 49) #[] #[]], .bool true]) W := by
      obtain ⟨m, rfl, hm⟩ := hF.head
      exact lookup_sorts W m hm 5 (by omega) (by omega) true
    go_wp2_with fail
    exact TextPost.mk ⟨Late.refl _, hE⟩
  case hv => rfl
  iterate 3
    apply Walk.det rfl rfl rfl
    case hrun =>
      intro c W hE hF
      go_wp2_with fail
      exact TextPost.mk ⟨Late.refl _, hE⟩
    case hv => rfl
  refine Walk.free LateB.keep rfl rfl (by kernel_rfl) ?_ (fun u8 => ?_)
  · intro a c W hE
    go_wp2_with fail
    have hl := (hE.get 2 rfl).lt
    exact ⟨_, rfl, ⟨W.heap.size, rfl, hl, .inl (Blk.new _ _ _)⟩, Late.grown ((Below.refl _ _).alloc (Nat.le_refl _) _) hE.2.1, hE.alloc _⟩
  dsimp only [Act.put]
  simp only [List.setIfInBounds_toArray]
  refine Walk.any (fun _ W => LateN (w.heap.size + 3) 77 #[.int .u8 1, .func (.func 48) #[] #[], .func (.func 49) #[] #[]] u8 W) ?_ rfl rfl rfl (by kernel_rfl) ?_ (fun u9 => ?_)
  · exact fun _ => LateN.keep u8
  · intro c W hE hF
    obtain ⟨g, rfl, hg0, hg | hg⟩ := hF.head
    all_goals
      refine wpList_store_row rfl _ _ _ rfl g #[.int .u8 1, .func (.func 48) #[] #[], .func (.func 49) #[] #[]] rfl rfl _ _ hg (by kernel_rfl) (by simp) (by simp [Value.oneCell']) ?_
      go_wp2_with fail
      refine ⟨undef, rfl, ⟨g, rfl, hg0, setRow_heap _ _ _ _ _ _ hg⟩, ?_, hE.rowFar (by omega) (by simp; omega) _⟩
    · exact Late.store hg (by omega)
    · exact Late.again hg (by omega)
  dsimp only [Act.put]
  apply Walk.det rfl rfl rfl
  case hrun =>
    intro c W hE hF
    go_wp2_with fail
    exact TextPost.mk ⟨Late.refl _, hE⟩
  case hv => rfl
  refine Walk.done (fun W hE hF => ?_)
  obtain ⟨g, rfl, hg0, hg⟩ := hF.head
  have hc2 := (hE.get 2 rfl).cell
  have hf2 := (hE.get 2 rfl).frozen
  go_upto_region 12 with (first | ((with_reducible refine look_store ?_); refine wpList_store_row rfl _ _ _ rfl g _ rfl rfl _ _ hg (by kernel_rfl) (by simp) (by simp [Value.oneCell']) ?_) | fail)
  dsimp only [Act.put]
  have bs := setRow_heap _ _ _ #[.int .u8 0, .func (.func 44) #[] #[], .nilFunc] _ _ hg
  have bq := (setRow_other W g _ #[.int .u8 0, .func (.func 44) #[] #[], .nilFunc] (by omega)).trans (hE.get 2 rfl)
  have br := (setRow_other W g _ #[.int .u8 0, .func (.func 44) #[] #[], .nilFunc] (by omega)).trans (hE.get 1 rfl)
  have hbw : Below w.heap.size w (W.setRow g #[.int .u8 0, .func (.func 44) #[] #[], .nilFunc]) := below_setRow hE.1 (by omega) _
  clear hc2 hf2
  generalize W.setRow g #[.int .u8 0, .func (.func 44) #[] #[], .nilFunc] = W2 at *
  have bq : Blk W2 (w.heap.size + 2) _ _ := bq
  have bs : Blk W2 g _ _ := bs
  have br : Blk W2 (w.heap.size + 1) _ _ := br
  go_wp2_with (first | ((with_reducible refine look_load ?_); refine wpList_load_row rfl _ _ rfl _ rfl _ _ _ _ bq Tryz.underlying72 rfl (by kernel_rfl) ?_) | ((with_reducible refine look_load ?_); refine wpList_load_row rfl _ _ rfl _ rfl _ _ _ _ bs Tryz.underlying77 rfl (by kernel_rfl) ?_) | ((with_reducible refine look_store ?_); refine wpList_store_row rfl _ _ _ rfl _ _ rfl rfl _ _ br (by kernel_rfl) (by simp) (by simp [Value.oneCell']) ?_) | fail)
  exact bodyPost_ret (results_cell_tmp Tryz.results82 _ _ _ _ _ _ _ rfl (setRow_heap _ _ _ _ _ _ br) Tryz.underlying163 rfl (by kernel_rfl)) rfl ⟨rfl, below_setRow hbw (by omega) _⟩

set_option maxRecDepth 100000 in
set_option maxHeartbeats 1000000 in
theorem quoted_other (k : Int) (hk : ¬ (1 ≤ k ∧ k ≤ 5)) (k0 k1 k2 k3 k4 kind flags type code seqn ackn window length q0 q1 q2 q3 q4 : Int) (w : World) :
    Calls Tryz.prog 82 #[(⟨⟨k0, k1, k2, k3, k4⟩, kind, flags, type, code, seqn, ackn, window, length, ⟨q0, q1, q2, q3, q4⟩, k⟩ : Facts).val] w fun e w' => e = .returned (.tuple #[.agg #[.int .u8 q0, .int .u32 q1, .int .u32 q2, .int .u16 q3, .int .u16 q4, .int .u8 k, .int .u8 0, .int .u8 0, .int .u8 0, .int .u32 0, .int .u32 0, .int .i64 0, .int .i64 0, .int .u8 0, .int .u32 0, .int .u32 0, .int .u16 0, .int .u16 0, .int .u8 0, .int .u8 0, .func (.func 44) #[] #[], .nilFunc], .bool false]) ∧ Below w.heap.size w w' := by
  dsimp only [Facts.val, Facts.cells, Key.cells, List.cons_append, List.nil_append]
  have e1 : (k == 1) = false := by simp; omega
  have e3 : (k == 3) = false := by simp; omega
  have e5 : (k == 5) = false := by simp; omega
  have Hk := Lib.hid hk
  clear hk
  go_enter Tryz.func82, Tryz.ntmps82
  go_upto_region 2 with (first | ((with_reducible refine look_store ?_); refine wpList_store_new rfl _ _ _ rfl _ _ rfl rfl _ _ (by first | (simp only [World.size_alloc] <;> omega) | rfl | omega) (by kernel_rfl) (by simp) (by simp [Value.oneCell']) ?_) | fail)
  dsimp only [Act.put]
  refine wp_name3 ?_
  intro w1 hb hs b0 b1 b2
  have hSt := (((St.nil hb (by omega)).cons b2).cons b1).cons b0
  refine wp_region_walk (by kernel_rfl) (fun _ W => St w w.heap.size _ W) [] (Late w.heap.size 77 #[.int .u8 0, .nilFunc, .nilFunc] #[.int .u8 0, .nilFunc, .nilFunc])
    [8] (fun _ => LateB (w.heap.size + 3) 77 #[.int .u8 0, .nilFunc, .nilFunc] #[.int .u8 0, .nilFunc, .nilFunc]) [1, 2, 3, 0, 4, 5, 6, 7, 8, 9, 10] (by kernel_rfl) ?hfree hSt.drew ?hwalk
  case hfree =>
    intro k hk
    obtain rfl : k = 8 := by simpa using hk
    refine ⟨rfl, LateB.keep, fun o ho a c W hE => ?_⟩
    simp at ho
    subst ho
    go_wp2_with fail
    have hl := (hE.get 2 rfl).lt
    exact ⟨_, rfl, ⟨W.heap.size, rfl, hl, .inl (Blk.new _ _ _)⟩, Late.grown ((Below.refl _ _).alloc (Nat.le_refl _) _) hE.2.1, hE.alloc _⟩
  iterate 3
    apply Walk.det rfl rfl rfl
    case hrun =>
      intro c W hE hF
      have hc2 := (hE.get 2 rfl).cell
      go_wp2_with fail
      exact TextPost.mk ⟨Late.refl _, hE⟩
    case hv => rfl
  refine Walk.any (fun u W => ∃ m, u = .map (some m) ∧ SortsM W m) ?_ rfl rfl rfl (by kernel_rfl) ?_ (fun u0 => ?_)
  · rintro u W W' ⟨m, e, hm⟩ hG
    exact ⟨m, e, hG.keep m _ hm (by simp)⟩
  · intro c W hE hF
    go_wp2_with fail
    refine (sorts_any _).mono ?_
    rintro e W2 ⟨m, rfl, hm0, hm, l⟩
    go_wp2_with fail
    exact ⟨_, rfl, ⟨m, rfl, hm⟩, Late.grown l hE.2.1, hE.below l⟩
  dsimp only [Act.put]
  simp only [List.setIfInBounds_toArray]
  apply Walk.det rfl rfl rfl
  case hrun =>
    intro c W hE hF
    have hlk : (Instr.lookup 78 u0 (.int .u8 k) true).run Tryz.prog W = .ok (.tuple #[.agg #[.int .u8 0, .nilFunc, .nilFunc], .bool false]) W := by
      obtain ⟨m, rfl, hm⟩ := hF.head
      exact lookup_sorts_none W m hm k Hk.out true
    go_wp2_with fail
    exact TextPost.mk ⟨Late.refl _, hE⟩
  case hv => rfl
  iterate 3
    apply Walk.det rfl rfl rfl
    case hrun =>
      intro c W hE hF
      go_wp2_with fail
      exact TextPost.mk ⟨Late.refl _, hE⟩
    case hv => rfl
  refine Walk.free LateB.keep rfl rfl (by kernel_rfl) ?_ (fun u8 => ?_)
  · intro a c W hE
    go_wp2_with fail
    have hl := (hE.get 2 rfl).lt
    exact ⟨_, rfl, ⟨W.heap.size, rfl, hl, .inl (Blk.new _ _ _)⟩, Late.grown ((Below.refl _ _).alloc (Nat.le_refl _) _) hE.2.1, hE.alloc _⟩
  dsimp only [Act.put]
  simp only [List.setIfInBounds_toArray]
  refine Walk.any (fun _ W => LateN (w.heap.size + 3) 77 #[.int .u8 0, .nilFunc, .nilFunc] u8 W) ?_ rfl rfl rfl (by kernel_rfl) ?_ (fun u9 => ?_)
  · exact fun _ => LateN.keep u8
  · intro c W hE hF
    obtain ⟨g, rfl, hg0, hg | hg⟩ := hF.head
    all_goals
      refine wpList_store_row rfl _ _ _ rfl g #[.int .u8 0, .nilFunc, .nilFunc] rfl rfl _ _ hg (by kernel_rfl) (by simp) (by simp [Value.oneCell']) ?_
      go_wp2_with fail
      refine ⟨undef, rfl, ⟨g, rfl, hg0, setRow_heap _ _ _ _ _ _ hg⟩, ?_, hE.rowFar (by omega) (by simp; omega) _⟩
    · exact Late.store hg (by omega)
    · exact Late.again hg (by omega)
  dsimp only [Act.put]
  apply Walk.det rfl rfl rfl
  case hrun =>
    intro c W hE hF
    go_wp2_with fail
    exact TextPost.mk ⟨Late.refl _, hE⟩
  case hv => rfl
  refine Walk.done (fun W hE hF => ?_)
  obtain ⟨g, rfl, hg0, hg⟩ := hF.head
  have hc2 := (hE.get 2 rfl).cell
  have hf2 := (hE.get 2 rfl).frozen
  go_upto_region 12 with (first | ((with_reducible refine look_store ?_); refine wpList_store_row rfl _ _ _ rfl g _ rfl rfl _ _ hg (by kernel_rfl) (by simp) (by simp [Value.oneCell']) ?_) | fail)
  dsimp only [Act.put]
  have bs := setRow_heap _ _ _ #[.int .u8 0, .func (.func 44) #[] #[], .nilFunc] _ _ hg
  have bq := (setRow_other W g _ #[.int .u8 0, .func (.func 44) #[] #[], .nilFunc] (by omega)).trans (hE.get 2 rfl)
  have br := (setRow_other W g _ #[.int .u8 0, .func (.func 44) #[] #[], .nilFunc] (by omega)).trans (hE.get 1 rfl)
  have hbw : Below w.heap.size w (W.setRow g #[.int .u8 0, .func (.func 44) #[] #[], .nilFunc]) := below_setRow hE.1 (by omega) _
  clear hc2 hf2
  generalize W.setRow g #[.int .u8 0, .func (.func 44) #[] #[], .nilFunc] = W2 at *
  have bq : Blk W2 (w.heap.size + 2) _ _ := bq
  have bs : Blk W2 g _ _ := bs
  have br : Blk W2 (w.heap.size + 1) _ _ := br
  go_wp2_with (first | ((with_reducible refine look_load ?_); refine wpList_load_row rfl _ _ rfl _ rfl _ _ _ _ bq Tryz.underlying72 rfl (by kernel_rfl) ?_) | ((with_reducible refine look_load ?_); refine wpList_load_row rfl _ _ rfl _ rfl _ _ _ _ bs Tryz.underlying77 rfl (by kernel_rfl) ?_) | ((with_reducible refine look_store ?_); refine wpList_store_row rfl _ _ _ rfl _ _ rfl rfl _ _ br (by kernel_rfl) (by simp) (by simp [Value.oneCell']) ?_) | fail)
  exact bodyPost_ret (results_cell_tmp Tryz.results82 _ _ _ _ _ _ _ rfl (setRow_heap _ _ _ _ _ _ br) Tryz.underlying163 rfl (by kernel_rfl)) rfl ⟨rfl, below_setRow hbw (by omega) _⟩

end Go.Proofs.YtebeekjcepjcnaaGreatDoor
