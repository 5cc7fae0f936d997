/-
  The law of pkt: Example, Fixed, awake.
-/
import Derived.Test.YtebeekjcepjcnaaDoorProg
import Derived.WalkKit
import Derived.WalkSpells
import Derived.WalkLawsBesides
import Derived.WalkSmall
import Derived.Lib.Hide
import Derived.Deep.AppendLies
import Derived.Maps.AppendAt
import Derived.Laws.AppendOwnNone
import Derived.Laws.CopyOwn
import Derived.OneCell
import Derived.Lib.SliceRun
import Derived.RangeFuncNested
import Derived.RangeFuncBound
import Derived.RangeFuncCalls
import Derived.RangeFuncLeaves
import Derived.Shelf.Abstract
import Derived.OwnWalkIn
import Derived.TacticsInMore
import Derived.LoopNIn
import Derived.LoopIn
import Derived.Lib.AppendZeros
import Derived.BigRegion
import Derived.ChangeAlike
import Derived.Deep.RegionLaw
import Derived.Deep.DeepCutAuto
import Derived.Orders
import Derived.RegionTactic
import Derived.Still
import Derived.Deep.MidRow
import Derived.Deep.RegionHeld3
import Derived.MapKept
import Derived.Laws.StructEq
import Derived.RegionIn
import Derived.Test.YtebeekjcepjcnaaDoorGBase
import Derived.Test.YtebeekjcepjcnaaDoorGBits
import Derived.Test.YtebeekjcepjcnaaDoorGCsum
import Derived.Test.YtebeekjcepjcnaaDoorGSum
import Derived.Test.YtebeekjcepjcnaaDoorGFix
import Derived.Test.YtebeekjcepjcnaaDoorGFacts
import Derived.Test.YtebeekjcepjcnaaDoorGPkt
import Derived.Test.YtebeekjcepjcnaaDoorGWalk
import Derived.Test.YtebeekjcepjcnaaDoorGStep
import Derived.Test.YtebeekjcepjcnaaDoorGTcpw
import Derived.Test.YtebeekjcepjcnaaDoorGUdpw
import Derived.Test.YtebeekjcepjcnaaDoorGData
import Derived.Test.YtebeekjcepjcnaaDoorGIprd
import Derived.Test.YtebeekjcepjcnaaDoorGFold
import Derived.Test.YtebeekjcepjcnaaDoorGIpre
import Derived.Test.YtebeekjcepjcnaaDoorGIpread
import Derived.Test.YtebeekjcepjcnaaDoorGOptsa
import Derived.Test.YtebeekjcepjcnaaDoorGOptsb
import Derived.Test.YtebeekjcepjcnaaDoorGOptsc
import Derived.Test.YtebeekjcepjcnaaDoorGOptsd
import Derived.Test.YtebeekjcepjcnaaDoorGTcprd
import Derived.Test.YtebeekjcepjcnaaDoorGEq
import Derived.Test.YtebeekjcepjcnaaDoorGMade9
import Derived.Test.YtebeekjcepjcnaaDoorGUdprd
import Derived.Test.YtebeekjcepjcnaaDoorGIcmprd
import Derived.Test.YtebeekjcepjcnaaDoorGPktn
import Derived.Test.YtebeekjcepjcnaaDoorGQuotc
import Derived.Test.YtebeekjcepjcnaaDoorGPkto
import Derived.Test.YtebeekjcepjcnaaDoorGPkta
import Derived.Test.YtebeekjcepjcnaaDoorGPktr
import Derived.Test.YtebeekjcepjcnaaDoorGRip5
namespace Go.Proofs.YtebeekjcepjcnaaDoor
open Go.RowKit Go.Shelf
def exL : List Int := [69, 0, 0, 40, 0, 0, 0, 0, 64, 6, 102, 206, 10, 0, 0, 1, 10, 0, 0, 2, 4, 0, 0, 80, 0, 0, 0, 1, 0, 0, 0, 0, 80, 2, 2, 0, 149, 143, 0, 0]
theorem wpList_load_guarded {P : Program} {ops : Array Oper} {rest : List Oper} {o : Oper} {a : Act} {w : World} {Q : Exit → Act → World → Prop} (hw : Region.wanted o (yielded ops a.tmps) = true) (ty : TypeId) (x : Operand) (ho : o.op = .load ty x)
    (g : Nat) (hx : a.eval x = .pointer (some ⟨g, 0, none⟩)) (t : TypeId) (cs : Array Value) (fr : Nat × Nat) (d : TypeDesc) (hg : w.heap[g]? = some (.cells cs t fr))
    (hu : P.underlying ty = some d) (hd : (match d with | .struct _ | .array _ _ => true | _ => false) = true) (hi : (P.info? ty).map (·.size) = some cs.size)
    (h : wpList P ops Q rest (a.put o.dst (.agg cs)) w) : wpList P ops Q (o :: rest) a w := by
  simp only [wpList, hw, if_true]
  exact .inl (wp_load_row ty x ho g hx t cs fr d hg hu hd hi h)
theorem exL_byt : Byt exL := by unfold Byt exL; decide
def exPF : Facts := ⟨⟨6, 167772161, 167772162, 1024, 80⟩, 1, 2, 0, 0, 1, 0, 512, 0, ⟨0, 0, 0, 0, 0⟩, 0⟩
def fixedL (xs : List Int) : List Int := fixL (xs.take (ipSize xs)) 10 ++ xs.drop (ipSize xs)
theorem ex_reads : pktR exL = 0 ∧ pktF exL = exPF := by
  have h : pktR exL = 0 := by decide +kernel
  refine ⟨h, ?_⟩
  unfold pktF
  rw [if_pos h]
  refine Facts.eqB_iff.1 ?_
  decide +kernel
def bad5 : List (List Int) := [fixedL (exL.set 19 1), exL.set 23 0, exL.take 39, exL.set 33 3, []]
def badE : List Int := [12, 16, 4, 15, 1]
theorem bad_reads : ∀ k, k < 5 → pktR (bad5.getD k []) = badE.getD k 0 := by
  have h : ((List.range 5).all fun k => pktR (bad5.getD k []) == badE.getD k 0) = true := by decide +kernel
  intro k hk
  simpa using List.all_eq_true.1 h k (List.mem_range.2 hk)
theorem pktF_bad {xs : List Int} (h : pktR xs ≠ 0) : pktF xs = Facts.zero := if_neg h
set_option maxRecDepth 100000 in
theorem example_any (w : World) : Calls Tryd.prog 29 #[] w fun e W => e = .returned (.slice (some ⟨w.heap.size, 0, none⟩) 40 40) ∧ Own W w.heap.size (.slice (some ⟨w.heap.size, 0, none⟩) 40 40) exL ∧ W.heap.size = w.heap.size + 1 ∧ Below w.heap.size w W := by
  have HO := Lib.hid (fun cs (h : cs = (U8 exL).toArray) => own_lit w w.heap.size 40 exL cs h rfl (by decide) (Nat.le_refl _))
  go_enter Tryd.func29, Tryd.ntmps29
  go_wp2_with fail
  go_ret
  exact ⟨rfl, HO.out _ rfl, by simp, (Below.refl _ _).alloc (Nat.le_refl _) _⟩
set_option maxRecDepth 100000 in
set_option maxHeartbeats 4000000 in
theorem fixed_any (A : Option Addr) (cap n : Nat) (xs : List Int) (w : World) (hn : xs.length = n) (hl : n ≤ 1000000) (hcap : n ≤ cap) (h20 : 20 ≤ ipSize xs) (hsn : ipSize xs ≤ n) (hB : Byt xs) (hr : Rd w w.heap.size A .u8 xs) :
    Calls Tryd.prog 30 #[.slice A n cap] w fun e W => ∃ v, e = .returned v ∧ Own W w.heap.size v (fixedL xs) ∧ Below w.heap.size w W := by
  obtain ⟨b, off, rfl, hbl, hc⟩ := hr.at0 (by omega)
  have c0 := hc 0 (by omega)
  rw [Nat.add_zero] at c0
  have h0 := hB.at_ 0
  have hszb := ipSize_bd xs
  have hsz2 : 4 * (xs.getD 0 0 % 16) = (ipSize xs : Int) := by unfold ipSize; omega
  have HFx := Lib.hid (show Calls Tryd.prog 53 #[.slice (some ⟨b, off, none⟩) (ipSize xs) cap, .int .i64 10] w fun e w' => ∃ v, e = .returned (.tuple #[v, .int .i64 0]) ∧ Own w' w.heap.size v (fixL (xs.take (ipSize xs)) 10) ∧ Below w.heap.size w w' from by
    have h2 := rFix_any (some ⟨b, off, none⟩) cap (xs.take (ipSize xs)) 10 w (hB.take _) (by rw [List.length_take]; omega) (hr.take _) (by decide) (by rw [List.length_take]; omega)
    rwa [show (xs.take (ipSize xs)).length = ipSize xs by rw [List.length_take]; omega] at h2)
  have HD : Hid ((xs.drop (ipSize xs)).length = n - ipSize xs) := Lib.hid (by rw [List.length_drop, hn])
  have HRd := Lib.hid (fun (W : World) (h : Below w.heap.size w W) => ((hr.drop (ipSize xs) fun _ b2 o2 h => by
    simp only [Option.some.injEq, Addr.mk.injEq] at h
    obtain ⟨rfl, rfl, _⟩ := h
    rfl).belows h (Nat.le_refl _) : Rd W W.heap.size (some ⟨b, off + ipSize xs, none⟩) .u8 (xs.drop (ipSize xs))))
  have HFl : Hid ((fixL (xs.take (ipSize xs)) 10).length ≤ 1000000) := Lib.hid (by have := fixL_len (xs.take (ipSize xs)) 10; rw [this, List.length_take]; omega)
  have HX := Lib.hid (show fixedL xs = fixL (xs.take (ipSize xs)) 10 ++ xs.drop (ipSize xs) from rfl)
  have g1 : decide ((n : Int) < 20) = false := by simp; omega
  rw [HX.out]
  clear hr hB hn hc HX
  have HRe : Hid (ipSize xs = n → xs.drop (ipSize xs) = []) := Lib.hid fun h => List.eq_nil_of_length_eq_zero (by have := HD.out; omega)
  generalize fixL (xs.take (ipSize xs)) 10 = FL at *
  generalize xs.drop (ipSize xs) = ys at *
  generalize ipSize xs = SZ at *
  generalize xs.getD 0 0 = x at *
  have e1 : decide ((SZ : Int) < 20) = false := by simp; omega
  have e2 : decide ((n : Int) < SZ) = false := by simp; omega
  have i1 : (SZ : Int) ≤ cap := by omega
  have i2 : (SZ : Int) ≤ n := by omega
  by_cases hk : cap = SZ
  · obtain rfl : n = cap := by omega
    subst hk
    obtain rfl := HRe.out rfl
    go_enter Tryd.func30, Tryd.ntmps30
    go_wp2_with fail
    refine HFx.out.mono ?_
    rintro e w2 ⟨v, rfl, o2, l2⟩
    go_wp2_with (first | (at_builtin; refine app_own rfl _ _ rfl w.heap.size _ _ rfl o2 w.heap.size (some ⟨b, off, none⟩) 0 0 [] rfl rfl Rd.nil (by have := HFl.out; simp; omega) l2.size ?_; intro v3 w3 o3 l3 g3 a3) | fail)
    go_ret
    exact ⟨_, rfl, o3, l2.trans l3⟩
  · go_enter Tryd.func30, Tryd.ntmps30
    go_wp2_with fail
    refine HFx.out.mono ?_
    rintro e w2 ⟨v, rfl, o2, l2⟩
    go_wp2_with (first | (at_builtin; refine app_own rfl _ _ rfl w.heap.size _ _ rfl o2 _ (some ⟨b, off + SZ, none⟩) (n - SZ) (cap - SZ) ys rfl HD.out.symm (HRd.out _ l2) (by have := HFl.out; have := HD.out; omega) l2.size ?_; intro v3 w3 o3 l3 g3 a3) | fail)
    go_ret
    exact ⟨_, rfl, o3, l2.trans l3⟩
theorem fixed_len : (fixedL (exL.set 19 1)).length = 40 := by decide +kernel
theorem norule_is : reasonR ⟨#[110, 111, 114, 117, 108, 101]⟩ = (24, 0) := by decide +kernel
theorem address_is : (nameS 12).toList = [97, 100, 100, 114, 101, 115, 115] := by decide +kernel
set_option maxRecDepth 100000 in
set_option maxHeartbeats 16000000 in
theorem awakeP_any (w : World) (hs : SortsAt w) (hm : NamesAt w) : Calls Tryd.prog 24 #[] w fun e W => e = .returned (.bool true) ∧ Below w.heap.size w W := by
  have Hs := Lib.hid (fun (W : World) (h : Below w.heap.size w W) => hs.below h (Nat.le_refl _))
  have Hm := Lib.hid (fun (W : World) (h : Below w.heap.size w W) => hm.below h (Nat.le_refl _))
  have HEx := Lib.hid (fun (W : World) => example_any W)
  clear hs hm
  go_enter Tryd.func24, Tryd.ntmps24
  go_wp2_with fail
  refine (HEx.out _).mono ?_
  rintro e w1 ⟨rfl, o1, z1, l1⟩
  have R1 : Hid (Calls Tryd.prog 31 #[.slice (some ⟨w.heap.size, 0, none⟩) 40 40] w1 fun e W' => e = .returned (.tuple #[.agg #[.int .u8 6, .int .u32 167772161, .int .u32 167772162, .int .u16 1024, .int .u16 80, .int .u8 1, .int .u8 2, .int .u8 0, .int .u8 0, .int .u32 1, .int .u32 0, .int .i64 512, .int .i64 0, .int .u8 0, .int .u32 0, .int .u32 0, .int .u16 0, .int .u16 0, .int .u8 0], .int .u8 0]) ∧ Below w1.heap.size w1 W') := Lib.hid (by
    have h := pktRead_any (some ⟨w.heap.size, 0, none⟩) 40 40 exL w1 rfl (by decide) (by decide) exL_byt o1.rd (Hs.out _ l1)
    rwa [ex_reads.1, ex_reads.2] at h)
  go_wp2_with fail
  refine R1.out.mono ?_
  rintro e w2 ⟨rfl, l2⟩
  have b2 := l1.trans (l2.mono l1.size)
  clear o1 z1 l1 l2
  go_upto_region 2 with (first | ((with_reducible refine look_store ?_); refine wpList_store_new rfl _ _ _ rfl _ _ rfl rfl _ _ rfl (by kernel_rfl) (by simp) (by simp [Value.oneCell']) ?_) | fail)
  refine wp_name1 ?_
  intro w3 hb3 hs3 bf
  have b3 := b2.trans (hb3.mono b2.size)
  have hne : (binOp .neq 27 (.agg #[.int .u8 6, .int .u32 167772161, .int .u32 167772162, .int .u16 1024, .int .u16 80, .int .u8 1, .int .u8 2, .int .u8 0, .int .u8 0, .int .u32 1, .int .u32 0, .int .i64 512, .int .i64 0, .int .u8 0, .int .u32 0, .int .u32 0, .int .u16 0, .int .u16 0, .int .u8 0]) (.agg #[.int .u8 6, .int .u32 167772161, .int .u32 167772162, .int .u16 1024, .int .u16 80, .int .u8 1, .int .u8 2, .int .u8 0, .int .u8 0, .int .u32 1, .int .u32 0, .int .i64 512, .int .i64 0, .int .u8 0, .int .u32 0, .int .u32 0, .int .u16 0, .int .u16 0, .int .u8 0])).run Tryd.prog w3 = .ok (.bool false) w3 := run_ne_facts exPF w3
  clear b2 hb3 hs3
  go_wp2_with (first | ((with_reducible refine look_load ?_); refine wpList_load_guarded (by first | rfl | simp [Region.wanted, yielded]) _ _ rfl _ rfl _ _ _ _ bf Tryd.underlying27 rfl (by kernel_rfl) ?_) | fail)
  refine (HEx.out _).mono ?_
  rintro e w4 ⟨rfl, o4, z4', l4⟩
  have Z4 := Lib.hid z4'
  clear z4'
  go_wp2_with fail
  refine (HEx.out _).mono ?_
  rintro e w5 ⟨rfl, o5, z5', l5⟩
  have Z5 := Lib.hid z5'
  clear z5'
  go_wp2_with fail
  refine (HEx.out _).mono ?_
  rintro e w6 ⟨rfl, o6, z6', l6⟩
  have Z6 := Lib.hid z6'
  clear z6'
  have z4 := Z4.out
  have z5 := Z5.out
  have z6 := Z6.out
  have b6 := ((b3.trans (l4.mono b3.size)).trans (l5.mono (by have := b3.size; omega))).trans (l6.mono (by have := b3.size; omega))
  have a4 := (o4.below l5 (Nat.le_refl _)).below l6 (Nat.le_refl _)
  have a5 := o5.below l6 (Nat.le_refl _)
  have c19 : w6.cell? ⟨w3.heap.size, 19, none⟩ = some (.int .u8 2) := a4.cell 19 (by decide)
  have f19 := a4.free 19
  have c23 : w6.cell? ⟨w4.heap.size, 23, none⟩ = some (.int .u8 80) := a5.cell 23 (by decide)
  have f23 := a5.free 23
  have c33 : w6.cell? ⟨w5.heap.size, 33, none⟩ = some (.int .u8 2) := o6.cell 33 (by decide)
  have f33 := o6.free 33
  have n45 : w3.heap.size ≠ w4.heap.size := by omega
  have n46 : w3.heap.size ≠ w5.heap.size := by omega
  have n56 : w4.heap.size ≠ w5.heap.size := by omega
  have A4 := Lib.hid a4
  have A5 := Lib.hid a5
  have A6 := Lib.hid o6
  have m54 : w5.heap.size ≠ w4.heap.size := n56.symm
  have m53 : w5.heap.size ≠ w3.heap.size := n46.symm
  have m43 : w4.heap.size ≠ w3.heap.size := n45.symm
  clear bf hne o4 o5 o6 l4 l5 l6 a4 a5 z4 z5 z6
  go_wp2_with fail
  have hw3 := b3.size
  have z4 := Z4.out
  have z5 := Z5.out
  have B4 := Lib.hid (((A4.out.set 19 1).setCell_far (a := ⟨w4.heap.size, 23, none⟩) (by simp [Value.ownBlock, n45]) (.int .u8 0)).setCell_far (a := ⟨w5.heap.size, 33, none⟩) (by simp [Value.ownBlock, n46]) (.int .u8 3))
  have B5 := Lib.hid (((A5.out.setCell_far (a := ⟨w3.heap.size, 19, none⟩) (by simp [Value.ownBlock, m43]) (.int .u8 1)).set 23 0).setCell_far (a := ⟨w5.heap.size, 33, none⟩) (by simp [Value.ownBlock, n56]) (.int .u8 3))
  have B6 := Lib.hid (((A6.out.setCell_far (a := ⟨w3.heap.size, 19, none⟩) (by simp [Value.ownBlock, m53]) (.int .u8 1)).setCell_far (a := ⟨w4.heap.size, 23, none⟩) (by simp [Value.ownBlock, m54]) (.int .u8 0)).set 33 3)
  have b7 : Below w.heap.size w (((w6.setCell ⟨w3.heap.size, 19, none⟩ (.int .u8 1)).setCell ⟨w4.heap.size, 23, none⟩ (.int .u8 0)).setCell ⟨w5.heap.size, 33, none⟩ (.int .u8 3)) := ((b6.setCell (p := ⟨w3.heap.size, 19, none⟩) hw3 _).setCell (p := ⟨w4.heap.size, 23, none⟩) (by show w.heap.size ≤ w4.heap.size; omega) _).setCell (p := ⟨w5.heap.size, 33, none⟩) (by show w.heap.size ≤ w5.heap.size; omega) _
  generalize (((w6.setCell ⟨w3.heap.size, 19, none⟩ (.int .u8 1)).setCell ⟨w4.heap.size, 23, none⟩ (.int .u8 0)).setCell ⟨w5.heap.size, 33, none⟩ (.int .u8 3)) = w7 at *
  have HFx := Lib.hid (fixed_any (some ⟨w3.heap.size, 0, none⟩) 40 40 (exL.set 19 1) w7 rfl (by decide) (by decide) (by decide) (by decide) (exL_byt.set 19 (by decide) (by decide)) B4.out.rd)
  clear c19 f19 c23 f23 c33 f33 n45 n46 n56 m54 m53 m43 A4 A5 A6 b6 z4 z5 hw3
  refine HFx.out.mono ?_
  rintro e w8 ⟨v8, rfl, o8, l8⟩
  obtain ⟨g8, c8, rfl, hg8, hl8, hn8, _⟩ := o8.form (by rw [fixed_len]; decide)
  rw [fixed_len] at hn8 o8 ⊢
  have C5 := Lib.hid (B5.out.below l8 (Nat.le_refl _))
  have C6 := Lib.hid (B6.out.below l8 (Nat.le_refl _))
  have O8 := Lib.hid o8
  have b8 := b7.trans (l8.mono b7.size)
  clear o8 l8 b7 B4 B5 B6 HFx
  go_wp2_with fail
  refine (HEx.out _).mono ?_
  rintro e w9 ⟨rfl, o9, z9', l9⟩
  have D5 := Lib.hid (C5.out.below l9 (Nat.le_refl _))
  have D6 := Lib.hid (C6.out.below l9 (Nat.le_refl _))
  have D8 := Lib.hid (O8.out.below l9 (Nat.le_refl _))
  have D9 := Lib.hid o9
  have b9 := b8.trans (l9.mono b8.size)
  clear o9 l9 z9' b8 C5 C6 O8
  go_wp2_with fail
  have hbz := Lib.hid (b9.alloc b9.size (.cells #[.slice (some ⟨g8, 0, none⟩) 40 c8, .slice (some ⟨w4.heap.size, 0, none⟩) 40 40, .slice (some ⟨w8.heap.size, 0, none⟩) 39 40, .slice (some ⟨w5.heap.size, 0, none⟩) 40 40, .slice none 0 0] 34))
  have hrow := Lib.hid (Blk.new w9 34 #[.slice (some ⟨g8, 0, none⟩) 40 c8, .slice (some ⟨w4.heap.size, 0, none⟩) 40 40, .slice (some ⟨w8.heap.size, 0, none⟩) 39 40, .slice (some ⟨w5.heap.size, 0, none⟩) 40 40, .slice none 0 0])
  have hz9 : w9.heap.size ≤ (w9.alloc (.cells #[.slice (some ⟨g8, 0, none⟩) 40 c8, .slice (some ⟨w4.heap.size, 0, none⟩) 40 40, .slice (some ⟨w8.heap.size, 0, none⟩) 39 40, .slice (some ⟨w5.heap.size, 0, none⟩) 40 40, .slice none 0 0] 34)).heap.size := by simp
  have F5 := Lib.hid (D5.out.alloc (.cells #[.slice (some ⟨g8, 0, none⟩) 40 c8, .slice (some ⟨w4.heap.size, 0, none⟩) 40 40, .slice (some ⟨w8.heap.size, 0, none⟩) 39 40, .slice (some ⟨w5.heap.size, 0, none⟩) 40 40, .slice none 0 0] 34))
  have F6 := Lib.hid (D6.out.alloc (.cells #[.slice (some ⟨g8, 0, none⟩) 40 c8, .slice (some ⟨w4.heap.size, 0, none⟩) 40 40, .slice (some ⟨w8.heap.size, 0, none⟩) 39 40, .slice (some ⟨w5.heap.size, 0, none⟩) 40 40, .slice none 0 0] 34))
  have F8 := Lib.hid (D8.out.alloc (.cells #[.slice (some ⟨g8, 0, none⟩) 40 c8, .slice (some ⟨w4.heap.size, 0, none⟩) 40 40, .slice (some ⟨w8.heap.size, 0, none⟩) 39 40, .slice (some ⟨w5.heap.size, 0, none⟩) 40 40, .slice none 0 0] 34))
  have F9 := Lib.hid (D9.out.alloc (.cells #[.slice (some ⟨g8, 0, none⟩) 40 c8, .slice (some ⟨w4.heap.size, 0, none⟩) 40 40, .slice (some ⟨w8.heap.size, 0, none⟩) 39 40, .slice (some ⟨w5.heap.size, 0, none⟩) 40 40, .slice none 0 0] 34))
  clear D5 D6 D8 D9 b9
  generalize hzw : w9.alloc (.cells #[.slice (some ⟨g8, 0, none⟩) 40 c8, .slice (some ⟨w4.heap.size, 0, none⟩) 40 40, .slice (some ⟨w8.heap.size, 0, none⟩) 39 40, .slice (some ⟨w5.heap.size, 0, none⟩) 40 40, .slice none 0 0] 34) = wz at *
  clear hzw
  have HRow : Hid (∀ (W : World), Below wz.heap.size wz W → ∀ k, k < 5 → ∀ A n c, (#[.slice (some ⟨g8, 0, none⟩) 40 c8, .slice (some ⟨w4.heap.size, 0, none⟩) 40 40, .slice (some ⟨w8.heap.size, 0, none⟩) 39 40, .slice (some ⟨w5.heap.size, 0, none⟩) 40 40, .slice none 0 0] : Array Value)[k]? = some (.slice A n c) → Calls Tryd.prog 31 #[.slice A n c] W fun e W' => e = .returned (.tuple #[.agg #[.int .u8 0, .int .u32 0, .int .u32 0, .int .u16 0, .int .u16 0, .int .u8 0, .int .u8 0, .int .u8 0, .int .u8 0, .int .u32 0, .int .u32 0, .int .i64 0, .int .i64 0, .int .u8 0, .int .u32 0, .int .u32 0, .int .u16 0, .int .u16 0, .int .u8 0], .int .u8 (badE.getD k 0)]) ∧ Below W.heap.size W W') := Lib.hid fun W hW k hk A n c hA => by
    have gen : ∀ (A : Option Addr) (n c : Nat), (bad5.getD k []).length = n → n ≤ 1000000 → n ≤ c → Byt (bad5.getD k []) → Rd W W.heap.size A .u8 (bad5.getD k []) → badE.getD k 0 ≠ 0 → Calls Tryd.prog 31 #[.slice A n c] W fun e W' => e = .returned (.tuple #[.agg #[.int .u8 0, .int .u32 0, .int .u32 0, .int .u16 0, .int .u16 0, .int .u8 0, .int .u8 0, .int .u8 0, .int .u8 0, .int .u32 0, .int .u32 0, .int .i64 0, .int .i64 0, .int .u8 0, .int .u32 0, .int .u32 0, .int .u16 0, .int .u16 0, .int .u8 0], .int .u8 (badE.getD k 0)]) ∧ Below W.heap.size W W' := fun A n c h1 h2 h3 h4 h5 h6 => by
      have h := pktRead_any A c n (bad5.getD k []) W h1 h2 h3 h4 h5 (Hs.out W (hbz.out.trans (hW.mono hbz.out.size)))
      have h7 : pktR (bad5.getD k []) ≠ 0 := by rw [bad_reads k hk]; exact h6
      rwa [pktF_bad h7, bad_reads k hk] at h
    rcases (show k = 0 ∨ k = 1 ∨ k = 2 ∨ k = 3 ∨ k = 4 by omega) with rfl | rfl | rfl | rfl | rfl
    · obtain ⟨rfl, rfl, rfl⟩ : some ⟨g8, 0, none⟩ = A ∧ 40 = n ∧ c8 = c := by simpa using hA
      exact gen _ _ _ fixed_len (by decide) hn8 (by show Byt (fixedL (exL.set 19 1)); unfold Byt; decide +kernel) (F8.out.below hW (Nat.le_refl _)).rd (by decide)
    · obtain ⟨rfl, rfl, rfl⟩ : some ⟨w4.heap.size, 0, none⟩ = A ∧ 40 = n ∧ 40 = c := by simpa using hA
      exact gen _ _ _ rfl (by decide) (by decide) (exL_byt.set 23 (by decide) (by decide)) (F5.out.below hW (Nat.le_refl _)).rd (by decide)
    · obtain ⟨rfl, rfl, rfl⟩ : some ⟨w8.heap.size, 0, none⟩ = A ∧ 39 = n ∧ 40 = c := by simpa using hA
      exact gen _ _ _ rfl (by decide) (by decide) (exL_byt.take 39) ((F9.out.below hW (Nat.le_refl _)).rd.take 39) (by decide)
    · obtain ⟨rfl, rfl, rfl⟩ : some ⟨w5.heap.size, 0, none⟩ = A ∧ 40 = n ∧ 40 = c := by simpa using hA
      exact gen _ _ _ rfl (by decide) (by decide) (exL_byt.set 33 (by decide) (by decide)) (F6.out.below hW (Nat.le_refl _)).rd (by decide)
    · obtain ⟨rfl, rfl, rfl⟩ : none = A ∧ 0 = n ∧ 0 = c := by simpa using hA
      exact gen _ _ _ rfl (by decide) (by decide) Byt.nil Rd.nil (by decide)
  clear F5 F6 F8 F9 hz9
  have hlz := hrow.out.lt
  go_loopw [6, 7, 8, 9, 44] (fun _ _ _ _ i W => ∃ k : Nat, k ≤ 5 ∧ i = .int .i64 k ∧ Hid (Below wz.heap.size wz W)) (fun _ _ _ _ i _ => 5 - (intOf i).toNat)
  case atStart => exact ⟨0, by omega, rfl, Lib.hid (Below.refl _ _)⟩
  case round =>
    obtain ⟨k, hk, rfl, hB⟩ := hrel
    rename World => wo
    by_cases hlt : k < 5
    · have hblk := (hrow.out.below hB.out hlz)
      have hck := hblk.cell k
      rcases (show k = 0 ∨ k = 1 ∨ k = 2 ∨ k = 3 ∨ k = 4 by omega) with rfl | rfl | rfl | rfl | rfl
      all_goals
        have HC := Lib.hid (HRow.out wo hB.out _ hlt _ _ _ rfl)
        clear hblk
        go_wp2_with fail
        refine HC.out.mono ?_
        rintro e wa ⟨rfl, la⟩
        have La := Lib.hid (hB.out.trans (la.mono hB.out.size))
        clear la hck
        go_upto_region 10 with (first | ((with_reducible refine look_store ?_); refine wpList_store_new rfl _ _ _ rfl _ _ rfl rfl _ _ rfl (by kernel_rfl) (by simp) (by simp [Value.oneCell']) ?_) | fail)
        refine wp_name1 ?_
        intro wb hbb hsb bfb
        have Lb := Lib.hid (La.out.trans (hbb.mono La.out.size))
        have bfc := bfb.alloc (.cells #[.int .u8 12, .int .u8 16, .int .u8 4, .int .u8 15, .int .u8 1] 5)
        have hne : (binOp .neq 27 (.agg #[.int .u8 0, .int .u32 0, .int .u32 0, .int .u16 0, .int .u16 0, .int .u8 0, .int .u8 0, .int .u8 0, .int .u8 0, .int .u32 0, .int .u32 0, .int .i64 0, .int .i64 0, .int .u8 0, .int .u32 0, .int .u32 0, .int .u16 0, .int .u16 0, .int .u8 0]) (.agg #[.int .u8 0, .int .u32 0, .int .u32 0, .int .u16 0, .int .u16 0, .int .u8 0, .int .u8 0, .int .u8 0, .int .u8 0, .int .u32 0, .int .u32 0, .int .i64 0, .int .i64 0, .int .u8 0, .int .u32 0, .int .u32 0, .int .u16 0, .int .u16 0, .int .u8 0])).run Tryd.prog (wb.alloc (.cells #[.int .u8 12, .int .u8 16, .int .u8 4, .int .u8 15, .int .u8 1] 5)) = .ok (.bool false) (wb.alloc (.cells #[.int .u8 12, .int .u8 16, .int .u8 4, .int .u8 15, .int .u8 1] 5)) := run_ne_facts Facts.zero _
        clear bfb hbb hsb
        go_wp2_with (first | ((with_reducible refine look_load ?_); refine wpList_load_guarded (by first | rfl | simp [Region.wanted, yielded]) _ _ rfl _ rfl _ _ _ _ bfc Tryd.underlying27 rfl (by kernel_rfl) ?_) | fail)
        go_roundw
        case rel => first | exact ⟨1, by omega, rfl, Lib.hid (Lb.out.alloc Lb.out.size _)⟩ | exact ⟨2, by omega, rfl, Lib.hid (Lb.out.alloc Lb.out.size _)⟩ | exact ⟨3, by omega, rfl, Lib.hid (Lb.out.alloc Lb.out.size _)⟩ | exact ⟨4, by omega, rfl, Lib.hid (Lb.out.alloc Lb.out.size _)⟩ | exact ⟨5, by omega, rfl, Lib.hid (Lb.out.alloc Lb.out.size _)⟩
        case measure => simp [intOf]
    · obtain rfl : k = 5 := by omega
      have bE := hbz.out.trans (hB.out.mono hbz.out.size)
      have HNm := Lib.hid (name_any 12 wo (by decide) (Hm.out wo bE))
      have HRs := Lib.hid (reason_any ⟨#[110, 111, 114, 117, 108, 101]⟩ wo (Hm.out wo bE))
      rw [norule_is] at HRs
      have hS := address_is
      rw [show nameE 12 = 0 from rfl] at HNm
      have HbE := Lib.hid bE
      clear bE
      generalize nameS 12 = S at *
      go_wp2_with fail
      refine HNm.out.mono ?_
      rintro e wn ⟨rfl, rfl⟩
      go_wp2_with fail
      refine HRs.out.mono ?_
      rintro e wn ⟨rfl, rfl⟩
      go_wp2_with fail
      go_ret
      exact ⟨rfl, HbE.out⟩
end Go.Proofs.YtebeekjcepjcnaaDoor
