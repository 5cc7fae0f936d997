/-
  bafflelaw11.PktSmall.
-/
import Derived.Test.YtebeekjcepjcnaaDoorProg
import Derived.WalkKit
import Derived.WalkSpells
import Derived.WalkLawsBesides
import Derived.WalkSmall
import Derived.Lib.Hide
import Derived.Deep.AppendLies
import Derived.Maps.AppendAt
import Derived.Laws.AppendOwnNone
import Derived.Laws.CopyOwn
import Derived.OneCell
import Derived.Lib.SliceRun
import Derived.RangeFuncNested
import Derived.RangeFuncBound
import Derived.RangeFuncCalls
import Derived.RangeFuncLeaves
import Derived.Shelf.Abstract
import Derived.OwnWalkIn
import Derived.TacticsInMore
import Derived.LoopNIn
import Derived.LoopIn
import Derived.Orders
import Derived.RegionTactic
import Derived.Still
import Derived.Deep.MidRow
import Derived.Deep.DeepCutAuto
import Derived.Lib.AppendZeros
import Derived.BigRegion
import Derived.ChangeAlike
import Derived.Deep.RegionLaw
import Derived.Deep.RegionHeld3
import Derived.MapKept
import Derived.Laws.StructEq
import Derived.RegionIn
import Derived.Test.YtebeekjcepjcnaaDoorSBase
import Derived.Test.YtebeekjcepjcnaaDoorSMem
import Derived.Test.YtebeekjcepjcnaaDoorSCsum
import Derived.Test.YtebeekjcepjcnaaDoorSSum
import Derived.Test.YtebeekjcepjcnaaDoorSRegion
import Derived.Test.YtebeekjcepjcnaaDoorSWalk
import Derived.Test.YtebeekjcepjcnaaDoorSStep
import Derived.Test.YtebeekjcepjcnaaDoorSStepb
import Derived.Test.YtebeekjcepjcnaaDoorSRefa
import Derived.Test.YtebeekjcepjcnaaDoorSConcat
import Derived.Test.YtebeekjcepjcnaaDoorSPkt
import Derived.Test.YtebeekjcepjcnaaDoorSRopts
import Derived.Test.YtebeekjcepjcnaaDoorSRnum
import Derived.Test.YtebeekjcepjcnaaDoorSTcpw
import Derived.Test.YtebeekjcepjcnaaDoorSIcmpr
import Derived.Test.YtebeekjcepjcnaaDoorSIprd
import Derived.Test.YtebeekjcepjcnaaDoorSIpre
import Derived.Test.YtebeekjcepjcnaaDoorSTcprd
import Derived.Test.YtebeekjcepjcnaaDoorSUdprd
import Derived.Test.YtebeekjcepjcnaaDoorSEq
import Derived.Test.YtebeekjcepjcnaaDoorSPktm
import Derived.Test.YtebeekjcepjcnaaDoorSPktn
import Derived.Test.YtebeekjcepjcnaaDoorSQuota
import Derived.Test.YtebeekjcepjcnaaDoorSQuotc
import Derived.Test.YtebeekjcepjcnaaDoorSPkto
import Derived.Test.YtebeekjcepjcnaaDoorSIpread
import Derived.Test.YtebeekjcepjcnaaDoorSOptsa
import Derived.Test.YtebeekjcepjcnaaDoorSOptsb
import Derived.Test.YtebeekjcepjcnaaDoorSRange
import Derived.Test.YtebeekjcepjcnaaDoorSOptsc
import Derived.Test.YtebeekjcepjcnaaDoorSOptsd
import Derived.Test.YtebeekjcepjcnaaDoorSPkta
import Derived.Test.YtebeekjcepjcnaaDoorSPktr
import Derived.Test.YtebeekjcepjcnaaDoorSRat
import Derived.Test.YtebeekjcepjcnaaDoorSRefc
import Derived.Test.YtebeekjcepjcnaaDoorSRquo
import Derived.Test.YtebeekjcepjcnaaDoorSRip5
import Derived.Test.YtebeekjcepjcnaaDoorSRefe
import Derived.Test.YtebeekjcepjcnaaDoorSRtcp
import Derived.Test.YtebeekjcepjcnaaDoorSRseg
import Derived.Test.YtebeekjcepjcnaaDoorSRmsg
import Derived.Test.YtebeekjcepjcnaaDoorSRopt6
import Derived.Test.YtebeekjcepjcnaaDoorSRopt7
import Derived.Test.YtebeekjcepjcnaaDoorSRopt8
import Derived.Test.YtebeekjcepjcnaaDoorSRhead
import Derived.Test.YtebeekjcepjcnaaDoorSRread
import Derived.Test.YtebeekjcepjcnaaDoorSLent
import Derived.Test.YtebeekjcepjcnaaDoorSPawake
import Derived.Test.YtebeekjcepjcnaaDoorSRpname
namespace Go.Proofs.YtebeekjcepjcnaaDoor
open Go.RowKit Go.Shelf
/-- A guarded append. -/
theorem app_own_g {w : World} {ops : Array Oper} {rest : List Oper} {o : Oper} {a : Act} {Q : Exit → Act → World → Prop} (hw : Region.wanted o (yielded ops a.tmps) = true) (s x : Operand)
    (ho : o.op = .call { callee := .builtin .append, args := #[s, x], argTypes := #[34, 34] })
    (base : Nat) (v : Value) (xs : List Int) (hs : a.eval s = v) (hown : Own w base v xs) (B : Nat) (A : Option Addr) (m c : Nat) (ys : List Int)
    (hx : a.eval x = .slice A m c) (hm : m = ys.length) (hr : Rd w B A .u8 ys) (hb : xs.length + ys.length ≤ 140737488355328) (hbase : base ≤ w.heap.size)
    (h : ∀ v' w', Own w' base v' (xs ++ ys) → Below base w w' → wpList Tryd.prog ops Q rest (a.put o.dst v') w') :
    wpList Tryd.prog ops Q (o :: rest) a w := by
  subst hm
  obtain ⟨v', w', hrun, h2, h3, h4⟩ := run_app w o.type base v xs hown B A c ys hr hb hbase
  rw [wpList, if_pos hw]
  refine .inl ?_
  unfold Oper.wp execOp
  simp only [ho, resolve, invoke, builtin, Sem.run_bind, Sem.run_pure, Result.andThen_ok, List.map_toArray, List.map_cons, List.map_nil, hs, hx, hrun]
  exact h v' w' h2 (below_of_grown h3 hbase (fun g hg => (hown.lt hg).1))
def protoL : List Int := [6, 17, 1]
set_option maxRecDepth 100000 in
set_option maxHeartbeats 16000000 in
theorem pktSmall_any (w : World) (hs : SortsAt w) (hm : NamesAt w) : Calls Tryd.prog 7 #[] w fun e W => e = .returned (.bool true) ∧ Below w.heap.size w W := by
  have Hs := Lib.hid hs
  have Hm := Lib.hid hm
  have HEx := Lib.hid (fun (W : World) => example_any W)
  clear hs hm
  go_enter Tryd.func7, Tryd.ntmps7
  go_wp2_with fail
  have HT : Hid (∀ k : Nat, k < 3 → (w.alloc (.cells #[.int .u8 6, .int .u8 17, .int .u8 1] 5)).cell? ⟨w.heap.size, k, none⟩ = some (.int .u8 (protoL.getD k 0))) := Lib.hid fun k hk => by
    rw [Blk.cell (Blk.new w _ _)]
    rcases (show k = 0 ∨ k = 1 ∨ k = 2 by omega) with rfl | rfl | rfl <;> rfl
  have HB1 : Hid (Below w.heap.size w (w.alloc (.cells #[.int .u8 6, .int .u8 17, .int .u8 1] 5))) := Lib.hid ((Below.refl _ _).alloc (Nat.le_refl _) _)
  have HZ : Hid (w.heap.size + 1 = (w.alloc (.cells #[.int .u8 6, .int .u8 17, .int .u8 1] 5)).heap.size) := Lib.hid (by simp)
  generalize w.alloc (.cells #[.int .u8 6, .int .u8 17, .int .u8 1] 5) = w1 at *
  have HR : Hid (∀ (W : World) (v : Value) (base : Nat) (zs : List Int), Below w1.heap.size w1 W → Own W base v zs → Byt zs → Calls Tryd.prog 23 #[v] W fun e W' => e = .returned (.bool true) ∧ Below W.heap.size W W') := Lib.hid fun W v base zs hb ho hz =>
    readsO v base zs W ho hz ((Hs.out.below HB1.out (Nat.le_refl _)).below hb (Nat.le_refl _))
  have HF : Hid (∀ (W : World) (v : Value) (base : Nat) (zs : List Int), Own W base v zs → Byt zs → zs.length ≤ 1000 → base ≤ W.heap.size → Calls Tryd.prog 30 #[v] W fun e W' => ∃ u ys, e = .returned u ∧ Own W' base u ys ∧ ys.length = zs.length ∧ Byt ys ∧ Below W.heap.size W W') := Lib.hid fun W v base zs ho hz hl hb => fixedO v base zs W ho hz hl hb
  have HNm : Hid (∀ (W : World) (r : Nat), Below w1.heap.size w1 W → r < 256 → Calls Tryd.prog 25 #[.int .u8 r] W fun e w' => e = .returned (.tuple #[.string (nameS r), .int .i64 (nameE r)]) ∧ W = w') := Lib.hid fun W r hb hr => name_any r W hr ((Hm.out.below HB1.out (Nat.le_refl _)).below hb (Nat.le_refl _))
  have HRs : Hid (∀ (W : World) (T : ByteArray), Below w1.heap.size w1 W → Calls Tryd.prog 27 #[.string T] W fun e w' => e = .returned (.tuple #[.int .u8 (reasonR T).1, .int .i64 (reasonR T).2]) ∧ W = w') := Lib.hid fun W T hb => reason_any T W ((Hm.out.below HB1.out (Nat.le_refl _)).below hb (Nat.le_refl _))
  have HPn : Hid (∀ (W : World) (r : Nat) (T : ByteArray), Below w1.heap.size w1 W → r < 256 → Calls Tryd.prog 6 #[.int .u8 r, .string T] W fun e w' => e = .returned (.bool true) ∧ Below W.heap.size W w') := Lib.hid fun W r T hb hr => pktNames_any r T W hr ((Hs.out.below HB1.out (Nat.le_refl _)).below hb (Nat.le_refl _)) ((Hm.out.below HB1.out (Nat.le_refl _)).below hb (Nat.le_refl _))
  have HAw : Hid (∀ (W : World), Below w1.heap.size w1 W → Calls Tryd.prog 24 #[] W fun e w' => e = .returned (.bool true) ∧ Below W.heap.size W w') := Lib.hid fun W hb => awakeP_any W ((Hs.out.below HB1.out (Nat.le_refl _)).below hb (Nat.le_refl _)) ((Hm.out.below HB1.out (Nat.le_refl _)).below hb (Nat.le_refl _))
  go_loopw [2, 3, 4, 5, 6, 7, 15] (fun _ _ _ _ _ _ i W => ∃ k : Nat, k ≤ 3 ∧ i = .int .i64 k ∧ Hid (Below w1.heap.size w1 W)) (fun _ _ _ _ _ _ i _ => 3 - (intOf i).toNat)
  case atStart => exact ⟨0, by omega, rfl, Lib.hid (Below.refl _ _)⟩
  case round =>
    obtain ⟨k, hk, rfl, hL⟩ := hrel
    rename World => wo
    by_cases hlt : k < 3
    · have hc := (hL.out.cell (p := ⟨w.heap.size, k, none⟩) (by have := HZ.out; show w.heap.size < w1.heap.size; omega)).trans (HT.out k hlt)
      have hp : Hid (0 ≤ protoL.getD k 0 ∧ protoL.getD k 0 < 256) := Lib.hid (by rcases (show k = 0 ∨ k = 1 ∨ k = 2 by omega) with rfl | rfl | rfl <;> decide)
      generalize protoL.getD k 0 = p at *
      go_wp2_with fail
      refine (HEx.out _).mono ?_
      rintro e w2 ⟨rfl, o2, z2, l2⟩
      have Z2 := Lib.hid z2
      have L2 := Lib.hid (hL.out.trans (l2.mono hL.out.size))
      have G2 : Hid (w1.heap.size ≤ wo.heap.size) := Lib.hid hL.out.size
      clear z2 hc hL l2
      have c9 := o2.cell 9 (by decide)
      have f9 := o2.free 9
      have O2 := Lib.hid o2
      clear o2
      go_upto_region 6 with fail
      have O3 := Lib.hid (O2.out.set 9 p)
      have L3 := Lib.hid (L2.out.setCell (p := ⟨wo.heap.size, 9, none⟩) G2.out (.int .u8 p))
      have B3 : Hid (Byt (exL.set 9 p)) := Lib.hid (exL_byt.set 9 hp.out.1 hp.out.2)
      clear c9 f9 O2 L2 Z2
      generalize w2.setCell ⟨wo.heap.size, 9, none⟩ (.int .u8 p) = w3 at *
      have HFin : Hid (∀ (W : World) (ys : List Int), ys.length = 40 → Byt ys → Own W wo.heap.size (.slice (some ⟨wo.heap.size, 0, none⟩) 40 40) ys → w1.heap.size ≤ W.heap.size → Calls Tryd.prog 30 #[.slice (some ⟨wo.heap.size, 0, none⟩) 40 40] W fun e W' => ∃ u ys, e = .returned u ∧ Own W' w1.heap.size u ys ∧ ys.length = 40 ∧ Byt ys ∧ Below W.heap.size W W') := Lib.hid fun W ys hy hby o hw => by
        refine (fixedO _ w1.heap.size ys W (o.base_le G2.out) hby (by omega) hw).mono ?_
        rintro e W' ⟨u, zs, rfl, o', h1, h2, h3⟩
        exact ⟨u, zs, rfl, o', h1.trans hy, h2, h3⟩
      by_cases h6 : p = 6
      · subst h6
        go_wp2_with fail
        refine (HFin.out _ _ rfl B3.out O3.out L3.out.size).mono ?_
        rintro e w4 ⟨u, ys, rfl, o4, hy4, hb4, l4⟩
        have L4 := Lib.hid (L3.out.trans (l4.mono L3.out.size))
        clear O3 L3 B3
        clear l4 HFin
        obtain ⟨g, cap, rfl, hg0, hg1, hc1, hc2⟩ := o4.form (by omega)
        rw [hy4] at hc1 o4 ⊢
        have OB := Lib.hid o4
        have RB : Hid (∀ W, Below w4.heap.size w4 W → Rd W w4.heap.size (some ⟨g, 0, none⟩) .u8 ys) := Lib.hid fun W hb => o4.rd.below hb (Nat.le_refl _)
        have NB := Lib.hid hy4
        have BB := Lib.hid hb4
        have hcm : (40 : Int) ≤ cap := by omega
        have GB := Lib.hid hg1
        clear o4 hy4 hb4 hg0 hg1 hc2
        go_wp2_with fail
        go_loopw [4, 5, 6, 7, 33] (fun _ _ _ _ i W => ∃ j : Nat, j ≤ 40 ∧ i = .int .i64 j ∧ Hid (Below w4.heap.size w4 W)) (fun _ _ _ _ i _ => 40 - (intOf i).toNat)
        case atStart => exact ⟨0, by omega, rfl, Lib.hid (Below.refl _ _)⟩
        case round =>
          obtain ⟨j, hj, rfl, hLj⟩ := hrel
          rename World => wj
          by_cases hltj : j < 40
          · have e34 : decide ((j : Int) < 40) = true := by simp; omega
            have e35 : decide (j < 40) = true := by simp; omega
            go_wp2_with fail
            go_loopw [5, 6, 36] (fun _ _ i W => ∃ x : Nat, x ≤ 256 ∧ i = .int .i64 x ∧ Hid (Below w4.heap.size w4 W)) (fun _ _ i _ => 256 - (intOf i).toNat)
            case atStart => exact ⟨0, by omega, rfl, hLj⟩
            case round =>
              obtain ⟨x, hx, rfl, hLx⟩ := hrel
              rename World => wx
              by_cases hltx : x < 256
              · go_wp2_with (first | (at_builtin; refine app_own rfl _ _ rfl w4.heap.size _ [] rfl (own_lit wx w4.heap.size 0 [] _ rfl rfl (by simp [maxLen]) hLx.out.size) _ (some ⟨g, 0, none⟩) 40 cap ys rfl NB.out.symm (RB.out _ (hLx.out.alloc hLx.out.size _)) (by have := NB.out; simp; omega) (by have := hLx.out.size; simp; omega) ?_; intro v6 w6 o6 l6 g6 a6; replace o6 : Own w6 w4.heap.size v6 ys := o6; obtain ⟨gc, cc, rfl, hgc0, hgc1, hcc1, hcc2⟩ := o6.formN 40 NB.out (by omega); have cj := o6.cell j (by have := NB.out; omega); have fj := o6.free j; have O6 := Lib.hid o6; have L6 := Lib.hid ((hLx.out.alloc hLx.out.size _).trans l6); clear g6 a6 o6 l6) | fail)
                have O7 := Lib.hid (O6.out.set j (x : Int))
                have L7 := Lib.hid (L6.out.setCell (p := ⟨gc, j, none⟩) hgc0 (.int .u8 (x : Int)))
                have B7 : Hid (Byt (ys.set j (x : Int))) := Lib.hid (BB.out.set j (by omega) (by omega))
                have N7 : Hid ((ys.set j (x : Int)).length = 40) := Lib.hid (by rw [List.length_set, NB.out])
                clear O6 L6 cj fj hgc0 hgc1 hcc1 hcc2 hLx
                generalize w6.setCell ⟨gc, j, none⟩ (.int .u8 (x : Int)) = w7 at *
                generalize ys.set j (x : Int) = y7 at *
                refine (HF.out _ _ w4.heap.size y7 O7.out B7.out (by have := N7.out; omega) L7.out.size).mono ?_
                rintro e w8 ⟨v8, y8, rfl, o8, n8, b8, l8⟩
                have L8 := Lib.hid (L7.out.trans (l8.mono L7.out.size))
                have O8 := Lib.hid (O7.out.below l8 (Nat.le_refl _))
                have HR8 := Lib.hid (HR.out w8 v8 _ y8 (L4.out.trans (L8.out.mono L4.out.size)) o8 b8)
                clear n8 o8 b8 l8
                go_wp2_with fail
                refine HR8.out.mono ?_
                rintro e w9 ⟨rfl, l9⟩
                have L9 := Lib.hid (L8.out.trans (l9.mono L8.out.size))
                have HR9 := Lib.hid (HR.out w9 _ _ y7 (L4.out.trans (L9.out.mono L4.out.size)) (O8.out.below l9 (Nat.le_refl _)) B7.out)
                clear l9
                by_cases hq : (x : Int) % 64 = j
                · have hq1 : ((x : Int) % 64 == j) = true := by simpa using hq
                  have hq2 : decide ((x : Int) % 64 = j) = true := by simpa using hq
                  clear hq
                  go_wp2_with fail
                  refine HR9.out.mono ?_
                  rintro e w10 ⟨rfl, l10⟩
                  have L10 := Lib.hid (L9.out.trans (l10.mono L9.out.size))
                  clear l10
                  go_wp2_with fail
                  go_roundw
                  case rel => exact ⟨x + 1, by omega, by go_num, L10⟩
                  case measure => simp [intOf]; omega
                · have hq1 : ((x : Int) % 64 == j) = false := by simpa using hq
                  have hq2 : decide ((x : Int) % 64 = j) = false := by simpa using hq
                  clear hq
                  go_wp2_with fail
                  go_roundw
                  case rel => exact ⟨x + 1, by omega, by go_num, L9⟩
                  case measure => simp [intOf]; omega
              · obtain rfl : x = 256 := by omega
                have hjc : (j : Int) ≤ cap := by omega
                have NJ : Hid ((ys.take j).length = j) := Lib.hid (by rw [List.length_take, NB.out]; omega)
                go_wp2_with (first | (at_builtin; refine app_own rfl _ _ rfl w4.heap.size _ [] rfl (own_lit wx w4.heap.size 0 [] _ rfl rfl (by simp [maxLen]) hLx.out.size) _ (some ⟨g, 0, none⟩) j cap (ys.take j) rfl NJ.out.symm ((RB.out _ (hLx.out.alloc hLx.out.size _)).take j) (by have := NJ.out; simp at this ⊢; omega) (by have := hLx.out.size; simp; omega) ?_; intro v6 w6 o6 l6 g6 a6; replace o6 : Own w6 w4.heap.size v6 (ys.take j) := o6; have O6 := Lib.hid o6; have L6 := Lib.hid ((hLx.out.alloc hLx.out.size _).trans l6); clear g6 a6 o6 l6) | fail)
                refine (HR.out w6 v6 _ (ys.take j) (L4.out.trans (L6.out.mono L4.out.size)) O6.out (BB.out.take j)).mono ?_
                rintro e w7 ⟨rfl, l7⟩
                have L7 := Lib.hid (L6.out.trans (l7.mono L6.out.size))
                have O7 := Lib.hid (O6.out.below l7 (Nat.le_refl _))
                clear l7 O6 L6 hLx
                by_cases h3 : 3 < j
                · have hd3 : decide (3 < (j : Int)) = true := by simp; omega
                  obtain ⟨gc, cc, rfl, hgc0, hgc1, hcc1, hcc2⟩ := O7.out.formN j NJ.out (by omega)
                  have cj := O7.out.cell 3 (by rw [NJ.out]; omega)
                  have fj := O7.out.free 3
                  have hj3 : (3 : Int) < j := by omega
                  have hj256 : (j : Int) < 256 := by omega
                  have O8 := Lib.hid (O7.out.set 3 (j : Int))
                  have L8 := Lib.hid (L7.out.setCell (p := ⟨gc, 3, none⟩) hgc0 (.int .u8 (j : Int)))
                  have B8 : Hid (Byt ((ys.take j).set 3 (j : Int))) := Lib.hid ((BB.out.take j).set 3 (by omega) (by omega))
                  have N8 : Hid (((ys.take j).set 3 (j : Int)).length = j) := Lib.hid (by rw [List.length_set, NJ.out])
                  clear O7 L7 hgc0 hgc1 hcc1 hcc2
                  go_upto_region 25 with fail
                  clear cj fj
                  generalize w7.setCell ⟨gc, 3, none⟩ (.int .u8 (j : Int)) = w8 at *
                  generalize (ys.take j).set 3 (j : Int) = y8 at *
                  go_wp2_with fail
                  refine (HF.out w8 _ w4.heap.size y8 O8.out B8.out (by have := N8.out; omega) L8.out.size).mono ?_
                  rintro e w9 ⟨v9, y9, rfl, o9, n9, b9, l9⟩
                  have L9 := Lib.hid (L8.out.trans (l9.mono L8.out.size))
                  have O9 := Lib.hid (O8.out.below l9 (Nat.le_refl _))
                  have HR9 := Lib.hid (HR.out w9 v9 _ y9 (L4.out.trans (L9.out.mono L4.out.size)) o9 b9)
                  clear o9 n9 b9 l9 O8 L8
                  go_wp2_with fail
                  refine HR9.out.mono ?_
                  rintro e w10 ⟨rfl, l10⟩
                  have L10 := Lib.hid (L9.out.trans (l10.mono L9.out.size))
                  have HF10 := Lib.hid (HF.out w10 _ w4.heap.size y8 (O9.out.below l10 (Nat.le_refl _)) B8.out (by have := N8.out; omega) L10.out.size)
                  clear l10 HR9 O9 L9
                  go_wp2_with fail
                  refine HF10.out.mono ?_
                  rintro e w11 ⟨v11, y11, rfl, o11, n11, b11, l11⟩
                  have L11 := Lib.hid (L10.out.trans (l11.mono L10.out.size))
                  have O11 := Lib.hid o11
                  have N11 := Lib.hid (n11.trans N8.out)
                  have B11 : Hid (Byt (y11 ++ [0])) := Lib.hid (b11.append (Byt.cons (by omega) (by omega) Byt.nil))
                  clear HF10 L10 o11 n11 b11 l11
                  go_wp2_with (first | (at_builtin; refine app_own_g (by first | rfl | simp [Region.wanted, yielded]) _ _ rfl w4.heap.size v11 y11 rfl (O11.out.alloc _) _ (some ⟨w11.heap.size, 0, none⟩) 1 1 [0] rfl rfl (Rd.new _ _ _ _) (by have := N11.out; simp; omega) (by have := L11.out.size; simp; omega) ?_; intro v12 w12 o12 l12; have L12 := Lib.hid ((L11.out.alloc L11.out.size _).trans l12); have O12 := Lib.hid o12; clear o12 l12) | fail)
                  refine (HR.out w12 v12 _ _ (L4.out.trans (L12.out.mono L4.out.size)) O12.out B11.out).mono ?_
                  rintro e w13 ⟨rfl, l13⟩
                  have L13 := Lib.hid (L12.out.trans (l13.mono L12.out.size))
                  clear l13
                  go_wp2_with fail
                  go_roundw
                  case rel => exact ⟨j + 1, by omega, by go_num, L13⟩
                  case measure => simp [intOf]; omega
                · have hd3 : decide (3 < (j : Int)) = false := by simp; omega
                  go_wp2_with fail
                  go_roundw
                  case rel => exact ⟨j + 1, by omega, by go_num, L7⟩
                  case measure => simp [intOf]; omega
          · obtain rfl : j = 40 := by omega
            go_wp2_with fail
            go_roundw
            case rel => exact ⟨k + 1, by omega, by go_num, Lib.hid (L4.out.trans (hLj.out.mono L4.out.size))⟩
            case measure => simp [intOf]; omega
      · have e6 : (p != 6) = true := by simpa using h6
        go_wp2_with (first | (refine copy_own rfl (.tmp 26) (.tmp 27) rfl _ wo.heap.size 40 40 _ (O3.out.alloc _) 20 (some ⟨wo.heap.size, 20, none⟩) (some ⟨w3.heap.size, 0, none⟩) 20 20 8 8 rfl rfl [8, 0, 0, 80, 0, 20, 0, 0] rfl (fun _ => rfl) _ (Rd.new _ _ _ _) (by decide) ?_; intro w5 o5 g5 l5) | fail)
        have L5 := Lib.hid (((L3.out.alloc L3.out.size _)).trans (l5.mono G2.out))
        have B5 : Hid (Byt (splice (exL.set 9 p) 20 [8, 0, 0, 80, 0, 20, 0, 0])) := Lib.hid (splice_byt B3.out (by unfold Byt; decide) _)
        have N5 : Hid ((splice (exL.set 9 p) 20 [8, 0, 0, 80, 0, 20, 0, 0]).length = 40) := Lib.hid (by simp [splice]; rfl)
        have O5 := Lib.hid o5
        clear o5 g5 l5 O3 L3 B3
        generalize splice (exL.set 9 p) 20 [8, 0, 0, 80, 0, 20, 0, 0] = y5 at *
        go_wp2_with fail
        refine (HFin.out _ _ N5.out B5.out O5.out L5.out.size).mono ?_
        rintro e w4 ⟨u, ys, rfl, o4, hy4, hb4, l4⟩
        have L4 := Lib.hid (L5.out.trans (l4.mono L5.out.size))
        clear O5 L5 B5 N5
        clear e6 h6
        clear l4 HFin
        obtain ⟨g, cap, rfl, hg0, hg1, hc1, hc2⟩ := o4.form (by omega)
        rw [hy4] at hc1 o4 ⊢
        have OB := Lib.hid o4
        have RB : Hid (∀ W, Below w4.heap.size w4 W → Rd W w4.heap.size (some ⟨g, 0, none⟩) .u8 ys) := Lib.hid fun W hb => o4.rd.below hb (Nat.le_refl _)
        have NB := Lib.hid hy4
        have BB := Lib.hid hb4
        have hcm : (40 : Int) ≤ cap := by omega
        have GB := Lib.hid hg1
        clear o4 hy4 hb4 hg0 hg1 hc2
        go_wp2_with fail
        go_loopw [4, 5, 6, 7, 33] (fun _ _ _ _ i W => ∃ j : Nat, j ≤ 40 ∧ i = .int .i64 j ∧ Hid (Below w4.heap.size w4 W)) (fun _ _ _ _ i _ => 40 - (intOf i).toNat)
        case atStart => exact ⟨0, by omega, rfl, Lib.hid (Below.refl _ _)⟩
        case round =>
          obtain ⟨j, hj, rfl, hLj⟩ := hrel
          rename World => wj
          by_cases hltj : j < 40
          · have e34 : decide ((j : Int) < 40) = true := by simp; omega
            have e35 : decide (j < 40) = true := by simp; omega
            go_wp2_with fail
            go_loopw [5, 6, 36] (fun _ _ i W => ∃ x : Nat, x ≤ 256 ∧ i = .int .i64 x ∧ Hid (Below w4.heap.size w4 W)) (fun _ _ i _ => 256 - (intOf i).toNat)
            case atStart => exact ⟨0, by omega, rfl, hLj⟩
            case round =>
              obtain ⟨x, hx, rfl, hLx⟩ := hrel
              rename World => wx
              by_cases hltx : x < 256
              · go_wp2_with (first | (at_builtin; refine app_own rfl _ _ rfl w4.heap.size _ [] rfl (own_lit wx w4.heap.size 0 [] _ rfl rfl (by simp [maxLen]) hLx.out.size) _ (some ⟨g, 0, none⟩) 40 cap ys rfl NB.out.symm (RB.out _ (hLx.out.alloc hLx.out.size _)) (by have := NB.out; simp; omega) (by have := hLx.out.size; simp; omega) ?_; intro v6 w6 o6 l6 g6 a6; replace o6 : Own w6 w4.heap.size v6 ys := o6; obtain ⟨gc, cc, rfl, hgc0, hgc1, hcc1, hcc2⟩ := o6.formN 40 NB.out (by omega); have cj := o6.cell j (by have := NB.out; omega); have fj := o6.free j; have O6 := Lib.hid o6; have L6 := Lib.hid ((hLx.out.alloc hLx.out.size _).trans l6); clear g6 a6 o6 l6) | fail)
                have O7 := Lib.hid (O6.out.set j (x : Int))
                have L7 := Lib.hid (L6.out.setCell (p := ⟨gc, j, none⟩) hgc0 (.int .u8 (x : Int)))
                have B7 : Hid (Byt (ys.set j (x : Int))) := Lib.hid (BB.out.set j (by omega) (by omega))
                have N7 : Hid ((ys.set j (x : Int)).length = 40) := Lib.hid (by rw [List.length_set, NB.out])
                clear O6 L6 cj fj hgc0 hgc1 hcc1 hcc2 hLx
                generalize w6.setCell ⟨gc, j, none⟩ (.int .u8 (x : Int)) = w7 at *
                generalize ys.set j (x : Int) = y7 at *
                refine (HF.out _ _ w4.heap.size y7 O7.out B7.out (by have := N7.out; omega) L7.out.size).mono ?_
                rintro e w8 ⟨v8, y8, rfl, o8, n8, b8, l8⟩
                have L8 := Lib.hid (L7.out.trans (l8.mono L7.out.size))
                have O8 := Lib.hid (O7.out.below l8 (Nat.le_refl _))
                have HR8 := Lib.hid (HR.out w8 v8 _ y8 (L4.out.trans (L8.out.mono L4.out.size)) o8 b8)
                clear n8 o8 b8 l8
                go_wp2_with fail
                refine HR8.out.mono ?_
                rintro e w9 ⟨rfl, l9⟩
                have L9 := Lib.hid (L8.out.trans (l9.mono L8.out.size))
                have HR9 := Lib.hid (HR.out w9 _ _ y7 (L4.out.trans (L9.out.mono L4.out.size)) (O8.out.below l9 (Nat.le_refl _)) B7.out)
                clear l9
                by_cases hq : (x : Int) % 64 = j
                · have hq1 : ((x : Int) % 64 == j) = true := by simpa using hq
                  have hq2 : decide ((x : Int) % 64 = j) = true := by simpa using hq
                  clear hq
                  go_wp2_with fail
                  refine HR9.out.mono ?_
                  rintro e w10 ⟨rfl, l10⟩
                  have L10 := Lib.hid (L9.out.trans (l10.mono L9.out.size))
                  clear l10
                  go_wp2_with fail
                  go_roundw
                  case rel => exact ⟨x + 1, by omega, by go_num, L10⟩
                  case measure => simp [intOf]; omega
                · have hq1 : ((x : Int) % 64 == j) = false := by simpa using hq
                  have hq2 : decide ((x : Int) % 64 = j) = false := by simpa using hq
                  clear hq
                  go_wp2_with fail
                  go_roundw
                  case rel => exact ⟨x + 1, by omega, by go_num, L9⟩
                  case measure => simp [intOf]; omega
              · obtain rfl : x = 256 := by omega
                have hjc : (j : Int) ≤ cap := by omega
                have NJ : Hid ((ys.take j).length = j) := Lib.hid (by rw [List.length_take, NB.out]; omega)
                go_wp2_with (first | (at_builtin; refine app_own rfl _ _ rfl w4.heap.size _ [] rfl (own_lit wx w4.heap.size 0 [] _ rfl rfl (by simp [maxLen]) hLx.out.size) _ (some ⟨g, 0, none⟩) j cap (ys.take j) rfl NJ.out.symm ((RB.out _ (hLx.out.alloc hLx.out.size _)).take j) (by have := NJ.out; simp at this ⊢; omega) (by have := hLx.out.size; simp; omega) ?_; intro v6 w6 o6 l6 g6 a6; replace o6 : Own w6 w4.heap.size v6 (ys.take j) := o6; have O6 := Lib.hid o6; have L6 := Lib.hid ((hLx.out.alloc hLx.out.size _).trans l6); clear g6 a6 o6 l6) | fail)
                refine (HR.out w6 v6 _ (ys.take j) (L4.out.trans (L6.out.mono L4.out.size)) O6.out (BB.out.take j)).mono ?_
                rintro e w7 ⟨rfl, l7⟩
                have L7 := Lib.hid (L6.out.trans (l7.mono L6.out.size))
                have O7 := Lib.hid (O6.out.below l7 (Nat.le_refl _))
                clear l7 O6 L6 hLx
                by_cases h3 : 3 < j
                · have hd3 : decide (3 < (j : Int)) = true := by simp; omega
                  obtain ⟨gc, cc, rfl, hgc0, hgc1, hcc1, hcc2⟩ := O7.out.formN j NJ.out (by omega)
                  have cj := O7.out.cell 3 (by rw [NJ.out]; omega)
                  have fj := O7.out.free 3
                  have hj3 : (3 : Int) < j := by omega
                  have hj256 : (j : Int) < 256 := by omega
                  have O8 := Lib.hid (O7.out.set 3 (j : Int))
                  have L8 := Lib.hid (L7.out.setCell (p := ⟨gc, 3, none⟩) hgc0 (.int .u8 (j : Int)))
                  have B8 : Hid (Byt ((ys.take j).set 3 (j : Int))) := Lib.hid ((BB.out.take j).set 3 (by omega) (by omega))
                  have N8 : Hid (((ys.take j).set 3 (j : Int)).length = j) := Lib.hid (by rw [List.length_set, NJ.out])
                  clear O7 L7 hgc0 hgc1 hcc1 hcc2
                  go_upto_region 25 with fail
                  clear cj fj
                  generalize w7.setCell ⟨gc, 3, none⟩ (.int .u8 (j : Int)) = w8 at *
                  generalize (ys.take j).set 3 (j : Int) = y8 at *
                  go_wp2_with fail
                  refine (HF.out w8 _ w4.heap.size y8 O8.out B8.out (by have := N8.out; omega) L8.out.size).mono ?_
                  rintro e w9 ⟨v9, y9, rfl, o9, n9, b9, l9⟩
                  have L9 := Lib.hid (L8.out.trans (l9.mono L8.out.size))
                  have O9 := Lib.hid (O8.out.below l9 (Nat.le_refl _))
                  have HR9 := Lib.hid (HR.out w9 v9 _ y9 (L4.out.trans (L9.out.mono L4.out.size)) o9 b9)
                  clear o9 n9 b9 l9 O8 L8
                  go_wp2_with fail
                  refine HR9.out.mono ?_
                  rintro e w10 ⟨rfl, l10⟩
                  have L10 := Lib.hid (L9.out.trans (l10.mono L9.out.size))
                  have HF10 := Lib.hid (HF.out w10 _ w4.heap.size y8 (O9.out.below l10 (Nat.le_refl _)) B8.out (by have := N8.out; omega) L10.out.size)
                  clear l10 HR9 O9 L9
                  go_wp2_with fail
                  refine HF10.out.mono ?_
                  rintro e w11 ⟨v11, y11, rfl, o11, n11, b11, l11⟩
                  have L11 := Lib.hid (L10.out.trans (l11.mono L10.out.size))
                  have O11 := Lib.hid o11
                  have N11 := Lib.hid (n11.trans N8.out)
                  have B11 : Hid (Byt (y11 ++ [0])) := Lib.hid (b11.append (Byt.cons (by omega) (by omega) Byt.nil))
                  clear HF10 L10 o11 n11 b11 l11
                  go_wp2_with (first | (at_builtin; refine app_own_g (by first | rfl | simp [Region.wanted, yielded]) _ _ rfl w4.heap.size v11 y11 rfl (O11.out.alloc _) _ (some ⟨w11.heap.size, 0, none⟩) 1 1 [0] rfl rfl (Rd.new _ _ _ _) (by have := N11.out; simp; omega) (by have := L11.out.size; simp; omega) ?_; intro v12 w12 o12 l12; have L12 := Lib.hid ((L11.out.alloc L11.out.size _).trans l12); have O12 := Lib.hid o12; clear o12 l12) | fail)
                  refine (HR.out w12 v12 _ _ (L4.out.trans (L12.out.mono L4.out.size)) O12.out B11.out).mono ?_
                  rintro e w13 ⟨rfl, l13⟩
                  have L13 := Lib.hid (L12.out.trans (l13.mono L12.out.size))
                  clear l13
                  go_wp2_with fail
                  go_roundw
                  case rel => exact ⟨j + 1, by omega, by go_num, L13⟩
                  case measure => simp [intOf]; omega
                · have hd3 : decide (3 < (j : Int)) = false := by simp; omega
                  go_wp2_with fail
                  go_roundw
                  case rel => exact ⟨j + 1, by omega, by go_num, L7⟩
                  case measure => simp [intOf]; omega
          · obtain rfl : j = 40 := by omega
            go_wp2_with fail
            go_roundw
            case rel => exact ⟨k + 1, by omega, by go_num, Lib.hid (L4.out.trans (hLj.out.mono L4.out.size))⟩
            case measure => simp [intOf]; omega
    · obtain rfl : k = 3 := by omega
      clear HT HZ HR HF HEx
      rw [show ((3 : Nat) : Int) = 3 from rfl]
      go_wp2_with fail
      go_loopw [8, 9, 10, 11, 12, 91] (fun _ _ _ _ _ i W => ∃ q : Nat, q ≤ 256 ∧ i = .int .i64 q ∧ Hid (Below w1.heap.size w1 W)) (fun _ _ _ _ _ i _ => 256 - (intOf i).toNat)
      case atStart => exact ⟨0, by omega, rfl, hL⟩
      case round =>
        obtain ⟨q, hq, rfl, hLq⟩ := hrel
        rename World => wq
        by_cases hqt : q < 256
        · have HN1 := Lib.hid (HNm.out wq q hLq.out hqt)
          have HR1 := Lib.hid (HRs.out wq (nameS q) hLq.out)
          have HP1 := Lib.hid (fun T => HPn.out wq q T hLq.out hqt)
          have hq256 : (q : Int) < 256 := by omega
          by_cases hs : 1 ≤ q ∧ q ≤ 30
          · obtain ⟨n1, n2, n3, n4⟩ := names_some q hs.1 hs.2
            have d1 : decide (0 < (q : Int)) = true := by simp; omega
            have d2 : decide ((q : Int) ≤ 30) = true := by simp; omega
            have d3 : decide ((q : Int) < 1) = false := by simp; omega
            have d4 : decide (30 < (q : Int)) = false := by simp; omega
            have d5 : decide (0 < q) = true := by simp; omega
            have d6 : decide (q ≤ 30) = true := by simp; omega
            have d7 : decide (q < 1) = false := by simp; omega
            have d8 : decide (30 < q) = false := by simp; omega
            rw [n3] at HN1
            rw [n1] at HR1
            clear n1 n3 hs
            generalize nameS q = S at *
            go_wp2_with fail
            refine HN1.out.mono ?_
            rintro e w ⟨rfl, rfl⟩
            go_wp2_with fail
            refine HR1.out.mono ?_
            rintro e w ⟨rfl, rfl⟩
            go_wp2_with fail
            refine (HP1.out _).mono ?_
            rintro e w ⟨rfl, lq⟩
            go_wp2_with fail
            go_roundw
            case rel => exact ⟨q + 1, by omega, by go_num, Lib.hid (hLq.out.trans (lq.mono hLq.out.size))⟩
            case measure => simp [intOf]; omega
          · obtain ⟨n1, n2⟩ := names_none q (by omega)
            have n3 := reason_empty
            rw [n1] at HR1
            rw [n1, n2] at HN1
            rw [n3] at HR1
            clear n1 n2 n3
            have dd : (0 < q ∧ 30 < q) ∨ q = 0 := by omega
            rcases dd with ⟨h1, h2⟩ | rfl
            · have d1 : decide (0 < (q : Int)) = true := by simp; omega
              have d2 : decide ((q : Int) ≤ 30) = false := by simp; omega
              have d3 : decide ((q : Int) < 1) = false := by simp; omega
              have d4 : decide (30 < (q : Int)) = true := by simp; omega
              have d5 : decide (0 < q) = true := by simp; omega
              have d6 : decide (q ≤ 30) = false := by simp; omega
              have d7 : decide (q < 1) = false := by simp; omega
              have d8 : decide (30 < q) = true := by simp; omega
              clear hs h1 h2
              go_wp2_with fail
              refine HN1.out.mono ?_
              rintro e w ⟨rfl, rfl⟩
              go_wp2_with fail
              refine HR1.out.mono ?_
              rintro e w ⟨rfl, rfl⟩
              go_wp2_with fail
              refine (HP1.out _).mono ?_
              rintro e w ⟨rfl, lq⟩
              go_wp2_with fail
              go_roundw
              case rel => exact ⟨q + 1, by omega, by go_num, Lib.hid (hLq.out.trans (lq.mono hLq.out.size))⟩
              case measure => simp [intOf]; omega
            · clear hs
              go_wp2_with fail
              refine HN1.out.mono ?_
              rintro e w ⟨rfl, rfl⟩
              go_wp2_with fail
              refine HR1.out.mono ?_
              rintro e w ⟨rfl, rfl⟩
              go_wp2_with fail
              refine (HP1.out _).mono ?_
              rintro e w ⟨rfl, lq⟩
              go_wp2_with fail
              go_roundw
              case rel => exact ⟨1, by omega, rfl, Lib.hid (hLq.out.trans (lq.mono hLq.out.size))⟩
              case measure => simp [intOf]
        · obtain rfl : q = 256 := by omega
          go_wp2_with fail
          refine (HAw.out _ hLq.out).mono ?_
          rintro e w ⟨rfl, l⟩
          go_wp2_with fail
          go_ret
          exact ⟨rfl, HB1.out.trans ((hLq.out.trans (l.mono hLq.out.size)).mono HB1.out.size)⟩
end Go.Proofs.YtebeekjcepjcnaaDoor
