/-
  bafflekit: markByte, LentBytes, KeptBytes.
  The reference of layer 12: Build of an error's facts.
  bafflekit.SameBytes at equal bytes; the examples of the chapters 11 and 12. bafflelaw12.tells: the program and the reference say the same of any facts.
  The law of pkt: reads.
-/
import Derived.Test.YtebeekjcepjcnaaDoorProg
import Derived.WalkKit
import Derived.WalkSpells
import Derived.WalkLawsBesides
import Derived.WalkSmall
import Derived.Lib.Hide
import Derived.Deep.AppendLies
import Derived.Maps.AppendAt
import Derived.Laws.AppendOwnNone
import Derived.Laws.CopyOwn
import Derived.OneCell
import Derived.Lib.SliceRun
import Derived.RangeFuncNested
import Derived.RangeFuncBound
import Derived.RangeFuncCalls
import Derived.RangeFuncLeaves
import Derived.Shelf.Abstract
import Derived.OwnWalkIn
import Derived.TacticsInMore
import Derived.LoopNIn
import Derived.LoopIn
import Derived.Orders
import Derived.RegionTactic
import Derived.Still
import Derived.Deep.MidRow
import Derived.Deep.DeepCutAuto
import Derived.Lib.AppendZeros
import Derived.BigRegion
import Derived.ChangeAlike
import Derived.Deep.RegionLaw
import Derived.MapKept
import Derived.Deep.RegionHeld3
import Derived.Laws.StructEq
import Derived.RegionIn
import Derived.Test.YtebeekjcepjcnaaDoorSBase
import Derived.Test.YtebeekjcepjcnaaDoorSMem
import Derived.Test.YtebeekjcepjcnaaDoorSCsum
import Derived.Test.YtebeekjcepjcnaaDoorSSum
import Derived.Test.YtebeekjcepjcnaaDoorSRegion
import Derived.Test.YtebeekjcepjcnaaDoorSWalk
import Derived.Test.YtebeekjcepjcnaaDoorSStep
import Derived.Test.YtebeekjcepjcnaaDoorSStepb
import Derived.Test.YtebeekjcepjcnaaDoorSRefa
import Derived.Test.YtebeekjcepjcnaaDoorSConcat
import Derived.Test.YtebeekjcepjcnaaDoorSPkt
import Derived.Test.YtebeekjcepjcnaaDoorSRopts
import Derived.Test.YtebeekjcepjcnaaDoorSRnum
import Derived.Test.YtebeekjcepjcnaaDoorSTcpw
import Derived.Test.YtebeekjcepjcnaaDoorSIcmpr
import Derived.Test.YtebeekjcepjcnaaDoorSIprd
import Derived.Test.YtebeekjcepjcnaaDoorSIpre
import Derived.Test.YtebeekjcepjcnaaDoorSTcprd
import Derived.Test.YtebeekjcepjcnaaDoorSUdprd
import Derived.Test.YtebeekjcepjcnaaDoorSEq
import Derived.Test.YtebeekjcepjcnaaDoorSPktm
import Derived.Test.YtebeekjcepjcnaaDoorSPktn
import Derived.Test.YtebeekjcepjcnaaDoorSQuota
import Derived.Test.YtebeekjcepjcnaaDoorSQuotc
import Derived.Test.YtebeekjcepjcnaaDoorSPkto
import Derived.Test.YtebeekjcepjcnaaDoorSIpread
import Derived.Test.YtebeekjcepjcnaaDoorSOptsa
import Derived.Test.YtebeekjcepjcnaaDoorSOptsb
import Derived.Test.YtebeekjcepjcnaaDoorSRange
import Derived.Test.YtebeekjcepjcnaaDoorSOptsc
import Derived.Test.YtebeekjcepjcnaaDoorSOptsd
import Derived.Test.YtebeekjcepjcnaaDoorSPkta
import Derived.Test.YtebeekjcepjcnaaDoorSPktr
import Derived.Test.YtebeekjcepjcnaaDoorSRat
import Derived.Test.YtebeekjcepjcnaaDoorSRefc
import Derived.Test.YtebeekjcepjcnaaDoorSRquo
import Derived.Test.YtebeekjcepjcnaaDoorSRip5
import Derived.Test.YtebeekjcepjcnaaDoorSRefe
import Derived.Test.YtebeekjcepjcnaaDoorSRtcp
import Derived.Test.YtebeekjcepjcnaaDoorSRseg
import Derived.Test.YtebeekjcepjcnaaDoorSRmsg
import Derived.Test.YtebeekjcepjcnaaDoorSRopt6
import Derived.Test.YtebeekjcepjcnaaDoorSRopt7
import Derived.Test.YtebeekjcepjcnaaDoorSRopt8
import Derived.Test.YtebeekjcepjcnaaDoorSRhead
import Derived.Test.YtebeekjcepjcnaaDoorSRread
namespace Go.Proofs.YtebeekjcepjcnaaDoor
open Go.RowKit
def marksL : List Int := [190, 92, 250, 152, 55, 213, 115, 17, 175, 78, 236, 138]
set_option maxHeartbeats 2000000 in
theorem markByte_any (i : Nat) (w : World) (hi : i < 12) : Calls Tryd.prog 90 #[.int .i64 1, .int .i64 i] w fun e w' => e = .returned (.int .u8 (marksL.getD i 0)) ∧ w = w' := by
  have HM : Hid (∀ (k : Int) (W : World), 0 ≤ k → k < 12 → Calls Tryd.prog 133 #[.int .i64 1, .int .i64 k] W fun e w' => e = .returned (.int .i64 (8000024 + k)) ∧ W = w') := Lib.hid fun k W h0 h1 => by
    go_enter Tryd.func133, Tryd.ntmps133
    go_wp2
    go_ret
    exact ⟨rfl, rfl⟩
  rcases (show i = 0 ∨ i = 1 ∨ i = 2 ∨ i = 3 ∨ i = 4 ∨ i = 5 ∨ i = 6 ∨ i = 7 ∨ i = 8 ∨ i = 9 ∨ i = 10 ∨ i = 11 by omega) with rfl | rfl | rfl | rfl | rfl | rfl | rfl | rfl | rfl | rfl | rfl | rfl
  all_goals
    go_enter Tryd.func90, Tryd.ntmps90
    go_wp2_with fail
    refine (HM.out _ _ (by decide) (by decide)).mono ?_
    rintro e w2 ⟨rfl, rfl⟩
    go_wp2_with fail
    go_ret
    exact ⟨by first | rfl | decide, rfl⟩
def LentOut (w : World) (n : Nat) (xs : List Int) (e : Ending) (W : World) : Prop := ∃ g c, e = .returned (.slice (some ⟨g, 0, none⟩) n c) ∧ n + 12 ≤ c ∧ c ≤ maxLen ∧ Own W w.heap.size (.slice (some ⟨g, 0, none⟩) (n + 12) c) (xs ++ marksL) ∧ Below w.heap.size w W
set_option maxRecDepth 100000 in
set_option maxHeartbeats 2000000 in
theorem lentBytes_any (A : Option Addr) (cap n : Nat) (xs : List Int) (w : World) (hn : xs.length = n) (hl : n ≤ 1000000) (hr : Rd w w.heap.size A .u8 xs) :
    Calls Tryd.prog 50 #[.slice A n cap] w (LentOut w n xs) := by
  have HR := Lib.hid hr
  have HN := Lib.hid hn
  have HM := Lib.hid (fun (k : Nat) W hk => markByte_any k W hk)
  clear hr hn
  go_enter Tryd.func50, Tryd.ntmps50
  go_wp2_with (first | (refine make_own rfl _ _ rfl w.heap.size _ _ _ _ 0 (n + 12) rfl rfl rfl (by simp) (by omega) (by omega) (Nat.le_refl _) ?_; intro w1 o1 l1 hz1) | (at_builtin; refine app_own rfl _ _ rfl w.heap.size _ _ rfl o1 w.heap.size A n cap xs rfl HN.out.symm (HR.out.below l1 (Nat.le_refl _)) (by have := HN.out; simp; omega) (by omega) ?_; intro v2 w2 o2 l2 g2 a2) | fail)
  have O2 := Lib.hid (show Own w2 w.heap.size v2 (xs ++ marksL.take 0) by simpa using o2)
  have L2 := Lib.hid (l1.trans l2)
  clear o2 l2 g2 a2 o1 l1 hz1
  go_loopw [3, 4] (fun v i W => ∃ k : Nat, k ≤ 12 ∧ i = .int .i64 k ∧ Hid (Own W w.heap.size v (xs ++ marksL.take k)) ∧ Hid (Below w.heap.size w W)) (fun _ i _ => 12 - (intOf i).toNat)
  case atStart => exact ⟨0, by omega, rfl, O2, L2⟩
  case round =>
    obtain ⟨k, hk, rfl, hO, hL⟩ := hrel
    rename World => wo
    by_cases hlt : k < 12
    · have HMk := Lib.hid (HM.out k wo hlt)
      have Hs := Lib.hid (take_succ_getD marksL k (by show k < 12; omega))
      have HLn : Hid ((xs ++ marksL.take k).length ≤ 1000012) := Lib.hid (by rw [List.length_append, List.length_take, HN.out]; show n + min k 12 ≤ _; omega)
      generalize marksL.getD k 0 = y at *
      go_wp2_with fail
      refine HMk.out.mono ?_
      rintro e w3 ⟨rfl, rfl⟩
      go_wp2_with (first | (at_builtin; refine app_own rfl _ _ rfl w.heap.size _ _ rfl (hO.out.alloc _) _ (some ⟨wo.heap.size, 0, none⟩) 1 1 [y] rfl rfl (Rd.new _ _ _ _) (by have := HLn.out; simp at this ⊢; omega) (by have := hL.out.size; simp; omega) ?_; intro v4 w4 o4 l4 g4 a4) | fail)
      go_roundw
      case rel => exact ⟨k + 1, by omega, by go_num, Lib.hid (by rw [Hs.out, ← List.append_assoc]; exact o4), Lib.hid ((hL.out.alloc hL.out.size _).trans l4)⟩
      case measure => simp [intOf]; omega
    · obtain rfl : k = 12 := by omega
      have hO2 : Own wo w.heap.size u3 (xs ++ marksL) := hO.out
      obtain ⟨g, c, rfl, hg0, hg1, hc1, hc2⟩ := hO2.form (by rw [List.length_append, HN.out]; show 0 < n + 12; omega)
      have hlen : (xs ++ marksL).length = n + 12 := by rw [List.length_append, HN.out]; rfl
      rw [hlen] at hc1 hO2 ⊢
      have HO := Lib.hid hO2
      have hi1 : (n : Int) ≤ c := by omega
      clear hO hO2
      go_wp2_with fail
      go_ret
      exact ⟨g, c, rfl, hc1, hc2, HO.out, hL.out⟩
set_option maxRecDepth 100000 in
set_option maxHeartbeats 4000000 in
theorem keptBytes_any (g c : Nat) (A : Option Addr) (cap n : Nat) (xs : List Int) (w : World) (hn : xs.length = n) (hl : n ≤ 1000000) (hc : n + 12 ≤ c) (hr : Rd w w.heap.size A .u8 xs) (ho : ∀ j, j < n + 12 → w.cell? ⟨g, j, none⟩ = some (.int .u8 ((xs ++ marksL).getD j 0))) (hg : g < w.heap.size) :
    Calls Tryd.prog 52 #[.slice (some ⟨g, 0, none⟩) n c, .slice A n cap] w fun e W => e = .returned (.bool true) ∧ Below w.heap.size w W := by
  have HR := Lib.hid hr
  have HN := Lib.hid hn
  have HO := Lib.hid ho
  have HM := Lib.hid (fun (k : Nat) W hk => markByte_any k W hk)
  have hi : (n : Int) + 12 ≤ c := by omega
  have en : ((n : Int) != n) = false := by simp
  clear hr hn ho
  go_enter Tryd.func52, Tryd.ntmps52
  go_wp2_with fail
  go_loopw [6] (fun i W => ∃ k : Nat, k ≤ n + 12 ∧ i = .int .i64 k ∧ Hid (Below w.heap.size w W)) (fun i _ => n + 12 - (intOf i).toNat)
  case atStart => exact ⟨0, by omega, rfl, Lib.hid (Below.refl _ _)⟩
  case round =>
    obtain ⟨k, hk, rfl, hL⟩ := hrel
    rename World => wo
    by_cases hlt : k < n + 12
    · have hck := HO.out k hlt
      have hilt : (k : Int) < (n : Int) + 12 := by omega
      by_cases hkn : k < n
      · have e1 : decide ((k : Int) < n) = true := by simp; omega
        have e2 : decide (n ≤ k) = false := decide_eq_false (by omega)
        have e3 : decide (k < n) = true := decide_eq_true hkn
        obtain ⟨b, off, rfl, hbl, hcl⟩ := HR.out.at0 (by rw [HN.out]; omega)
        have hcj := hcl k (by rw [HN.out]; exact hkn)
        rw [show (xs ++ marksL).getD k 0 = xs.getD k 0 by rw [List.getD_eq_getElem?_getD, List.getD_eq_getElem?_getD, List.getElem?_append_left (by rw [HN.out]; exact hkn)]] at hck
        have hk2 : (k : Int) < n := by omega
        clear hcl
        generalize xs.getD k 0 = y at *
        go_wp2_with fail
        refine wp_region_walk0 (by kernel_rfl) (fun _ W => St w w.heap.size [] W) [] Grow [0, 1, 2, 3, 4, 5, 6, 7, 8, 9, 10, 11, 12, 13, 14, 15, 16, 17, 18, 19, 20, 21, 22, 23, 24, 25, 26, 27, 28, 29, 30, 31, 32, 33, 34] (by kernel_rfl) (St.nil hL.out hL.out.size).drew ?_
        iterate 35
          apply Walk.one rfl rfl rfl
          case hrun =>
            intro c W hE hF
            have d0 := (hE.1.cell (p := ⟨g, k, none⟩) hg).trans hck
            have d1 := (hE.1.cell (p := ⟨b, off + k, none⟩) hbl).trans hcj
            go_wp2_with (first | fail)
            exact TextPost.mk ⟨Grow.refl _, hE⟩
          case hv => rfl
        refine Walk.done (fun W hE hF => ?_)
        have HL2 := Lib.hid hE.1
        clear hE hF
        go_wp2_with fail
        go_roundw
        case rel => exact ⟨k + 1, by omega, by go_num, HL2⟩
        case measure => simp [intOf]; omega
      · have e1 : decide ((k : Int) < n) = false := by simp; omega
        have e2 : decide (n ≤ k) = true := decide_eq_true (by omega)
        have e3 : decide (k < n) = false := decide_eq_false hkn
        have hmk : ((k - n : Nat) : Int) = (k : Int) - n := by omega
        have HMk : Hid (∀ W, Calls Tryd.prog 90 #[.int .i64 1, .int .i64 ((k : Int) - n)] W fun e w' => e = .returned (.int .u8 (marksL.getD (k - n) 0)) ∧ W = w') := Lib.hid fun W => by
          have h2 := HM.out (k - n) W (by omega)
          rwa [hmk] at h2
        rw [show (xs ++ marksL).getD k 0 = marksL.getD (k - n) 0 by rw [List.getD_eq_getElem?_getD, List.getD_eq_getElem?_getD, List.getElem?_append_right (by rw [HN.out]; omega), HN.out]] at hck
        clear hmk
        generalize marksL.getD (k - n) 0 = y at *
        go_wp2_with fail
        refine wp_region_walk0 (by kernel_rfl) (fun _ W => St w w.heap.size [] W) [] Grow [0, 1, 2, 3, 4, 5, 6, 7, 8, 9, 10, 11, 12, 13, 14, 15, 16, 17, 18, 19, 20, 21, 22, 23, 24, 25, 26, 27, 28, 29, 30, 31, 32, 33, 34] (by kernel_rfl) (St.nil hL.out hL.out.size).drew ?_
        iterate 35
          apply Walk.one rfl rfl rfl
          case hrun =>
            intro c W hE hF
            have d0 := (hE.1.cell (p := ⟨g, k, none⟩) hg).trans hck
            go_wp2_with (first | (go_at_call 90; refine (HMk.out W).mono ?_; rintro e wk ⟨rfl, rfl⟩) | fail)
            exact TextPost.mk ⟨Grow.refl _, hE⟩
          case hv => rfl
        refine Walk.done (fun W hE hF => ?_)
        have HL2 := Lib.hid hE.1
        clear hE hF
        go_wp2_with fail
        go_roundw
        case rel => exact ⟨k + 1, by omega, by go_num, HL2⟩
        case measure => simp [intOf]; omega
    · obtain rfl : k = n + 12 := by omega
      go_wp2_with fail
      go_ret
      exact ⟨rfl, hL.out⟩
end Go.Proofs.YtebeekjcepjcnaaDoor
namespace Go.Proofs.YtebeekjcepjcnaaDoor
open Go.RowKit Go.Shelf

def sLen : Value → Nat
  | .slice _ n _ => n
  | _ => 0
end Go.Proofs.YtebeekjcepjcnaaDoor
namespace Go.Proofs.YtebeekjcepjcnaaDoor
open Go.RowKit Go.Shelf

end Go.Proofs.YtebeekjcepjcnaaDoor

namespace Go.Proofs.YtebeekjcepjcnaaDoor
open Go.RowKit Go.Shelf

theorem facts_eqB_refl (f : Facts) : f.eqB f = true := Facts.eqB_iff.2 rfl
theorem run_ne_facts (f : Facts) (W : World) : (binOp .neq 27 f.val f.val).run Tryd.prog W = .ok (.bool false) W := by
  have h := run_eq_facts f f W
  rw [facts_eqB_refl] at h
  unfold Facts.val at h ⊢
  rw [run_eql_struct] at h
  rw [run_neq_struct]
  cases hr : (Op.equalIn 10000 27 (.agg f.cells.toArray) (.agg f.cells.toArray)).run Tryd.prog W with
  | ok b w' =>
    rw [hr] at h
    simp only [Result.andThen_ok, Result.ok.injEq, Value.bool.injEq] at h
    obtain ⟨rfl, rfl⟩ := h
    rfl
  | halt x w' =>
    rw [hr] at h
    cases h
end Go.Proofs.YtebeekjcepjcnaaDoor
namespace Go.Proofs.YtebeekjcepjcnaaDoor
open Go.RowKit
set_option maxRecDepth 100000 in
set_option maxHeartbeats 8000000 in
theorem reads_any (A : Option Addr) (cap n : Nat) (xs : List Int) (w : World) (hn : xs.length = n) (hcap : n ≤ cap) (hB : Byt xs) (hr : Rd w w.heap.size A .u8 xs) (hs : SortsAt w) :
    Calls Tryd.prog 23 #[.slice A n cap] w fun e W => e = .returned (.bool true) ∧ Below w.heap.size w W := by
  by_cases h4 : 400 < n
  · have g4 : decide (400 < (n : Int)) = true := by simp; omega
    go_enter Tryd.func23, Tryd.ntmps23
    go_wp2_with fail
    go_ret
    exact ⟨rfl, Below.refl _ _⟩
  have g4 : decide (400 < (n : Int)) = false := by simp; omega
  have hl : n ≤ 1000000 := by omega
  have H1 := Lib.hid (lentBytes_any A cap n xs w hn hl hr)
  have H2 := Lib.hid (fun (W : World) A' c' (hc : n ≤ c') (h : Rd W W.heap.size A' .u8 xs) (hs : SortsAt W) => pktRead_any A' c' n xs W hn hl hc hB h hs)
  have H3 := Lib.hid (fun (W : World) (h : Below w.heap.size w W) => r11Read_any A cap n xs W hn hl hcap hB (hr.belows h (Nat.le_refl _)))
  have H4 := Lib.hid (fun (W : World) (g c : Nat) (h : Below w.heap.size w W) (hc : n + 12 ≤ c) (ho : ∀ j, j < n + 12 → W.cell? ⟨g, j, none⟩ = some (.int .u8 ((xs ++ marksL).getD j 0))) (hg : g < W.heap.size) => keptBytes_any g c A cap n xs W hn hl hc (hr.belows h (Nat.le_refl _)) ho hg)
  have Hs := Lib.hid (fun (W : World) (h : Below w.heap.size w W) => hs.below h (Nat.le_refl _))
  have HL : Hid ((xs ++ marksL).length = n + 12) := Lib.hid (by rw [List.length_append, hn]; rfl)
  have HTk : Hid ((xs ++ marksL).take n = xs) := Lib.hid (by rw [← hn]; exact List.take_left)
  unfold ReadPost at H3
  clear hr hs hB hn
  generalize pktR xs = RR at *
  generalize pktF xs = FF at *
  have HEq := Lib.hid (fun (W : World) => run_eq_facts FF FF W)
  rw [facts_eqB_refl] at HEq
  obtain ⟨⟨k0, k1, k2, k3, k4⟩, f1, f2, f3, f4, f5, f6, f7, f8, ⟨q0, q1, q2, q3, q4⟩, f9⟩ := FF
  rw [show Facts.val ⟨⟨k0, k1, k2, k3, k4⟩, f1, f2, f3, f4, f5, f6, f7, f8, ⟨q0, q1, q2, q3, q4⟩, f9⟩ = .agg #[.int .u8 k0, .int .u32 k1, .int .u32 k2, .int .u16 k3, .int .u16 k4, .int .u8 f1, .int .u8 f2, .int .u8 f3, .int .u8 f4, .int .u32 f5, .int .u32 f6, .int .i64 f7, .int .i64 f8, .int .u8 q0, .int .u32 q1, .int .u32 q2, .int .u16 q3, .int .u16 q4, .int .u8 f9] from rfl] at H2 H3 HEq
  go_enter Tryd.func23, Tryd.ntmps23
  go_wp2_with fail
  refine H1.out.mono ?_
  rintro e w1 ⟨g, c, rfl, hc, _, ho, l1⟩
  have hglt := (ho.lt rfl).2
  have HO := Lib.hid ho
  have HR1 := Lib.hid (H2.out w1 (some ⟨g, 0, none⟩) c (by omega) (by have h := ho.rd.take n; rwa [HTk.out] at h) (Hs.out w1 l1))
  have L1 := Lib.hid l1
  clear ho l1
  go_wp2_with fail
  refine HR1.out.mono ?_
  rintro e w2 ⟨rfl, l2⟩
  have L2 := Lib.hid l2
  have LL2 := Lib.hid (L1.out.trans (l2.mono L1.out.size))
  clear l2
  go_upto_region 5 with (first | ((with_reducible refine look_store ?_); refine wpList_store_new rfl _ _ _ rfl _ _ rfl rfl _ _ rfl (by kernel_rfl) (by simp) (by simp [Value.oneCell']) ?_) | fail)
  refine wp_name1 ?_
  intro w3 hb3 hs3 bf
  have L3 := Lib.hid hb3
  have LL3 := Lib.hid (LL2.out.trans (hb3.mono LL2.out.size))
  have HR2 := Lib.hid (H3.out w3 LL3.out)
  clear hb3 hs3
  go_wp2_with fail
  refine HR2.out.mono ?_
  rintro e w4 ⟨rfl, l4⟩
  have L4 := Lib.hid l4
  have LL4 := Lib.hid (LL3.out.trans (l4.mono LL3.out.size))
  have bf4 := bf.below l4 bf.lt
  clear l4 bf
  go_upto_region 6 with (first | ((with_reducible refine look_store ?_); refine wpList_store_new rfl _ _ _ rfl _ _ rfl rfl _ _ rfl (by kernel_rfl) (by simp) (by simp [Value.oneCell']) ?_) | fail)
  refine wp_name1 ?_
  intro w5 hb5 hs5 bg
  have bf5 := bf4.below hb5 bf4.lt
  have LL5 := Lib.hid (LL4.out.trans (hb5.mono LL4.out.size))
  have HO5 := Lib.hid ((((HO.out.below L2.out (Nat.le_refl _)).below L3.out (Nat.le_refl _)).below L4.out (Nat.le_refl _)).below hb5 (Nat.le_refl _))
  have heq := HEq.out w5
  have hg5 := (HO5.out.lt rfl).2
  have HK := Lib.hid (H4.out w5 g c LL5.out hc (fun j hj => HO5.out.cell j (by rw [HL.out]; exact hj)) hg5)
  clear hb5 hs5 bf4
  go_wp2_with (first | ((with_reducible refine look_load ?_); refine wpList_load_row rfl _ _ rfl _ rfl _ _ _ _ bf5 Tryd.underlying27 rfl (by kernel_rfl) ?_) | ((with_reducible refine look_load ?_); refine wpList_load_row rfl _ _ rfl _ rfl _ _ _ _ bg Tryd.underlying27 rfl (by kernel_rfl) ?_) | fail)
  refine HK.out.mono ?_
  rintro e w6 ⟨rfl, l6⟩
  go_wp2_with fail
  go_ret
  exact ⟨rfl, LL5.out.trans (l6.mono LL5.out.size)⟩
end Go.Proofs.YtebeekjcepjcnaaDoor
