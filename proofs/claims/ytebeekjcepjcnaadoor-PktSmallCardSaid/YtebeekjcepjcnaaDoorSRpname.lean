/-
  The reference of pkt's names; the law on names.
  bafflelaw11.Fixed of any own row; names and reasons of all numbers.
-/
import Derived.Test.YtebeekjcepjcnaaDoorProg
import Derived.WalkKit
import Derived.WalkSpells
import Derived.WalkLawsBesides
import Derived.WalkSmall
import Derived.Lib.Hide
import Derived.Deep.AppendLies
import Derived.Maps.AppendAt
import Derived.Laws.AppendOwnNone
import Derived.Laws.CopyOwn
import Derived.OneCell
import Derived.Lib.SliceRun
import Derived.RangeFuncNested
import Derived.RangeFuncBound
import Derived.RangeFuncCalls
import Derived.RangeFuncLeaves
import Derived.Shelf.Abstract
import Derived.OwnWalkIn
import Derived.TacticsInMore
import Derived.LoopNIn
import Derived.LoopIn
import Derived.Orders
import Derived.RegionTactic
import Derived.Still
import Derived.Deep.MidRow
import Derived.Deep.DeepCutAuto
import Derived.Lib.AppendZeros
import Derived.BigRegion
import Derived.ChangeAlike
import Derived.Deep.RegionLaw
import Derived.Deep.RegionHeld3
import Derived.MapKept
import Derived.Laws.StructEq
import Derived.RegionIn
import Derived.Test.YtebeekjcepjcnaaDoorSBase
import Derived.Test.YtebeekjcepjcnaaDoorSMem
import Derived.Test.YtebeekjcepjcnaaDoorSCsum
import Derived.Test.YtebeekjcepjcnaaDoorSSum
import Derived.Test.YtebeekjcepjcnaaDoorSRegion
import Derived.Test.YtebeekjcepjcnaaDoorSWalk
import Derived.Test.YtebeekjcepjcnaaDoorSStep
import Derived.Test.YtebeekjcepjcnaaDoorSStepb
import Derived.Test.YtebeekjcepjcnaaDoorSRefa
import Derived.Test.YtebeekjcepjcnaaDoorSConcat
import Derived.Test.YtebeekjcepjcnaaDoorSPkt
import Derived.Test.YtebeekjcepjcnaaDoorSRopts
import Derived.Test.YtebeekjcepjcnaaDoorSRnum
import Derived.Test.YtebeekjcepjcnaaDoorSTcpw
import Derived.Test.YtebeekjcepjcnaaDoorSIcmpr
import Derived.Test.YtebeekjcepjcnaaDoorSIprd
import Derived.Test.YtebeekjcepjcnaaDoorSIpre
import Derived.Test.YtebeekjcepjcnaaDoorSTcprd
import Derived.Test.YtebeekjcepjcnaaDoorSUdprd
import Derived.Test.YtebeekjcepjcnaaDoorSEq
import Derived.Test.YtebeekjcepjcnaaDoorSPktm
import Derived.Test.YtebeekjcepjcnaaDoorSPktn
import Derived.Test.YtebeekjcepjcnaaDoorSQuota
import Derived.Test.YtebeekjcepjcnaaDoorSQuotc
import Derived.Test.YtebeekjcepjcnaaDoorSPkto
import Derived.Test.YtebeekjcepjcnaaDoorSIpread
import Derived.Test.YtebeekjcepjcnaaDoorSOptsa
import Derived.Test.YtebeekjcepjcnaaDoorSOptsb
import Derived.Test.YtebeekjcepjcnaaDoorSRange
import Derived.Test.YtebeekjcepjcnaaDoorSOptsc
import Derived.Test.YtebeekjcepjcnaaDoorSOptsd
import Derived.Test.YtebeekjcepjcnaaDoorSPkta
import Derived.Test.YtebeekjcepjcnaaDoorSPktr
import Derived.Test.YtebeekjcepjcnaaDoorSRat
import Derived.Test.YtebeekjcepjcnaaDoorSRefc
import Derived.Test.YtebeekjcepjcnaaDoorSRquo
import Derived.Test.YtebeekjcepjcnaaDoorSRip5
import Derived.Test.YtebeekjcepjcnaaDoorSRefe
import Derived.Test.YtebeekjcepjcnaaDoorSRtcp
import Derived.Test.YtebeekjcepjcnaaDoorSRseg
import Derived.Test.YtebeekjcepjcnaaDoorSRmsg
import Derived.Test.YtebeekjcepjcnaaDoorSRopt6
import Derived.Test.YtebeekjcepjcnaaDoorSRopt7
import Derived.Test.YtebeekjcepjcnaaDoorSRopt8
import Derived.Test.YtebeekjcepjcnaaDoorSRhead
import Derived.Test.YtebeekjcepjcnaaDoorSRread
import Derived.Test.YtebeekjcepjcnaaDoorSLent
import Derived.Test.YtebeekjcepjcnaaDoorSPawake
namespace Go.Proofs.YtebeekjcepjcnaaDoor
open Go.RowKit
theorem refNames_at (r : Nat) (h1 : 1 ≤ r) (h2 : r ≤ 30) : (#[.string ⟨#[115, 104, 111, 114, 116]⟩, .string ⟨#[118, 101, 114, 115, 105, 111, 110]⟩, .string ⟨#[104, 101, 97, 100, 101, 114]⟩, .string ⟨#[116, 111, 116, 97, 108]⟩, .string ⟨#[115, 117, 109]⟩, .string ⟨#[114, 101, 115, 101, 114, 118, 101, 100]⟩, .string ⟨#[111, 102, 102, 115, 101, 116]⟩, .string ⟨#[102, 114, 97, 103, 109, 101, 110, 116]⟩, .string ⟨#[111, 112, 116, 105, 111, 110, 115]⟩, .string ⟨#[114, 111, 117, 116, 101]⟩, .string ⟨#[116, 116, 108]⟩, .string ⟨#[97, 100, 100, 114, 101, 115, 115]⟩, .string ⟨#[112, 114, 111, 116, 111, 99, 111, 108]⟩, .string ⟨#[108, 101, 110, 103, 116, 104]⟩, .string ⟨#[102, 108, 97, 103, 115]⟩, .string ⟨#[112, 111, 114, 116]⟩, .string ⟨#[116, 121, 112, 101]⟩, .string ⟨#[113, 117, 111, 116, 101]⟩, .string ⟨#[110, 101, 115, 116, 101, 100]⟩, .string ⟨#[102, 108, 111, 119]⟩, .string ⟨#[114, 101, 108, 97, 116, 101, 100]⟩, .string ⟨#[110, 101, 119]⟩, .string ⟨#[114, 117, 108, 101]⟩, .string ⟨#[110, 111, 114, 117, 108, 101]⟩, .string ⟨#[110, 111, 116, 111, 112, 101, 110]⟩, .string ⟨#[115, 116, 97, 116, 101]⟩, .string ⟨#[115, 111, 117, 114, 99, 101]⟩, .string ⟨#[114, 97, 116, 101]⟩, .string ⟨#[102, 117, 108, 108]⟩, .string ⟨#[110, 111, 110, 101]⟩] : Array Value)[r - 1]? = some (.string (nm r)) := by
  rcases (show r = 1 ∨ r = 2 ∨ r = 3 ∨ r = 4 ∨ r = 5 ∨ r = 6 ∨ r = 7 ∨ r = 8 ∨ r = 9 ∨ r = 10 ∨ r = 11 ∨ r = 12 ∨ r = 13 ∨ r = 14 ∨ r = 15 ∨ r = 16 ∨ r = 17 ∨ r = 18 ∨ r = 19 ∨ r = 20 ∨ r = 21 ∨ r = 22 ∨ r = 23 ∨ r = 24 ∨ r = 25 ∨ r = 26 ∨ r = 27 ∨ r = 28 ∨ r = 29 ∨ r = 30 by omega) with rfl | rfl | rfl | rfl | rfl | rfl | rfl | rfl | rfl | rfl | rfl | rfl | rfl | rfl | rfl | rfl | rfl | rfl | rfl | rfl | rfl | rfl | rfl | rfl | rfl | rfl | rfl | rfl | rfl | rfl <;> rfl
set_option maxRecDepth 100000 in
set_option maxHeartbeats 4000000 in
theorem rName_any (r : Nat) (w : World) (hr : r < 256) : Calls Tryd.prog 26 #[.int .u8 r] w fun e w' => e = .returned (.tuple #[.string (nameS r), .int .i64 (nameE r)]) ∧ Below w.heap.size w w' := by
  have hA := (Below.refl w.heap.size w).alloc (Nat.le_refl _) (.cells #[.string ⟨#[115, 104, 111, 114, 116]⟩, .string ⟨#[118, 101, 114, 115, 105, 111, 110]⟩, .string ⟨#[104, 101, 97, 100, 101, 114]⟩, .string ⟨#[116, 111, 116, 97, 108]⟩, .string ⟨#[115, 117, 109]⟩, .string ⟨#[114, 101, 115, 101, 114, 118, 101, 100]⟩, .string ⟨#[111, 102, 102, 115, 101, 116]⟩, .string ⟨#[102, 114, 97, 103, 109, 101, 110, 116]⟩, .string ⟨#[111, 112, 116, 105, 111, 110, 115]⟩, .string ⟨#[114, 111, 117, 116, 101]⟩, .string ⟨#[116, 116, 108]⟩, .string ⟨#[97, 100, 100, 114, 101, 115, 115]⟩, .string ⟨#[112, 114, 111, 116, 111, 99, 111, 108]⟩, .string ⟨#[108, 101, 110, 103, 116, 104]⟩, .string ⟨#[102, 108, 97, 103, 115]⟩, .string ⟨#[112, 111, 114, 116]⟩, .string ⟨#[116, 121, 112, 101]⟩, .string ⟨#[113, 117, 111, 116, 101]⟩, .string ⟨#[110, 101, 115, 116, 101, 100]⟩, .string ⟨#[102, 108, 111, 119]⟩, .string ⟨#[114, 101, 108, 97, 116, 101, 100]⟩, .string ⟨#[110, 101, 119]⟩, .string ⟨#[114, 117, 108, 101]⟩, .string ⟨#[110, 111, 114, 117, 108, 101]⟩, .string ⟨#[110, 111, 116, 111, 112, 101, 110]⟩, .string ⟨#[115, 116, 97, 116, 101]⟩, .string ⟨#[115, 111, 117, 114, 99, 101]⟩, .string ⟨#[114, 97, 116, 101]⟩, .string ⟨#[102, 117, 108, 108]⟩, .string ⟨#[110, 111, 110, 101]⟩] 9)
  by_cases h0 : r < 1
  · have e0 : decide ((r : Int) < 1) = true := by simp; omega
    have HS := Lib.hid (show nameS r = ⟨#[]⟩ ∧ nameE r = 6 from ⟨if_pos (by omega), if_pos (by omega)⟩)
    rw [HS.out.1, HS.out.2]
    go_enter Tryd.func26, Tryd.ntmps26
    go_wp2_with fail
    go_ret2
    exact ⟨rfl, hA⟩
  have e0 : decide ((r : Int) < 1) = false := by simp; omega
  by_cases h1 : 30 < r
  · have e1 : decide ((30 : Int) < r) = true := by simp; omega
    have HS := Lib.hid (show nameS r = ⟨#[]⟩ ∧ nameE r = 6 from ⟨if_pos (by omega), if_pos (by omega)⟩)
    rw [HS.out.1, HS.out.2]
    go_enter Tryd.func26, Tryd.ntmps26
    go_wp2_with fail
    go_ret2
    exact ⟨rfl, hA⟩
  have e1 : decide ((30 : Int) < r) = false := by simp; omega
  have HS := Lib.hid (show nameS r = nm r ∧ nameE r = 0 from ⟨if_neg (by omega), if_neg (by omega)⟩)
  rw [HS.out.1, HS.out.2]
  have hc := (Blk.new w 9 #[.string ⟨#[115, 104, 111, 114, 116]⟩, .string ⟨#[118, 101, 114, 115, 105, 111, 110]⟩, .string ⟨#[104, 101, 97, 100, 101, 114]⟩, .string ⟨#[116, 111, 116, 97, 108]⟩, .string ⟨#[115, 117, 109]⟩, .string ⟨#[114, 101, 115, 101, 114, 118, 101, 100]⟩, .string ⟨#[111, 102, 102, 115, 101, 116]⟩, .string ⟨#[102, 114, 97, 103, 109, 101, 110, 116]⟩, .string ⟨#[111, 112, 116, 105, 111, 110, 115]⟩, .string ⟨#[114, 111, 117, 116, 101]⟩, .string ⟨#[116, 116, 108]⟩, .string ⟨#[97, 100, 100, 114, 101, 115, 115]⟩, .string ⟨#[112, 114, 111, 116, 111, 99, 111, 108]⟩, .string ⟨#[108, 101, 110, 103, 116, 104]⟩, .string ⟨#[102, 108, 97, 103, 115]⟩, .string ⟨#[112, 111, 114, 116]⟩, .string ⟨#[116, 121, 112, 101]⟩, .string ⟨#[113, 117, 111, 116, 101]⟩, .string ⟨#[110, 101, 115, 116, 101, 100]⟩, .string ⟨#[102, 108, 111, 119]⟩, .string ⟨#[114, 101, 108, 97, 116, 101, 100]⟩, .string ⟨#[110, 101, 119]⟩, .string ⟨#[114, 117, 108, 101]⟩, .string ⟨#[110, 111, 114, 117, 108, 101]⟩, .string ⟨#[110, 111, 116, 111, 112, 101, 110]⟩, .string ⟨#[115, 116, 97, 116, 101]⟩, .string ⟨#[115, 111, 117, 114, 99, 101]⟩, .string ⟨#[114, 97, 116, 101]⟩, .string ⟨#[102, 117, 108, 108]⟩, .string ⟨#[110, 111, 110, 101]⟩]).cell (r - 1)
  rw [refNames_at r (by omega) (by omega)] at hc
  obtain ⟨k, rfl⟩ : ∃ k, r = k + 1 := ⟨r - 1, by omega⟩
  rw [Nat.add_sub_cancel] at hc
  have hk : (k : Int) < 30 := by omega
  generalize nm (k + 1) = S at *
  go_enter Tryd.func26, Tryd.ntmps26
  go_wp2_with fail
  go_ret2
  exact ⟨rfl, hA⟩
set_option maxRecDepth 100000 in
set_option maxHeartbeats 2000000 in
theorem rReason_any (T : ByteArray) (w : World) : Calls Tryd.prog 28 #[.string T] w fun e w' => e = .returned (.tuple #[.int .u8 (reasonR T).1, .int .i64 (reasonR T).2]) ∧ Below w.heap.size w w' := by
  have HN := Lib.hid (fun h => reasonP1_none T 30 0 h)
  have HS := Lib.hid (fun m hm h ht => reasonP1_some T 30 0 m hm h ht)
  have HR0 := Lib.hid (show reasonP1 T 0 30 = none → reasonR T = (0, 6) from fun h => by unfold reasonR; rw [h])
  have HR1 := Lib.hid (show ∀ k, reasonP1 T 0 30 = some k → reasonR T = ((k : Int) + 1, 0) from fun k h => by unfold reasonR; rw [h])
  have HM := Lib.hid (fun (k : Nat) W (hk : k < 30) => show Calls Tryd.prog 26 #[.int .u8 ((k : Int) + 1)] W fun e w' => e = .returned (.tuple #[.string (nm (1 + k)), .int .i64 0]) ∧ Below W.heap.size W w' from by
    have h := rName_any (k + 1) W (by omega)
    rw [show nameS (k + 1) = nm (1 + k) by rw [Nat.add_comm]; exact if_neg (by omega), show nameE (k + 1) = 0 from if_neg (by omega)] at h
    rwa [show (((k + 1 : Nat)) : Int) = (k : Int) + 1 by omega] at h)
  generalize reasonR T = R at *
  go_enter Tryd.func28, Tryd.ntmps28
  go_wp2_with fail
  go_loopw [4, 5, 6] (fun i _ _ W => ∃ k : Nat, k ≤ 30 ∧ i = .int .u8 ((k : Int) + 1) ∧ Hid (∀ j, j < k → ((nm (0 + j + 1)).toList == T.toList) = false) ∧ Hid (Below w.heap.size w W)) (fun i _ _ _ => 31 - (intOf i).toNat)
  case atStart => exact ⟨0, by omega, rfl, Lib.hid (fun j hj => by omega), Lib.hid (Below.refl _ _)⟩
  case round =>
    obtain ⟨k, hk, rfl, hJ, hL⟩ := hrel
    rename World => wo
    by_cases hlt : k < 30
    · have hi : (k : Int) + 1 ≤ 30 := by omega
      have HMk := Lib.hid (HM.out k wo hlt)
      have HJn := Lib.hid (fun (h : ((nm (0 + k + 1)).toList == T.toList) = false) => show ∀ j, j < k + 1 → ((nm (0 + j + 1)).toList == T.toList) = false from fun j hj => by
        rcases Nat.lt_or_ge j k with h1 | h1
        · exact hJ.out j h1
        · rw [show j = k by omega]; exact h)
      have HJs := Lib.hid (fun (h : ((nm (0 + k + 1)).toList == T.toList) = true) => HR1.out _ (HS.out k hlt hJ.out h))
      rw [show 0 + k + 1 = 1 + k by omega] at HJn HJs
      rw [Nat.zero_add] at HJs
      clear hJ
      generalize nm (1 + k) = S at *
      rcases hS : (S.toList == T.toList) with _ | _
      · have HJ2 := Lib.hid (HJn.out hS)
        go_wp2_with fail
        refine HMk.out.mono ?_
        rintro e w2 ⟨rfl, l2⟩
        have HL2 := Lib.hid (hL.out.trans (l2.mono hL.out.size))
        clear l2
        go_wp2_with fail
        go_roundw
        case rel => exact ⟨k + 1, by omega, by go_num, HJ2, HL2⟩
        case measure => simp [intOf]; omega
      · have HX := Lib.hid (HJs.out hS)
        go_wp2_with fail
        refine HMk.out.mono ?_
        rintro e w2 ⟨rfl, l2⟩
        have HL2 := Lib.hid (hL.out.trans (l2.mono hL.out.size))
        clear l2
        go_wp2_with fail
        go_ret2
        exact ⟨by rw [HX.out]; rfl, HL2.out⟩
    · obtain rfl : k = 30 := by omega
      have HX := Lib.hid (HR0.out (HN.out hJ.out))
      go_wp2_with fail
      go_ret2
      exact ⟨by rw [HX.out]; rfl, hL.out⟩
set_option maxRecDepth 100000 in
set_option maxHeartbeats 2000000 in
theorem pktNames_any (r : Nat) (T : ByteArray) (w : World) (hr : r < 256) (hs : SortsAt w) (hm : NamesAt w) : Calls Tryd.prog 6 #[.int .u8 r, .string T] w fun e w' => e = .returned (.bool true) ∧ Below w.heap.size w w' := by
  have H1 := Lib.hid (name_any r w hr hm)
  have H2 := Lib.hid (rName_any r w hr)
  have H3 := Lib.hid (fun (W : World) (h : Below w.heap.size w W) => reason_any T W (hm.below h (Nat.le_refl _)))
  have H4 := Lib.hid (fun (W : World) => rReason_any T W)
  have H5 := Lib.hid (fun (W : World) (h : Below w.heap.size w W) => awakeP_any W (hs.below h (Nat.le_refl _)) (hm.below h (Nat.le_refl _)))
  clear hs hm
  generalize nameS r = S at *
  generalize nameE r = E at *
  generalize (reasonR T).1 = R1 at *
  generalize (reasonR T).2 = R2 at *
  go_enter Tryd.func6, Tryd.ntmps6
  go_wp2_with fail
  refine H1.out.mono ?_
  rintro e w1 ⟨rfl, rfl⟩
  go_wp2_with fail
  refine H2.out.mono ?_
  rintro e w2 ⟨rfl, l2⟩
  go_wp2_with fail
  refine (H3.out w2 l2).mono ?_
  rintro e w3 ⟨rfl, rfl⟩
  go_wp2_with fail
  refine (H4.out w2).mono ?_
  rintro e w4 ⟨rfl, l4⟩
  have l5 := l2.trans (l4.mono l2.size)
  go_wp2_with fail
  refine (H5.out w4 l5).mono ?_
  rintro e w6 ⟨rfl, l6⟩
  go_wp2_with fail
  go_ret
  exact ⟨rfl, l5.trans (l6.mono l5.size)⟩
end Go.Proofs.YtebeekjcepjcnaaDoor
namespace Go.Proofs.YtebeekjcepjcnaaDoor
open Go.RowKit Go.Shelf
set_option maxRecDepth 100000 in
set_option maxHeartbeats 4000000 in
theorem fixedO (v : Value) (base : Nat) (xs : List Int) (w : World) (ho : Own w base v xs) (hB : Byt xs) (hl : xs.length ≤ 1000) (hb : base ≤ w.heap.size) :
    Calls Tryd.prog 30 #[v] w fun e W => ∃ u ys, e = .returned u ∧ Own W base u ys ∧ ys.length = xs.length ∧ Byt ys ∧ Below w.heap.size w W := by
  obtain ⟨A, cap, rfl, hr, h1, h2⟩ := ho.open_
  have HO := Lib.hid ho
  clear ho
  by_cases h20 : xs.length < 20
  · have g1 : decide ((xs.length : Int) < 20) = true := by simp; omega
    generalize hn : xs.length = n at *
    go_enter Tryd.func30, Tryd.ntmps30
    go_wp2_with fail
    go_ret
    first | exact ⟨_, xs, rfl, HO.out, hn, hB, Below.refl _ _⟩ | exact ⟨_, rfl, xs, HO.out, hn, hB, Below.refl _ _⟩
  · have g1 : decide ((xs.length : Int) < 20) = false := by simp; omega
    by_cases hsz : 20 ≤ ipSize xs ∧ ipSize xs ≤ xs.length
    · refine (fixed_any A cap xs.length xs w rfl (by omega) h1 hsz.1 hsz.2 hB hr).mono ?_
      rintro e W ⟨u, rfl, o, l⟩
      refine ⟨u, fixedL xs, rfl, o.base_le hb, ?_, ?_, l⟩
      · unfold fixedL
        rw [List.length_append, fixL_len, List.length_take, List.length_drop]
        omega
      · exact Byt.append (fixL_byt (hB.take _) _) (hB.drop _)
    · obtain ⟨b, off, rfl, hbl, hc⟩ := hr.at0 (by omega)
      have c0 := hc 0 (by omega)
      rw [Nat.add_zero] at c0
      have h0 := hB.at_ 0
      have hszb := ipSize_bd xs
      have hsz2 : 4 * (xs.getD 0 0 % 16) = (ipSize xs : Int) := by unfold ipSize; omega
      have HN : Hid (xs.length = xs.length) := Lib.hid rfl
      generalize hn : xs.length = n at *
      generalize ipSize xs = SZ at *
      generalize xs.getD 0 0 = x at *
      by_cases hs : SZ < 20
      · have e1 : decide ((SZ : Int) < 20) = true := by simp; omega
        clear hc hr
        go_enter Tryd.func30, Tryd.ntmps30
        go_wp2_with fail
        go_ret
        first | exact ⟨_, xs, rfl, HO.out, hn, hB, Below.refl _ _⟩ | exact ⟨_, rfl, xs, HO.out, hn, hB, Below.refl _ _⟩
      · have e1 : decide ((SZ : Int) < 20) = false := by simp; omega
        have e2 : decide ((n : Int) < SZ) = true := by simp; omega
        clear hc hr
        go_enter Tryd.func30, Tryd.ntmps30
        go_wp2_with fail
        go_ret
        first | exact ⟨_, xs, rfl, HO.out, hn, hB, Below.refl _ _⟩ | exact ⟨_, rfl, xs, HO.out, hn, hB, Below.refl _ _⟩
theorem Own.formN {w : World} {base : Nat} {v : Value} {xs : List Int} (h : Own w base v xs) (n : Nat) (hn : xs.length = n) (h0 : 0 < n) : ∃ g cap, v = .slice (some ⟨g, 0, none⟩) n cap ∧ base ≤ g ∧ g < w.heap.size ∧ n ≤ cap ∧ cap ≤ maxLen := by
  subst hn
  exact h.form h0
theorem readsO (v : Value) (base : Nat) (zs : List Int) (W : World) (ho : Own W base v zs) (hB : Byt zs) (hs : SortsAt W) :
    Calls Tryd.prog 23 #[v] W fun e W' => e = .returned (.bool true) ∧ Below W.heap.size W W' := by
  obtain ⟨A, cap, rfl, hr, h1, _⟩ := ho.open_
  exact reads_any A cap zs.length zs W rfl h1 hB hr hs
theorem names_some : ∀ k, 1 ≤ k → k ≤ 30 → reasonR (nameS k) = ((k : Int), 0) ∧ ((nameS k).toList == []) = false ∧ nameE k = 0 ∧ (nameS k).size ≤ 100 := by
  have h : ((List.range 31).all fun k => k == 0 || (reasonR (nameS k) == ((k : Int), 0) && ((nameS k).toList == []) == false && nameE k == 0 && decide ((nameS k).size ≤ 100))) = true := by decide +kernel
  intro k h1 h2
  have := List.all_eq_true.1 h k (List.mem_range.2 (by omega))
  simp at this
  rcases this with h | h
  · omega
  · obtain ⟨⟨⟨a, b⟩, c⟩, d⟩ := h
    exact ⟨a, by simpa using b, c, d⟩
theorem names_none : ∀ k : Nat, k = 0 ∨ 31 ≤ k → nameS k = ⟨#[]⟩ ∧ nameE k = 6 := fun _ h => ⟨if_pos h, if_pos h⟩
theorem reason_empty : reasonR ⟨#[]⟩ = (0, 6) := by decide +kernel
end Go.Proofs.YtebeekjcepjcnaaDoor
