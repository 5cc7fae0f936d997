/-
  Package pkt: reasons, strange, header.
-/
import Derived.WalkKit
import Derived.WalkSpells
import Derived.WalkLawsBesides
import Derived.WalkSmall
import Derived.Lib.Hide
import Derived.Deep.AppendLies
import Derived.Maps.AppendAt
import Derived.Laws.AppendOwnNone
import Derived.Laws.CopyOwn
import Derived.OneCell
import Derived.Test.YtebeekjcepjcnaaDoorProg
import Derived.Lib.SliceRun
import Derived.RangeFuncNested
import Derived.RangeFuncBound
import Derived.RangeFuncCalls
import Derived.RangeFuncLeaves
import Derived.Shelf.Abstract
import Derived.OwnWalkIn
import Derived.TacticsInMore
import Derived.LoopNIn
import Derived.LoopIn
import Derived.Lib.AppendZeros
import Derived.BigRegion
import Derived.ChangeAlike
import Derived.Deep.RegionLaw
import Derived.Deep.DeepCutAuto
import Derived.Orders
import Derived.RegionTactic
import Derived.Still
import Derived.Deep.MidRow
import Derived.Deep.RegionHeld3
import Derived.MapKept
import Derived.RegionIn
import Derived.Test.YtebeekjcepjcnaaDoorGBase
import Derived.Test.YtebeekjcepjcnaaDoorGBits
import Derived.Test.YtebeekjcepjcnaaDoorGCsum
import Derived.Test.YtebeekjcepjcnaaDoorGSum
import Derived.Test.YtebeekjcepjcnaaDoorGFix
import Derived.Test.YtebeekjcepjcnaaDoorGFacts
import Derived.Test.YtebeekjcepjcnaaDoorGPkt
import Derived.Test.YtebeekjcepjcnaaDoorGWalk
import Derived.Test.YtebeekjcepjcnaaDoorGStep
import Derived.Test.YtebeekjcepjcnaaDoorGTcpw
import Derived.Test.YtebeekjcepjcnaaDoorGUdpw
import Derived.Test.YtebeekjcepjcnaaDoorGData
import Derived.Test.YtebeekjcepjcnaaDoorGIprd
import Derived.Test.YtebeekjcepjcnaaDoorGIpre
import Derived.Test.YtebeekjcepjcnaaDoorGIpread
import Derived.Test.YtebeekjcepjcnaaDoorGOptsa
import Derived.Test.YtebeekjcepjcnaaDoorGOptsb
import Derived.Test.YtebeekjcepjcnaaDoorGOptsc
import Derived.Test.YtebeekjcepjcnaaDoorGOptsd
namespace Go.Proofs.YtebeekjcepjcnaaDoor
open Go.RowKit
theorem optsY_short : ∀ (n : Nat) (b : List Int), (optsY n b).length ≤ n
  | 0, _ => Nat.le_refl _
  | n + 1, b => by
    have h1 := optsY_short n (b.drop 1)
    have h2 := optsY_short n (b.drop (b.getD 1 0).toNat)
    unfold optsY
    repeat' split
    all_goals first | (simp only [List.length_cons, List.length_nil]; omega) | (simp only [List.length_cons]; omega)
theorem optsR_len : ∀ (l : List (Int × Int)) (acc : List Int), (optsR l acc).1.length ≤ acc.length + l.length
  | [], acc => Nat.le_refl _
  | (k, e) :: l, acc => by
    have h1 := optsR_len l (acc ++ [k])
    unfold optsR
    repeat' split
    all_goals simp only [List.length_nil, List.length_cons, List.length_append] at *
    all_goals omega
theorem optRead_len (b : List Int) : (optRead b).1.length ≤ 40 := by
  unfold optRead
  split
  · simp
  · have h1 := optsR_len (optsY b.length b) []
    have h2 := optsY_short b.length b
    simp only [List.length_nil] at h1
    omega
def reasonsL : List (Int × Int) := [(50, 1), (51, 2), (52, 3), (53, 4), (54, 5), (55, 6), (56, 7), (80, 14), (81, 14), (90, 14), (91, 14), (100, 14), (82, 15), (83, 16), (92, 16), (101, 17), (102, 17), (103, 18), (104, 19)]
def reasonsE (k : Nat) : Array MapEntry := ((reasonsL.take k).zipIdx.map fun x => ⟨.int .i64 x.1.1, .int .u8 x.1.2, x.2⟩).toArray
def ReasonsM (W : World) (m : Nat) : Prop := W.heap[m]? = some (.map (reasonsE 19) 19)
set_option maxRecDepth 100000 in
set_option maxHeartbeats 2000000 in
theorem reasons_any (w : World) : Calls Tryd.prog 55 #[] w fun e w' => ∃ m, e = .returned (.map (some m)) ∧ w.heap.size ≤ m ∧ ReasonsM w' m ∧ Below w.heap.size w w' := by
  have hmm := run_makeMap (P := Tryd.prog) 108 w
  rw [show (#[] : Array MapEntry) = reasonsE 0 from rfl] at hmm
  have i0 := run_insert_int (P := Tryd.prog) Tryd.underlying108 Tryd.underlying35 w (reasonsE 0) 0 50 (.int .u8 1) (by rfl)
  rw [show (reasonsE 0).push ⟨.int .i64 50, .int .u8 1, 0⟩ = reasonsE 1 from rfl] at i0
  have i1 := run_insert_int (P := Tryd.prog) Tryd.underlying108 Tryd.underlying35 w (reasonsE 1) 1 51 (.int .u8 2) (by rfl)
  rw [show (reasonsE 1).push ⟨.int .i64 51, .int .u8 2, 1⟩ = reasonsE 2 from rfl] at i1
  have i2 := run_insert_int (P := Tryd.prog) Tryd.underlying108 Tryd.underlying35 w (reasonsE 2) 2 52 (.int .u8 3) (by rfl)
  rw [show (reasonsE 2).push ⟨.int .i64 52, .int .u8 3, 2⟩ = reasonsE 3 from rfl] at i2
  have i3 := run_insert_int (P := Tryd.prog) Tryd.underlying108 Tryd.underlying35 w (reasonsE 3) 3 53 (.int .u8 4) (by rfl)
  rw [show (reasonsE 3).push ⟨.int .i64 53, .int .u8 4, 3⟩ = reasonsE 4 from rfl] at i3
  have i4 := run_insert_int (P := Tryd.prog) Tryd.underlying108 Tryd.underlying35 w (reasonsE 4) 4 54 (.int .u8 5) (by rfl)
  rw [show (reasonsE 4).push ⟨.int .i64 54, .int .u8 5, 4⟩ = reasonsE 5 from rfl] at i4
  have i5 := run_insert_int (P := Tryd.prog) Tryd.underlying108 Tryd.underlying35 w (reasonsE 5) 5 55 (.int .u8 6) (by rfl)
  rw [show (reasonsE 5).push ⟨.int .i64 55, .int .u8 6, 5⟩ = reasonsE 6 from rfl] at i5
  have i6 := run_insert_int (P := Tryd.prog) Tryd.underlying108 Tryd.underlying35 w (reasonsE 6) 6 56 (.int .u8 7) (by rfl)
  rw [show (reasonsE 6).push ⟨.int .i64 56, .int .u8 7, 6⟩ = reasonsE 7 from rfl] at i6
  have i7 := run_insert_int (P := Tryd.prog) Tryd.underlying108 Tryd.underlying35 w (reasonsE 7) 7 80 (.int .u8 14) (by rfl)
  rw [show (reasonsE 7).push ⟨.int .i64 80, .int .u8 14, 7⟩ = reasonsE 8 from rfl] at i7
  have i8 := run_insert_int (P := Tryd.prog) Tryd.underlying108 Tryd.underlying35 w (reasonsE 8) 8 81 (.int .u8 14) (by rfl)
  rw [show (reasonsE 8).push ⟨.int .i64 81, .int .u8 14, 8⟩ = reasonsE 9 from rfl] at i8
  have i9 := run_insert_int (P := Tryd.prog) Tryd.underlying108 Tryd.underlying35 w (reasonsE 9) 9 90 (.int .u8 14) (by rfl)
  rw [show (reasonsE 9).push ⟨.int .i64 90, .int .u8 14, 9⟩ = reasonsE 10 from rfl] at i9
  have i10 := run_insert_int (P := Tryd.prog) Tryd.underlying108 Tryd.underlying35 w (reasonsE 10) 10 91 (.int .u8 14) (by rfl)
  rw [show (reasonsE 10).push ⟨.int .i64 91, .int .u8 14, 10⟩ = reasonsE 11 from rfl] at i10
  have i11 := run_insert_int (P := Tryd.prog) Tryd.underlying108 Tryd.underlying35 w (reasonsE 11) 11 100 (.int .u8 14) (by rfl)
  rw [show (reasonsE 11).push ⟨.int .i64 100, .int .u8 14, 11⟩ = reasonsE 12 from rfl] at i11
  have i12 := run_insert_int (P := Tryd.prog) Tryd.underlying108 Tryd.underlying35 w (reasonsE 12) 12 82 (.int .u8 15) (by rfl)
  rw [show (reasonsE 12).push ⟨.int .i64 82, .int .u8 15, 12⟩ = reasonsE 13 from rfl] at i12
  have i13 := run_insert_int (P := Tryd.prog) Tryd.underlying108 Tryd.underlying35 w (reasonsE 13) 13 83 (.int .u8 16) (by rfl)
  rw [show (reasonsE 13).push ⟨.int .i64 83, .int .u8 16, 13⟩ = reasonsE 14 from rfl] at i13
  have i14 := run_insert_int (P := Tryd.prog) Tryd.underlying108 Tryd.underlying35 w (reasonsE 14) 14 92 (.int .u8 16) (by rfl)
  rw [show (reasonsE 14).push ⟨.int .i64 92, .int .u8 16, 14⟩ = reasonsE 15 from rfl] at i14
  have i15 := run_insert_int (P := Tryd.prog) Tryd.underlying108 Tryd.underlying35 w (reasonsE 15) 15 101 (.int .u8 17) (by rfl)
  rw [show (reasonsE 15).push ⟨.int .i64 101, .int .u8 17, 15⟩ = reasonsE 16 from rfl] at i15
  have i16 := run_insert_int (P := Tryd.prog) Tryd.underlying108 Tryd.underlying35 w (reasonsE 16) 16 102 (.int .u8 17) (by rfl)
  rw [show (reasonsE 16).push ⟨.int .i64 102, .int .u8 17, 16⟩ = reasonsE 17 from rfl] at i16
  have i17 := run_insert_int (P := Tryd.prog) Tryd.underlying108 Tryd.underlying35 w (reasonsE 17) 17 103 (.int .u8 18) (by rfl)
  rw [show (reasonsE 17).push ⟨.int .i64 103, .int .u8 18, 17⟩ = reasonsE 18 from rfl] at i17
  have i18 := run_insert_int (P := Tryd.prog) Tryd.underlying108 Tryd.underlying35 w (reasonsE 18) 18 104 (.int .u8 19) (by rfl)
  rw [show (reasonsE 18).push ⟨.int .i64 104, .int .u8 19, 18⟩ = reasonsE 19 from rfl] at i18
  have Hs := Lib.hid (show ReasonsM (w.alloc (.map (reasonsE 19) 19)) w.heap.size from heap_alloc_new w _)
  generalize reasonsE 0 = e0 at *
  generalize reasonsE 1 = e1 at *
  generalize reasonsE 2 = e2 at *
  generalize reasonsE 3 = e3 at *
  generalize reasonsE 4 = e4 at *
  generalize reasonsE 5 = e5 at *
  generalize reasonsE 6 = e6 at *
  generalize reasonsE 7 = e7 at *
  generalize reasonsE 8 = e8 at *
  generalize reasonsE 9 = e9 at *
  generalize reasonsE 10 = e10 at *
  generalize reasonsE 11 = e11 at *
  generalize reasonsE 12 = e12 at *
  generalize reasonsE 13 = e13 at *
  generalize reasonsE 14 = e14 at *
  generalize reasonsE 15 = e15 at *
  generalize reasonsE 16 = e16 at *
  generalize reasonsE 17 = e17 at *
  generalize reasonsE 18 = e18 at *
  generalize reasonsE 19 = e19 at *
  go_enter Tryd.func55, Tryd.ntmps55
  go_wp2_with fail
  go_ret
  exact ⟨_, rfl, Nat.le_refl _, Hs.out, (Below.refl _ _).alloc (Nat.le_refl _) _⟩
theorem lookup_reasons (W : World) (m : Nat) (h : ReasonsM W m) (e : Int) (he : (50 ≤ e ∧ e ≤ 56) ∨ (80 ≤ e ∧ e ≤ 83) ∨ (90 ≤ e ∧ e ≤ 92) ∨ (100 ≤ e ∧ e ≤ 104)) :
    (Instr.lookup 108 (.map (some m)) (.int .i64 e) false).run Tryd.prog W = .ok (.int .u8 (reasonOf e)) W := by
  rcases (show e = 50 ∨ e = 51 ∨ e = 52 ∨ e = 53 ∨ e = 54 ∨ e = 55 ∨ e = 56 ∨ e = 80 ∨ e = 81 ∨ e = 90 ∨ e = 91 ∨ e = 100 ∨ e = 82 ∨ e = 83 ∨ e = 92 ∨ e = 101 ∨ e = 102 ∨ e = 103 ∨ e = 104 by omega) with rfl | rfl | rfl | rfl | rfl | rfl | rfl | rfl | rfl | rfl | rfl | rfl | rfl | rfl | rfl | rfl | rfl | rfl | rfl
  · exact run_lookup_int Tryd.underlying108 Tryd.underlying35 W m _ _ 50 0 _ false h rfl
  · exact run_lookup_int Tryd.underlying108 Tryd.underlying35 W m _ _ 51 1 _ false h rfl
  · exact run_lookup_int Tryd.underlying108 Tryd.underlying35 W m _ _ 52 2 _ false h rfl
  · exact run_lookup_int Tryd.underlying108 Tryd.underlying35 W m _ _ 53 3 _ false h rfl
  · exact run_lookup_int Tryd.underlying108 Tryd.underlying35 W m _ _ 54 4 _ false h rfl
  · exact run_lookup_int Tryd.underlying108 Tryd.underlying35 W m _ _ 55 5 _ false h rfl
  · exact run_lookup_int Tryd.underlying108 Tryd.underlying35 W m _ _ 56 6 _ false h rfl
  · exact run_lookup_int Tryd.underlying108 Tryd.underlying35 W m _ _ 80 7 _ false h rfl
  · exact run_lookup_int Tryd.underlying108 Tryd.underlying35 W m _ _ 81 8 _ false h rfl
  · exact run_lookup_int Tryd.underlying108 Tryd.underlying35 W m _ _ 90 9 _ false h rfl
  · exact run_lookup_int Tryd.underlying108 Tryd.underlying35 W m _ _ 91 10 _ false h rfl
  · exact run_lookup_int Tryd.underlying108 Tryd.underlying35 W m _ _ 100 11 _ false h rfl
  · exact run_lookup_int Tryd.underlying108 Tryd.underlying35 W m _ _ 82 12 _ false h rfl
  · exact run_lookup_int Tryd.underlying108 Tryd.underlying35 W m _ _ 83 13 _ false h rfl
  · exact run_lookup_int Tryd.underlying108 Tryd.underlying35 W m _ _ 92 14 _ false h rfl
  · exact run_lookup_int Tryd.underlying108 Tryd.underlying35 W m _ _ 101 15 _ false h rfl
  · exact run_lookup_int Tryd.underlying108 Tryd.underlying35 W m _ _ 102 16 _ false h rfl
  · exact run_lookup_int Tryd.underlying108 Tryd.underlying35 W m _ _ 103 17 _ false h rfl
  · exact run_lookup_int Tryd.underlying108 Tryd.underlying35 W m _ _ 104 18 _ false h rfl
set_option maxHeartbeats 400000 in
theorem strange_any (a : Int) (w : World) : Calls Tryd.prog 109 #[.int .u32 a] w fun e w' => e = .returned (.bool (strangeB a)) ∧ w = w' := by
  unfold strangeB
  cases h0 : a == 0 <;> cases h1 : decide (3758096384 ≤ a)
  all_goals
    go_enter Tryd.func109, Tryd.ntmps109
    go_wp2
    go_ret
    exact ⟨rfl, rfl⟩
def IpH.cells (h : IpH) (v : Value) : Array Value := #[.int .u8 h.tos, .int .u16 h.id, .bool h.df, .bool h.mf, .int .i64 h.off, .int .u8 h.ttl, .int .u8 h.proto, .int .u32 h.src, .int .u32 h.dst, v]
set_option maxRecDepth 100000 in
set_option maxHeartbeats 4000000 in
theorem pktHeader_any (h : IpH) (A : Option Addr) (cap n : Nat) (w : World) (hn : h.opts.length = n) (hcap : n ≤ cap) (hl : n ≤ 40) (hB : Byt h.opts) (hr : Rd w w.heap.size A .u8 h.opts) :
    Calls Tryd.prog 56 #[.agg (h.cells (.slice A n cap))] w fun e w' => e = .returned (.int .u8 h.reason) ∧ Below w.heap.size w w' := by
  have HO := Lib.hid (fun (W : World) (hb : Below w.heap.size w W) => optsRead_any A cap n h.opts W hn hcap hl hB (hr.belows hb (Nat.le_refl _)))
  have HRt := Lib.hid (fun (W : World) A' c' (ho : OptsAt W W.heap.size A' (optRead h.opts).1) => routed_any A' c' (optRead h.opts).1.length (optRead h.opts).1 W rfl (by have := optRead_len h.opts; omega) ho)
  have HR := Lib.hid (show h.reason = if h.off ≠ 0 ∨ h.mf = true then 8 else if (optRead h.opts).2 ≠ 0 then 9 else if routedB (optRead h.opts).1 then 10 else if h.ttl = 0 then 11 else if strangeB h.src || strangeB h.dst || h.src == h.dst then 12 else 0 from rfl)
  have HS := Lib.hid (fun a W => strange_any a W)
  obtain ⟨tos, id, df, mf, off, ttl, proto, src, dst, os⟩ := h
  simp only [IpH.cells] at *
  clear hr hB hn
  generalize IpH.reason _ = R at *
  generalize (optRead os).2 = E at *
  generalize hks : (optRead os).1 = ks at *
  have HL := Lib.hid (show ks.length ≤ 40 by rw [← hks]; exact optRead_len os)
  clear hks
  by_cases q0 : off = 0
  case neg =>
    have b0 : (off != 0) = true := by simpa using q0
    have HX := Lib.hid (HR.out.trans (if_pos (.inl q0)))
    clear q0
    go_enter Tryd.func56, Tryd.ntmps56
    go_wp2_with fail
    go_ret
    exact ⟨by rw [HX.out]; rfl, (Below.refl _ _).alloc (Nat.le_refl _) _⟩
  have b0 : (off != 0) = false := by simpa using q0
  cases mf
  case true =>
    have HX := Lib.hid (HR.out.trans (if_pos (.inr rfl)))
    clear q0
    go_enter Tryd.func56, Tryd.ntmps56
    go_wp2_with fail
    go_ret
    exact ⟨by rw [HX.out]; rfl, (Below.refl _ _).alloc (Nat.le_refl _) _⟩
  have HX := Lib.hid (HR.out.trans (if_neg (by simpa using q0)))
  clear q0
  go_enter Tryd.func56, Tryd.ntmps56
  go_wp2_with fail
  have hA := (Below.refl w.heap.size w).alloc (Nat.le_refl _) (.cells #[.int .u8 tos, .int .u16 id, .bool df, .bool false, .int .i64 off, .int .u8 ttl, .int .u8 proto, .int .u32 src, .int .u32 dst, .slice A n cap] 67)
  have bA := Blk.new w 67 #[.int .u8 tos, .int .u16 id, .bool df, .bool false, .int .i64 off, .int .u8 ttl, .int .u8 proto, .int .u32 src, .int .u32 dst, .slice A n cap]
  refine (HO.out _ hA).mono ?_
  rintro e w2 ⟨A', c', rfl, ho, l2⟩
  have Hb2 := Lib.hid (hA.trans (l2.mono (by simp)))
  have b2 := bA.below l2 bA.lt
  have HRo := Lib.hid (HRt.out w2 A' c' ho)
  clear hA bA ho l2
  by_cases hE : E = 0
  case neg =>
    have he : (E != 0) = true := by simpa using hE
    have HY := Lib.hid (HX.out.trans (if_pos hE))
    clear hE b2
    go_wp2_with fail
    go_ret
    exact ⟨by rw [HY.out]; rfl, Hb2.out⟩
  subst hE
  have HX2 := Lib.hid (HX.out.trans (if_neg (by simp)))
  clear HX
  go_wp2_with fail
  refine HRo.out.mono ?_
  rintro e w3 ⟨rfl, l3⟩
  have Hb3 := Lib.hid (Hb2.out.trans (l3.mono Hb2.out.size))
  have b3 := b2.below l3 b2.lt
  clear b2 l3 Hb2
  rcases hrt : routedB ks with _ | _
  case true =>
    have HY := Lib.hid (HX2.out.trans (if_pos hrt))
    clear b3
    go_wp2_with fail
    go_ret
    exact ⟨by rw [HY.out]; rfl, Hb3.out⟩
  have HX3 := Lib.hid (HX2.out.trans (if_neg (by rw [hrt]; decide)))
  have c5 := b3.cell 5
  have c7 := b3.cell 7
  have c8 := b3.cell 8
  clear HX2 b3
  by_cases ht : ttl = 0
  · subst ht
    have HY := Lib.hid (HX3.out.trans (if_pos rfl))
    go_wp2_with fail
    go_ret
    exact ⟨by rw [HY.out]; rfl, Hb3.out⟩
  have ht0 : (ttl == 0) = false := by simpa using ht
  have HX4 := Lib.hid (HX3.out.trans (if_neg ht))
  have S1 := Lib.hid (fun W => HS.out src W)
  have S2 := Lib.hid (fun W => HS.out dst W)
  clear HX3 ht HS
  cases h1 : strangeB src
  case true =>
    have HY := Lib.hid (HX4.out.trans (by rw [h1]))
    rw [h1] at S1
    go_wp2_with fail
    refine (S1.out _).mono ?_
    rintro e w4 ⟨rfl, rfl⟩
    go_wp2_with fail
    go_ret
    exact ⟨by rw [HY.out]; rfl, Hb3.out⟩
  rw [h1] at S1
  cases h2 : strangeB dst
  case true =>
    have HY := Lib.hid (HX4.out.trans (by rw [h1, h2]))
    rw [h2] at S2
    go_wp2_with fail
    refine (S1.out _).mono ?_
    rintro e w4 ⟨rfl, rfl⟩
    go_wp2_with fail
    refine (S2.out _).mono ?_
    rintro e w4 ⟨rfl, rfl⟩
    go_wp2_with fail
    go_ret
    exact ⟨by rw [HY.out]; rfl, Hb3.out⟩
  rw [h2] at S2
  have HY := Lib.hid (HX4.out.trans (by rw [h1, h2, Bool.false_or, Bool.false_or]))
  cases h3 : src == dst
  all_goals
    rw [h3] at HY
    go_wp2_with fail
    refine (S1.out _).mono ?_
    rintro e w4 ⟨rfl, rfl⟩
    go_wp2_with fail
    refine (S2.out _).mono ?_
    rintro e w4 ⟨rfl, rfl⟩
    go_wp2_with fail
    go_ret
    exact ⟨by rw [HY.out]; rfl, Hb3.out⟩
end Go.Proofs.YtebeekjcepjcnaaDoor
