/-
  The tables of packages icmp and pkt, read off the heap as they were laid; bytes as an argument: opened to a list.
  bafflelaw11.PktLook.
-/
import Derived.Test.YtebeekjcepjcnaaDoorRows
import Derived.WalkKit
import Derived.WalkSpells
import Derived.WalkLawsBesides
import Derived.WalkSmall
import Derived.Lib.Hide
import Derived.Deep.AppendLies
import Derived.Maps.AppendAt
import Derived.Laws.AppendOwnNone
import Derived.Laws.CopyOwn
import Derived.OneCell
import Derived.Orders
import Derived.RegionTactic
import Derived.Still
import Derived.Test.YtebeekjcepjcnaaDoorProg
import Derived.Deep.MidRow
import Derived.Lib.SliceRun
import Derived.RangeFuncNested
import Derived.RangeFuncBound
import Derived.RangeFuncCalls
import Derived.RangeFuncLeaves
import Derived.Shelf.Abstract
import Derived.OwnWalkIn
import Derived.TacticsInMore
import Derived.LoopNIn
import Derived.LoopIn
import Derived.Lib.AppendZeros
import Derived.MapKept
import Derived.Deep.DeepCutAuto
import Derived.Deep.RegionLaw
import Derived.Deep.RegionHeld3
import Derived.BigRegion
import Derived.ChangeAlike
import Derived.Laws.StructEq
import Derived.ProofKit
import Derived.LaidMore
import Derived.OpenShut
import Derived.Lay
import Derived.Deep.Strs
import Derived.RegionIn
import Derived.Laws.BitsAllLaws
import Derived.Test.YtebeekjcepjcnaaDoorLBase
import Derived.Test.YtebeekjcepjcnaaDoorLMem
import Derived.Test.YtebeekjcepjcnaaDoorLCsum
import Derived.Test.YtebeekjcepjcnaaDoorLSum
import Derived.Test.YtebeekjcepjcnaaDoorLFix
import Derived.Test.YtebeekjcepjcnaaDoorLFacts
import Derived.Test.YtebeekjcepjcnaaDoorLPkt
import Derived.Test.YtebeekjcepjcnaaDoorLRegion
import Derived.Test.YtebeekjcepjcnaaDoorLWalk
import Derived.Test.YtebeekjcepjcnaaDoorLStep
import Derived.Test.YtebeekjcepjcnaaDoorLQuoted
import Derived.Test.YtebeekjcepjcnaaDoorLBuilda
import Derived.Test.YtebeekjcepjcnaaDoorLRerr
import Derived.Test.YtebeekjcepjcnaaDoorLStepb
import Derived.Test.YtebeekjcepjcnaaDoorLTcpw
import Derived.Test.YtebeekjcepjcnaaDoorLUdpw
import Derived.Test.YtebeekjcepjcnaaDoorLData
import Derived.Test.YtebeekjcepjcnaaDoorLQdata
import Derived.Test.YtebeekjcepjcnaaDoorLFailure
import Derived.Test.YtebeekjcepjcnaaDoorLEq
import Derived.Test.YtebeekjcepjcnaaDoorLFold
import Derived.Test.YtebeekjcepjcnaaDoorLBuildb
import Derived.Test.YtebeekjcepjcnaaDoorLAnswer
import Derived.Test.YtebeekjcepjcnaaDoorLAnswerb
import Derived.Test.YtebeekjcepjcnaaDoorLAwake
import Derived.Test.YtebeekjcepjcnaaDoorLOpen
import Derived.Test.YtebeekjcepjcnaaDoorLIprd
import Derived.Test.YtebeekjcepjcnaaDoorLIpre
import Derived.Test.YtebeekjcepjcnaaDoorLTcprd
import Derived.Test.YtebeekjcepjcnaaDoorLUdprd
import Derived.Test.YtebeekjcepjcnaaDoorLIcmprd
import Derived.Test.YtebeekjcepjcnaaDoorLPktn
import Derived.Test.YtebeekjcepjcnaaDoorLQuotc
import Derived.Test.YtebeekjcepjcnaaDoorLPkto
import Derived.Test.YtebeekjcepjcnaaDoorLIpread
import Derived.Test.YtebeekjcepjcnaaDoorLOptsa
import Derived.Test.YtebeekjcepjcnaaDoorLOptsb
import Derived.Test.YtebeekjcepjcnaaDoorLOptsc
import Derived.Test.YtebeekjcepjcnaaDoorLOptsd
import Derived.Test.YtebeekjcepjcnaaDoorLPkta
import Derived.Test.YtebeekjcepjcnaaDoorLPktr
import Derived.Test.YtebeekjcepjcnaaDoorLRip5
import Derived.Test.YtebeekjcepjcnaaDoorLPawake
namespace Go.Proofs.YtebeekjcepjcnaaDoor
open Go.ChangeShapes Go.WideShapes Go.ChangeAt Go.RowKit
set_option maxRecDepth 100000 in
theorem sorts_of_vars {W : World} {r : List (String × DataW Unit)} {ps : List MemPlace} (h : DataW.LaidVars Tryd.prog W (("baffle/icmp.sorts", Rows.laid_baffle_icmp_sorts) :: r) ps) : SortsAt W := by
  obtain ⟨g0, t0, cs0, f0, p0, q0, hg0, ht0, hv0, hd0, _⟩ := h
  obtain rfl := Option.some.inj (gSorts.symm.trans hg0)
  obtain rfl := Option.some.inj (tSorts.symm.trans ht0)
  obtain ⟨xs, m, _, hx, _, hlen, hel⟩ := DataW.trod_array Tryd.underlying189 hd0
  intro k hk
  have h1 := hel k hk
  rw [cSort] at h1
  obtain ⟨l, e1, e2⟩ := sorts_dat k hk
  simp only [Prod.mk.injEq] at hx
  rw [e1] at hx
  have hl : l = xs.map (·.1) := by simpa using hx.1
  rw [hl, List.getElem?_map] at e2
  obtain ⟨x, hxk, hx1⟩ := Option.map_eq_some_iff.1 e2
  rw [hxk] at h1
  obtain ⟨y0, y1, y2, n, hy, hcl, t0, t1, t2⟩ := Go.Deep.trod_struct3 Tryd.underlying188 h1
  rw [cSort] at hcl
  match hcs : (cs0.toList.drop (k * 3)).take 3, hcl with
  | [c0, c1, c2], _ =>
    rw [hcs] at t0 t1 t2
    obtain ⟨a, rfl, rfl, _⟩ := one_int Tryd.underlying5 cOne8 rfl t0
    obtain ⟨b, rfl, rfl, _⟩ := one_int Tryd.underlying5 cOne8 rfl t1
    obtain ⟨c, rfl, rfl, _⟩ := one_int Tryd.underlying5 cOne8 rfl t2
    rw [hy] at hx1
    simp only [DataW.agg.injEq, List.cons.injEq, DataW.lit.injEq, Lit.int.injEq, true_and, and_true] at hx1
    obtain ⟨rfl, rfl, rfl⟩ := hx1
    have hat : ∀ j, j < 3 → cs0[k * 3 + j]? = ((cs0.toList.drop (k * 3)).take 3)[j]? := fun j hj => by
      rw [List.getElem?_take_of_lt hj, List.getElem?_drop]
      simp
    refine ⟨?_, ?_, ?_⟩
    · have := hat 0 (by omega)
      rw [hcs] at this
      exact (World.var?_cell hg0 hv0 (k * 3)).trans this
    · have := hat 1 (by omega)
      rw [hcs] at this
      exact (World.var?_cell hg0 hv0 (k * 3 + 1)).trans this
    · have := hat 2 (by omega)
      rw [hcs] at this
      exact (World.var?_cell hg0 hv0 (k * 3 + 2)).trans this
theorem gNames : Tryd.prog.globalNamed "baffle/pkt.names" = some 0 := by kernel_rfl
theorem tNames : (Tryd.prog.globals[0]?).map (·.type) = some 103 := by kernel_rfl
theorem cStr : Tryd.prog.cellsOf 9 = 1 := by kernel_rfl
set_option maxRecDepth 100000 in
theorem names_dat {H : Type} (k : Nat) (hk : k < 31) : ∃ l : List (DataW H), Rows.laid_baffle_pkt_names = .agg l ∧ l[k]? = some (.lit (.string (nm k).data.toList)) := by
  refine ⟨_, rfl, ?_⟩
  rcases (show k = 0 ∨ k = 1 ∨ k = 2 ∨ k = 3 ∨ k = 4 ∨ k = 5 ∨ k = 6 ∨ k = 7 ∨ k = 8 ∨ k = 9 ∨ k = 10 ∨ k = 11 ∨ k = 12 ∨ k = 13 ∨ k = 14 ∨ k = 15 ∨ k = 16 ∨ k = 17 ∨ k = 18 ∨ k = 19 ∨ k = 20 ∨ k = 21 ∨ k = 22 ∨ k = 23 ∨ k = 24 ∨ k = 25 ∨ k = 26 ∨ k = 27 ∨ k = 28 ∨ k = 29 ∨ k = 30 by omega) with rfl | rfl | rfl | rfl | rfl | rfl | rfl | rfl | rfl | rfl | rfl | rfl | rfl | rfl | rfl | rfl | rfl | rfl | rfl | rfl | rfl | rfl | rfl | rfl | rfl | rfl | rfl | rfl | rfl | rfl | rfl <;> rfl
set_option maxRecDepth 100000 in
theorem names_of_vars {W : World} {r : List (String × DataW Unit)} {ps : List MemPlace} (h : DataW.LaidVars Tryd.prog W (("baffle/pkt.names", Rows.laid_baffle_pkt_names) :: r) ps) : NamesAt W := by
  obtain ⟨g0, t0, cs0, f0, p0, q0, hg0, ht0, hv0, hd0, _⟩ := h
  obtain rfl := Option.some.inj (gNames.symm.trans hg0)
  obtain rfl := Option.some.inj (tNames.symm.trans ht0)
  obtain ⟨xs, m, _, hx, _, hlen, hel⟩ := DataW.trod_array Tryd.underlying103 hd0
  intro k hk
  have h1 := hel k hk
  rw [cStr] at h1
  obtain ⟨l, e1, e2⟩ := names_dat k hk
  simp only [Prod.mk.injEq] at hx
  rw [e1] at hx
  have hl : l = xs.map (·.1) := by simpa using hx.1
  rw [hl, List.getElem?_map] at e2
  obtain ⟨x, hxk, hx1⟩ := Option.map_eq_some_iff.1 e2
  rw [hxk] at h1
  obtain ⟨s, hcs, hy, _⟩ := DataW.trod_string Tryd.underlying9 h1
  rw [hy] at hx1
  simp only [DataW.lit.injEq, Lit.string.injEq] at hx1
  have hs : s = nm k := by
    have h3 : s.data = (nm k).data := Array.ext' (by simpa using hx1)
    cases s; cases hnm : nm k; rw [hnm] at h3; simp at h3; rw [h3]
  subst hs
  have h2 : cs0[k]? = some (.string (nm k)) := by
    have := nth_of_take (l := cs0.toList) (a := k * 1) (c := .string (nm k)) hcs
    simpa using this
  exact (World.var?_cell hg0 hv0 k).trans h2
set_option maxRecDepth 100000 in
theorem tables_of_laid {W : World} (h : laidMetH Tryd.prog [("baffle/icmp.sorts", Rows.laid_baffle_icmp_sorts), ("baffle/pkt.names", Rows.laid_baffle_pkt_names)] W) : SortsAt W ∧ NamesAt W := by
  rw [MakeChecks.laidMetH_plain _ _ _ (by kernel_rfl)] at h
  obtain ⟨ps, h1, _⟩ := h
  refine ⟨sorts_of_vars h1, ?_⟩
  obtain ⟨_, _, _, _, _, q, _, _, _, _, h2, _⟩ := h1
  exact names_of_vars h2
set_option maxRecDepth 100000 in
theorem laidOut : laidOutB Tryd.prog = true := by kernel_rfl
set_option maxRecDepth 100000 in
/-- Bytes as an argument. -/
theorem open_bytes {H : Type} {enc : TypeId × Value → H} {W : World} {base : Nat} {v : Value} {d : DataW H} {p : List MemPlace} (hv : Value.okWide Tryd.prog W .any base 34 v) (h : DataW.Trod enc Tryd.prog W 0 (fun _ => true) true 34 v d p) :
    ∃ (A : Option Addr) (n cap : Nat) (xs : List Int), v = .slice A n cap ∧ xs.length = n ∧ n ≤ cap ∧ Byt xs ∧ Rd W W.heap.size A .u8 xs := by
  obtain ⟨fuel, hf⟩ := h
  obtain ⟨a0, len, cap, rfl⟩ := okWide_slice Tryd.underlying34 hv
  rcases open_ints Tryd.underlying34 Tryd.underlying5 cOne8 hf with ⟨hcs, hx⟩ | ⟨a, len', cap', zs, hcs, _, hl, hm, hz, hx, hcell, hwz⟩
  · simp [Value.cells] at hcs
    obtain ⟨rfl, rfl, rfl⟩ := hcs
    exact ⟨none, 0, 0, [], rfl, rfl, Nat.le_refl _, Byt.nil, Rd.nil⟩
  · simp [Value.cells] at hcs
    obtain ⟨rfl, rfl, rfl⟩ := hcs
    simp only [if_true] at hz
    refine ⟨some a, len, cap, zs.take len, rfl, by rw [List.length_take]; omega, hl, fun x hx2 => ?_, fun j hj => ?_⟩
    · exact wf_u8.1 (hwz x (List.mem_of_mem_take hx2))
    · rw [List.length_take] at hj
      have hc := hcell j (by omega)
      have hsp : a.spot = none := by simpa [Addr.add] using World.cell?_spot (hcell 0 (by omega))
      obtain ⟨ab, ao, asp⟩ := a
      subst hsp
      have hc2 : W.cell? ⟨ab, ao + j, none⟩ = some (.int .u8 (zs.getD j 0)) := by rwa [Addr.add_mid] at hc
      refine ⟨ab, ao, rfl, World.lt_of_cell hc2, ?_⟩
      rw [hc2, List.getD_eq_getElem?_getD, List.getD_eq_getElem?_getD, List.getElem?_take_of_lt (by omega)]
end Go.Proofs.YtebeekjcepjcnaaDoor
namespace Go.Proofs.YtebeekjcepjcnaaDoor
open Go.RowKit
theorem xor8_bd (a b : Int) (h1 : 0 ≤ a) (h2 : a < 256) (h3 : 0 ≤ b) (h4 : b < 256) : 0 ≤ bits .xor .u8 a b ∧ bits .xor .u8 a b < 256 := by
  rw [u8_xor a b h1 h2 h3 h4]
  have := Nat.xor_lt_two_pow (x := a.toNat) (y := b.toNat) (n := 8) (by omega) (by omega)
  omega
theorem Eqn.set {xs zs : List Int} (h : Eqn 136 xs zs) (i : Nat) (hi : 136 ≤ i) (x : Int) : Eqn 136 xs (zs.set i x) :=
  ⟨by rw [h.1, List.length_set], by rw [h.2, List.take_set_of_le hi]⟩
set_option maxRecDepth 100000 in
set_option maxHeartbeats 8000000 in
theorem pktLook_any (A : Option Addr) (cap n : Nat) (xs : List Int) (x : Int) (w : World) (hn : xs.length = n) (hcap : n ≤ cap) (hB : Byt xs) (hr : Rd w w.heap.size A .u8 xs) (x0 : 0 ≤ x) (x1 : x < 256) (hs : SortsAt w) (hm : NamesAt w) :
    Calls Tryd.prog 8 #[.slice A n cap, .int .u8 x] w fun e W => e = .returned (.bool true) ∧ Below w.heap.size w W := by
  have HAw := Lib.hid (awakeP_any w hs hm)
  have HN := Lib.hid hn
  have HR := Lib.hid hr
  have HB := Lib.hid hB
  have Hs := Lib.hid (fun (W : World) (h : Below w.heap.size w W) => hs.below h (Nat.le_refl _))
  clear hr hs hm hB hn
  by_cases h4 : 400 < n
  · have g4 : decide (400 < (n : Int)) = true := by simp; omega
    go_enter Tryd.func8, Tryd.ntmps8
    go_wp2_with fail
    refine HAw.out.mono ?_
    rintro e w1 ⟨rfl, l1⟩
    go_wp2_with fail
    go_ret
    exact ⟨rfl, l1⟩
  have g4 : decide (400 < (n : Int)) = false := by simp; omega
  go_enter Tryd.func8, Tryd.ntmps8
  go_wp2_with fail
  refine HAw.out.mono ?_
  rintro e w1 ⟨rfl, l1⟩
  have L1 := Lib.hid l1
  clear l1 HAw
  go_wp2_with (first | (at_builtin; refine app_own rfl _ _ rfl w.heap.size _ [] rfl (own_lit w1 w.heap.size 0 [] _ rfl rfl (by simp [maxLen]) L1.out.size) w.heap.size A n cap xs rfl HN.out.symm (HR.out.below (L1.out.alloc L1.out.size _) (Nat.le_refl _)) (by have := HN.out; simp; omega) (by have := L1.out.size; simp; omega) ?_; intro v2 w2 o2 l2 g2 a2; replace o2 : Own w2 w.heap.size v2 xs := o2) | fail)
  obtain ⟨A2, cap2, rfl, hr2, hc2, hc2m⟩ := o2.open_
  rw [HN.out] at hc2 o2 ⊢
  have O2 := Lib.hid o2
  have L2 := Lib.hid ((L1.out.alloc L1.out.size _).trans l2)
  have C2 := Lib.hid hc2
  clear o2 l2 g2 a2 hr2 hc2 hc2m L1
  go_wp2_with fail
  go_loopw [6] (fun i W => ∃ k : Nat, 136 ≤ k ∧ (k = 136 ∨ k ≤ n) ∧ i = .int .i64 k ∧ Hid (∃ zs, Own W w.heap.size (.slice A2 n cap2) zs ∧ Eqn 136 xs zs ∧ Byt zs) ∧ Hid (Below w.heap.size w W)) (fun i _ => n - (intOf i).toNat)
  case atStart => exact ⟨136, by omega, .inl rfl, rfl, Lib.hid ⟨xs, O2.out, ⟨rfl, rfl⟩, HB.out⟩, L2⟩
  case round =>
    obtain ⟨k, hk, hk2, rfl, hZ, hL⟩ := hrel
    rename World => wo
    clear O2 L2
    by_cases hlt : k < n
    · have e1 : decide ((k : Int) < n) = true := by simpa using hlt
      obtain ⟨zs, hO, hE, hBz⟩ := hZ.out
      have hzl : zs.length = n := by rw [← hE.1]; exact HN.out
      obtain ⟨g, c, he, hg0, hg1, hc1, hc2⟩ := hO.form (by omega)
      rw [hzl] at he
      cases he
      have hbd := hBz.at_ k
      have hxb := xor8_bd (zs.getD k 0) x hbd.1 hbd.2 x0 x1
      have ck := hO.cell k (by omega)
      have fk := hO.free k
      have HO := Lib.hid hO
      have HE := Lib.hid (hE.set k hk (bits .xor .u8 (zs.getD k 0) x))
      have HBz := Lib.hid (hBz.set k hxb.1 hxb.2)
      have HG := Lib.hid hg0
      have hkn : (k : Int) < n := by omega
      clear hO hE hBz hZ hzl hg0 hg1 hc1 hc2 hbd hxb
      generalize zs.getD k 0 = y at *
      go_wp2_with fail
      go_roundw
      case rel =>
        exact ⟨k + 1, by omega, by omega, by go_num, Lib.hid ⟨zs.set k (bits .xor .u8 y x), HO.out.set k _, HE.out, HBz.out⟩, Lib.hid (hL.out.setCell (p := ⟨g, k, none⟩) HG.out _)⟩
      case measure => simp [intOf]; omega
    · have e1 : decide ((k : Int) < n) = false := by simp; omega
      obtain ⟨zs, hO, hE, hBz⟩ := hZ.out
      have hzl : zs.length = n := by rw [← hE.1]; exact HN.out
      have hlk := pkt_look hE
      have H1 := Lib.hid (pktRead_any A cap n xs wo HN.out (by omega) hcap HB.out (HR.out.belows hL.out (Nat.le_refl _)) (Hs.out wo hL.out))
      have H2 := Lib.hid (fun (W : World) (h : Below wo.heap.size wo W) => pktRead_any A2 cap2 n zs W hzl (by omega) C2.out hBz (hO.rd.belows h (Nat.le_refl _)) (Hs.out W (hL.out.trans (h.mono hL.out.size))))
      rw [← hlk.1, ← hlk.2] at H2
      have hbd := pktR_bd xs
      have hz : pktR xs ≠ 0 → pktF xs = Facts.zero := pktF_zero
      clear hO hE hBz hZ hzl hlk
      generalize pktR xs = RR at *
      generalize pktF xs = FF at *
      have HEq := Lib.hid (fun (W : World) => run_eq_facts FF FF W)
      rw [facts_eqB_refl] at HEq
      have b19 : decide (RR ≤ 19) = true := by simpa using hbd.2
      by_cases hR0 : RR = 0
      · have r0 : (RR == 0) = true := by simpa using hR0
        clear hz hR0 hbd
        obtain ⟨⟨k0, k1, k2, k3, k4⟩, f1, f2, f3, f4, f5, f6, f7, f8, ⟨q0, q1, q2, q3, q4⟩, f9⟩ := FF
        rw [show Facts.val ⟨⟨k0, k1, k2, k3, k4⟩, f1, f2, f3, f4, f5, f6, f7, f8, ⟨q0, q1, q2, q3, q4⟩, f9⟩ = .agg #[.int .u8 k0, .int .u32 k1, .int .u32 k2, .int .u16 k3, .int .u16 k4, .int .u8 f1, .int .u8 f2, .int .u8 f3, .int .u8 f4, .int .u32 f5, .int .u32 f6, .int .i64 f7, .int .i64 f8, .int .u8 q0, .int .u32 q1, .int .u32 q2, .int .u16 q3, .int .u16 q4, .int .u8 f9] from rfl] at H1 H2
        go_wp2_with fail
        refine H1.out.mono ?_
        rintro e w3 ⟨rfl, l3⟩
        have L3 := Lib.hid l3
        clear l3
        go_upto_region 11 with (first | ((with_reducible refine look_store ?_); refine wpList_store_new rfl _ _ _ rfl _ _ rfl rfl _ _ rfl (by kernel_rfl) (by simp) (by simp [Value.oneCell']) ?_) | fail)
        refine wp_name1 ?_
        intro w4 hb4 hs4 bf
        have L4 := Lib.hid (L3.out.trans (hb4.mono L3.out.size))
        have HR2 := Lib.hid (H2.out w4 L4.out)
        clear hb4 hs4
        go_wp2_with fail
        refine HR2.out.mono ?_
        rintro e w5 ⟨rfl, l5⟩
        have bf5 := bf.below l5 bf.lt
        have L5 := Lib.hid (L4.out.trans (l5.mono L4.out.size))
        clear l5 bf
        go_upto_region 12 with (first | ((with_reducible refine look_store ?_); refine wpList_store_new rfl _ _ _ rfl _ _ rfl rfl _ _ rfl (by kernel_rfl) (by simp) (by simp [Value.oneCell']) ?_) | fail)
        refine wp_name1 ?_
        intro w6 hb6 hs6 bg
        have bf6 := bf5.below hb6 bf5.lt
        have L6 := Lib.hid (L5.out.trans (hb6.mono L5.out.size))
        have heq := HEq.out w6
        clear hb6 hs6 bf5
        go_wp2_with (first | ((with_reducible refine look_load ?_); refine wpList_load_row rfl _ _ rfl _ rfl _ _ _ _ bf6 Tryd.underlying27 rfl (by kernel_rfl) ?_) | ((with_reducible refine look_load ?_); refine wpList_load_row rfl _ _ rfl _ rfl _ _ _ _ bg Tryd.underlying27 rfl (by kernel_rfl) ?_) | fail)
        go_ret
        exact ⟨rfl, hL.out.trans (L6.out.mono hL.out.size)⟩
      · have r0 : (RR == 0) = false := by simpa using hR0
        obtain rfl := hz hR0
        clear hz hR0 hbd
        rw [show Facts.val Facts.zero = .agg #[.int .u8 0, .int .u32 0, .int .u32 0, .int .u16 0, .int .u16 0, .int .u8 0, .int .u8 0, .int .u8 0, .int .u8 0, .int .u32 0, .int .u32 0, .int .i64 0, .int .i64 0, .int .u8 0, .int .u32 0, .int .u32 0, .int .u16 0, .int .u16 0, .int .u8 0] from rfl] at H1 H2 HEq
        go_wp2_with fail
        refine H1.out.mono ?_
        rintro e w3 ⟨rfl, l3⟩
        have L3 := Lib.hid l3
        clear l3
        go_upto_region 11 with (first | ((with_reducible refine look_store ?_); refine wpList_store_new rfl _ _ _ rfl _ _ rfl rfl _ _ rfl (by kernel_rfl) (by simp) (by simp [Value.oneCell']) ?_) | fail)
        refine wp_name1 ?_
        intro w4 hb4 hs4 bf
        have L4 := Lib.hid (L3.out.trans (hb4.mono L3.out.size))
        have HR2 := Lib.hid (H2.out w4 L4.out)
        clear hb4 hs4
        go_wp2_with fail
        refine HR2.out.mono ?_
        rintro e w5 ⟨rfl, l5⟩
        have bf5 := bf.below l5 bf.lt
        have L5 := Lib.hid (L4.out.trans (l5.mono L4.out.size))
        clear l5 bf
        go_upto_region 12 with (first | ((with_reducible refine look_store ?_); refine wpList_store_new rfl _ _ _ rfl _ _ rfl rfl _ _ rfl (by kernel_rfl) (by simp) (by simp [Value.oneCell']) ?_) | fail)
        refine wp_name1 ?_
        intro w6 hb6 hs6 bg
        have bf6 := bf5.below hb6 bf5.lt
        have L6 := Lib.hid (L5.out.trans (hb6.mono L5.out.size))
        have heq := HEq.out w6
        clear hb6 hs6 bf5
        go_wp2_with (first | ((with_reducible refine look_load ?_); refine wpList_load_row rfl _ _ rfl _ rfl _ _ _ _ bf6 Tryd.underlying27 rfl (by kernel_rfl) ?_) | ((with_reducible refine look_load ?_); refine wpList_load_row rfl _ _ rfl _ rfl _ _ _ _ bg Tryd.underlying27 rfl (by kernel_rfl) ?_) | ((with_reducible refine look_load ?_); refine wpList_load_guarded (by first | rfl | simp [Region.wanted, yielded]) _ _ rfl _ rfl _ _ _ _ bf6 Tryd.underlying27 rfl (by kernel_rfl) ?_) | fail)
        go_ret
        exact ⟨rfl, hL.out.trans (L6.out.mono hL.out.size)⟩
end Go.Proofs.YtebeekjcepjcnaaDoor
