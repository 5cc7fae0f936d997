/-
  The tables of packages icmp and pkt, read off the heap as they were laid; bytes as an argument: opened to a list.
  The tables of the statements about made packets, read off the heap as they were laid.
-/
import Derived.Test.YtebeekjcepjcnaaDoorRows
import Derived.WalkKit
import Derived.WalkSpells
import Derived.WalkLawsBesides
import Derived.WalkSmall
import Derived.Lib.Hide
import Derived.Deep.AppendLies
import Derived.Maps.AppendAt
import Derived.Laws.AppendOwnNone
import Derived.Laws.CopyOwn
import Derived.OneCell
import Derived.Orders
import Derived.RegionTactic
import Derived.Still
import Derived.Test.YtebeekjcepjcnaaDoorProg
import Derived.Deep.MidRow
import Derived.Lib.SliceRun
import Derived.RangeFuncNested
import Derived.RangeFuncBound
import Derived.RangeFuncCalls
import Derived.RangeFuncLeaves
import Derived.Shelf.Abstract
import Derived.OwnWalkIn
import Derived.TacticsInMore
import Derived.LoopNIn
import Derived.LoopIn
import Derived.Lib.AppendZeros
import Derived.MapKept
import Derived.Deep.DeepCutAuto
import Derived.Deep.RegionLaw
import Derived.Deep.RegionHeld3
import Derived.BigRegion
import Derived.ChangeAlike
import Derived.Laws.StructEq
import Derived.ProofKit
import Derived.LaidMore
import Derived.OpenShut
import Derived.Lay
import Derived.Deep.Strs
import Derived.RegionIn
import Derived.Lib.MinMax
import Derived.Laws.BitsAllLaws
import Derived.Deep.CutBlock
import Derived.Deep.Slices
import Derived.Test.YtebeekjcepjcnaaDoorGBase
import Derived.Test.YtebeekjcepjcnaaDoorGBits
import Derived.Test.YtebeekjcepjcnaaDoorGCsum
import Derived.Test.YtebeekjcepjcnaaDoorGSum
import Derived.Test.YtebeekjcepjcnaaDoorGFix
import Derived.Test.YtebeekjcepjcnaaDoorGFacts
import Derived.Test.YtebeekjcepjcnaaDoorGPkt
import Derived.Test.YtebeekjcepjcnaaDoorGWalk
import Derived.Test.YtebeekjcepjcnaaDoorGStep
import Derived.Test.YtebeekjcepjcnaaDoorGTcpw
import Derived.Test.YtebeekjcepjcnaaDoorGUdpw
import Derived.Test.YtebeekjcepjcnaaDoorGData
import Derived.Test.YtebeekjcepjcnaaDoorGIprd
import Derived.Test.YtebeekjcepjcnaaDoorGFold
import Derived.Test.YtebeekjcepjcnaaDoorGFresh
import Derived.Test.YtebeekjcepjcnaaDoorGIpre
import Derived.Test.YtebeekjcepjcnaaDoorGIpread
import Derived.Test.YtebeekjcepjcnaaDoorGOptsa
import Derived.Test.YtebeekjcepjcnaaDoorGOptsb
import Derived.Test.YtebeekjcepjcnaaDoorGOptsc
import Derived.Test.YtebeekjcepjcnaaDoorGOptsd
import Derived.Test.YtebeekjcepjcnaaDoorGTcprd
import Derived.Test.YtebeekjcepjcnaaDoorGEq
import Derived.Test.YtebeekjcepjcnaaDoorGMade8
import Derived.Test.YtebeekjcepjcnaaDoorGIpback
import Derived.Test.YtebeekjcepjcnaaDoorGMade6p
import Derived.Test.YtebeekjcepjcnaaDoorGOptw
import Derived.Test.YtebeekjcepjcnaaDoorGMade10
import Derived.Test.YtebeekjcepjcnaaDoorGMade9
import Derived.Test.YtebeekjcepjcnaaDoorGPright
import Derived.Test.YtebeekjcepjcnaaDoorGBuilt
import Derived.Test.YtebeekjcepjcnaaDoorGUdprd
import Derived.Test.YtebeekjcepjcnaaDoorGIcmprd
import Derived.Test.YtebeekjcepjcnaaDoorGContt
import Derived.Test.YtebeekjcepjcnaaDoorGMade11p
import Derived.Test.YtebeekjcepjcnaaDoorGPktn
import Derived.Test.YtebeekjcepjcnaaDoorGQuotc
import Derived.Test.YtebeekjcepjcnaaDoorGPkto
import Derived.Test.YtebeekjcepjcnaaDoorGPkta
import Derived.Test.YtebeekjcepjcnaaDoorGPktr
import Derived.Test.YtebeekjcepjcnaaDoorGRip5
import Derived.Test.YtebeekjcepjcnaaDoorGPawake
import Derived.Test.YtebeekjcepjcnaaDoorGOpen
namespace Go.Proofs.YtebeekjcepjcnaaDoor
open Go.ChangeShapes Go.WideShapes Go.ChangeAt Go.RowKit
set_option maxRecDepth 100000 in
theorem sorts_of_vars {W : World} {r : List (String × DataW Unit)} {ps : List MemPlace} (h : DataW.LaidVars Tryd.prog W (("baffle/icmp.sorts", Rows.laid_baffle_icmp_sorts) :: r) ps) : SortsAt W := by
  obtain ⟨g0, t0, cs0, f0, p0, q0, hg0, ht0, hv0, hd0, _⟩ := h
  obtain rfl := Option.some.inj (gSorts.symm.trans hg0)
  obtain rfl := Option.some.inj (tSorts.symm.trans ht0)
  obtain ⟨xs, m, _, hx, _, hlen, hel⟩ := DataW.trod_array Tryd.underlying189 hd0
  intro k hk
  have h1 := hel k hk
  rw [cSort] at h1
  obtain ⟨l, e1, e2⟩ := sorts_dat k hk
  simp only [Prod.mk.injEq] at hx
  rw [e1] at hx
  have hl : l = xs.map (·.1) := by simpa using hx.1
  rw [hl, List.getElem?_map] at e2
  obtain ⟨x, hxk, hx1⟩ := Option.map_eq_some_iff.1 e2
  rw [hxk] at h1
  obtain ⟨y0, y1, y2, n, hy, hcl, t0, t1, t2⟩ := Go.Deep.trod_struct3 Tryd.underlying188 h1
  rw [cSort] at hcl
  match hcs : (cs0.toList.drop (k * 3)).take 3, hcl with
  | [c0, c1, c2], _ =>
    rw [hcs] at t0 t1 t2
    obtain ⟨a, rfl, rfl, _⟩ := one_int Tryd.underlying5 cOne8 rfl t0
    obtain ⟨b, rfl, rfl, _⟩ := one_int Tryd.underlying5 cOne8 rfl t1
    obtain ⟨c, rfl, rfl, _⟩ := one_int Tryd.underlying5 cOne8 rfl t2
    rw [hy] at hx1
    simp only [DataW.agg.injEq, List.cons.injEq, DataW.lit.injEq, Lit.int.injEq, true_and, and_true] at hx1
    obtain ⟨rfl, rfl, rfl⟩ := hx1
    have hat : ∀ j, j < 3 → cs0[k * 3 + j]? = ((cs0.toList.drop (k * 3)).take 3)[j]? := fun j hj => by
      rw [List.getElem?_take_of_lt hj, List.getElem?_drop]
      simp
    refine ⟨?_, ?_, ?_⟩
    · have := hat 0 (by omega)
      rw [hcs] at this
      exact (World.var?_cell hg0 hv0 (k * 3)).trans this
    · have := hat 1 (by omega)
      rw [hcs] at this
      exact (World.var?_cell hg0 hv0 (k * 3 + 1)).trans this
    · have := hat 2 (by omega)
      rw [hcs] at this
      exact (World.var?_cell hg0 hv0 (k * 3 + 2)).trans this
theorem gNames : Tryd.prog.globalNamed "baffle/pkt.names" = some 0 := by kernel_rfl
theorem tNames : (Tryd.prog.globals[0]?).map (·.type) = some 103 := by kernel_rfl
theorem cStr : Tryd.prog.cellsOf 9 = 1 := by kernel_rfl
set_option maxRecDepth 100000 in
theorem names_dat {H : Type} (k : Nat) (hk : k < 31) : ∃ l : List (DataW H), Rows.laid_baffle_pkt_names = .agg l ∧ l[k]? = some (.lit (.string (nm k).data.toList)) := by
  refine ⟨_, rfl, ?_⟩
  rcases (show k = 0 ∨ k = 1 ∨ k = 2 ∨ k = 3 ∨ k = 4 ∨ k = 5 ∨ k = 6 ∨ k = 7 ∨ k = 8 ∨ k = 9 ∨ k = 10 ∨ k = 11 ∨ k = 12 ∨ k = 13 ∨ k = 14 ∨ k = 15 ∨ k = 16 ∨ k = 17 ∨ k = 18 ∨ k = 19 ∨ k = 20 ∨ k = 21 ∨ k = 22 ∨ k = 23 ∨ k = 24 ∨ k = 25 ∨ k = 26 ∨ k = 27 ∨ k = 28 ∨ k = 29 ∨ k = 30 by omega) with rfl | rfl | rfl | rfl | rfl | rfl | rfl | rfl | rfl | rfl | rfl | rfl | rfl | rfl | rfl | rfl | rfl | rfl | rfl | rfl | rfl | rfl | rfl | rfl | rfl | rfl | rfl | rfl | rfl | rfl | rfl <;> rfl
set_option maxRecDepth 100000 in
theorem names_of_vars {W : World} {r : List (String × DataW Unit)} {ps : List MemPlace} (h : DataW.LaidVars Tryd.prog W (("baffle/pkt.names", Rows.laid_baffle_pkt_names) :: r) ps) : NamesAt W := by
  obtain ⟨g0, t0, cs0, f0, p0, q0, hg0, ht0, hv0, hd0, _⟩ := h
  obtain rfl := Option.some.inj (gNames.symm.trans hg0)
  obtain rfl := Option.some.inj (tNames.symm.trans ht0)
  obtain ⟨xs, m, _, hx, _, hlen, hel⟩ := DataW.trod_array Tryd.underlying103 hd0
  intro k hk
  have h1 := hel k hk
  rw [cStr] at h1
  obtain ⟨l, e1, e2⟩ := names_dat k hk
  simp only [Prod.mk.injEq] at hx
  rw [e1] at hx
  have hl : l = xs.map (·.1) := by simpa using hx.1
  rw [hl, List.getElem?_map] at e2
  obtain ⟨x, hxk, hx1⟩ := Option.map_eq_some_iff.1 e2
  rw [hxk] at h1
  obtain ⟨s, hcs, hy, _⟩ := DataW.trod_string Tryd.underlying9 h1
  rw [hy] at hx1
  simp only [DataW.lit.injEq, Lit.string.injEq] at hx1
  have hs : s = nm k := by
    have h3 : s.data = (nm k).data := Array.ext' (by simpa using hx1)
    cases s; cases hnm : nm k; rw [hnm] at h3; simp at h3; rw [h3]
  subst hs
  have h2 : cs0[k]? = some (.string (nm k)) := by
    have := nth_of_take (l := cs0.toList) (a := k * 1) (c := .string (nm k)) hcs
    simpa using this
  exact (World.var?_cell hg0 hv0 k).trans h2
set_option maxRecDepth 100000 in
theorem laidOut : laidOutB Tryd.prog = true := by kernel_rfl
end Go.Proofs.YtebeekjcepjcnaaDoor
namespace Go.Proofs.YtebeekjcepjcnaaDoor
open Go.ChangeShapes Go.WideShapes Go.ChangeAt Go.RowKit
set_option maxRecDepth 100000 in
theorem tabs_of_vars {W : World} {r : List (String × DataW Unit)} {ps : List MemPlace} (h : DataW.LaidVars Tryd.prog W (("baffle/icmp.sorts", Rows.laid_baffle_icmp_sorts) :: ("baffle/bafflelaw10.queries", Rows.laid_baffle_bafflelaw10_queries) :: ("baffle/bafflelaw10.replies", Rows.laid_baffle_bafflelaw10_replies) :: ("baffle/bafflelaw10.errs", Rows.laid_baffle_bafflelaw10_errs) :: r) ps) :
    SortsAt W ∧ Tabs W ∧ ∃ qs, DataW.LaidVars Tryd.prog W r qs := by
  have h1 := sorts_of_vars h
  obtain ⟨_, _, _, _, _, q1, _, _, _, _, k1, _⟩ := h
  have h2 := queries_of_vars k1
  obtain ⟨_, _, _, _, _, q2, _, _, _, _, k2, _⟩ := k1
  have h3 := replies_of_vars k2
  obtain ⟨_, _, _, _, _, q3, _, _, _, _, k3, _⟩ := k2
  have h4 := errs_of_vars k3
  obtain ⟨_, _, _, _, _, q4, _, _, _, _, k4, _⟩ := k3
  exact ⟨h1, ⟨h2, h3, h4⟩, q4, k4⟩
set_option maxRecDepth 100000 in
theorem tabs5_of_laid {W : World} (h : laidMetH Tryd.prog [("baffle/icmp.sorts", Rows.laid_baffle_icmp_sorts), ("baffle/bafflelaw10.queries", Rows.laid_baffle_bafflelaw10_queries), ("baffle/bafflelaw10.replies", Rows.laid_baffle_bafflelaw10_replies), ("baffle/bafflelaw10.errs", Rows.laid_baffle_bafflelaw10_errs), ("baffle/pkt.names", Rows.laid_baffle_pkt_names)] W) : SortsAt W ∧ Tabs W ∧ NamesAt W := by
  rw [MakeChecks.laidMetH_plain _ _ _ (by kernel_rfl)] at h
  obtain ⟨ps, h1, _⟩ := h
  obtain ⟨a, b, qs, k⟩ := tabs_of_vars h1
  exact ⟨a, b, names_of_vars k⟩
end Go.Proofs.YtebeekjcepjcnaaDoor
