/-
  The tables of packages icmp and pkt, read off the heap as they were laid; bytes as an argument: opened to a list.
  The tables of the statements about made packets, read off the heap as they were laid.
  bafflelaw11.PktErrors returns true for every input and leaves its arguments as they were; the package-level tables icmp.sorts, bafflelaw10.queries, bafflelaw10.replies, bafflelaw10.errs, pkt.names read at the start as the program's text lays them (tied by the card).
-/
import Derived.Test.YtebeekjcepjcnaaDoorRows
import Derived.WalkKit
import Derived.WalkSpells
import Derived.WalkLawsBesides
import Derived.WalkSmall
import Derived.Lib.Hide
import Derived.Deep.AppendLies
import Derived.Maps.AppendAt
import Derived.Laws.AppendOwnNone
import Derived.Laws.CopyOwn
import Derived.OneCell
import Derived.Orders
import Derived.RegionTactic
import Derived.Still
import Derived.Test.YtebeekjcepjcnaaDoorProg
import Derived.Deep.MidRow
import Derived.Lib.SliceRun
import Derived.RangeFuncNested
import Derived.RangeFuncBound
import Derived.RangeFuncCalls
import Derived.RangeFuncLeaves
import Derived.Shelf.Abstract
import Derived.OwnWalkIn
import Derived.TacticsInMore
import Derived.LoopNIn
import Derived.LoopIn
import Derived.Lib.AppendZeros
import Derived.MapKept
import Derived.Deep.DeepCutAuto
import Derived.Deep.RegionLaw
import Derived.Deep.RegionHeld3
import Derived.BigRegion
import Derived.ChangeAlike
import Derived.Laws.StructEq
import Derived.ProofKit
import Derived.LaidMore
import Derived.OpenShut
import Derived.Lay
import Derived.Deep.Strs
import Derived.RegionIn
import Derived.Lib.MinMax
import Derived.Laws.BitsAllLaws
import Derived.Deep.CutBlock
import Derived.Deep.Slices
import Derived.Test.YtebeekjcepjcnaaDoorTie
import Derived.Test.YtebeekjcepjcnaaDoorCards
import Derived.Handy
import Derived.SevenTiedAt
import Derived.Test.YtebeekjcepjcnaaDoorEBase
import Derived.Test.YtebeekjcepjcnaaDoorEBits
import Derived.Test.YtebeekjcepjcnaaDoorECsum
import Derived.Test.YtebeekjcepjcnaaDoorESum
import Derived.Test.YtebeekjcepjcnaaDoorEConcat
import Derived.Test.YtebeekjcepjcnaaDoorEFix
import Derived.Test.YtebeekjcepjcnaaDoorEFacts
import Derived.Test.YtebeekjcepjcnaaDoorEPkt
import Derived.Test.YtebeekjcepjcnaaDoorERegion
import Derived.Test.YtebeekjcepjcnaaDoorEWalk
import Derived.Test.YtebeekjcepjcnaaDoorEStep
import Derived.Test.YtebeekjcepjcnaaDoorETcpw
import Derived.Test.YtebeekjcepjcnaaDoorEUdpw
import Derived.Test.YtebeekjcepjcnaaDoorEData
import Derived.Test.YtebeekjcepjcnaaDoorEIprd
import Derived.Test.YtebeekjcepjcnaaDoorEFold
import Derived.Test.YtebeekjcepjcnaaDoorEFresh
import Derived.Test.YtebeekjcepjcnaaDoorEIpre
import Derived.Test.YtebeekjcepjcnaaDoorEIpread
import Derived.Test.YtebeekjcepjcnaaDoorEOptsa
import Derived.Test.YtebeekjcepjcnaaDoorEOptsb
import Derived.Test.YtebeekjcepjcnaaDoorEOptsc
import Derived.Test.YtebeekjcepjcnaaDoorEOptsd
import Derived.Test.YtebeekjcepjcnaaDoorETcprd
import Derived.Test.YtebeekjcepjcnaaDoorEEq
import Derived.Test.YtebeekjcepjcnaaDoorEMade8
import Derived.Test.YtebeekjcepjcnaaDoorEIpback
import Derived.Test.YtebeekjcepjcnaaDoorEMade6p
import Derived.Test.YtebeekjcepjcnaaDoorEOptw
import Derived.Test.YtebeekjcepjcnaaDoorEMade10
import Derived.Test.YtebeekjcepjcnaaDoorEMade9
import Derived.Test.YtebeekjcepjcnaaDoorEPright
import Derived.Test.YtebeekjcepjcnaaDoorEPktlen
import Derived.Test.YtebeekjcepjcnaaDoorESm
import Derived.Test.YtebeekjcepjcnaaDoorEUdprd
import Derived.Test.YtebeekjcepjcnaaDoorEIcmprd
import Derived.Test.YtebeekjcepjcnaaDoorEContt
import Derived.Test.YtebeekjcepjcnaaDoorEMade11p
import Derived.Test.YtebeekjcepjcnaaDoorEM11law
import Derived.Test.YtebeekjcepjcnaaDoorEErrlaw
import Derived.Test.YtebeekjcepjcnaaDoorEQuota
import Derived.Test.YtebeekjcepjcnaaDoorEQuotc
import Derived.Test.YtebeekjcepjcnaaDoorEPkto
import Derived.Test.YtebeekjcepjcnaaDoorEPkta
import Derived.Test.YtebeekjcepjcnaaDoorEPktr
import Derived.Test.YtebeekjcepjcnaaDoorERip5
import Derived.Test.YtebeekjcepjcnaaDoorEPawake
import Derived.Test.YtebeekjcepjcnaaDoorEContq
import Derived.Test.YtebeekjcepjcnaaDoorEMade6
import Derived.Test.YtebeekjcepjcnaaDoorEMade11
import Derived.Test.YtebeekjcepjcnaaDoorEPkterrors
import Derived.Test.YtebeekjcepjcnaaDoorEOpen
namespace Go.Proofs.YtebeekjcepjcnaaDoor
open Go.ChangeShapes Go.WideShapes Go.ChangeAt Go.RowKit
set_option maxRecDepth 100000 in
theorem sorts_of_vars {W : World} {r : List (String × DataW Unit)} {ps : List MemPlace} (h : DataW.LaidVars Tryd.prog W (("baffle/icmp.sorts", Rows.laid_baffle_icmp_sorts) :: r) ps) : SortsAt W := by
  obtain ⟨g0, t0, cs0, f0, p0, q0, hg0, ht0, hv0, hd0, _⟩ := h
  obtain rfl := Option.some.inj (gSorts.symm.trans hg0)
  obtain rfl := Option.some.inj (tSorts.symm.trans ht0)
  obtain ⟨xs, m, _, hx, _, hlen, hel⟩ := DataW.trod_array Tryd.underlying189 hd0
  intro k hk
  have h1 := hel k hk
  rw [cSort] at h1
  obtain ⟨l, e1, e2⟩ := sorts_dat k hk
  simp only [Prod.mk.injEq] at hx
  rw [e1] at hx
  have hl : l = xs.map (·.1) := by simpa using hx.1
  rw [hl, List.getElem?_map] at e2
  obtain ⟨x, hxk, hx1⟩ := Option.map_eq_some_iff.1 e2
  rw [hxk] at h1
  obtain ⟨y0, y1, y2, n, hy, hcl, t0, t1, t2⟩ := Go.Deep.trod_struct3 Tryd.underlying188 h1
  rw [cSort] at hcl
  match hcs : (cs0.toList.drop (k * 3)).take 3, hcl with
  | [c0, c1, c2], _ =>
    rw [hcs] at t0 t1 t2
    obtain ⟨a, rfl, rfl, _⟩ := one_int Tryd.underlying5 cOne8 rfl t0
    obtain ⟨b, rfl, rfl, _⟩ := one_int Tryd.underlying5 cOne8 rfl t1
    obtain ⟨c, rfl, rfl, _⟩ := one_int Tryd.underlying5 cOne8 rfl t2
    rw [hy] at hx1
    simp only [DataW.agg.injEq, List.cons.injEq, DataW.lit.injEq, Lit.int.injEq, true_and, and_true] at hx1
    obtain ⟨rfl, rfl, rfl⟩ := hx1
    have hat : ∀ j, j < 3 → cs0[k * 3 + j]? = ((cs0.toList.drop (k * 3)).take 3)[j]? := fun j hj => by
      rw [List.getElem?_take_of_lt hj, List.getElem?_drop]
      simp
    refine ⟨?_, ?_, ?_⟩
    · have := hat 0 (by omega)
      rw [hcs] at this
      exact (World.var?_cell hg0 hv0 (k * 3)).trans this
    · have := hat 1 (by omega)
      rw [hcs] at this
      exact (World.var?_cell hg0 hv0 (k * 3 + 1)).trans this
    · have := hat 2 (by omega)
      rw [hcs] at this
      exact (World.var?_cell hg0 hv0 (k * 3 + 2)).trans this
theorem gNames : Tryd.prog.globalNamed "baffle/pkt.names" = some 0 := by kernel_rfl
theorem tNames : (Tryd.prog.globals[0]?).map (·.type) = some 103 := by kernel_rfl
theorem cStr : Tryd.prog.cellsOf 9 = 1 := by kernel_rfl
set_option maxRecDepth 100000 in
theorem names_dat {H : Type} (k : Nat) (hk : k < 31) : ∃ l : List (DataW H), Rows.laid_baffle_pkt_names = .agg l ∧ l[k]? = some (.lit (.string (nm k).data.toList)) := by
  refine ⟨_, rfl, ?_⟩
  rcases (show k = 0 ∨ k = 1 ∨ k = 2 ∨ k = 3 ∨ k = 4 ∨ k = 5 ∨ k = 6 ∨ k = 7 ∨ k = 8 ∨ k = 9 ∨ k = 10 ∨ k = 11 ∨ k = 12 ∨ k = 13 ∨ k = 14 ∨ k = 15 ∨ k = 16 ∨ k = 17 ∨ k = 18 ∨ k = 19 ∨ k = 20 ∨ k = 21 ∨ k = 22 ∨ k = 23 ∨ k = 24 ∨ k = 25 ∨ k = 26 ∨ k = 27 ∨ k = 28 ∨ k = 29 ∨ k = 30 by omega) with rfl | rfl | rfl | rfl | rfl | rfl | rfl | rfl | rfl | rfl | rfl | rfl | rfl | rfl | rfl | rfl | rfl | rfl | rfl | rfl | rfl | rfl | rfl | rfl | rfl | rfl | rfl | rfl | rfl | rfl | rfl <;> rfl
set_option maxRecDepth 100000 in
theorem names_of_vars {W : World} {r : List (String × DataW Unit)} {ps : List MemPlace} (h : DataW.LaidVars Tryd.prog W (("baffle/pkt.names", Rows.laid_baffle_pkt_names) :: r) ps) : NamesAt W := by
  obtain ⟨g0, t0, cs0, f0, p0, q0, hg0, ht0, hv0, hd0, _⟩ := h
  obtain rfl := Option.some.inj (gNames.symm.trans hg0)
  obtain rfl := Option.some.inj (tNames.symm.trans ht0)
  obtain ⟨xs, m, _, hx, _, hlen, hel⟩ := DataW.trod_array Tryd.underlying103 hd0
  intro k hk
  have h1 := hel k hk
  rw [cStr] at h1
  obtain ⟨l, e1, e2⟩ := names_dat k hk
  simp only [Prod.mk.injEq] at hx
  rw [e1] at hx
  have hl : l = xs.map (·.1) := by simpa using hx.1
  rw [hl, List.getElem?_map] at e2
  obtain ⟨x, hxk, hx1⟩ := Option.map_eq_some_iff.1 e2
  rw [hxk] at h1
  obtain ⟨s, hcs, hy, _⟩ := DataW.trod_string Tryd.underlying9 h1
  rw [hy] at hx1
  simp only [DataW.lit.injEq, Lit.string.injEq] at hx1
  have hs : s = nm k := by
    have h3 : s.data = (nm k).data := Array.ext' (by simpa using hx1)
    cases s; cases hnm : nm k; rw [hnm] at h3; simp at h3; rw [h3]
  subst hs
  have h2 : cs0[k]? = some (.string (nm k)) := by
    have := nth_of_take (l := cs0.toList) (a := k * 1) (c := .string (nm k)) hcs
    simpa using this
  exact (World.var?_cell hg0 hv0 k).trans h2
set_option maxRecDepth 100000 in
theorem laidOut : laidOutB Tryd.prog = true := by kernel_rfl
end Go.Proofs.YtebeekjcepjcnaaDoor
namespace Go.Proofs.YtebeekjcepjcnaaDoor
open Go.ChangeShapes Go.WideShapes Go.ChangeAt Go.RowKit
set_option maxRecDepth 100000 in
theorem tabs_of_vars {W : World} {r : List (String × DataW Unit)} {ps : List MemPlace} (h : DataW.LaidVars Tryd.prog W (("baffle/icmp.sorts", Rows.laid_baffle_icmp_sorts) :: ("baffle/bafflelaw10.queries", Rows.laid_baffle_bafflelaw10_queries) :: ("baffle/bafflelaw10.replies", Rows.laid_baffle_bafflelaw10_replies) :: ("baffle/bafflelaw10.errs", Rows.laid_baffle_bafflelaw10_errs) :: r) ps) :
    SortsAt W ∧ Tabs W ∧ ∃ qs, DataW.LaidVars Tryd.prog W r qs := by
  have h1 := sorts_of_vars h
  obtain ⟨_, _, _, _, _, q1, _, _, _, _, k1, _⟩ := h
  have h2 := queries_of_vars k1
  obtain ⟨_, _, _, _, _, q2, _, _, _, _, k2, _⟩ := k1
  have h3 := replies_of_vars k2
  obtain ⟨_, _, _, _, _, q3, _, _, _, _, k3, _⟩ := k2
  have h4 := errs_of_vars k3
  obtain ⟨_, _, _, _, _, q4, _, _, _, _, k4, _⟩ := k3
  exact ⟨h1, ⟨h2, h3, h4⟩, q4, k4⟩
set_option maxRecDepth 100000 in
theorem tabs5_of_laid {W : World} (h : laidMetH Tryd.prog [("baffle/icmp.sorts", Rows.laid_baffle_icmp_sorts), ("baffle/bafflelaw10.queries", Rows.laid_baffle_bafflelaw10_queries), ("baffle/bafflelaw10.replies", Rows.laid_baffle_bafflelaw10_replies), ("baffle/bafflelaw10.errs", Rows.laid_baffle_bafflelaw10_errs), ("baffle/pkt.names", Rows.laid_baffle_pkt_names)] W) : SortsAt W ∧ Tabs W ∧ NamesAt W := by
  rw [MakeChecks.laidMetH_plain _ _ _ (by kernel_rfl)] at h
  obtain ⟨ps, h1, _⟩ := h
  obtain ⟨a, b, qs, k⟩ := tabs_of_vars h1
  exact ⟨a, b, names_of_vars k⟩
end Go.Proofs.YtebeekjcepjcnaaDoor
namespace Go.Proofs.YtebeekjcepjcnaaDoor
open Go.ChangeShapes Go.WideShapes Go.ChangeAt Go.RowKit

theorem pktErrors_own : ownKnob Tryd.prog.godebug = none := by kernel_rfl

set_option maxRecDepth 100000 in
theorem pktErrors_lifted (os : Os) (started : os.Started) (H : Type) (enc : TypeId × Value → H) :
    ReturnsInHanded {} Tryd.checked os 13 .any (fun w args => (Rows.pktErrorsSpec.pre enc Tryd.prog Tryd.f13 [] false w args ∧ laidMetH Tryd.prog [("baffle/icmp.sorts", Rows.laid_baffle_icmp_sorts), ("baffle/bafflelaw10.queries", Rows.laid_baffle_bafflelaw10_queries), ("baffle/bafflelaw10.replies", Rows.laid_baffle_bafflelaw10_replies), ("baffle/bafflelaw10.errs", Rows.laid_baffle_bafflelaw10_errs), ("baffle/pkt.names", Rows.laid_baffle_pkt_names)] w) ∧ sizedMet enc Tryd.prog Tryd.f13 (OpenSpec.ofChange Rows.pktErrorsSpec) false w args)
      (Rows.pktErrorsSpec.post enc Tryd.prog Tryd.f13 false true false false) := by
  refine returnsInHanded_of_change_and (C := Tryd.checked) (X := fun w _ => laidMetH Tryd.prog [("baffle/icmp.sorts", Rows.laid_baffle_icmp_sorts), ("baffle/bafflelaw10.queries", Rows.laid_baffle_bafflelaw10_queries), ("baffle/bafflelaw10.replies", Rows.laid_baffle_bafflelaw10_replies), ("baffle/bafflelaw10.errs", Rows.laid_baffle_bafflelaw10_errs), ("baffle/pkt.names", Rows.laid_baffle_pkt_names)] w) (fun _ _ _ hh h => h.of_heap hh) pktErrors_own started (by kernel_rfl) Tryd.func13
    (ChangeSpec.witness_shaped (enc := enc) (C := Tryd.checked) (os := os) (X := fun w _ => laidMetH Tryd.prog [("baffle/icmp.sorts", Rows.laid_baffle_icmp_sorts), ("baffle/bafflelaw10.queries", Rows.laid_baffle_bafflelaw10_queries), ("baffle/bafflelaw10.replies", Rows.laid_baffle_bafflelaw10_replies), ("baffle/bafflelaw10.errs", Rows.laid_baffle_bafflelaw10_errs), ("baffle/pkt.names", Rows.laid_baffle_pkt_names)] w) false (World.laidAll Tryd.prog os [("baffle/icmp.sorts", Rows.laid_baffle_icmp_sorts), ("baffle/bafflelaw10.queries", Rows.laid_baffle_bafflelaw10_queries), ("baffle/bafflelaw10.replies", Rows.laid_baffle_bafflelaw10_replies), ("baffle/bafflelaw10.errs", Rows.laid_baffle_bafflelaw10_errs), ("baffle/pkt.names", Rows.laid_baffle_pkt_names)]) #[Sm.zero.val, .int .u8 0, .int .u8 0] 8 (World.laidAll_os _ _ _)
      (World.shaped_of_ZipB (by kernel_rfl) (by kernel_rfl)) (by kernel_rfl) (by kernel_rfl) (by kernel_rfl)
      (by rw [MakeChecks.laidMetH_plain _ _ _ (by kernel_rfl)]; exact laidMet_laidAll _ (by kernel_rfl) (by kernel_rfl))) ?_
  intro W base args ds gs before hval0 hW _ _ hL _
  have hval : ∀ (j : Nat) t v, Tryd.f13.params[j]? = some t → args[j]? = some v → Value.okWide Tryd.prog W .any base t v := hval0
  have hW' := hW
  obtain ⟨p, q, hA0, hV, rfl, _, _⟩ := hW
  have hA : DataW.TrodAll enc Tryd.prog W 0 (fun _ => true) true Tryd.f13.params.toList args.toList ds p := hA0
  rw [Tryd.params13] at hA hval
  obtain ⟨v0, v1, v2, d0, d1, d2, p0, p1, p2, rfl, rfl, rfl, h0, h1, h2⟩ := trodAll_three hA
  obtain ⟨rfl, rfl⟩ := trodVars_none hV
  have h0k := h0
  obtain ⟨x0, rfl, hx0, hS0⟩ := open_small (hval 0 65 v0 rfl rfl) h0
  obtain ⟨k1, rfl, rfl, rfl, wk1⟩ := open_int Tryd.underlying5 (hval 1 5 v1 rfl rfl) h1
  have hk1 := wf_u8.1 wk1
  obtain ⟨k2, rfl, rfl, rfl, wk2⟩ := open_int Tryd.underlying5 (hval 2 5 v2 rfl rfl) h2
  have hk2 := wf_u8.1 wk2
  simp only [List.append_nil] at hW'
  obtain ⟨hs, hT, hm⟩ := tabs5_of_laid hL
  refine (pktErrors_any x0 hx0 k1 k2 W hS0 hk1.1 hk1.2 hk2.1 hk2.2 hT hs hm).mono fun e W' ⟨he, hb⟩ => ?_
  subst he
  have hargs0 : DataW.Trod enc Tryd.prog W' 0 (fun b => decide (b < W.heap.size)) true 65 x0.val d0 p0 :=
    Below.trod laidOut (by kernel_rfl) (of_decide_eq_true (by kernel_rfl)) h0k hb (fun x hx => by simpa using hW'.lt x (by simp [hx]))
  exact ⟨_, rfl, _, _, _, [], _, [], hW', trodAll_mk1 (shut_bool Tryd.underlying4 _), trodAll_mk3 hargs0 (shut_int Tryd.underlying5 wk1) (shut_int Tryd.underlying5 wk2), rfl, hb.frame _, fun h => by cases h⟩

theorem pktErrors_said : Rows.PktErrorsSaid :=
  OpenClaim.holds_of_wide 13 Tryd.f13 rfl rfl rfl rfl rfl rfl rfl ⟨rfl, rfl, rfl, rfl, rfl⟩ rfl rfl rfl rfl rfl (by kernel_rfl) Tryd.func13 (by kernel_rfl)
    (of_decide_eq_true (by kernel_rfl)) (by unfold Func.isWrapper; first | (rw [if_pos (by decide +kernel)]; kernel_rfl) | (rw [if_neg (by decide +kernel)]; exact ⟨rfl, rfl⟩))
    (fun os started H enc _ => pktErrors_lifted os started H enc)
theorem pktErrors_holds : Rows.PktErrorsCardSaid :=
  Claim7.holds_tied_plain_at .later [] [.data, .data, .data, .data, .widerDeep] true (true, "dd93f4b7c9a88cb90f552fa58855603d9bfaed904102ad2aa0d3c19c49d1742f") false pktErrors_said (fun _ h => by cases h) (by kernel_rfl) (fun _ h => by cases h) pktErrors_row_tie rfl ⟨rfl, rfl⟩ (by kernel_rfl) rfl
    (fun f fn hf hfn => by
      obtain rfl : f = 13 := Option.some.inj ((show Tryd.prog.funcNamed "baffle/bafflelaw11.PktErrors" = some 13 by kernel_rfl).symm.trans hf) |>.symm
      obtain rfl : fn = Tryd.f13 := (Option.some.inj (Tryd.func13.symm.trans hfn)).symm
      exact ⟨by kernel_rfl, fun j t ht => by
        rw [Tryd.params13] at ht
        have hm : t ∈ [65, 5, 5] := by simpa using Array.mem_of_getElem? ht
        have hall : ([65, 5, 5].all fun u => !Tryd.prog.wantsStandIn u) = true := by kernel_rfl
        exact (show Tryd.prog.wantsStandIn t = false by simpa using List.all_eq_true.1 hall t hm)⟩)
    (by kernel_rfl)
#print axioms pktErrors_holds
end Go.Proofs.YtebeekjcepjcnaaDoor
