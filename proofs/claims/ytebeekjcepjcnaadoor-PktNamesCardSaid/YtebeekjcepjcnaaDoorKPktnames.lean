/-
  bafflelaw11.PktNames returns true for every input and leaves its arguments as they were; the package-level tables icmp.sorts and pkt.names read at the start as the program's text lays them (tied by the card).
-/
import Derived.Test.YtebeekjcepjcnaaDoorKPcard
import Derived.Test.YtebeekjcepjcnaaDoorKRpname
import Derived.Test.YtebeekjcepjcnaaDoorTie
import Derived.Test.YtebeekjcepjcnaaDoorCards
import Derived.ChangeMaps5
import Derived.Handy
import Derived.SevenTiedAt
namespace Go.Proofs.YtebeekjcepjcnaaDoor
open Go.ChangeShapes Go.WideShapes Go.ChangeAt Go.RowKit

theorem ownN : ownKnob Tryd.prog.godebug = none := by kernel_rfl
set_option maxRecDepth 100000 in
theorem pktNames_lifted (os : Os) (started : os.Started) (H : Type) (enc : TypeId × Value → H) :
    ReturnsInHanded {} Tryd.checked os 6 .any (fun w args => (Rows.pktNamesSpec.pre enc Tryd.prog Tryd.f6 [] false w args ∧ laidMetH Tryd.prog [("baffle/icmp.sorts", Rows.laid_baffle_icmp_sorts), ("baffle/pkt.names", Rows.laid_baffle_pkt_names)] w) ∧ sizedMet enc Tryd.prog Tryd.f6 (OpenSpec.ofChange Rows.pktNamesSpec) false w args)
      (Rows.pktNamesSpec.post enc Tryd.prog Tryd.f6 false true false false) := by
  refine returnsInHanded_of_change_and (C := Tryd.checked) (X := fun w _ => laidMetH Tryd.prog [("baffle/icmp.sorts", Rows.laid_baffle_icmp_sorts), ("baffle/pkt.names", Rows.laid_baffle_pkt_names)] w) (fun _ _ _ hh h => h.of_heap hh) ownN started (by kernel_rfl) Tryd.func6
    (ChangeSpec.witness_shaped (enc := enc) (C := Tryd.checked) (os := os) (X := fun w _ => laidMetH Tryd.prog [("baffle/icmp.sorts", Rows.laid_baffle_icmp_sorts), ("baffle/pkt.names", Rows.laid_baffle_pkt_names)] w) false (World.laidAll Tryd.prog os [("baffle/icmp.sorts", Rows.laid_baffle_icmp_sorts), ("baffle/pkt.names", Rows.laid_baffle_pkt_names)]) #[.int .u8 0, .string ⟨#[]⟩] 8 (World.laidAll_os _ _ _)
      (World.shaped_of_ZipB (by kernel_rfl) (by kernel_rfl)) (by kernel_rfl) (by kernel_rfl) (by kernel_rfl)
      (by rw [MakeChecks.laidMetH_plain _ _ _ (by kernel_rfl)]; exact laidMet_laidAll _ (by kernel_rfl) (by kernel_rfl))) ?_
  intro W base args ds gs before hval0 hW _ _ hL _
  have hval : ∀ (j : Nat) t v, Tryd.f6.params[j]? = some t → args[j]? = some v → Value.okWide Tryd.prog W .any base t v := hval0
  have hW' := hW
  obtain ⟨p, q, hA0, hV, rfl, _, _⟩ := hW
  have hA : DataW.TrodAll enc Tryd.prog W 0 (fun _ => true) true Tryd.f6.params.toList args.toList ds p := hA0
  rw [Tryd.params6] at hA hval
  obtain ⟨v0, v1, d0, d1, p0, p1, rfl, rfl, rfl, h0, h1⟩ := trodAll_two hA
  obtain ⟨rfl, rfl⟩ := trodVars_none hV
  obtain ⟨k, rfl, rfl, rfl, wk⟩ := open_int Tryd.underlying5 (hval 0 5 v0 rfl rfl) h0
  obtain ⟨s, rfl, rfl, rfl, hsz⟩ := Go.ChangeMaps.open_string Tryd.underlying9 (hval 1 9 v1 rfl rfl) h1
  have hk := wf_u8.1 wk
  obtain ⟨kn, rfl⟩ : ∃ n : Nat, k = n := ⟨k.toNat, by omega⟩
  simp only [List.append_nil] at hW'
  obtain ⟨hs, hm⟩ := tables_of_laid hL
  refine (pktNames_any kn s W (by omega) hs hm).mono fun e W' ⟨he, hb⟩ => ?_
  subst he
  exact ⟨_, rfl, _, _, _, [], [], [], hW', trodAll_mk1 (shut_bool Tryd.underlying4 _), trodAll_mk2 (shut_int Tryd.underlying5 wk) (Go.ChangeMaps.shut_string Tryd.underlying9 hsz), rfl, hb.frame _, fun h => by cases h⟩

theorem pktNames_said : Rows.PktNamesSaid :=
  OpenClaim.holds_of_wide 6 Tryd.f6 rfl rfl rfl rfl rfl rfl rfl ⟨rfl, rfl, rfl, rfl, rfl⟩ rfl rfl rfl rfl rfl (by kernel_rfl) Tryd.func6 (by kernel_rfl)
    (of_decide_eq_true (by kernel_rfl)) (by unfold Func.isWrapper; first | (rw [if_pos (by decide +kernel)]; kernel_rfl) | (rw [if_neg (by decide +kernel)]; exact ⟨rfl, rfl⟩))
    (fun os started H enc _ => pktNames_lifted os started H enc)
theorem pktNames_holds : Rows.PktNamesCardSaid :=
  Claim7.holds_tied_plain_at .later [] [.data, .widerDeep] true (true, "dd93f4b7c9a88cb90f552fa58855603d9bfaed904102ad2aa0d3c19c49d1742f") false pktNames_said (fun _ h => by cases h) (by kernel_rfl) (fun _ h => by cases h) pktNames_row_tie rfl ⟨rfl, rfl⟩ (by kernel_rfl) rfl
    (fun f fn hf hfn => by
      obtain rfl : f = 6 := Option.some.inj ((show Tryd.prog.funcNamed "baffle/bafflelaw11.PktNames" = some 6 by kernel_rfl).symm.trans hf) |>.symm
      obtain rfl : fn = Tryd.f6 := (Option.some.inj (Tryd.func6.symm.trans hfn)).symm
      exact ⟨by kernel_rfl, fun j t ht => by
        rw [Tryd.params6] at ht
        have hm : t ∈ [5, 9] := by simpa using Array.mem_of_getElem? ht
        have hall : ([5, 9].all fun u => !Tryd.prog.wantsStandIn u) = true := by kernel_rfl
        exact (show Tryd.prog.wantsStandIn t = false by simpa using List.all_eq_true.1 hall t hm)⟩)
    (by kernel_rfl)
#print axioms pktNames_holds
end Go.Proofs.YtebeekjcepjcnaaDoor
