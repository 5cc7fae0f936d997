/-
  DERIVED. GIVEN WITH THE SEED: THE PROGRAM's TIES (one call each: nine closed facts by the kernel) AND EACH ROW's TIE, after the 31st guide's Derived/Test/Toyas{Tie, Card}.lean. No idea stands in it: it is a product of the set-up. Laid BY PROGRAM, IN A SANDBOX (cutbox-door.mjs). By AI agents, Wed Nov 11 2026. No macro, syntax, notation, axiom, sorry.
-/
import Derived.Test.YtebeekjcepjcnaaGreatDoorRows
import Derived.LaidByTextLater
import Derived.SevenTiedAt
import Derived.LaidSub
import Derived.LaidOnce
namespace Go.Proofs.YtebeekjcepjcnaaGreatDoor
open Go
set_option maxRecDepth 100000
theorem seatTie1 : Tryz.prog.laidByTextLater [("baffle/icmp.sorts", Rows.laid_baffle_icmp_sorts), ("baffle/bafflelaw10.queries", Rows.laid_baffle_bafflelaw10_queries), ("baffle/bafflelaw10.replies", Rows.laid_baffle_bafflelaw10_replies), ("baffle/bafflelaw10.errs", Rows.laid_baffle_bafflelaw10_errs)] [.data, .data, .data, .data] true :=
  Program.laidByTextLater_by_one 45 8 58 (by kernel_rfl) (by kernel_rfl) (by kernel_rfl) (by kernel_rfl) (by kernel_rfl) (by kernel_rfl) (fun _ _ => by kernel_rfl)
theorem noOwnUnsafe : Tryz.pinned.checked.prog.headLifts.contains "ownunsafe" = false := by kernel_rfl
theorem tie : Tryz.prog.laidByTextLater [("baffle/icmp.sorts", Rows.laid_baffle_icmp_sorts), ("baffle/bafflelaw10.queries", Rows.laid_baffle_bafflelaw10_queries), ("baffle/bafflelaw10.replies", Rows.laid_baffle_bafflelaw10_replies), ("baffle/bafflelaw10.errs", Rows.laid_baffle_bafflelaw10_errs)] [.data, .data, .data, .data] true :=
  Program.laidByTextLater.sub seatTie1 ["baffle/icmp.sorts", "baffle/bafflelaw10.queries", "baffle/bafflelaw10.replies", "baffle/bafflelaw10.errs"] (by kernel_rfl) (by kernel_rfl)
theorem buildRejects_row_tie : Rows.buildRejectsRow.laidByTextAt .later Tryz.pinned [.data, .data, .data, .data] true :=
  OpenClaim.laidByTextAt_later rfl rfl tie noOwnUnsafe
theorem buildBack_row_tie : Rows.buildBackRow.laidByTextAt .later Tryz.pinned [.data, .data, .data, .data] true :=
  OpenClaim.laidByTextAt_later rfl rfl tie noOwnUnsafe
theorem buildRejectsUpto_row_tie : Rows.buildRejectsUptoRow.laidByTextAt .later Tryz.pinned [.data, .data, .data, .data] true :=
  OpenClaim.laidByTextAt_later rfl rfl tie noOwnUnsafe
theorem buildBackUpto_row_tie : Rows.buildBackUptoRow.laidByTextAt .later Tryz.pinned [.data, .data, .data, .data] true :=
  OpenClaim.laidByTextAt_later rfl rfl tie noOwnUnsafe
end Go.Proofs.YtebeekjcepjcnaaGreatDoor
