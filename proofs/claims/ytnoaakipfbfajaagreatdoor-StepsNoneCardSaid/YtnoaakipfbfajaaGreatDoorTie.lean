/-
  DERIVED. GIVEN WITH THE SEED: THE PROGRAM's TIES (one call each: nine closed facts by the kernel) AND EACH ROW's TIE, after the 31st guide's Derived/Test/Toyas{Tie, Card}.lean. No idea stands in it: it is a product of the set-up. Laid BY PROGRAM, IN A SANDBOX (cutbox-door.mjs). By AI agents, Wed Nov 11 2026. No macro, syntax, notation, axiom, sorry.
-/
import Derived.Test.YtnoaakipfbfajaaGreatDoorRows
import Derived.LaidByTextLater
import Derived.SevenTiedAt
import Derived.LaidSub
import Derived.LaidOnce
namespace Go.Proofs.YtnoaakipfbfajaaGreatDoor
open Go
set_option maxRecDepth 100000
theorem seatTie1 : Tryz.prog.laidByTextLater [("firewall/insns.sizes", Rows.laid_firewall_insns_sizes), ("firewall/scalars.ops", Rows.laid_firewall_scalars_ops), ("firewall/scalars.opposite", Rows.laid_firewall_scalars_opposite), ("firewall/steps.turned", Rows.laid_firewall_steps_turned)] [.mapped, .funcs, .mapped, .mapped] true :=
  Program.laidByTextLater_by_one 207 8 2 (by kernel_rfl) (by kernel_rfl) (by kernel_rfl) (by kernel_rfl) (by kernel_rfl) (by kernel_rfl) (fun _ _ => by kernel_rfl)
theorem noOwnUnsafe : Tryz.pinned.checked.prog.headLifts.contains "ownunsafe" = false := by kernel_rfl
theorem tie : Tryz.prog.laidByTextLater [("firewall/insns.sizes", Rows.laid_firewall_insns_sizes), ("firewall/scalars.ops", Rows.laid_firewall_scalars_ops), ("firewall/scalars.opposite", Rows.laid_firewall_scalars_opposite), ("firewall/steps.turned", Rows.laid_firewall_steps_turned)] [.mapped, .funcs, .mapped, .mapped] true :=
  Program.laidByTextLater.sub seatTie1 ["firewall/insns.sizes", "firewall/scalars.ops", "firewall/scalars.opposite", "firewall/steps.turned"] (by kernel_rfl) (by kernel_rfl)
theorem stepsNone_row_tie : Rows.stepsNoneRow.laidByTextAt .later Tryz.pinned [.mapped, .funcs, .mapped, .mapped] true :=
  OpenClaim.laidByTextAt_later rfl rfl tie noOwnUnsafe
theorem stepsNoneUpto_row_tie : Rows.stepsNoneUptoRow.laidByTextAt .later Tryz.pinned [.mapped, .funcs, .mapped, .mapped] true :=
  OpenClaim.laidByTextAt_later rfl rfl tie noOwnUnsafe
end Go.Proofs.YtnoaakipfbfajaaGreatDoor
