/-
  DERIVED. GIVEN WITH THE SEED: THE PROGRAM's TIES (one call each: nine closed facts by the kernel) AND EACH ROW's TIE, after the 31st guide's Derived/Test/Toyas{Tie, Card}.lean. No idea stands in it: it is a product of the set-up. Laid BY PROGRAM, IN A SANDBOX (cutbox-door.mjs). By AI agents, Wed Nov 11 2026. No macro, syntax, notation, axiom, sorry.
-/
import Derived.Test.YtikhekbdliblnaaDoorRows
import Derived.LaidByTextLater
import Derived.SevenTiedAt
import Derived.LaidSub
import Derived.LaidOnce
namespace Go.Proofs.YtikhekbdliblnaaDoor
open Go
set_option maxRecDepth 100000
theorem seatTie1 : Tryd.prog.laidByTextLater [("firewall/conds.orders", Rows.laid_firewall_conds_orders), ("firewall/conds.signed", Rows.laid_firewall_conds_signed), ("firewall/insns.sizes", Rows.laid_firewall_insns_sizes)] [.mapped, .mapped, .mapped] true :=
  Program.laidByTextLater_by_one 140 8 2 (by kernel_rfl) (by kernel_rfl) (by kernel_rfl) (by kernel_rfl) (by kernel_rfl) (by kernel_rfl) (fun _ _ => by kernel_rfl)
theorem noOwnUnsafe : Tryd.pinned.checked.prog.headLifts.contains "ownunsafe" = false := by kernel_rfl
theorem tie : Tryd.prog.laidByTextLater [("firewall/conds.orders", Rows.laid_firewall_conds_orders), ("firewall/conds.signed", Rows.laid_firewall_conds_signed)] [.mapped, .mapped] true :=
  Program.laidByTextLater.sub seatTie1 ["firewall/conds.orders", "firewall/conds.signed"] (by kernel_rfl) (by kernel_rfl)
theorem condsTell_row_tie : Rows.condsTellRow.laidByTextAt .later Tryd.pinned [.mapped, .mapped] true :=
  OpenClaim.laidByTextAt_later rfl rfl tie noOwnUnsafe
theorem condsOther_row_tie : Rows.condsOtherRow.laidByTextAt .later Tryd.pinned [.mapped, .mapped] true :=
  OpenClaim.laidByTextAt_later rfl rfl tie noOwnUnsafe
theorem condsSigned_row_tie : Rows.condsSignedRow.laidByTextAt .later Tryd.pinned [.mapped, .mapped] true :=
  OpenClaim.laidByTextAt_later rfl rfl tie noOwnUnsafe
theorem condsBits_row_tie : Rows.condsBitsRow.laidByTextAt .later Tryd.pinned [.mapped, .mapped] true :=
  OpenClaim.laidByTextAt_later rfl rfl tie noOwnUnsafe
theorem tie2 : Tryd.prog.laidByTextLater [("firewall/insns.sizes", Rows.laid_firewall_insns_sizes)] [.mapped] true :=
  Program.laidByTextLater.sub seatTie1 ["firewall/insns.sizes"] (by kernel_rfl) (by kernel_rfl)
theorem insnsCheck_row_tie : Rows.insnsCheckRow.laidByTextAt .later Tryd.pinned [.mapped] true :=
  OpenClaim.laidByTextAt_later rfl rfl tie2 noOwnUnsafe
theorem insnsMany_row_tie : Rows.insnsManyRow.laidByTextAt .later Tryd.pinned [.mapped] true :=
  OpenClaim.laidByTextAt_later rfl rfl tie2 noOwnUnsafe
theorem condsTellUpto_row_tie : Rows.condsTellUptoRow.laidByTextAt .later Tryd.pinned [.mapped, .mapped] true :=
  OpenClaim.laidByTextAt_later rfl rfl tie noOwnUnsafe
theorem condsOtherUpto_row_tie : Rows.condsOtherUptoRow.laidByTextAt .later Tryd.pinned [.mapped, .mapped] true :=
  OpenClaim.laidByTextAt_later rfl rfl tie noOwnUnsafe
theorem condsSignedUpto_row_tie : Rows.condsSignedUptoRow.laidByTextAt .later Tryd.pinned [.mapped, .mapped] true :=
  OpenClaim.laidByTextAt_later rfl rfl tie noOwnUnsafe
theorem condsBitsUpto_row_tie : Rows.condsBitsUptoRow.laidByTextAt .later Tryd.pinned [.mapped, .mapped] true :=
  OpenClaim.laidByTextAt_later rfl rfl tie noOwnUnsafe
theorem insnsCheckUpto_row_tie : Rows.insnsCheckUptoRow.laidByTextAt .later Tryd.pinned [.mapped] true :=
  OpenClaim.laidByTextAt_later rfl rfl tie2 noOwnUnsafe
theorem insnsManyUpto_row_tie : Rows.insnsManyUptoRow.laidByTextAt .later Tryd.pinned [.mapped] true :=
  OpenClaim.laidByTextAt_later rfl rfl tie2 noOwnUnsafe
end Go.Proofs.YtikhekbdliblnaaDoor
