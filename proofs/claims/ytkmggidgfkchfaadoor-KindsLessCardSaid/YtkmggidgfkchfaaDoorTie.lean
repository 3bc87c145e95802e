/-
  DERIVED. GIVEN WITH THE SEED: THE PROGRAM's TIES (one call each: nine closed facts by the kernel) AND EACH ROW's TIE, after the 31st guide's Derived/Test/Toyas{Tie, Card}.lean. No idea stands in it: it is a product of the set-up. Laid BY PROGRAM, IN A SANDBOX (cutbox-door.mjs). By AI agents, Wed Nov 11 2026. No macro, syntax, notation, axiom, sorry.
-/
import Derived.Test.YtkmggidgfkchfaaDoorRows
import Derived.LaidByTextLater
import Derived.SevenTiedAt
import Derived.LaidSub
import Derived.LaidOnce
namespace Go.Proofs.YtkmggidgfkchfaaDoor
open Go
set_option maxRecDepth 100000
theorem seatTie1 : Tryd.prog.laidByTextLater [("firewall/scalars.ops", Rows.laid_firewall_scalars_ops), ("firewall/scalars.opposite", Rows.laid_firewall_scalars_opposite)] [.funcs, .mapped] true :=
  Program.laidByTextLater_by_one 117 8 2 (by kernel_rfl) (by kernel_rfl) (by kernel_rfl) (by kernel_rfl) (by kernel_rfl) (by kernel_rfl) (fun _ _ => by kernel_rfl)
theorem noOwnUnsafe : Tryd.pinned.checked.prog.headLifts.contains "ownunsafe" = false := by kernel_rfl
theorem tie : Tryd.prog.laidByTextLater [("firewall/scalars.ops", Rows.laid_firewall_scalars_ops)] [.funcs] true :=
  Program.laidByTextLater.sub seatTie1 ["firewall/scalars.ops"] (by kernel_rfl) (by kernel_rfl)
theorem kindsAdd_row_tie : Rows.kindsAddRow.laidByTextAt .later Tryd.pinned [.funcs] true :=
  OpenClaim.laidByTextAt_later rfl rfl tie noOwnUnsafe
theorem kindsIn_row_tie : Rows.kindsInRow.laidByTextAt .later Tryd.pinned [.funcs] true :=
  OpenClaim.laidByTextAt_later rfl rfl tie noOwnUnsafe
theorem kindsLess_row_tie : Rows.kindsLessRow.laidByTextAt .later Tryd.pinned [.funcs] true :=
  OpenClaim.laidByTextAt_later rfl rfl tie noOwnUnsafe
theorem tie2 : Tryd.prog.laidByTextLater [("firewall/scalars.ops", Rows.laid_firewall_scalars_ops), ("firewall/scalars.opposite", Rows.laid_firewall_scalars_opposite)] [.funcs, .mapped] true :=
  Program.laidByTextLater.sub seatTie1 ["firewall/scalars.ops", "firewall/scalars.opposite"] (by kernel_rfl) (by kernel_rfl)
theorem scalarsDo_row_tie : Rows.scalarsDoRow.laidByTextAt .later Tryd.pinned [.funcs, .mapped] true :=
  OpenClaim.laidByTextAt_later rfl rfl tie2 noOwnUnsafe
theorem scalarsAssume_row_tie : Rows.scalarsAssumeRow.laidByTextAt .later Tryd.pinned [.funcs, .mapped] true :=
  OpenClaim.laidByTextAt_later rfl rfl tie2 noOwnUnsafe
theorem scalarsExact_row_tie : Rows.scalarsExactRow.laidByTextAt .later Tryd.pinned [.funcs, .mapped] true :=
  OpenClaim.laidByTextAt_later rfl rfl tie2 noOwnUnsafe
theorem scalarsTight_row_tie : Rows.scalarsTightRow.laidByTextAt .later Tryd.pinned [.funcs, .mapped] true :=
  OpenClaim.laidByTextAt_later rfl rfl tie2 noOwnUnsafe
theorem scalarsRaw_row_tie : Rows.scalarsRawRow.laidByTextAt .later Tryd.pinned [.funcs, .mapped] true :=
  OpenClaim.laidByTextAt_later rfl rfl tie2 noOwnUnsafe
theorem kindsAddUpto_row_tie : Rows.kindsAddUptoRow.laidByTextAt .later Tryd.pinned [.funcs] true :=
  OpenClaim.laidByTextAt_later rfl rfl tie noOwnUnsafe
theorem kindsInUpto_row_tie : Rows.kindsInUptoRow.laidByTextAt .later Tryd.pinned [.funcs] true :=
  OpenClaim.laidByTextAt_later rfl rfl tie noOwnUnsafe
theorem kindsLessUpto_row_tie : Rows.kindsLessUptoRow.laidByTextAt .later Tryd.pinned [.funcs] true :=
  OpenClaim.laidByTextAt_later rfl rfl tie noOwnUnsafe
theorem scalarsDoUpto_row_tie : Rows.scalarsDoUptoRow.laidByTextAt .later Tryd.pinned [.funcs, .mapped] true :=
  OpenClaim.laidByTextAt_later rfl rfl tie2 noOwnUnsafe
theorem scalarsAssumeUpto_row_tie : Rows.scalarsAssumeUptoRow.laidByTextAt .later Tryd.pinned [.funcs, .mapped] true :=
  OpenClaim.laidByTextAt_later rfl rfl tie2 noOwnUnsafe
theorem scalarsExactUpto_row_tie : Rows.scalarsExactUptoRow.laidByTextAt .later Tryd.pinned [.funcs, .mapped] true :=
  OpenClaim.laidByTextAt_later rfl rfl tie2 noOwnUnsafe
theorem scalarsTightUpto_row_tie : Rows.scalarsTightUptoRow.laidByTextAt .later Tryd.pinned [.funcs, .mapped] true :=
  OpenClaim.laidByTextAt_later rfl rfl tie2 noOwnUnsafe
theorem scalarsRawUpto_row_tie : Rows.scalarsRawUptoRow.laidByTextAt .later Tryd.pinned [.funcs, .mapped] true :=
  OpenClaim.laidByTextAt_later rfl rfl tie2 noOwnUnsafe
end Go.Proofs.YtkmggidgfkchfaaDoor
