/-
  DERIVED. GIVEN WITH THE SEED: THE PROGRAM's TIES (one call each: nine closed facts by the kernel) AND EACH ROW's TIE, after the 31st guide's Derived/Test/Toyas{Tie, Card}.lean. No idea stands in it: it is a product of the set-up. Laid BY PROGRAM, IN A SANDBOX (cutbox-door.mjs). By AI agents, Wed Nov 11 2026. No macro, syntax, notation, axiom, sorry.
-/
import Derived.Test.YtppankimieopiaaDoorRows
import Derived.LaidByTextLater
import Derived.SevenTiedAt
import Derived.LaidSub
import Derived.LaidOnce
namespace Go.Proofs.YtppankimieopiaaDoor
open Go
set_option maxRecDepth 100000
theorem seatTie1 : Tryd.prog.laidByTextLater [("firewall/conds.orders", Rows.laid_firewall_conds_orders), ("firewall/conds.signed", Rows.laid_firewall_conds_signed), ("firewall/codec.forms", Rows.laid_firewall_codec_forms), ("firewall/codec.loads", Rows.laid_firewall_codec_loads), ("firewall/codec.stores", Rows.laid_firewall_codec_stores), ("firewall/codec.conds", Rows.laid_firewall_codec_conds), ("firewall/cpu.does", Rows.laid_firewall_cpu_does), ("firewall/cpu.shifts", Rows.laid_firewall_cpu_shifts)] [.mapped, .mapped, .data, .mapped, .mapped, .widerDeep, .mapped, .mapped] true :=
  Program.laidByTextLater_by_one 211 8 155 (by kernel_rfl) (by kernel_rfl) (by kernel_rfl) (by kernel_rfl) (by kernel_rfl) (by kernel_rfl) (fun _ _ => by kernel_rfl)
theorem noOwnUnsafe : Tryd.pinned.checked.prog.headLifts.contains "ownunsafe" = false := by kernel_rfl
theorem tie : Tryd.prog.laidByTextLater [("firewall/codec.forms", Rows.laid_firewall_codec_forms), ("firewall/codec.loads", Rows.laid_firewall_codec_loads), ("firewall/codec.conds", Rows.laid_firewall_codec_conds), ("firewall/cpu.does", Rows.laid_firewall_cpu_does), ("firewall/cpu.shifts", Rows.laid_firewall_cpu_shifts)] [.data, .mapped, .widerDeep, .mapped, .mapped] true :=
  Program.laidByTextLater.sub seatTie1 ["firewall/codec.forms", "firewall/codec.loads", "firewall/codec.conds", "firewall/cpu.does", "firewall/cpu.shifts"] (by kernel_rfl) (by kernel_rfl)
theorem cpuExec_row_tie : Rows.cpuExecRow.laidByTextAt .later Tryd.pinned [.data, .mapped, .widerDeep, .mapped, .mapped] true :=
  OpenClaim.laidByTextAt_later rfl rfl tie noOwnUnsafe
theorem cpuReckons_row_tie : Rows.cpuReckonsRow.laidByTextAt .later Tryd.pinned [.data, .mapped, .widerDeep, .mapped, .mapped] true :=
  OpenClaim.laidByTextAt_later rfl rfl tie noOwnUnsafe
theorem cpuStays_row_tie : Rows.cpuStaysRow.laidByTextAt .later Tryd.pinned [.data, .mapped, .widerDeep, .mapped, .mapped] true :=
  OpenClaim.laidByTextAt_later rfl rfl tie noOwnUnsafe
theorem cpuTaken_row_tie : Rows.cpuTakenRow.laidByTextAt .later Tryd.pinned [.data, .mapped, .widerDeep, .mapped, .mapped] true :=
  OpenClaim.laidByTextAt_later rfl rfl tie noOwnUnsafe
theorem tie2 : Tryd.prog.laidByTextLater [("firewall/codec.forms", Rows.laid_firewall_codec_forms), ("firewall/codec.loads", Rows.laid_firewall_codec_loads), ("firewall/codec.stores", Rows.laid_firewall_codec_stores), ("firewall/codec.conds", Rows.laid_firewall_codec_conds)] [.data, .mapped, .mapped, .widerDeep] true :=
  Program.laidByTextLater.sub seatTie1 ["firewall/codec.forms", "firewall/codec.loads", "firewall/codec.stores", "firewall/codec.conds"] (by kernel_rfl) (by kernel_rfl)
theorem codecTell_row_tie : Rows.codecTellRow.laidByTextAt .later Tryd.pinned [.data, .mapped, .mapped, .widerDeep] true :=
  OpenClaim.laidByTextAt_later rfl rfl tie2 noOwnUnsafe
theorem codecBytes_row_tie : Rows.codecBytesRow.laidByTextAt .later Tryd.pinned [.data, .mapped, .mapped, .widerDeep] true :=
  OpenClaim.laidByTextAt_later rfl rfl tie2 noOwnUnsafe
theorem codecBack_row_tie : Rows.codecBackRow.laidByTextAt .later Tryd.pinned [.data, .mapped, .mapped, .widerDeep] true :=
  OpenClaim.laidByTextAt_later rfl rfl tie2 noOwnUnsafe
theorem codecOne_row_tie : Rows.codecOneRow.laidByTextAt .later Tryd.pinned [.data, .mapped, .mapped, .widerDeep] true :=
  OpenClaim.laidByTextAt_later rfl rfl tie2 noOwnUnsafe
theorem codecUnused_row_tie : Rows.codecUnusedRow.laidByTextAt .later Tryd.pinned [.data, .mapped, .mapped, .widerDeep] true :=
  OpenClaim.laidByTextAt_later rfl rfl tie2 noOwnUnsafe
theorem tie3 : Tryd.prog.laidByTextLater [("firewall/conds.orders", Rows.laid_firewall_conds_orders), ("firewall/conds.signed", Rows.laid_firewall_conds_signed), ("firewall/codec.forms", Rows.laid_firewall_codec_forms), ("firewall/codec.loads", Rows.laid_firewall_codec_loads), ("firewall/codec.conds", Rows.laid_firewall_codec_conds), ("firewall/cpu.does", Rows.laid_firewall_cpu_does), ("firewall/cpu.shifts", Rows.laid_firewall_cpu_shifts)] [.mapped, .mapped, .data, .mapped, .widerDeep, .mapped, .mapped] true :=
  Program.laidByTextLater.sub seatTie1 ["firewall/conds.orders", "firewall/conds.signed", "firewall/codec.forms", "firewall/codec.loads", "firewall/codec.conds", "firewall/cpu.does", "firewall/cpu.shifts"] (by kernel_rfl) (by kernel_rfl)
theorem cpuCompare_row_tie : Rows.cpuCompareRow.laidByTextAt .later Tryd.pinned [.mapped, .mapped, .data, .mapped, .widerDeep, .mapped, .mapped] true :=
  OpenClaim.laidByTextAt_later rfl rfl tie3 noOwnUnsafe
theorem cpuExecUpto_row_tie : Rows.cpuExecUptoRow.laidByTextAt .later Tryd.pinned [.data, .mapped, .widerDeep, .mapped, .mapped] true :=
  OpenClaim.laidByTextAt_later rfl rfl tie noOwnUnsafe
theorem cpuReckonsUpto_row_tie : Rows.cpuReckonsUptoRow.laidByTextAt .later Tryd.pinned [.data, .mapped, .widerDeep, .mapped, .mapped] true :=
  OpenClaim.laidByTextAt_later rfl rfl tie noOwnUnsafe
theorem cpuStaysUpto_row_tie : Rows.cpuStaysUptoRow.laidByTextAt .later Tryd.pinned [.data, .mapped, .widerDeep, .mapped, .mapped] true :=
  OpenClaim.laidByTextAt_later rfl rfl tie noOwnUnsafe
theorem codecTellUpto_row_tie : Rows.codecTellUptoRow.laidByTextAt .later Tryd.pinned [.data, .mapped, .mapped, .widerDeep] true :=
  OpenClaim.laidByTextAt_later rfl rfl tie2 noOwnUnsafe
theorem codecBytesUpto_row_tie : Rows.codecBytesUptoRow.laidByTextAt .later Tryd.pinned [.data, .mapped, .mapped, .widerDeep] true :=
  OpenClaim.laidByTextAt_later rfl rfl tie2 noOwnUnsafe
theorem codecBackUpto_row_tie : Rows.codecBackUptoRow.laidByTextAt .later Tryd.pinned [.data, .mapped, .mapped, .widerDeep] true :=
  OpenClaim.laidByTextAt_later rfl rfl tie2 noOwnUnsafe
theorem codecOneUpto_row_tie : Rows.codecOneUptoRow.laidByTextAt .later Tryd.pinned [.data, .mapped, .mapped, .widerDeep] true :=
  OpenClaim.laidByTextAt_later rfl rfl tie2 noOwnUnsafe
theorem codecUnusedUpto_row_tie : Rows.codecUnusedUptoRow.laidByTextAt .later Tryd.pinned [.data, .mapped, .mapped, .widerDeep] true :=
  OpenClaim.laidByTextAt_later rfl rfl tie2 noOwnUnsafe
theorem cpuTakenUpto_row_tie : Rows.cpuTakenUptoRow.laidByTextAt .later Tryd.pinned [.data, .mapped, .widerDeep, .mapped, .mapped] true :=
  OpenClaim.laidByTextAt_later rfl rfl tie noOwnUnsafe
theorem cpuCompareUpto_row_tie : Rows.cpuCompareUptoRow.laidByTextAt .later Tryd.pinned [.mapped, .mapped, .data, .mapped, .widerDeep, .mapped, .mapped] true :=
  OpenClaim.laidByTextAt_later rfl rfl tie3 noOwnUnsafe
end Go.Proofs.YtppankimieopiaaDoor
