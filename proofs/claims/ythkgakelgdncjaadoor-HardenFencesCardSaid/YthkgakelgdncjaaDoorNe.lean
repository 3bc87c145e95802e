/-
  Chapter 23: the tables that chapter 04's contracts stand on. Conditions: none.
-/
import Derived.Test.YthkgakelgdncjaaDoorNn
import Derived.Test.YthkgakelgdncjaaDoorInR
import Derived.Test.YthkgakelgdncjaaDoorPr
namespace Go.Proofs.YthkgakelgdncjaaDoor
open Go.Ep Go.RowKit
abbrev tb_b : List (Nat × Sp) := tb_firewallref02_Check
theorem C_b : CSound Tryd.prog anyWorld (tab noData tb_b) := C_firewallref02_Check
end Go.Proofs.YthkgakelgdncjaaDoor
