/-
  Some of chapter 04's examples, by closed runs. Conditions: none.
-/
import Derived.Test.YtdaioplfgbgggaaZt
namespace Go.Proofs.Ytdaioplfgbgggaa
open Go.Ep Go.RowKit
def wa5 : List L := [strB [99, 97, 108, 108, 32, 52, 10, 101, 120, 105, 116], .b64 true 0#64, .b64 true 45#64]
set_option maxRecDepth 100000 in
set_option maxHeartbeats 40000000 in
theorem one_5 : OneOK Try.prog anyWorld 22 (onesA wa5) (.one (.bool true)) :=
  OneOK.of_Y C_z_name (by kernel_rfl) fs_Z (pu := puZ) (im := imZ) (mk := mkZs) (fuel := 1000) (n := 12) (m := 8) rfl (by kernel_rfl)
end Go.Proofs.Ytdaioplfgbgggaa
