/-
  Some of chapter 04's examples, by closed runs. Conditions: none.
-/
import Derived.Test.YtdaioplfgbgggaaZt
namespace Go.Proofs.Ytdaioplfgbgggaa
open Go.Ep Go.RowKit
def wa3 : List L := [strB [106, 97, 32, 43, 49, 10, 108, 100, 105, 109, 109, 32, 114, 48, 32, 53, 10, 101, 120, 105, 116], .b64 true 0#64, .b64 true 41#64]
set_option maxRecDepth 100000 in
set_option maxHeartbeats 40000000 in
theorem one_3 : OneOK Try.prog anyWorld 22 (onesA wa3) (.one (.bool true)) :=
  OneOK.of_Y C_z_name (by kernel_rfl) fs_Z (pu := puZ) (im := imZ) (mk := mkZs) (fuel := 1000) (n := 12) (m := 8) rfl (by kernel_rfl)
def wa6 : List L := [strB [108, 100, 109, 97, 112, 32, 114, 49, 32, 48, 10, 101, 120, 105, 116], .b64 true 0#64, .b64 true 44#64]
set_option maxRecDepth 100000 in
set_option maxHeartbeats 40000000 in
theorem one_6 : OneOK Try.prog anyWorld 22 (onesA wa6) (.one (.bool true)) :=
  OneOK.of_Y C_z_name (by kernel_rfl) fs_Z (pu := puZ) (im := imZ) (mk := mkZs) (fuel := 1000) (n := 12) (m := 8) rfl (by kernel_rfl)
end Go.Proofs.Ytdaioplfgbgggaa
