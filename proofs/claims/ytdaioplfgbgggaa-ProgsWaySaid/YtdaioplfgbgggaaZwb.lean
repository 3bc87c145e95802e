/-
  Some of chapter 04's examples, by closed runs. Conditions: none.
-/
import Derived.Test.YtdaioplfgbgggaaZt
namespace Go.Proofs.Ytdaioplfgbgggaa
open Go.Ep Go.RowKit
def wa1 : List L := [strB [101, 120, 105, 116, 10, 101, 120, 105, 116], .b64 true 1#64, .b64 true 42#64]
set_option maxRecDepth 100000 in
set_option maxHeartbeats 40000000 in
theorem one_1 : OneOK Try.prog anyWorld 22 (onesA wa1) (.one (.bool true)) :=
  OneOK.of_Y C_z_name (by kernel_rfl) fs_Z (pu := puZ) (im := imZ) (mk := mkZs) (fuel := 1000) (n := 12) (m := 8) rfl (by kernel_rfl)
def wa4 : List L := [strB [106, 97, 32, 45, 49], .b64 true 0#64, .b64 true 0#64]
set_option maxRecDepth 100000 in
set_option maxHeartbeats 40000000 in
theorem one_4 : OneOK Try.prog anyWorld 22 (onesA wa4) (.one (.bool true)) :=
  OneOK.of_Y C_z_name (by kernel_rfl) fs_Z (pu := puZ) (im := imZ) (mk := mkZs) (fuel := 1000) (n := 12) (m := 8) rfl (by kernel_rfl)
end Go.Proofs.Ytdaioplfgbgggaa
