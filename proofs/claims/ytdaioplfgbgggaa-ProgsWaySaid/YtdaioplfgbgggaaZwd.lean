/-
  Some of chapter 04's examples, by closed runs. Conditions: none.
-/
import Derived.Test.YtdaioplfgbgggaaZt
namespace Go.Proofs.Ytdaioplfgbgggaa
open Go.Ep Go.RowKit
def wa2 : List L := [strB [109, 111, 118, 54, 52, 32, 114, 48, 32, 48], .b64 true 0#64, .b64 true 43#64]
set_option maxRecDepth 100000 in
set_option maxHeartbeats 40000000 in
theorem one_2 : OneOK Try.prog anyWorld 22 (onesA wa2) (.one (.bool true)) :=
  OneOK.of_Y C_z_name (by kernel_rfl) fs_Z (pu := puZ) (im := imZ) (mk := mkZs) (fuel := 1000) (n := 12) (m := 8) rfl (by kernel_rfl)
def wa7 : List L := [strB [106, 101, 113, 54, 52, 32, 114, 49, 32, 48, 32, 43, 49, 10, 101, 120, 105, 116], .b64 true 0#64, .b64 true 40#64]
set_option maxRecDepth 100000 in
set_option maxHeartbeats 40000000 in
theorem one_7 : OneOK Try.prog anyWorld 22 (onesA wa7) (.one (.bool true)) :=
  OneOK.of_Y C_z_name (by kernel_rfl) fs_Z (pu := puZ) (im := imZ) (mk := mkZs) (fuel := 1000) (n := 12) (m := 8) rfl (by kernel_rfl)
end Go.Proofs.Ytdaioplfgbgggaa
