/-
  Some of chapter 11's examples, by closed runs over Encode's contract. Conditions: none.
-/
import Derived.Test.YtppankimieopiaaDoorZs
import Derived.Test.YtppankimieopiaaDoorPu
import Derived.Test.YtppankimieopiaaDoorPtA
import Derived.Test.YtppankimieopiaaDoorCm
namespace Go.Proofs.YtppankimieopiaaDoor
open Go.Ep Go.RowKit
abbrev no0_a : List AV := [.one (.str ⟨⟨[72, 195]⟩⟩)]
set_option maxRecDepth 100000 in
set_option maxHeartbeats 40000000 in
theorem no0_o (G2 : World → Prop) (D2 : VData) (k2 : DataOK Tryd.prog G2 D2) (m : Nat → Nat) : OneOK Tryd.prog (GN m G2) 62 no0_a (.one (.bool true)) :=
  OneOK.of_Y (C_Encode G2 D2 k2 m) (by kernel_rfl) fs_Z (pu := puZ) (im := imZ) (mk := mkZs) (fuel := 1000) (n := 12) (m := 8) rfl (by kernel_rfl)
abbrev no1_a : List AV := [.one (.str ⟨⟨[64, 137, 216]⟩⟩)]
set_option maxRecDepth 100000 in
set_option maxHeartbeats 40000000 in
theorem no1_o (G2 : World → Prop) (D2 : VData) (k2 : DataOK Tryd.prog G2 D2) (m : Nat → Nat) : OneOK Tryd.prog (GN m G2) 62 no1_a (.one (.bool true)) :=
  OneOK.of_Y (C_Encode G2 D2 k2 m) (by kernel_rfl) fs_Z (pu := puZ) (im := imZ) (mk := mkZs) (fuel := 1000) (n := 12) (m := 8) rfl (by kernel_rfl)
abbrev no2_a : List AV := [.one (.str ⟨⟨[72, 139, 0]⟩⟩)]
set_option maxRecDepth 100000 in
set_option maxHeartbeats 40000000 in
theorem no2_o (G2 : World → Prop) (D2 : VData) (k2 : DataOK Tryd.prog G2 D2) (m : Nat → Nat) : OneOK Tryd.prog (GN m G2) 62 no2_a (.one (.bool true)) :=
  OneOK.of_Y (C_Encode G2 D2 k2 m) (by kernel_rfl) fs_Z (pu := puZ) (im := imZ) (mk := mkZs) (fuel := 1000) (n := 12) (m := 8) rfl (by kernel_rfl)
end Go.Proofs.YtppankimieopiaaDoor
