/-
  Some of chapter 11's examples, by closed runs over Encode's contract. Conditions: none.
-/
import Derived.Test.YtppankimieopiaaDoorZs
import Derived.Test.YtppankimieopiaaDoorPu
import Derived.Test.YtppankimieopiaaDoorPtA
import Derived.Test.YtppankimieopiaaDoorCm
namespace Go.Proofs.YtppankimieopiaaDoor
open Go.Ep Go.RowKit
abbrev is0_a : List AV := [.one (.str ⟨⟨[72, 137, 216]⟩⟩), .agg [.b64 true 1#64, .b64 true 0#64, .b64 true 0#64, .b64 true 0#64, .bool true, .bool false, .b64 true 0#64, .b64 true 3#64, .b32 true 0#32, .b32 true 0#32, .b64 true 0#64]]
set_option maxRecDepth 100000 in
set_option maxHeartbeats 40000000 in
theorem is0_o (G2 : World → Prop) (D2 : VData) (k2 : DataOK Tryd.prog G2 D2) (m : Nat → Nat) : OneOK Tryd.prog (GN m G2) 61 is0_a (.one (.bool true)) :=
  OneOK.of_Y (C_Encode G2 D2 k2 m) (by kernel_rfl) fs_Z (pu := puZ) (im := imZ) (mk := mkZs) (fuel := 1000) (n := 12) (m := 8) rfl (by kernel_rfl)
abbrev is1_a : List AV := [.one (.str ⟨⟨[65, 137, 192]⟩⟩), .agg [.b64 true 1#64, .b64 true 0#64, .b64 true 0#64, .b64 true 0#64, .bool false, .bool false, .b64 true 8#64, .b64 true 0#64, .b32 true 0#32, .b32 true 0#32, .b64 true 0#64]]
set_option maxRecDepth 100000 in
set_option maxHeartbeats 40000000 in
theorem is1_o (G2 : World → Prop) (D2 : VData) (k2 : DataOK Tryd.prog G2 D2) (m : Nat → Nat) : OneOK Tryd.prog (GN m G2) 61 is1_a (.one (.bool true)) :=
  OneOK.of_Y (C_Encode G2 D2 k2 m) (by kernel_rfl) fs_Z (pu := puZ) (im := imZ) (mk := mkZs) (fuel := 1000) (n := 12) (m := 8) rfl (by kernel_rfl)
abbrev is2_a : List AV := [.one (.str ⟨⟨[72, 129, 196, 248, 255, 255, 255]⟩⟩), .agg [.b64 true 5#64, .b64 true 0#64, .b64 true 0#64, .b64 true 0#64, .bool true, .bool false, .b64 true 4#64, .b64 true 0#64, .b32 true 0#32, .b32 true 0#32, .b64 true 18446744073709551608#64]]
set_option maxRecDepth 100000 in
set_option maxHeartbeats 40000000 in
theorem is2_o (G2 : World → Prop) (D2 : VData) (k2 : DataOK Tryd.prog G2 D2) (m : Nat → Nat) : OneOK Tryd.prog (GN m G2) 61 is2_a (.one (.bool true)) :=
  OneOK.of_Y (C_Encode G2 D2 k2 m) (by kernel_rfl) fs_Z (pu := puZ) (im := imZ) (mk := mkZs) (fuel := 1000) (n := 12) (m := 8) rfl (by kernel_rfl)
abbrev is3_a : List AV := [.one (.str ⟨⟨[15, 182, 132, 36, 4, 0, 0, 0]⟩⟩), .agg [.b64 true 13#64, .b64 true 0#64, .b64 true 0#64, .b64 true 1#64, .bool false, .bool false, .b64 true 0#64, .b64 true 4#64, .b32 true 4#32, .b32 true 0#32, .b64 true 0#64]]
set_option maxRecDepth 100000 in
set_option maxHeartbeats 40000000 in
theorem is3_o (G2 : World → Prop) (D2 : VData) (k2 : DataOK Tryd.prog G2 D2) (m : Nat → Nat) : OneOK Tryd.prog (GN m G2) 61 is3_a (.one (.bool true)) :=
  OneOK.of_Y (C_Encode G2 D2 k2 m) (by kernel_rfl) fs_Z (pu := puZ) (im := imZ) (mk := mkZs) (fuel := 1000) (n := 12) (m := 8) rfl (by kernel_rfl)
abbrev is4_a : List AV := [.one (.str ⟨⟨[77, 139, 140, 36, 0, 0, 0, 0]⟩⟩), .agg [.b64 true 13#64, .b64 true 0#64, .b64 true 0#64, .b64 true 8#64, .bool true, .bool false, .b64 true 9#64, .b64 true 12#64, .b32 true 0#32, .b32 true 0#32, .b64 true 0#64]]
set_option maxRecDepth 100000 in
set_option maxHeartbeats 40000000 in
theorem is4_o (G2 : World → Prop) (D2 : VData) (k2 : DataOK Tryd.prog G2 D2) (m : Nat → Nat) : OneOK Tryd.prog (GN m G2) 61 is4_a (.one (.bool true)) :=
  OneOK.of_Y (C_Encode G2 D2 k2 m) (by kernel_rfl) fs_Z (pu := puZ) (im := imZ) (mk := mkZs) (fuel := 1000) (n := 12) (m := 8) rfl (by kernel_rfl)
abbrev is5_a : List AV := [.one (.str ⟨⟨[64, 136, 183, 0, 0, 0, 0]⟩⟩), .agg [.b64 true 14#64, .b64 true 0#64, .b64 true 0#64, .b64 true 1#64, .bool false, .bool false, .b64 true 7#64, .b64 true 6#64, .b32 true 0#32, .b32 true 0#32, .b64 true 0#64]]
set_option maxRecDepth 100000 in
set_option maxHeartbeats 40000000 in
theorem is5_o (G2 : World → Prop) (D2 : VData) (k2 : DataOK Tryd.prog G2 D2) (m : Nat → Nat) : OneOK Tryd.prog (GN m G2) 61 is5_a (.one (.bool true)) :=
  OneOK.of_Y (C_Encode G2 D2 k2 m) (by kernel_rfl) fs_Z (pu := puZ) (im := imZ) (mk := mkZs) (fuel := 1000) (n := 12) (m := 8) rfl (by kernel_rfl)
end Go.Proofs.YtppankimieopiaaDoor
