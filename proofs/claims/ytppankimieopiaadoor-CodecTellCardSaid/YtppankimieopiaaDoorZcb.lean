/-
  Some of chapter 11's examples, by closed runs over Encode's contract. Conditions: none.
-/
import Derived.Test.YtppankimieopiaaDoorZs
import Derived.Test.YtppankimieopiaaDoorPu
import Derived.Test.YtppankimieopiaaDoorPtA
import Derived.Test.YtppankimieopiaaDoorCm
namespace Go.Proofs.YtppankimieopiaaDoor
open Go.Ep Go.RowKit
abbrev is6_a : List AV := [.one (.str ⟨⟨[102, 68, 137, 135, 0, 0, 0, 0]⟩⟩), .agg [.b64 true 14#64, .b64 true 0#64, .b64 true 0#64, .b64 true 2#64, .bool false, .bool false, .b64 true 7#64, .b64 true 8#64, .b32 true 0#32, .b32 true 0#32, .b64 true 0#64]]
set_option maxRecDepth 100000 in
set_option maxHeartbeats 40000000 in
theorem is6_o (G2 : World → Prop) (D2 : VData) (k2 : DataOK Tryd.prog G2 D2) (m : Nat → Nat) : OneOK Tryd.prog (GN m G2) 61 is6_a (.one (.bool true)) :=
  OneOK.of_Y (C_Encode G2 D2 k2 m) (by kernel_rfl) fs_Z (pu := puZ) (im := imZ) (mk := mkZs) (fuel := 1000) (n := 12) (m := 8) rfl (by kernel_rfl)
abbrev is7_a : List AV := [.one (.str ⟨⟨[116, 254]⟩⟩), .agg [.b64 true 16#64, .b64 true 0#64, .b64 true 4#64, .b64 true 0#64, .bool false, .bool true, .b64 true 0#64, .b64 true 0#64, .b32 true 0#32, .b32 true 4294967294#32, .b64 true 0#64]]
set_option maxRecDepth 100000 in
set_option maxHeartbeats 40000000 in
theorem is7_o (G2 : World → Prop) (D2 : VData) (k2 : DataOK Tryd.prog G2 D2) (m : Nat → Nat) : OneOK Tryd.prog (GN m G2) 61 is7_a (.one (.bool true)) :=
  OneOK.of_Y (C_Encode G2 D2 k2 m) (by kernel_rfl) fs_Z (pu := puZ) (im := imZ) (mk := mkZs) (fuel := 1000) (n := 12) (m := 8) rfl (by kernel_rfl)
abbrev is8_a : List AV := [.one (.str ⟨⟨[233, 0, 1, 0, 0]⟩⟩), .agg [.b64 true 15#64, .b64 true 0#64, .b64 true 0#64, .b64 true 0#64, .bool false, .bool false, .b64 true 0#64, .b64 true 0#64, .b32 true 0#32, .b32 true 256#32, .b64 true 0#64]]
set_option maxRecDepth 100000 in
set_option maxHeartbeats 40000000 in
theorem is8_o (G2 : World → Prop) (D2 : VData) (k2 : DataOK Tryd.prog G2 D2) (m : Nat → Nat) : OneOK Tryd.prog (GN m G2) 61 is8_a (.one (.bool true)) :=
  OneOK.of_Y (C_Encode G2 D2 k2 m) (by kernel_rfl) fs_Z (pu := puZ) (im := imZ) (mk := mkZs) (fuel := 1000) (n := 12) (m := 8) rfl (by kernel_rfl)
abbrev is9_a : List AV := [.one (.str ⟨⟨[65, 84]⟩⟩), .agg [.b64 true 17#64, .b64 true 0#64, .b64 true 0#64, .b64 true 0#64, .bool false, .bool false, .b64 true 12#64, .b64 true 0#64, .b32 true 0#32, .b32 true 0#32, .b64 true 0#64]]
set_option maxRecDepth 100000 in
set_option maxHeartbeats 40000000 in
theorem is9_o (G2 : World → Prop) (D2 : VData) (k2 : DataOK Tryd.prog G2 D2) (m : Nat → Nat) : OneOK Tryd.prog (GN m G2) 61 is9_a (.one (.bool true)) :=
  OneOK.of_Y (C_Encode G2 D2 k2 m) (by kernel_rfl) fs_Z (pu := puZ) (im := imZ) (mk := mkZs) (fuel := 1000) (n := 12) (m := 8) rfl (by kernel_rfl)
abbrev is10_a : List AV := [.one (.str ⟨⟨[15, 174, 232]⟩⟩), .agg [.b64 true 21#64, .b64 true 0#64, .b64 true 0#64, .b64 true 0#64, .bool false, .bool false, .b64 true 0#64, .b64 true 0#64, .b32 true 0#32, .b32 true 0#32, .b64 true 0#64]]
set_option maxRecDepth 100000 in
set_option maxHeartbeats 40000000 in
theorem is10_o (G2 : World → Prop) (D2 : VData) (k2 : DataOK Tryd.prog G2 D2) (m : Nat → Nat) : OneOK Tryd.prog (GN m G2) 61 is10_a (.one (.bool true)) :=
  OneOK.of_Y (C_Encode G2 D2 k2 m) (by kernel_rfl) fs_Z (pu := puZ) (im := imZ) (mk := mkZs) (fuel := 1000) (n := 12) (m := 8) rfl (by kernel_rfl)
end Go.Proofs.YtppankimieopiaaDoor
