/-
  Some of chapter 04's examples, by closed runs. Conditions: none.
-/
import Derived.Test.YtdaioplfgbgggaaZt
namespace Go.Proofs.Ytdaioplfgbgggaa
open Go.Ep Go.RowKit
def wa0 : List L := [strB [109, 111, 118, 54, 52, 32, 114, 48, 32, 48, 10, 101, 120, 105, 116], .b64 true 0#64, .b64 true 0#64]
set_option maxRecDepth 100000 in
set_option maxHeartbeats 40000000 in
theorem one_0 : OneOK Try.prog anyWorld 22 (onesA wa0) (.one (.bool true)) :=
  OneOK.of_Y C_z_name (by kernel_rfl) fs_Z (pu := puZ) (im := imZ) (mk := mkZs) (fuel := 1000) (n := 12) (m := 8) rfl (by kernel_rfl)
end Go.Proofs.Ytdaioplfgbgggaa
/-
  Some of chapter 04's examples, by closed runs. Conditions: none.
-/
namespace Go.Proofs.Ytdaioplfgbgggaa
open Go.Ep Go.RowKit
def wa1 : List L := [strB [101, 120, 105, 116, 10, 101, 120, 105, 116], .b64 true 1#64, .b64 true 42#64]
set_option maxRecDepth 100000 in
set_option maxHeartbeats 40000000 in
theorem one_1 : OneOK Try.prog anyWorld 22 (onesA wa1) (.one (.bool true)) :=
  OneOK.of_Y C_z_name (by kernel_rfl) fs_Z (pu := puZ) (im := imZ) (mk := mkZs) (fuel := 1000) (n := 12) (m := 8) rfl (by kernel_rfl)
def wa4 : List L := [strB [106, 97, 32, 45, 49], .b64 true 0#64, .b64 true 0#64]
set_option maxRecDepth 100000 in
set_option maxHeartbeats 40000000 in
theorem one_4 : OneOK Try.prog anyWorld 22 (onesA wa4) (.one (.bool true)) :=
  OneOK.of_Y C_z_name (by kernel_rfl) fs_Z (pu := puZ) (im := imZ) (mk := mkZs) (fuel := 1000) (n := 12) (m := 8) rfl (by kernel_rfl)
end Go.Proofs.Ytdaioplfgbgggaa
/-
  Some of chapter 04's examples, by closed runs. Conditions: none.
-/
namespace Go.Proofs.Ytdaioplfgbgggaa
open Go.Ep Go.RowKit
def wa5 : List L := [strB [99, 97, 108, 108, 32, 52, 10, 101, 120, 105, 116], .b64 true 0#64, .b64 true 45#64]
set_option maxRecDepth 100000 in
set_option maxHeartbeats 40000000 in
theorem one_5 : OneOK Try.prog anyWorld 22 (onesA wa5) (.one (.bool true)) :=
  OneOK.of_Y C_z_name (by kernel_rfl) fs_Z (pu := puZ) (im := imZ) (mk := mkZs) (fuel := 1000) (n := 12) (m := 8) rfl (by kernel_rfl)
end Go.Proofs.Ytdaioplfgbgggaa
/-
  Some of chapter 04's examples, by closed runs. Conditions: none.
-/
namespace Go.Proofs.Ytdaioplfgbgggaa
open Go.Ep Go.RowKit
def wa2 : List L := [strB [109, 111, 118, 54, 52, 32, 114, 48, 32, 48], .b64 true 0#64, .b64 true 43#64]
set_option maxRecDepth 100000 in
set_option maxHeartbeats 40000000 in
theorem one_2 : OneOK Try.prog anyWorld 22 (onesA wa2) (.one (.bool true)) :=
  OneOK.of_Y C_z_name (by kernel_rfl) fs_Z (pu := puZ) (im := imZ) (mk := mkZs) (fuel := 1000) (n := 12) (m := 8) rfl (by kernel_rfl)
def wa7 : List L := [strB [106, 101, 113, 54, 52, 32, 114, 49, 32, 48, 32, 43, 49, 10, 101, 120, 105, 116], .b64 true 0#64, .b64 true 40#64]
set_option maxRecDepth 100000 in
set_option maxHeartbeats 40000000 in
theorem one_7 : OneOK Try.prog anyWorld 22 (onesA wa7) (.one (.bool true)) :=
  OneOK.of_Y C_z_name (by kernel_rfl) fs_Z (pu := puZ) (im := imZ) (mk := mkZs) (fuel := 1000) (n := 12) (m := 8) rfl (by kernel_rfl)
end Go.Proofs.Ytdaioplfgbgggaa
/-
  Some of chapter 04's examples, by closed runs. Conditions: none.
-/
namespace Go.Proofs.Ytdaioplfgbgggaa
open Go.Ep Go.RowKit
def wa3 : List L := [strB [106, 97, 32, 43, 49, 10, 108, 100, 105, 109, 109, 32, 114, 48, 32, 53, 10, 101, 120, 105, 116], .b64 true 0#64, .b64 true 41#64]
set_option maxRecDepth 100000 in
set_option maxHeartbeats 40000000 in
theorem one_3 : OneOK Try.prog anyWorld 22 (onesA wa3) (.one (.bool true)) :=
  OneOK.of_Y C_z_name (by kernel_rfl) fs_Z (pu := puZ) (im := imZ) (mk := mkZs) (fuel := 1000) (n := 12) (m := 8) rfl (by kernel_rfl)
def wa6 : List L := [strB [108, 100, 109, 97, 112, 32, 114, 49, 32, 48, 10, 101, 120, 105, 116], .b64 true 0#64, .b64 true 44#64]
set_option maxRecDepth 100000 in
set_option maxHeartbeats 40000000 in
theorem one_6 : OneOK Try.prog anyWorld 22 (onesA wa6) (.one (.bool true)) :=
  OneOK.of_Y C_z_name (by kernel_rfl) fs_Z (pu := puZ) (im := imZ) (mk := mkZs) (fuel := 1000) (n := 12) (m := 8) rfl (by kernel_rfl)
end Go.Proofs.Ytdaioplfgbgggaa
/-
  sound(): chapter 04's examples. Conditions: none.
-/
namespace Go.Proofs.Ytdaioplfgbgggaa
open Go.Ep Go.RowKit
abbrev wrongs : List (List L × L) := [(wa0, .bool true), (wa1, .bool true), (wa2, .bool true), (wa3, .bool true), (wa4, .bool true), (wa5, .bool true), (wa6, .bool true), (wa7, .bool true)]
theorem e_wrong : EntryOK Try.prog anyWorld 22 (spMemo wrongs) := EntryOK.of_memo (by
  intro q hq
  simp only [List.mem_cons, List.not_mem_nil, or_false] at hq
  rcases hq with rfl | rfl | rfl | rfl | rfl | rfl | rfl | rfl
  · exact one_0
  · exact one_1
  · exact one_2
  · exact one_3
  · exact one_4
  · exact one_5
  · exact one_6
  · exact one_7
  )
abbrev tb_wrong : List (Nat × Sp) := [(22, spMemo wrongs)]
theorem C_wrong : CSound Try.prog anyWorld (tab noData tb_wrong) := C_z0.cons e_wrong
set_option maxRecDepth 100000 in
set_option maxHeartbeats 40000000 in
theorem e_sound : EntryOK Try.prog anyWorld 10 spT :=
  EntryOK.of_YT (pu := puZ) (im := imZ) (mk := mkZs) (fuel := 1000) (n := 12) (m := 8) C_wrong (by kernel_rfl) fs_Z (by kernel_rfl)
end Go.Proofs.Ytdaioplfgbgggaa
