/-
  sound(): chapter 04's examples. Conditions: none.
-/
import Derived.Test.YtdaioplfgbgggaaZwa
import Derived.Test.YtdaioplfgbgggaaZwb
import Derived.Test.YtdaioplfgbgggaaZwc
import Derived.Test.YtdaioplfgbgggaaZwd
import Derived.Test.YtdaioplfgbgggaaZwe
namespace Go.Proofs.Ytdaioplfgbgggaa
open Go.Ep Go.RowKit
abbrev wrongs : List (List L × L) := [(wa0, .bool true), (wa1, .bool true), (wa2, .bool true), (wa3, .bool true), (wa4, .bool true), (wa5, .bool true), (wa6, .bool true), (wa7, .bool true)]
theorem e_wrong : EntryOK Try.prog anyWorld 22 (spMemo wrongs) := EntryOK.of_memo (by
  intro q hq
  simp only [List.mem_cons, List.not_mem_nil, or_false] at hq
  rcases hq with rfl | rfl | rfl | rfl | rfl | rfl | rfl | rfl
  · exact one_0
  · exact one_1
  · exact one_2
  · exact one_3
  · exact one_4
  · exact one_5
  · exact one_6
  · exact one_7
  )
abbrev tb_wrong : List (Nat × Sp) := [(22, spMemo wrongs)]
theorem C_wrong : CSound Try.prog anyWorld (tab noData tb_wrong) := C_z0.cons e_wrong
set_option maxRecDepth 100000 in
set_option maxHeartbeats 40000000 in
theorem e_sound : EntryOK Try.prog anyWorld 10 spT :=
  EntryOK.of_YT (pu := puZ) (im := imZ) (mk := mkZs) (fuel := 1000) (n := 12) (m := 8) C_wrong (by kernel_rfl) fs_Z (by kernel_rfl)
end Go.Proofs.Ytdaioplfgbgggaa
