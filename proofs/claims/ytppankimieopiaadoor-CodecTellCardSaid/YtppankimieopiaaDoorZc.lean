/-
  coded(): chapter 11's examples. Conditions: none.
-/
import Derived.Test.YtppankimieopiaaDoorZca
import Derived.Test.YtppankimieopiaaDoorZcb
import Derived.Test.YtppankimieopiaaDoorZcc
namespace Go.Proofs.YtppankimieopiaaDoor
open Go.Ep Go.RowKit
abbrev iss : List (List AV × L) := [(is0_a, .bool true), (is1_a, .bool true), (is2_a, .bool true), (is3_a, .bool true), (is4_a, .bool true), (is5_a, .bool true), (is6_a, .bool true), (is7_a, .bool true), (is8_a, .bool true), (is9_a, .bool true), (is10_a, .bool true)]
theorem e_is (G2 : World → Prop) (D2 : VData) (k2 : DataOK Tryd.prog G2 D2) (m : Nat → Nat) : EntryOK Tryd.prog (GN m G2) 61 (spMemoA iss) := EntryOK.of_memoA (by
  intro q hq
  simp only [List.mem_cons, List.not_mem_nil, or_false] at hq
  rcases hq with rfl | rfl | rfl | rfl | rfl | rfl | rfl | rfl | rfl | rfl | rfl
  · exact is0_o G2 D2 k2 m
  · exact is1_o G2 D2 k2 m
  · exact is2_o G2 D2 k2 m
  · exact is3_o G2 D2 k2 m
  · exact is4_o G2 D2 k2 m
  · exact is5_o G2 D2 k2 m
  · exact is6_o G2 D2 k2 m
  · exact is7_o G2 D2 k2 m
  · exact is8_o G2 D2 k2 m
  · exact is9_o G2 D2 k2 m
  · exact is10_o G2 D2 k2 m
  )
abbrev nos : List (List AV × L) := [(no0_a, .bool true), (no1_a, .bool true), (no2_a, .bool true)]
theorem e_no (G2 : World → Prop) (D2 : VData) (k2 : DataOK Tryd.prog G2 D2) (m : Nat → Nat) : EntryOK Tryd.prog (GN m G2) 62 (spMemoA nos) := EntryOK.of_memoA (by
  intro q hq
  simp only [List.mem_cons, List.not_mem_nil, or_false] at hq
  rcases hq with rfl | rfl | rfl
  · exact no0_o G2 D2 k2 m
  · exact no1_o G2 D2 k2 m
  · exact no2_o G2 D2 k2 m
  )
abbrev tb_isno (m : Nat → Nat) : List (Nat × Sp) := (62, spMemoA nos) :: (61, spMemoA iss) :: tb_Encode m
theorem C_isno (G2 : World → Prop) (D2 : VData) (k2 : DataOK Tryd.prog G2 D2) (m : Nat → Nat) : CSound Tryd.prog (GN m G2) (tab (DN m D2) (tb_isno m)) := ((C_Encode G2 D2 k2 m).cons (e_is G2 D2 k2 m)).cons (e_no G2 D2 k2 m)
set_option maxRecDepth 100000 in
set_option maxHeartbeats 40000000 in
theorem e_coded (G2 : World → Prop) (D2 : VData) (k2 : DataOK Tryd.prog G2 D2) (m : Nat → Nat) : EntryOK Tryd.prog (GN m G2) 22 spT :=
  EntryOK.of_YT (pu := puZ) (im := imZ) (mk := mkZs) (fuel := 1000) (n := 12) (m := 8) (C_isno G2 D2 k2 m) (by kernel_rfl) fs_Z (by kernel_rfl)
abbrev tb_coded (m : Nat → Nat) : List (Nat × Sp) := (22, spT) :: tb_Encode m
theorem C_coded (G2 : World → Prop) (D2 : VData) (k2 : DataOK Tryd.prog G2 D2) (m : Nat → Nat) : CSound Tryd.prog (GN m G2) (tab (DN m D2) (tb_coded m)) := (C_Encode G2 D2 k2 m).cons (e_coded G2 D2 k2 m)
end Go.Proofs.YtppankimieopiaaDoor
