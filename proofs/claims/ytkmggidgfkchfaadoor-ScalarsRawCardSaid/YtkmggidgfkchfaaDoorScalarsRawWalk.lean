/-
  The walk of the law ScalarsRaw, out of what the evaluator leaves of it. Conditions: the arguments fit their kinds.
-/
import Derived.Test.YtkmggidgfkchfaaDoorScL
import Derived.OpenShut
namespace Go.Proofs.YtkmggidgfkchfaaDoor
open Go.Ev Go.RowKit
set_option linter.unusedVariables false

theorem lt63 {n : Nat} (h : n ≤ maxLen) : n < 9223372036854775808 := Nat.lt_of_le_of_lt h (by decide)
set_option maxRecDepth 100000 in
theorem ScalarsRaw_walk (a0_0 : Int) (a0_1 : Int) (a0_2 : Int) (a0_3 : Int) (a0_4 : Int) (a0_5 : Int) (a1_0 : Int) (a1_1 : Int) (a1_2 : Int) (a1_3 : Int) (a1_4 : Int) (a1_5 : Int) (a2_0 : Int) (a2_1 : Int) (w : World) (m : Nat → Nat) (hG : GS m w) (w0_0 : (Lit.int .u64 a0_0).wf = true) (w0_1 : (Lit.int .u64 a0_1).wf = true) (w0_2 : (Lit.int .u64 a0_2).wf = true) (w0_3 : (Lit.int .u64 a0_3).wf = true) (w0_4 : (Lit.int .i64 a0_4).wf = true) (w0_5 : (Lit.int .i64 a0_5).wf = true) (w1_0 : (Lit.int .u64 a1_0).wf = true) (w1_1 : (Lit.int .u64 a1_1).wf = true) (w1_2 : (Lit.int .u64 a1_2).wf = true) (w1_3 : (Lit.int .u64 a1_3).wf = true) (w1_4 : (Lit.int .i64 a1_4).wf = true) (w1_5 : (Lit.int .i64 a1_5).wf = true) (w2_0 : (Lit.int .u8 a2_0).wf = true) (w2_1 : (Lit.int .u8 a2_1).wf = true) :
    Calls Tryd.prog 10 #[.agg #[.int .u64 a0_0, .int .u64 a0_1, .int .u64 a0_2, .int .u64 a0_3, .int .i64 a0_4, .int .i64 a0_5], .agg #[.int .u64 a1_0, .int .u64 a1_1, .int .u64 a1_2, .int .u64 a1_3, .int .i64 a1_4, .int .i64 a1_5], .agg #[.int .u8 a2_0, .int .u8 a2_1]] w fun e w' => e = .returned (.bool true) ∧ Below w.heap.size w w' := by
  obtain ⟨a0_0x, rfl⟩ := vI_of .u64 a0_0 w0_0
  obtain ⟨a0_1x, rfl⟩ := vI_of .u64 a0_1 w0_1
  obtain ⟨a0_2x, rfl⟩ := vI_of .u64 a0_2 w0_2
  obtain ⟨a0_3x, rfl⟩ := vI_of .u64 a0_3 w0_3
  obtain ⟨a0_4x, rfl⟩ := vI_of .i64 a0_4 w0_4
  obtain ⟨a0_5x, rfl⟩ := vI_of .i64 a0_5 w0_5
  obtain ⟨a1_0x, rfl⟩ := vI_of .u64 a1_0 w1_0
  obtain ⟨a1_1x, rfl⟩ := vI_of .u64 a1_1 w1_1
  obtain ⟨a1_2x, rfl⟩ := vI_of .u64 a1_2 w1_2
  obtain ⟨a1_3x, rfl⟩ := vI_of .u64 a1_3 w1_3
  obtain ⟨a1_4x, rfl⟩ := vI_of .i64 a1_4 w1_4
  obtain ⟨a1_5x, rfl⟩ := vI_of .i64 a1_5 w1_5
  obtain ⟨a2_0x, rfl⟩ := vI_of .u8 a2_0 w2_0
  obtain ⟨a2_1x, rfl⟩ := vI_of .u8 a2_1 w2_1
  exact law_of_F (C_firewalllaw17_sums m) (by kernel_rfl) Tryd.func10 (args := [.agg [.b64 false a0_0x, .b64 false a0_1x, .b64 false a0_2x, .b64 false a0_3x, .b64 true a0_4x, .b64 true a0_5x], .agg [.b64 false a1_0x, .b64 false a1_1x, .b64 false a1_2x, .b64 false a1_3x, .b64 true a1_4x, .b64 true a1_5x], .agg [.b8 false a2_0x, .b8 false a2_1x]]) rfl (ScalarsRaw_main m a0_0x a0_1x a0_2x a0_3x a0_4x a0_5x a1_0x a1_1x a1_2x a1_3x a1_4x a1_5x a2_0x a2_1x) (by repeat' (first | exact trivial | exact fun _ => rfl | refine ⟨_, rfl, ?_⟩ | refine ⟨?_, ?_⟩)) hG
end Go.Proofs.YtkmggidgfkchfaaDoor
