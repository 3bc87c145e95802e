/-
  The walk of the law CpuExec, out of what the evaluator leaves of it. Conditions: the arguments fit their kinds.
-/
import Derived.Test.YtppankimieopiaaDoorGg
import Derived.OpenShut
namespace Go.Proofs.YtppankimieopiaaDoor
open Go.Ep Go.RowKit
set_option linter.unusedVariables false

theorem lt63 {n : Nat} (h : n ≤ maxLen) : n < 9223372036854775808 := Nat.lt_of_le_of_lt h (by decide)
set_option maxRecDepth 100000 in
theorem CpuExec_walk (a0_0 : Int) (a0_1 : Int) (a0_2 : Int) (a0_3 : Int) (a0_4 : Bool) (a0_5 : Bool) (a0_6 : Int) (a0_7 : Int) (a0_8 : Int) (a0_9 : Int) (a0_10 : Int) (a1_0 : Int) (a1_1 : Int) (a1_2 : Int) (a1_3 : Int) (a1_4 : Int) (a1_5 : Int) (a1_6 : Int) (a1_7 : Int) (a1_8 : Int) (a1_9 : Int) (a1_10 : Int) (a1_11 : Int) (a1_12 : Int) (a1_13 : Int) (a1_14 : Int) (a1_15 : Int) (a1_16 : Bool) (a1_17 : Bool) (a1_18 : Bool) (a1_19 : Bool) (a1_20 : Int) (w : World) (m : Nat → Nat) (hG : GU m w) (w0_0 : (Lit.int .i64 a0_0).wf = true) (w0_1 : (Lit.int .i64 a0_1).wf = true) (w0_2 : (Lit.int .i64 a0_2).wf = true) (w0_3 : (Lit.int .i64 a0_3).wf = true) (w0_6 : (Lit.int .i64 a0_6).wf = true) (w0_7 : (Lit.int .i64 a0_7).wf = true) (w0_8 : (Lit.int .i32 a0_8).wf = true) (w0_9 : (Lit.int .i32 a0_9).wf = true) (w0_10 : (Lit.int .i64 a0_10).wf = true) (w1_0 : (Lit.int .u64 a1_0).wf = true) (w1_1 : (Lit.int .u64 a1_1).wf = true) (w1_2 : (Lit.int .u64 a1_2).wf = true) (w1_3 : (Lit.int .u64 a1_3).wf = true) (w1_4 : (Lit.int .u64 a1_4).wf = true) (w1_5 : (Lit.int .u64 a1_5).wf = true) (w1_6 : (Lit.int .u64 a1_6).wf = true) (w1_7 : (Lit.int .u64 a1_7).wf = true) (w1_8 : (Lit.int .u64 a1_8).wf = true) (w1_9 : (Lit.int .u64 a1_9).wf = true) (w1_10 : (Lit.int .u64 a1_10).wf = true) (w1_11 : (Lit.int .u64 a1_11).wf = true) (w1_12 : (Lit.int .u64 a1_12).wf = true) (w1_13 : (Lit.int .u64 a1_13).wf = true) (w1_14 : (Lit.int .u64 a1_14).wf = true) (w1_15 : (Lit.int .u64 a1_15).wf = true) (w1_20 : (Lit.int .u64 a1_20).wf = true) :
    Calls Tryd.prog 3 #[.agg #[.int .i64 a0_0, .int .i64 a0_1, .int .i64 a0_2, .int .i64 a0_3, .bool a0_4, .bool a0_5, .int .i64 a0_6, .int .i64 a0_7, .int .i32 a0_8, .int .i32 a0_9, .int .i64 a0_10], .agg #[.int .u64 a1_0, .int .u64 a1_1, .int .u64 a1_2, .int .u64 a1_3, .int .u64 a1_4, .int .u64 a1_5, .int .u64 a1_6, .int .u64 a1_7, .int .u64 a1_8, .int .u64 a1_9, .int .u64 a1_10, .int .u64 a1_11, .int .u64 a1_12, .int .u64 a1_13, .int .u64 a1_14, .int .u64 a1_15, .bool a1_16, .bool a1_17, .bool a1_18, .bool a1_19, .int .u64 a1_20]] w fun e w' => e = .returned (.bool true) ∧ Below w.heap.size w w' := by
  obtain ⟨a0_0x, rfl⟩ := vI_of .i64 a0_0 w0_0
  obtain ⟨a0_1x, rfl⟩ := vI_of .i64 a0_1 w0_1
  obtain ⟨a0_2x, rfl⟩ := vI_of .i64 a0_2 w0_2
  obtain ⟨a0_3x, rfl⟩ := vI_of .i64 a0_3 w0_3
  obtain ⟨a0_6x, rfl⟩ := vI_of .i64 a0_6 w0_6
  obtain ⟨a0_7x, rfl⟩ := vI_of .i64 a0_7 w0_7
  obtain ⟨a0_8x, rfl⟩ := vI_of .i32 a0_8 w0_8
  obtain ⟨a0_9x, rfl⟩ := vI_of .i32 a0_9 w0_9
  obtain ⟨a0_10x, rfl⟩ := vI_of .i64 a0_10 w0_10
  obtain ⟨a1_0x, rfl⟩ := vI_of .u64 a1_0 w1_0
  obtain ⟨a1_1x, rfl⟩ := vI_of .u64 a1_1 w1_1
  obtain ⟨a1_2x, rfl⟩ := vI_of .u64 a1_2 w1_2
  obtain ⟨a1_3x, rfl⟩ := vI_of .u64 a1_3 w1_3
  obtain ⟨a1_4x, rfl⟩ := vI_of .u64 a1_4 w1_4
  obtain ⟨a1_5x, rfl⟩ := vI_of .u64 a1_5 w1_5
  obtain ⟨a1_6x, rfl⟩ := vI_of .u64 a1_6 w1_6
  obtain ⟨a1_7x, rfl⟩ := vI_of .u64 a1_7 w1_7
  obtain ⟨a1_8x, rfl⟩ := vI_of .u64 a1_8 w1_8
  obtain ⟨a1_9x, rfl⟩ := vI_of .u64 a1_9 w1_9
  obtain ⟨a1_10x, rfl⟩ := vI_of .u64 a1_10 w1_10
  obtain ⟨a1_11x, rfl⟩ := vI_of .u64 a1_11 w1_11
  obtain ⟨a1_12x, rfl⟩ := vI_of .u64 a1_12 w1_12
  obtain ⟨a1_13x, rfl⟩ := vI_of .u64 a1_13 w1_13
  obtain ⟨a1_14x, rfl⟩ := vI_of .u64 a1_14 w1_14
  obtain ⟨a1_15x, rfl⟩ := vI_of .u64 a1_15 w1_15
  obtain ⟨a1_20x, rfl⟩ := vI_of .u64 a1_20 w1_20
  obtain ⟨C, hC, hF⟩ := CpuExec_main m a0_0x a0_1x a0_2x a0_3x a0_4 a0_5 a0_6x a0_7x a0_8x a0_9x a0_10x a1_0x a1_1x a1_2x a1_3x a1_4x a1_5x a1_6x a1_7x a1_8x a1_9x a1_10x a1_11x a1_12x a1_13x a1_14x a1_15x a1_16 a1_17 a1_18 a1_19 a1_20x
  exact law_of_F hC (by kernel_rfl) Tryd.func3 (args := [.agg [.b64 true a0_0x, .b64 true a0_1x, .b64 true a0_2x, .b64 true a0_3x, .bool a0_4, .bool a0_5, .b64 true a0_6x, .b64 true a0_7x, .b32 true a0_8x, .b32 true a0_9x, .b64 true a0_10x], .agg [.b64 false a1_0x, .b64 false a1_1x, .b64 false a1_2x, .b64 false a1_3x, .b64 false a1_4x, .b64 false a1_5x, .b64 false a1_6x, .b64 false a1_7x, .b64 false a1_8x, .b64 false a1_9x, .b64 false a1_10x, .b64 false a1_11x, .b64 false a1_12x, .b64 false a1_13x, .b64 false a1_14x, .b64 false a1_15x, .bool a1_16, .bool a1_17, .bool a1_18, .bool a1_19, .b64 false a1_20x]]) rfl hF (by repeat' (first | exact trivial | exact fun _ => rfl | refine ⟨_, rfl, ?_⟩ | refine (relLs_cons rfl).2 ⟨_, _, rfl, fun _ => rfl, ?_⟩ | exact rfl | refine ⟨?_, ?_⟩)) hG
end Go.Proofs.YtppankimieopiaaDoor
