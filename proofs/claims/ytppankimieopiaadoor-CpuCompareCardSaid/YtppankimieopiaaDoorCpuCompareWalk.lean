/-
  The walk of the law CpuCompare, out of what the evaluator leaves of it. Conditions: the arguments fit their kinds.
-/
import Derived.Test.YtppankimieopiaaDoorCpCo
import Derived.OpenShut
namespace Go.Proofs.YtppankimieopiaaDoor
open Go.El Go.RowKit
set_option linter.unusedVariables false

theorem lt63 {n : Nat} (h : n ≤ maxLen) : n < 9223372036854775808 := Nat.lt_of_le_of_lt h (by decide)
set_option maxRecDepth 100000 in
theorem CpuCompare_walk (a0_0 : Int) (a0_1 : Int) (a0_2 : Int) (a0_3 : Int) (a0_4 : Int) (a0_5 : Int) (a0_6 : Int) (a0_7 : Int) (a0_8 : Int) (a0_9 : Int) (a0_10 : Int) (a0_11 : Int) (a0_12 : Int) (a0_13 : Int) (a0_14 : Int) (a0_15 : Int) (a0_16 : Bool) (a0_17 : Bool) (a0_18 : Bool) (a0_19 : Bool) (a0_20 : Int) (a1 : Int) (a2 : Int) (w : World) (m : Nat → Nat) (hG : GV m w) (w0_0 : (Lit.int .u64 a0_0).wf = true) (w0_1 : (Lit.int .u64 a0_1).wf = true) (w0_2 : (Lit.int .u64 a0_2).wf = true) (w0_3 : (Lit.int .u64 a0_3).wf = true) (w0_4 : (Lit.int .u64 a0_4).wf = true) (w0_5 : (Lit.int .u64 a0_5).wf = true) (w0_6 : (Lit.int .u64 a0_6).wf = true) (w0_7 : (Lit.int .u64 a0_7).wf = true) (w0_8 : (Lit.int .u64 a0_8).wf = true) (w0_9 : (Lit.int .u64 a0_9).wf = true) (w0_10 : (Lit.int .u64 a0_10).wf = true) (w0_11 : (Lit.int .u64 a0_11).wf = true) (w0_12 : (Lit.int .u64 a0_12).wf = true) (w0_13 : (Lit.int .u64 a0_13).wf = true) (w0_14 : (Lit.int .u64 a0_14).wf = true) (w0_15 : (Lit.int .u64 a0_15).wf = true) (w0_20 : (Lit.int .u64 a0_20).wf = true) (w1 : (Lit.int .u64 a1).wf = true) (w2 : (Lit.int .u64 a2).wf = true) :
    Calls Tryd.prog 12 #[.agg #[.int .u64 a0_0, .int .u64 a0_1, .int .u64 a0_2, .int .u64 a0_3, .int .u64 a0_4, .int .u64 a0_5, .int .u64 a0_6, .int .u64 a0_7, .int .u64 a0_8, .int .u64 a0_9, .int .u64 a0_10, .int .u64 a0_11, .int .u64 a0_12, .int .u64 a0_13, .int .u64 a0_14, .int .u64 a0_15, .bool a0_16, .bool a0_17, .bool a0_18, .bool a0_19, .int .u64 a0_20], .int .u64 a1, .int .u64 a2] w fun e w' => e = .returned (.bool true) ∧ Below w.heap.size w w' := by
  obtain ⟨a0_0x, rfl⟩ := vI_of .u64 a0_0 w0_0
  obtain ⟨a0_1x, rfl⟩ := vI_of .u64 a0_1 w0_1
  obtain ⟨a0_2x, rfl⟩ := vI_of .u64 a0_2 w0_2
  obtain ⟨a0_3x, rfl⟩ := vI_of .u64 a0_3 w0_3
  obtain ⟨a0_4x, rfl⟩ := vI_of .u64 a0_4 w0_4
  obtain ⟨a0_5x, rfl⟩ := vI_of .u64 a0_5 w0_5
  obtain ⟨a0_6x, rfl⟩ := vI_of .u64 a0_6 w0_6
  obtain ⟨a0_7x, rfl⟩ := vI_of .u64 a0_7 w0_7
  obtain ⟨a0_8x, rfl⟩ := vI_of .u64 a0_8 w0_8
  obtain ⟨a0_9x, rfl⟩ := vI_of .u64 a0_9 w0_9
  obtain ⟨a0_10x, rfl⟩ := vI_of .u64 a0_10 w0_10
  obtain ⟨a0_11x, rfl⟩ := vI_of .u64 a0_11 w0_11
  obtain ⟨a0_12x, rfl⟩ := vI_of .u64 a0_12 w0_12
  obtain ⟨a0_13x, rfl⟩ := vI_of .u64 a0_13 w0_13
  obtain ⟨a0_14x, rfl⟩ := vI_of .u64 a0_14 w0_14
  obtain ⟨a0_15x, rfl⟩ := vI_of .u64 a0_15 w0_15
  obtain ⟨a0_20x, rfl⟩ := vI_of .u64 a0_20 w0_20
  obtain ⟨a1x, rfl⟩ := vI_of .u64 a1 w1
  obtain ⟨a2x, rfl⟩ := vI_of .u64 a2 w2
  exact law_of_F (C_vi m) (by kernel_rfl) Tryd.func12 (args := [.agg [.b64 false a0_0x, .b64 false a0_1x, .b64 false a0_2x, .b64 false a0_3x, .b64 false a0_4x, .b64 false a0_5x, .b64 false a0_6x, .b64 false a0_7x, .b64 false a0_8x, .b64 false a0_9x, .b64 false a0_10x, .b64 false a0_11x, .b64 false a0_12x, .b64 false a0_13x, .b64 false a0_14x, .b64 false a0_15x, .bool a0_16, .bool a0_17, .bool a0_18, .bool a0_19, .b64 false a0_20x], .one (.b64 false a1x), .one (.b64 false a2x)]) rfl (CpuCompare_main m a0_0x a0_1x a0_2x a0_3x a0_4x a0_5x a0_6x a0_7x a0_8x a0_9x a0_10x a0_11x a0_12x a0_13x a0_14x a0_15x a0_16 a0_17 a0_18 a0_19 a0_20x a1x a2x) (by repeat' (first | exact trivial | exact fun _ => rfl | refine ⟨_, rfl, ?_⟩ | refine ⟨?_, ?_⟩)) hG
end Go.Proofs.YtppankimieopiaaDoor
