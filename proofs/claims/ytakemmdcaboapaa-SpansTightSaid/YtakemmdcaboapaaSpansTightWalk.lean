/-
  The walk of the law SpansTight, out of what the evaluator leaves of it. Conditions: the arguments fit their kinds.
-/
import Derived.Test.YtakemmdcaboapaaSpLawsB
import Derived.OpenShut
namespace Go.Proofs.Ytakemmdcaboapaa
open Go.Ev Go.RowKit
set_option linter.unusedVariables false

set_option maxRecDepth 100000 in
theorem SpansTight_walk (a0 : Int) (a1_0 : Int) (a1_1 : Int) (a1_2 : Int) (a1_3 : Int) (a1_4 : Int) (a1_5 : Int) (a1_6 : Int) (a1_7 : Int) (a2_0 : Int) (a2_1 : Int) (a2_2 : Int) (a2_3 : Int) (w : World) (w0 : (Lit.int .u64 a0).wf = true) (w1_0 : (Lit.int .u64 a1_0).wf = true) (w1_1 : (Lit.int .u64 a1_1).wf = true) (w1_2 : (Lit.int .u64 a1_2).wf = true) (w1_3 : (Lit.int .u64 a1_3).wf = true) (w1_4 : (Lit.int .u64 a1_4).wf = true) (w1_5 : (Lit.int .u64 a1_5).wf = true) (w1_6 : (Lit.int .u64 a1_6).wf = true) (w1_7 : (Lit.int .u64 a1_7).wf = true) (w2_0 : (Lit.int .u64 a2_0).wf = true) (w2_1 : (Lit.int .u64 a2_1).wf = true) (w2_2 : (Lit.int .i64 a2_2).wf = true) (w2_3 : (Lit.int .i64 a2_3).wf = true) :
    Calls Try.prog 5 #[.int .u64 a0, .agg #[.int .u64 a1_0, .int .u64 a1_1, .int .u64 a1_2, .int .u64 a1_3, .int .u64 a1_4, .int .u64 a1_5, .int .u64 a1_6, .int .u64 a1_7], .agg #[.int .u64 a2_0, .int .u64 a2_1, .int .i64 a2_2, .int .i64 a2_3]] w fun e w' => e = .returned (.bool true) ∧ Below w.heap.size w w' := by
  obtain ⟨a0x, rfl⟩ := vI_of .u64 a0 w0
  obtain ⟨a1_0x, rfl⟩ := vI_of .u64 a1_0 w1_0
  obtain ⟨a1_1x, rfl⟩ := vI_of .u64 a1_1 w1_1
  obtain ⟨a1_2x, rfl⟩ := vI_of .u64 a1_2 w1_2
  obtain ⟨a1_3x, rfl⟩ := vI_of .u64 a1_3 w1_3
  obtain ⟨a1_4x, rfl⟩ := vI_of .u64 a1_4 w1_4
  obtain ⟨a1_5x, rfl⟩ := vI_of .u64 a1_5 w1_5
  obtain ⟨a1_6x, rfl⟩ := vI_of .u64 a1_6 w1_6
  obtain ⟨a1_7x, rfl⟩ := vI_of .u64 a1_7 w1_7
  obtain ⟨a2_0x, rfl⟩ := vI_of .u64 a2_0 w2_0
  obtain ⟨a2_1x, rfl⟩ := vI_of .u64 a2_1 w2_1
  obtain ⟨a2_2x, rfl⟩ := vI_of .i64 a2_2 w2_2
  obtain ⟨a2_3x, rfl⟩ := vI_of .i64 a2_3 w2_3
  exact law_of_F C_firewalllaw16_made (by kernel_rfl) Try.func5 (args := [.one (.b64 false a0x), .agg [.b64 false a1_0x, .b64 false a1_1x, .b64 false a1_2x, .b64 false a1_3x, .b64 false a1_4x, .b64 false a1_5x, .b64 false a1_6x, .b64 false a1_7x], .agg [.b64 false a2_0x, .b64 false a2_1x, .b64 true a2_2x, .b64 true a2_3x]]) rfl (SpansTight_main a0x a1_0x a1_1x a1_2x a1_3x a1_4x a1_5x a1_6x a1_7x a2_0x a2_1x a2_2x a2_3x) (by repeat' (first | exact trivial | exact fun _ => rfl | refine ⟨_, rfl, ?_⟩ | refine ⟨?_, ?_⟩)) trivial
end Go.Proofs.Ytakemmdcaboapaa
