/-
  The walk of the law SpansDo, out of what the evaluator leaves of it. Conditions: the arguments fit their kinds.
-/
import Derived.Test.YtakemmdcaboapaaSpLawsC
import Derived.OpenShut
namespace Go.Proofs.Ytakemmdcaboapaa
open Go.Ev Go.RowKit
set_option linter.unusedVariables false

set_option maxRecDepth 100000 in
theorem SpansDo_walk (a0_0 : Int) (a0_1 : Int) (a1_0 : Int) (a1_1 : Int) (a1_2 : Int) (a1_3 : Int) (a1_4 : Int) (a1_5 : Int) (a1_6 : Int) (a1_7 : Int) (a2 : Int) (w : World) (w0_0 : (Lit.int .u64 a0_0).wf = true) (w0_1 : (Lit.int .u64 a0_1).wf = true) (w1_0 : (Lit.int .u64 a1_0).wf = true) (w1_1 : (Lit.int .u64 a1_1).wf = true) (w1_2 : (Lit.int .u64 a1_2).wf = true) (w1_3 : (Lit.int .u64 a1_3).wf = true) (w1_4 : (Lit.int .u64 a1_4).wf = true) (w1_5 : (Lit.int .u64 a1_5).wf = true) (w1_6 : (Lit.int .u64 a1_6).wf = true) (w1_7 : (Lit.int .u64 a1_7).wf = true) (w2 : (Lit.int .i64 a2).wf = true) :
    Calls Try.prog 8 #[.agg #[.int .u64 a0_0, .int .u64 a0_1], .agg #[.int .u64 a1_0, .int .u64 a1_1, .int .u64 a1_2, .int .u64 a1_3, .int .u64 a1_4, .int .u64 a1_5, .int .u64 a1_6, .int .u64 a1_7], .int .i64 a2] w fun e w' => e = .returned (.bool true) ∧ Below w.heap.size w w' := by
  obtain ⟨a0_0x, rfl⟩ := vI_of .u64 a0_0 w0_0
  obtain ⟨a0_1x, rfl⟩ := vI_of .u64 a0_1 w0_1
  obtain ⟨a1_0x, rfl⟩ := vI_of .u64 a1_0 w1_0
  obtain ⟨a1_1x, rfl⟩ := vI_of .u64 a1_1 w1_1
  obtain ⟨a1_2x, rfl⟩ := vI_of .u64 a1_2 w1_2
  obtain ⟨a1_3x, rfl⟩ := vI_of .u64 a1_3 w1_3
  obtain ⟨a1_4x, rfl⟩ := vI_of .u64 a1_4 w1_4
  obtain ⟨a1_5x, rfl⟩ := vI_of .u64 a1_5 w1_5
  obtain ⟨a1_6x, rfl⟩ := vI_of .u64 a1_6 w1_6
  obtain ⟨a1_7x, rfl⟩ := vI_of .u64 a1_7 w1_7
  obtain ⟨a2x, rfl⟩ := vI_of .i64 a2 w2
  exact law_of_F C_firewallref05_Do (by kernel_rfl) Try.func8 (args := [.agg [.b64 false a0_0x, .b64 false a0_1x], .agg [.b64 false a1_0x, .b64 false a1_1x, .b64 false a1_2x, .b64 false a1_3x, .b64 false a1_4x, .b64 false a1_5x, .b64 false a1_6x, .b64 false a1_7x], .one (.b64 true a2x)]) rfl (SpansDo_main a0_0x a0_1x a1_0x a1_1x a1_2x a1_3x a1_4x a1_5x a1_6x a1_7x a2x) (by repeat' (first | exact trivial | exact fun _ => rfl | refine ⟨_, rfl, ?_⟩ | refine ⟨?_, ?_⟩)) trivial
end Go.Proofs.Ytakemmdcaboapaa
