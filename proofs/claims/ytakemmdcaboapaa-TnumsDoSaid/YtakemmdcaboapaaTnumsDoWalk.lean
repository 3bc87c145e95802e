/-
  The walk of the law TnumsDo, out of what the evaluator leaves of it. Conditions: the arguments fit their kinds.
-/
import Derived.Test.YtakemmdcaboapaaTnLaws
import Derived.OpenShut
namespace Go.Proofs.Ytakemmdcaboapaa
open Go.Ev Go.RowKit
set_option linter.unusedVariables false

set_option maxRecDepth 100000 in
theorem TnumsDo_walk (a0_0 : Int) (a0_1 : Int) (a1_0 : Int) (a1_1 : Int) (a2_0 : Int) (a2_1 : Int) (w : World) (w0_0 : (Lit.int .u64 a0_0).wf = true) (w0_1 : (Lit.int .u64 a0_1).wf = true) (w1_0 : (Lit.int .u64 a1_0).wf = true) (w1_1 : (Lit.int .u64 a1_1).wf = true) (w2_0 : (Lit.int .u64 a2_0).wf = true) (w2_1 : (Lit.int .u64 a2_1).wf = true) :
    Calls Try.prog 6 #[.agg #[.int .u64 a0_0, .int .u64 a0_1], .agg #[.int .u64 a1_0, .int .u64 a1_1], .agg #[.int .u64 a2_0, .int .u64 a2_1]] w fun e w' => e = .returned (.bool true) ∧ Below w.heap.size w w' := by
  obtain ⟨a0_0x, rfl⟩ := vI_of .u64 a0_0 w0_0
  obtain ⟨a0_1x, rfl⟩ := vI_of .u64 a0_1 w0_1
  obtain ⟨a1_0x, rfl⟩ := vI_of .u64 a1_0 w1_0
  obtain ⟨a1_1x, rfl⟩ := vI_of .u64 a1_1 w1_1
  obtain ⟨a2_0x, rfl⟩ := vI_of .u64 a2_0 w2_0
  obtain ⟨a2_1x, rfl⟩ := vI_of .u64 a2_1 w2_1
  exact law_of_F C_firewalllaw15_does (by kernel_rfl) Try.func6 (args := [.agg [.b64 false a0_0x, .b64 false a0_1x], .agg [.b64 false a1_0x, .b64 false a1_1x], .agg [.b64 false a2_0x, .b64 false a2_1x]]) rfl (TnumsDo_main a0_0x a0_1x a1_0x a1_1x a2_0x a2_1x) (by repeat' (first | exact trivial | exact fun _ => rfl | refine ⟨_, rfl, ?_⟩ | refine ⟨?_, ?_⟩)) trivial
end Go.Proofs.Ytakemmdcaboapaa
