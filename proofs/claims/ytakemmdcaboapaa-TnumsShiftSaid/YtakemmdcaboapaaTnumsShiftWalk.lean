/-
  The walk of the law TnumsShift, out of what the evaluator leaves of it. Conditions: the arguments fit their kinds.
-/
import Derived.Test.YtakemmdcaboapaaTnLaws
import Derived.OpenShut
namespace Go.Proofs.Ytakemmdcaboapaa
open Go.Ev Go.RowKit
set_option linter.unusedVariables false

set_option maxRecDepth 100000 in
theorem TnumsShift_walk (a0_0 : Int) (a0_1 : Int) (a1 : Int) (a2 : Int) (w : World) (w0_0 : (Lit.int .u64 a0_0).wf = true) (w0_1 : (Lit.int .u64 a0_1).wf = true) (w1 : (Lit.int .u64 a1).wf = true) (w2 : (Lit.int .i64 a2).wf = true) :
    Calls Try.prog 4 #[.agg #[.int .u64 a0_0, .int .u64 a0_1], .int .u64 a1, .int .i64 a2] w fun e w' => e = .returned (.bool true) ∧ Below w.heap.size w w' := by
  obtain ⟨a0_0x, rfl⟩ := vI_of .u64 a0_0 w0_0
  obtain ⟨a0_1x, rfl⟩ := vI_of .u64 a0_1 w0_1
  obtain ⟨a1x, rfl⟩ := vI_of .u64 a1 w1
  obtain ⟨a2x, rfl⟩ := vI_of .i64 a2 w2
  exact law_of_F C_firewalllaw15_does (by kernel_rfl) Try.func4 (args := [.agg [.b64 false a0_0x, .b64 false a0_1x], .one (.b64 false a1x), .one (.b64 true a2x)]) rfl (TnumsShift_main a0_0x a0_1x a1x a2x) (by repeat' (first | exact trivial | exact fun _ => rfl | refine ⟨_, rfl, ?_⟩ | refine ⟨?_, ?_⟩)) trivial
end Go.Proofs.Ytakemmdcaboapaa
