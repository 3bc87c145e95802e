/-
  The walk of the law AluShifts, out of what the evaluator leaves of it. Conditions: the arguments fit their kinds.
-/
import Derived.Test.YtaifibnpbkgaiaaAlLaws
import Derived.OpenShut
namespace Go.Proofs.Ytaifibnpbkgaiaa
open Go.Ev Go.RowKit
set_option linter.unusedVariables false

set_option maxRecDepth 100000 in
theorem AluShifts_walk (a0 : Int) (a1 : Int) (w : World) (w0 : (Lit.int .u64 a0).wf = true) (w1 : (Lit.int .u8 a1).wf = true) :
    Calls Try.prog 11 #[.int .u64 a0, .int .u8 a1] w fun e w' => e = .returned (.bool true) ∧ Below w.heap.size w w' := by
  obtain ⟨a0x, rfl⟩ := vI_of .u64 a0 w0
  obtain ⟨a1x, rfl⟩ := vI_of .u8 a1 w1
  exact law_of_F C_firewalllaw05_reckoned (by kernel_rfl) Try.func11 (args := [.one (.b64 false a0x), .one (.b8 false a1x)]) rfl (AluShifts_main a0x a1x) (by repeat' (first | exact trivial | exact fun _ => rfl | refine ⟨_, rfl, ?_⟩ | refine ⟨?_, ?_⟩)) trivial
end Go.Proofs.Ytaifibnpbkgaiaa
