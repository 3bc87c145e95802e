/-
  SpansRaw, as the evaluator leaves it. Conditions: none.
-/
import Derived.Test.YtakemmdcaboapaaSpC
namespace Go.Proofs.Ytakemmdcaboapaa
open Go.Ev Go.RowKit
set_option linter.unusedVariables false
set_option linter.unusedSimpArgs false

set_option maxRecDepth 100000 in
set_option maxHeartbeats 4000000 in
theorem SpansRaw_main (a b c d e f g k n : BitVec 64) : F Try.prog (tab tb_firewalllaw16_ends) Try.f9 [.agg [.b64 false a, .b64 false b, .b64 true c, .b64 true d], .agg [.b64 false e, .b64 false f, .b64 true g, .b64 true k], .one (.b64 true n)] (fun r => r = .one (.bool true)) := by
  repeat' (first
    | (with_reducible apply Given.mk; intro h)
    | ((conv => whnf); with_reducible apply Both.mk))
  all_goals first
    | (with_reducible apply Ob.mk; kernel_rfl)
    | ((conv => whnf); exact ⟨rfl⟩)
end Go.Proofs.Ytakemmdcaboapaa
