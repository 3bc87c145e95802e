/-
  ScalarsAssume: what the evaluator leaves of it. Conditions: as typed.
-/
import Derived.Test.YtkmggidgfkchfaaDoorScZ
namespace Go.Proofs.YtkmggidgfkchfaaDoor
open Go.Ev Go.RowKit
set_option linter.unusedVariables false
set_option linter.unusedSimpArgs false

set_option maxRecDepth 100000 in
set_option maxHeartbeats 4000000 in
theorem ScalarsAssume_main (m : Nat → Nat) (o : BitVec 8) (x y p0 p1 p2 p3 p4 q0 q1 q2 q3 q4 : BitVec 64) : F Tryd.prog (tab (DS m) tb_firewallref06_Holds) Tryd.f7 [.one (.b8 false o), .agg [.b64 false x, .b64 false y], .agg [.b64 false p0, .b64 false p1, .b64 false p2, .b64 false p3, .b64 false p4, .b64 false q0, .b64 false q1, .b64 false q2, .b64 false q3, .b64 false q4]] (fun r => r = .one (.bool true)) := by
  have hA := nMade_has x p0 p1 p2 p3 p4
  have hB := nMade_has y q0 q1 q2 q3 q4
  obtain ⟨d1, d2, d3⟩ := pAssume_good (o &&& 240#8) true hA hB
  obtain ⟨e1, e2, e3⟩ := pAssume_good (o &&& 240#8) false hA hB
  repeat' (first
    | (with_reducible apply Given.mk; intro h; (try simp only [nn_eta, hA, hB, d1, d2, d3, e1, e2, e3, Bool.not_true, Bool.not_false, Bool.false_eq_true, Bool.true_eq_false, reduceCtorEq] at h); (try exact absurd h (by decide)))
    | ((conv => whnf); first | with_reducible apply Both.mk | refine LoopP.times 3 ?_))
  all_goals first
    | (with_reducible apply Ob.mk; kernel_rfl)
    | (with_reducible apply Ob.mk; decide)
    | (with_reducible apply Ob.mk; rfl)
    | ((conv => whnf); exact ⟨rfl⟩)
end Go.Proofs.YtkmggidgfkchfaaDoor
