/-
  ScalarsRaw and ScalarsDo, as the evaluator leaves them. Conditions: none.
-/
import Derived.Test.YtkmggidgfkchfaaDoorScG
namespace Go.Proofs.YtkmggidgfkchfaaDoor
open Go.Ev Go.RowKit
set_option linter.unusedVariables false
set_option linter.unusedSimpArgs false

set_option maxRecDepth 100000 in
set_option maxHeartbeats 4000000 in
theorem ScalarsDo_main (m : Nat → Nat) (o : BitVec 8) (x y p0 p1 p2 p3 p4 q0 q1 q2 q3 q4 : BitVec 64) : F Tryd.prog (tab (DS m) tb_firewalllaw17_sums) Tryd.f6 [.one (.b8 false o), .agg [.b64 false x, .b64 false y], .agg [.b64 false p0, .b64 false p1, .b64 false p2, .b64 false p3, .b64 false p4, .b64 false q0, .b64 false q1, .b64 false q2, .b64 false q3, .b64 false q4]] (fun r => r = .one (.bool true)) := by
  have hA := nMade_has x p0 p1 p2 p3 p4
  have hB := nMade_has y q0 q1 q2 q3 q4
  have d1 := nDo_has (o &&& 240#8) true hA hB
  have d2 := nDo_has (o &&& 240#8) false hA hB
  have d3 := nDo_has o true hA hB
  have d4 := nDo_has o false hA hB
  repeat' (first
    | (with_reducible apply Given.mk; intro h; (try simp only [nn_eta, hA, d1, d2, d3, d4, Bool.not_true, Bool.not_false, Bool.false_eq_true, Bool.true_eq_false, reduceCtorEq] at h); (try exact absurd h (by decide)))
    | ((conv => whnf); first | with_reducible apply Both.mk | refine LoopP.times 3 ?_))
  all_goals first
    | (with_reducible apply Ob.mk; kernel_rfl)
    | (with_reducible apply Ob.mk; decide)
    | (with_reducible apply Ob.mk; rfl)
    | ((conv => whnf); exact ⟨rfl⟩)

set_option maxRecDepth 100000 in
set_option maxHeartbeats 4000000 in
theorem ScalarsRaw_main (m : Nat → Nat) (a1 a2 a3 a4 a5 a6 b1 b2 b3 b4 b5 b6 : BitVec 64) (o p : BitVec 8) : F Tryd.prog (tab (DS m) tb_firewalllaw17_sums) Tryd.f10 [.agg [.b64 false a1, .b64 false a2, .b64 false a3, .b64 false a4, .b64 true a5, .b64 true a6], .agg [.b64 false b1, .b64 false b2, .b64 false b3, .b64 false b4, .b64 true b5, .b64 true b6], .agg [.b8 false o, .b8 false p]] (fun r => r = .one (.bool true)) := by
  repeat' (first
    | (with_reducible apply Given.mk; intro h; (try exact absurd h (by decide)))
    | ((conv => whnf); first | with_reducible apply Both.mk | refine LoopP.times 3 ?_))
  all_goals first
    | (with_reducible apply Ob.mk; kernel_rfl)
    | (with_reducible apply Ob.mk; decide)
    | (with_reducible apply Ob.mk; rfl)
    | ((conv => whnf); exact ⟨rfl⟩)
end Go.Proofs.YtkmggidgfkchfaaDoor
