/-
  SpansTight, as the evaluator leaves it. Conditions: none.
-/
import Derived.Test.YtakemmdcaboapaaSpN
namespace Go.Proofs.Ytakemmdcaboapaa
open Go.Ev Go.RowKit
set_option linter.unusedVariables false
set_option linter.unusedSimpArgs false

set_option maxRecDepth 100000 in
set_option maxHeartbeats 4000000 in
theorem SpansTight_main (v p0 p1 p2 p3 q0 q1 q2 q3 a b c d : BitVec 64) : F Try.prog (tab tb_firewalllaw16_made) Try.f5 [.one (.b64 false v), .agg [.b64 false p0, .b64 false p1, .b64 false p2, .b64 false p3, .b64 false q0, .b64 false q1, .b64 false q2, .b64 false q3], .agg [.b64 false a, .b64 false b, .b64 true c, .b64 true d]] (fun r => r = .one (.bool true)) := by
  have hA := smade_has v p0 p1 p2 p3
  have hB := smade_has v q0 q1 q2 q3
  have g1 := ok_has hA
  have g2 := ok_has (meet_has hA hB)
  have g3 := tight_has hA
  have g4 := tight_has (meet_has hA hB)
  have g5 := tight_in g1
  have g6 := in_trans (meet_inL _ _) (tight_in g2)
  have g7 := in_trans (meet_inR _ _) (tight_in g2)
  cases hr : (SS.mk a b c d).has v
  · cases hk : sOk (SS.mk a b c d)
    · repeat' (first
        | (with_reducible apply Given.mk; intro h; (try simp only [ss_eta, hr, hk, g1, g2, g3, g4, g5, g6, g7, Bool.and_self, Bool.not_true, Bool.not_false, Bool.false_eq_true, Bool.true_eq_false, reduceCtorEq] at h))
        | ((conv => whnf); with_reducible apply Both.mk))
      all_goals first
        | (with_reducible apply Ob.mk; kernel_rfl)
        | ((conv => whnf); exact ⟨rfl⟩)
    · have g8 := tight_valid hk
      have g9 := tight_in hk
      repeat' (first
        | (with_reducible apply Given.mk; intro h; (try simp only [ss_eta, hr, hk, g1, g2, g3, g4, g5, g6, g7, g8, g9, Bool.and_self, Bool.not_true, Bool.not_false, Bool.false_eq_true, Bool.true_eq_false, reduceCtorEq] at h))
        | ((conv => whnf); with_reducible apply Both.mk))
      all_goals first
        | (with_reducible apply Ob.mk; kernel_rfl)
        | ((conv => whnf); exact ⟨rfl⟩)
  · have hk := ok_has hr
    have g8 := tight_valid hk
    have g9 := tight_in hk
    have g10 := tight_has hr
    have g11 := ok_has (meet_has hA hr)
    have g12 := tight_has (meet_has hA hr)
    repeat' (first
      | (with_reducible apply Given.mk; intro h; (try simp only [ss_eta, hr, hk, g1, g2, g3, g4, g5, g6, g7, g8, g9, g10, g11, g12, Bool.and_self, Bool.not_true, Bool.not_false, Bool.false_eq_true, Bool.true_eq_false, reduceCtorEq] at h))
      | ((conv => whnf); with_reducible apply Both.mk))
    all_goals first
      | (with_reducible apply Ob.mk; kernel_rfl)
      | ((conv => whnf); exact ⟨rfl⟩)
end Go.Proofs.Ytakemmdcaboapaa
