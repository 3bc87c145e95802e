/-
  InsnsCheck and InsnsMany, as the evaluator leaves them. Conditions: none.
-/
import Derived.Test.YtikhekbdliblnaaDoorInR
namespace Go.Proofs.YtikhekbdliblnaaDoor
open Go.Ev Go.RowKit
set_option linter.unusedVariables false
set_option linter.unusedSimpArgs false

set_option maxRecDepth 100000 in
set_option maxHeartbeats 4000000 in
theorem InsnsCheck_main (m : Nat → Nat) (o d s : BitVec 8) (f : BitVec 16) (i : BitVec 32) : F Tryd.prog (tab (DI m) tb_firewallref02_Check) Tryd.f7 [.agg [.b8 false o, .b8 false d, .b8 false s, .b16 true f, .b32 true i]] (fun r => r = .one (.bool true)) := by
  repeat' (first
    | (with_reducible apply Given.mk; intro h; (try simp only [bne_self_eq_false, Bool.not_true, Bool.not_false, Bool.false_eq_true, Bool.true_eq_false, reduceCtorEq] at h); (try exact absurd h (by decide)))
    | ((conv => whnf); first | with_reducible apply Both.mk | (refine LoopP.mk Nat (fun k => k ≤ 256) (fun k => mkS 38 [(1, .one (.ptr 1 0)), (3, iN k)] [(1, .cells 33 [.b8 false o, .b8 false d, .b8 false s, .b16 true f, .b32 true i])]) (fun k => 256 - k) ⟨0, by omega, ⟨?_, ?_, rfl, rfl⟩⟩ ?_; (focus ((repeat' ((conv => whnf); first | exact trivial | refine Both.mk (by first | with_reducible rfl | rfl) ?_)); done)); (focus ((repeat' ((conv => whnf); first | exact trivial | refine Both.mk (by first | with_reducible rfl | rfl) ?_)); done)); intro k hk)))
  all_goals first
    | (with_reducible apply Ob.mk; kernel_rfl)
    | (with_reducible apply Ob.mk; decide)
    | (with_reducible apply Ob.mk; rfl)
    | ((conv => whnf); exact ⟨rfl⟩)
    | (have hlt := slt_yes (k := k) (n := 256) (by omega) (by omega) (by assumption)
       (conv => whnf)
       refine ⟨k + 1, by omega, by omega, ?_, ?_, rfl, rfl⟩
       all_goals repeat' ((conv => whnf); first | exact trivial | refine Both.mk (by first | with_reducible rfl | exact iN_succ k | rfl) ?_))

end Go.Proofs.YtikhekbdliblnaaDoor
