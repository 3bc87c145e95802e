/-
  CpuTaken, as the evaluator leaves it. Conditions: none.
-/
import Derived.Test.YtppankimieopiaaDoorCpG
namespace Go.Proofs.YtppankimieopiaaDoor
open Go.El Go.RowKit
set_option linter.unusedVariables false
set_option linter.unusedSimpArgs false

theorem ybs (b : Bool) : (b == b) = true := by cases b <;> rfl
theorem nbs (b : Bool) : (!(b == b)) = false := by cases b <;> rfl
set_option maxRecDepth 100000 in
set_option maxHeartbeats 4000000 in
theorem CpuTaken_main (m : Nat → Nat) (c r0 r1 r2 r3 r4 r5 r6 r7 r8 r9 r10 r11 r12 r13 r14 r15 : BitVec 64) (fz fs fc fo : Bool) (pc : BitVec 64) : F Tryd.prog (tab (DU m) (tb_firewalllaw12_done m)) Tryd.f11 [.one (.b64 true c), .agg [.b64 false r0, .b64 false r1, .b64 false r2, .b64 false r3, .b64 false r4, .b64 false r5, .b64 false r6, .b64 false r7, .b64 false r8, .b64 false r9, .b64 false r10, .b64 false r11, .b64 false r12, .b64 false r13, .b64 false r14, .b64 false r15, .bool fz, .bool fs, .bool fc, .bool fo, .b64 false pc]] (fun r => r = .one (.bool true)) := by
  repeat' (first
    | (with_reducible apply Given.mk; intro h; (try exact absurd ((nbs _).symm.trans h) (by decide)); (try exact absurd ((ybs _).symm.trans h) (by decide)); (try simp only [Bool.false_eq_true, Bool.true_eq_false, reduceCtorEq] at h); (try exact absurd h (by decide)))
    | ((conv => whnf); first | with_reducible apply Both.mk | refine LoopP.times 21 ?_))
  all_goals first
    | (with_reducible apply Ob.mk; kernel_rfl)
    | (with_reducible apply Ob.mk; decide)
    | ((conv => whnf); exact ⟨rfl⟩)
end Go.Proofs.YtppankimieopiaaDoor
