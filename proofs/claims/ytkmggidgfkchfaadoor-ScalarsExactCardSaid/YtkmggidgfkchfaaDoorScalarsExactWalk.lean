/-
  The walk of the law ScalarsExact, out of what the evaluator leaves of it. Conditions: the arguments fit their kinds.
-/
import Derived.Test.YtkmggidgfkchfaaDoorScH
import Derived.OpenShut
namespace Go.Proofs.YtkmggidgfkchfaaDoor
open Go.Ev Go.RowKit
set_option linter.unusedVariables false

theorem lt63 {n : Nat} (h : n ≤ maxLen) : n < 9223372036854775808 := Nat.lt_of_le_of_lt h (by decide)
set_option maxRecDepth 100000 in
theorem ScalarsExact_walk (a0 : Int) (a1 : Int) (w : World) (m : Nat → Nat) (hG : GS m w) (w0 : (Lit.int .u64 a0).wf = true) (w1 : (Lit.int .u64 a1).wf = true) :
    Calls Tryd.prog 8 #[.int .u64 a0, .int .u64 a1] w fun e w' => e = .returned (.bool true) ∧ Below w.heap.size w w' := by
  obtain ⟨a0x, rfl⟩ := vI_of .u64 a0 w0
  obtain ⟨a1x, rfl⟩ := vI_of .u64 a1 w1
  exact law_of_F (C_firewalllaw17_sums m) (by kernel_rfl) Tryd.func8 (args := [.one (.b64 false a0x), .one (.b64 false a1x)]) rfl (ScalarsExact_main m a0x a1x) (by repeat' (first | exact trivial | exact fun _ => rfl | refine ⟨_, rfl, ?_⟩ | refine ⟨?_, ?_⟩)) hG
end Go.Proofs.YtkmggidgfkchfaaDoor
