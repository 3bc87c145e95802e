/-
  The walk of the law KindsLess, out of what the evaluator leaves of it. Conditions: the arguments fit their kinds.
-/
import Derived.Test.YtkmggidgfkchfaaDoorSqB
import Derived.OpenShut
namespace Go.Proofs.YtkmggidgfkchfaaDoor
open Go.Ep Go.RowKit
set_option linter.unusedVariables false

theorem lt63 {n : Nat} (h : n ≤ maxLen) : n < 9223372036854775808 := Nat.lt_of_le_of_lt h (by decide)
set_option maxRecDepth 100000 in
theorem KindsLess_walk (a0_0 : Int) (a0_1 : Int) (a1 : Int) (w : World) (m : Nat → Nat) (hG : GS m w) (w0_0 : (Lit.int .u16 a0_0).wf = true) (w0_1 : (Lit.int .u16 a0_1).wf = true) (w1 : (Lit.int .u32 a1).wf = true) :
    Calls Tryd.prog 5 #[.agg #[.int .u16 a0_0, .int .u16 a0_1], .int .u32 a1] w fun e w' => e = .returned (.bool true) ∧ Below w.heap.size w w' := by
  obtain ⟨a0_0x, rfl⟩ := vI_of .u16 a0_0 w0_0
  obtain ⟨a0_1x, rfl⟩ := vI_of .u16 a0_1 w0_1
  obtain ⟨a1x, rfl⟩ := vI_of .u32 a1 w1
  exact law_of_F (C_K m) (by kernel_rfl) Tryd.func5 (args := [.agg [.b16 false a0_0x, .b16 false a0_1x], .one (.b32 false a1x)]) rfl (KindsLess_main m a0_0x a0_1x a1x) (by repeat' (first | exact trivial | exact fun _ => rfl | refine ⟨_, rfl, ?_⟩ | refine (relLs_cons rfl).2 ⟨_, _, rfl, fun _ => rfl, ?_⟩ | exact rfl | refine ⟨?_, ?_⟩)) hG
end Go.Proofs.YtkmggidgfkchfaaDoor
