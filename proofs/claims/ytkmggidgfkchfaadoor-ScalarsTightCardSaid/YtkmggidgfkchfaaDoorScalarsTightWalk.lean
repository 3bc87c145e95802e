/-
  The walk of the law ScalarsTight, out of what the evaluator leaves of it. Conditions: the arguments fit their kinds.
-/
import Derived.Test.YtkmggidgfkchfaaDoorScJ
import Derived.OpenShut
namespace Go.Proofs.YtkmggidgfkchfaaDoor
open Go.Ev Go.RowKit
set_option linter.unusedVariables false

theorem lt63 {n : Nat} (h : n ≤ maxLen) : n < 9223372036854775808 := Nat.lt_of_le_of_lt h (by decide)
set_option maxRecDepth 100000 in
theorem ScalarsTight_walk (a0 : Int) (a1_0 : Int) (a1_1 : Int) (a1_2 : Int) (a1_3 : Int) (a1_4 : Int) (a2 : Int) (w : World) (m : Nat → Nat) (hG : GS m w) (w0 : (Lit.int .u64 a0).wf = true) (w1_0 : (Lit.int .u64 a1_0).wf = true) (w1_1 : (Lit.int .u64 a1_1).wf = true) (w1_2 : (Lit.int .u64 a1_2).wf = true) (w1_3 : (Lit.int .u64 a1_3).wf = true) (w1_4 : (Lit.int .u64 a1_4).wf = true) (w2 : (Lit.int .i64 a2).wf = true) :
    Calls Tryd.prog 9 #[.int .u64 a0, .agg #[.int .u64 a1_0, .int .u64 a1_1, .int .u64 a1_2, .int .u64 a1_3, .int .u64 a1_4], .int .i64 a2] w fun e w' => e = .returned (.bool true) ∧ Below w.heap.size w w' := by
  obtain ⟨a0x, rfl⟩ := vI_of .u64 a0 w0
  obtain ⟨a1_0x, rfl⟩ := vI_of .u64 a1_0 w1_0
  obtain ⟨a1_1x, rfl⟩ := vI_of .u64 a1_1 w1_1
  obtain ⟨a1_2x, rfl⟩ := vI_of .u64 a1_2 w1_2
  obtain ⟨a1_3x, rfl⟩ := vI_of .u64 a1_3 w1_3
  obtain ⟨a1_4x, rfl⟩ := vI_of .u64 a1_4 w1_4
  obtain ⟨a2x, rfl⟩ := vI_of .i64 a2 w2
  exact law_of_F (C_firewalllaw17_sums m) (by kernel_rfl) Tryd.func9 (args := [.one (.b64 false a0x), .agg [.b64 false a1_0x, .b64 false a1_1x, .b64 false a1_2x, .b64 false a1_3x, .b64 false a1_4x], .one (.b64 true a2x)]) rfl (ScalarsTight_main m a0x a1_0x a1_1x a1_2x a1_3x a1_4x a2x) (by repeat' (first | exact trivial | exact fun _ => rfl | refine ⟨_, rfl, ?_⟩ | refine ⟨?_, ?_⟩)) hG
end Go.Proofs.YtkmggidgfkchfaaDoor
