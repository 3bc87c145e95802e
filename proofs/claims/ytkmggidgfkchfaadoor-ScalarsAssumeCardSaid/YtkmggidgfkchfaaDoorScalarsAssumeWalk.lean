/-
  The walk of the law ScalarsAssume, out of what the evaluator leaves of it. Conditions: the arguments fit their kinds.
-/
import Derived.Test.YtkmggidgfkchfaaDoorScV
import Derived.OpenShut
namespace Go.Proofs.YtkmggidgfkchfaaDoor
open Go.Ev Go.RowKit
set_option linter.unusedVariables false

theorem lt63 {n : Nat} (h : n ≤ maxLen) : n < 9223372036854775808 := Nat.lt_of_le_of_lt h (by decide)
set_option maxRecDepth 100000 in
theorem ScalarsAssume_walk (a0 : Int) (a1_0 : Int) (a1_1 : Int) (a2_0 : Int) (a2_1 : Int) (a2_2 : Int) (a2_3 : Int) (a2_4 : Int) (a2_5 : Int) (a2_6 : Int) (a2_7 : Int) (a2_8 : Int) (a2_9 : Int) (w : World) (m : Nat → Nat) (hG : GS m w) (w0 : (Lit.int .u8 a0).wf = true) (w1_0 : (Lit.int .u64 a1_0).wf = true) (w1_1 : (Lit.int .u64 a1_1).wf = true) (w2_0 : (Lit.int .u64 a2_0).wf = true) (w2_1 : (Lit.int .u64 a2_1).wf = true) (w2_2 : (Lit.int .u64 a2_2).wf = true) (w2_3 : (Lit.int .u64 a2_3).wf = true) (w2_4 : (Lit.int .u64 a2_4).wf = true) (w2_5 : (Lit.int .u64 a2_5).wf = true) (w2_6 : (Lit.int .u64 a2_6).wf = true) (w2_7 : (Lit.int .u64 a2_7).wf = true) (w2_8 : (Lit.int .u64 a2_8).wf = true) (w2_9 : (Lit.int .u64 a2_9).wf = true) :
    Calls Tryd.prog 7 #[.int .u8 a0, .agg #[.int .u64 a1_0, .int .u64 a1_1], .agg #[.int .u64 a2_0, .int .u64 a2_1, .int .u64 a2_2, .int .u64 a2_3, .int .u64 a2_4, .int .u64 a2_5, .int .u64 a2_6, .int .u64 a2_7, .int .u64 a2_8, .int .u64 a2_9]] w fun e w' => e = .returned (.bool true) ∧ Below w.heap.size w w' := by
  obtain ⟨a0x, rfl⟩ := vI_of .u8 a0 w0
  obtain ⟨a1_0x, rfl⟩ := vI_of .u64 a1_0 w1_0
  obtain ⟨a1_1x, rfl⟩ := vI_of .u64 a1_1 w1_1
  obtain ⟨a2_0x, rfl⟩ := vI_of .u64 a2_0 w2_0
  obtain ⟨a2_1x, rfl⟩ := vI_of .u64 a2_1 w2_1
  obtain ⟨a2_2x, rfl⟩ := vI_of .u64 a2_2 w2_2
  obtain ⟨a2_3x, rfl⟩ := vI_of .u64 a2_3 w2_3
  obtain ⟨a2_4x, rfl⟩ := vI_of .u64 a2_4 w2_4
  obtain ⟨a2_5x, rfl⟩ := vI_of .u64 a2_5 w2_5
  obtain ⟨a2_6x, rfl⟩ := vI_of .u64 a2_6 w2_6
  obtain ⟨a2_7x, rfl⟩ := vI_of .u64 a2_7 w2_7
  obtain ⟨a2_8x, rfl⟩ := vI_of .u64 a2_8 w2_8
  obtain ⟨a2_9x, rfl⟩ := vI_of .u64 a2_9 w2_9
  exact law_of_F (C_firewallref06_Holds m) (by kernel_rfl) Tryd.func7 (args := [.one (.b8 false a0x), .agg [.b64 false a1_0x, .b64 false a1_1x], .agg [.b64 false a2_0x, .b64 false a2_1x, .b64 false a2_2x, .b64 false a2_3x, .b64 false a2_4x, .b64 false a2_5x, .b64 false a2_6x, .b64 false a2_7x, .b64 false a2_8x, .b64 false a2_9x]]) rfl (ScalarsAssume_main m a0x a1_0x a1_1x a2_0x a2_1x a2_2x a2_3x a2_4x a2_5x a2_6x a2_7x a2_8x a2_9x) (by repeat' (first | exact trivial | exact fun _ => rfl | refine ⟨_, rfl, ?_⟩ | refine ⟨?_, ?_⟩)) hG
end Go.Proofs.YtkmggidgfkchfaaDoor
