/-
  The walk of the law KindsAdd, out of what the evaluator leaves of it. Conditions: the arguments fit their kinds.
-/
import Derived.Test.YtkmggidgfkchfaaDoorVaL
import Derived.OpenShut
namespace Go.Proofs.YtkmggidgfkchfaaDoor
open Go.Ev Go.RowKit
set_option linter.unusedVariables false

theorem lt63 {n : Nat} (h : n ≤ maxLen) : n < 9223372036854775808 := Nat.lt_of_le_of_lt h (by decide)
set_option maxRecDepth 100000 in
theorem KindsAdd_walk (a0_0 : Int) (a0_1 : Int) (a0_2 : Int) (a0_3 : Int) (a0_4 : Int) (a0_5 : Int) (a0_6 : Int) (a0_7 : Int) (a0_8 : Int) (a0_9 : Int) (a0_10 : Int) (a1 : Int) (a2_0 : Int) (a2_1 : Int) (a2_2 : Int) (a2_3 : Int) (a2_4 : Int) (w : World) (m : Nat → Nat) (hG : GS m w) (w0_0 : (Lit.int .i64 a0_0).wf = true) (w0_1 : (Lit.int .i64 a0_1).wf = true) (w0_2 : (Lit.int .i64 a0_2).wf = true) (w0_3 : (Lit.int .i64 a0_3).wf = true) (w0_4 : (Lit.int .i64 a0_4).wf = true) (w0_5 : (Lit.int .u32 a0_5).wf = true) (w0_6 : (Lit.int .u64 a0_6).wf = true) (w0_7 : (Lit.int .u64 a0_7).wf = true) (w0_8 : (Lit.int .u64 a0_8).wf = true) (w0_9 : (Lit.int .u64 a0_9).wf = true) (w0_10 : (Lit.int .u64 a0_10).wf = true) (w1 : (Lit.int .u64 a1).wf = true) (w2_0 : (Lit.int .u64 a2_0).wf = true) (w2_1 : (Lit.int .u64 a2_1).wf = true) (w2_2 : (Lit.int .u64 a2_2).wf = true) (w2_3 : (Lit.int .u64 a2_3).wf = true) (w2_4 : (Lit.int .u64 a2_4).wf = true) :
    Calls Tryd.prog 3 #[.agg #[.int .i64 a0_0, .int .i64 a0_1, .int .i64 a0_2, .int .i64 a0_3, .int .i64 a0_4, .int .u32 a0_5, .int .u64 a0_6, .int .u64 a0_7, .int .u64 a0_8, .int .u64 a0_9, .int .u64 a0_10], .int .u64 a1, .agg #[.int .u64 a2_0, .int .u64 a2_1, .int .u64 a2_2, .int .u64 a2_3, .int .u64 a2_4]] w fun e w' => e = .returned (.bool true) ∧ Below w.heap.size w w' := by
  obtain ⟨a0_0x, rfl⟩ := vI_of .i64 a0_0 w0_0
  obtain ⟨a0_1x, rfl⟩ := vI_of .i64 a0_1 w0_1
  obtain ⟨a0_2x, rfl⟩ := vI_of .i64 a0_2 w0_2
  obtain ⟨a0_3x, rfl⟩ := vI_of .i64 a0_3 w0_3
  obtain ⟨a0_4x, rfl⟩ := vI_of .i64 a0_4 w0_4
  obtain ⟨a0_5x, rfl⟩ := vI_of .u32 a0_5 w0_5
  obtain ⟨a0_6x, rfl⟩ := vI_of .u64 a0_6 w0_6
  obtain ⟨a0_7x, rfl⟩ := vI_of .u64 a0_7 w0_7
  obtain ⟨a0_8x, rfl⟩ := vI_of .u64 a0_8 w0_8
  obtain ⟨a0_9x, rfl⟩ := vI_of .u64 a0_9 w0_9
  obtain ⟨a0_10x, rfl⟩ := vI_of .u64 a0_10 w0_10
  obtain ⟨a1x, rfl⟩ := vI_of .u64 a1 w1
  obtain ⟨a2_0x, rfl⟩ := vI_of .u64 a2_0 w2_0
  obtain ⟨a2_1x, rfl⟩ := vI_of .u64 a2_1 w2_1
  obtain ⟨a2_2x, rfl⟩ := vI_of .u64 a2_2 w2_2
  obtain ⟨a2_3x, rfl⟩ := vI_of .u64 a2_3 w2_3
  obtain ⟨a2_4x, rfl⟩ := vI_of .u64 a2_4 w2_4
  exact law_of_F (C_firewalllaw18_points m) (by kernel_rfl) Tryd.func3 (args := [.agg [.b64 true a0_0x, .b64 true a0_1x, .b64 true a0_2x, .b64 true a0_3x, .b64 true a0_4x, .b32 false a0_5x, .b64 false a0_6x, .b64 false a0_7x, .b64 false a0_8x, .b64 false a0_9x, .b64 false a0_10x], .one (.b64 false a1x), .agg [.b64 false a2_0x, .b64 false a2_1x, .b64 false a2_2x, .b64 false a2_3x, .b64 false a2_4x]]) rfl (KindsAdd_main m a0_0x a0_1x a0_2x a0_3x a0_4x a0_5x a0_6x a0_7x a0_8x a0_9x a0_10x a1x a2_0x a2_1x a2_2x a2_3x a2_4x) (by repeat' (first | exact trivial | exact fun _ => rfl | refine ⟨_, rfl, ?_⟩ | refine ⟨?_, ?_⟩)) hG
end Go.Proofs.YtkmggidgfkchfaaDoor
