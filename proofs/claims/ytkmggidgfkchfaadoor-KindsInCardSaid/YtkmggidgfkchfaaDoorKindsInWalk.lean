/-
  The walk of the law KindsIn, out of what the evaluator leaves of it. Conditions: the arguments fit their kinds.
-/
import Derived.Test.YtkmggidgfkchfaaDoorSqB
import Derived.OpenShut
namespace Go.Proofs.YtkmggidgfkchfaaDoor
open Go.Ep Go.RowKit
set_option linter.unusedVariables false

theorem lt63 {n : Nat} (h : n ≤ maxLen) : n < 9223372036854775808 := Nat.lt_of_le_of_lt h (by decide)
set_option maxRecDepth 100000 in
theorem KindsIn_walk (a0_0 : Int) (a0_1 : Int) (a0_2 : Int) (a0_3 : Int) (a0_4 : Int) (a0_5 : Int) (a0_6 : Int) (a0_7 : Int) (a0_8 : Int) (a0_9 : Int) (a0_10 : Int) (a1_0 : Int) (a1_1 : Int) (a1_2 : Int) (a1_3 : Int) (a1_4 : Int) (a1_5 : Int) (a1_6 : Int) (a1_7 : Int) (a1_8 : Int) (a1_9 : Int) (a1_10 : Int) (w : World) (m : Nat → Nat) (hG : GS m w) (w0_0 : (Lit.int .i64 a0_0).wf = true) (w0_1 : (Lit.int .i64 a0_1).wf = true) (w0_2 : (Lit.int .i64 a0_2).wf = true) (w0_3 : (Lit.int .i64 a0_3).wf = true) (w0_4 : (Lit.int .i64 a0_4).wf = true) (w0_5 : (Lit.int .u32 a0_5).wf = true) (w0_6 : (Lit.int .u64 a0_6).wf = true) (w0_7 : (Lit.int .u64 a0_7).wf = true) (w0_8 : (Lit.int .u64 a0_8).wf = true) (w0_9 : (Lit.int .u64 a0_9).wf = true) (w0_10 : (Lit.int .u64 a0_10).wf = true) (w1_0 : (Lit.int .i64 a1_0).wf = true) (w1_1 : (Lit.int .i64 a1_1).wf = true) (w1_2 : (Lit.int .i64 a1_2).wf = true) (w1_3 : (Lit.int .i64 a1_3).wf = true) (w1_4 : (Lit.int .i64 a1_4).wf = true) (w1_5 : (Lit.int .u32 a1_5).wf = true) (w1_6 : (Lit.int .u64 a1_6).wf = true) (w1_7 : (Lit.int .u64 a1_7).wf = true) (w1_8 : (Lit.int .u64 a1_8).wf = true) (w1_9 : (Lit.int .u64 a1_9).wf = true) (w1_10 : (Lit.int .u64 a1_10).wf = true) :
    Calls Tryd.prog 4 #[.agg #[.int .i64 a0_0, .int .i64 a0_1, .int .i64 a0_2, .int .i64 a0_3, .int .i64 a0_4, .int .u32 a0_5, .int .u64 a0_6, .int .u64 a0_7, .int .u64 a0_8, .int .u64 a0_9, .int .u64 a0_10], .agg #[.int .i64 a1_0, .int .i64 a1_1, .int .i64 a1_2, .int .i64 a1_3, .int .i64 a1_4, .int .u32 a1_5, .int .u64 a1_6, .int .u64 a1_7, .int .u64 a1_8, .int .u64 a1_9, .int .u64 a1_10]] w fun e w' => e = .returned (.bool true) ∧ Below w.heap.size w w' := by
  obtain ⟨a0_0x, rfl⟩ := vI_of .i64 a0_0 w0_0
  obtain ⟨a0_1x, rfl⟩ := vI_of .i64 a0_1 w0_1
  obtain ⟨a0_2x, rfl⟩ := vI_of .i64 a0_2 w0_2
  obtain ⟨a0_3x, rfl⟩ := vI_of .i64 a0_3 w0_3
  obtain ⟨a0_4x, rfl⟩ := vI_of .i64 a0_4 w0_4
  obtain ⟨a0_5x, rfl⟩ := vI_of .u32 a0_5 w0_5
  obtain ⟨a0_6x, rfl⟩ := vI_of .u64 a0_6 w0_6
  obtain ⟨a0_7x, rfl⟩ := vI_of .u64 a0_7 w0_7
  obtain ⟨a0_8x, rfl⟩ := vI_of .u64 a0_8 w0_8
  obtain ⟨a0_9x, rfl⟩ := vI_of .u64 a0_9 w0_9
  obtain ⟨a0_10x, rfl⟩ := vI_of .u64 a0_10 w0_10
  obtain ⟨a1_0x, rfl⟩ := vI_of .i64 a1_0 w1_0
  obtain ⟨a1_1x, rfl⟩ := vI_of .i64 a1_1 w1_1
  obtain ⟨a1_2x, rfl⟩ := vI_of .i64 a1_2 w1_2
  obtain ⟨a1_3x, rfl⟩ := vI_of .i64 a1_3 w1_3
  obtain ⟨a1_4x, rfl⟩ := vI_of .i64 a1_4 w1_4
  obtain ⟨a1_5x, rfl⟩ := vI_of .u32 a1_5 w1_5
  obtain ⟨a1_6x, rfl⟩ := vI_of .u64 a1_6 w1_6
  obtain ⟨a1_7x, rfl⟩ := vI_of .u64 a1_7 w1_7
  obtain ⟨a1_8x, rfl⟩ := vI_of .u64 a1_8 w1_8
  obtain ⟨a1_9x, rfl⟩ := vI_of .u64 a1_9 w1_9
  obtain ⟨a1_10x, rfl⟩ := vI_of .u64 a1_10 w1_10
  exact law_of_F (C_K m) (by kernel_rfl) Tryd.func4 (args := [.agg [.b64 true a0_0x, .b64 true a0_1x, .b64 true a0_2x, .b64 true a0_3x, .b64 true a0_4x, .b32 false a0_5x, .b64 false a0_6x, .b64 false a0_7x, .b64 false a0_8x, .b64 false a0_9x, .b64 false a0_10x], .agg [.b64 true a1_0x, .b64 true a1_1x, .b64 true a1_2x, .b64 true a1_3x, .b64 true a1_4x, .b32 false a1_5x, .b64 false a1_6x, .b64 false a1_7x, .b64 false a1_8x, .b64 false a1_9x, .b64 false a1_10x]]) rfl (KindsIn_main m a0_0x a0_1x a0_2x a0_3x a0_4x a0_5x a0_6x a0_7x a0_8x a0_9x a0_10x a1_0x a1_1x a1_2x a1_3x a1_4x a1_5x a1_6x a1_7x a1_8x a1_9x a1_10x) (by repeat' (first | exact trivial | exact fun _ => rfl | refine ⟨_, rfl, ?_⟩ | refine (relLs_cons rfl).2 ⟨_, _, rfl, fun _ => rfl, ?_⟩ | exact rfl | refine ⟨?_, ?_⟩)) hG
end Go.Proofs.YtkmggidgfkchfaaDoor
