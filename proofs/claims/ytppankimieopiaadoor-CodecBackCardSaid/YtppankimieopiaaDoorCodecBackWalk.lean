/-
  The walk of the law CodecBack, out of what the evaluator leaves of it. Conditions: the arguments fit their kinds.
-/
import Derived.Test.YtppankimieopiaaDoorDk
import Derived.OpenShut
namespace Go.Proofs.YtppankimieopiaaDoor
open Go.Ep Go.RowKit
set_option linter.unusedVariables false

theorem lt63 {n : Nat} (h : n ≤ maxLen) : n < 9223372036854775808 := Nat.lt_of_le_of_lt h (by decide)
set_option maxRecDepth 100000 in
theorem CodecBack_walk (a0_0 : Int) (a0_1 : Int) (a0_2 : Int) (a0_3 : Int) (a0_4 : Bool) (a0_5 : Bool) (a0_6 : Int) (a0_7 : Int) (a0_8 : Int) (a0_9 : Int) (a0_10 : Int) (a1 : ByteArray) (a2 : ByteArray) (w : World) (m : Nat → Nat) (hG : GV m w) (w0_0 : (Lit.int .i64 a0_0).wf = true) (w0_1 : (Lit.int .i64 a0_1).wf = true) (w0_2 : (Lit.int .i64 a0_2).wf = true) (w0_3 : (Lit.int .i64 a0_3).wf = true) (w0_6 : (Lit.int .i64 a0_6).wf = true) (w0_7 : (Lit.int .i64 a0_7).wf = true) (w0_8 : (Lit.int .i32 a0_8).wf = true) (w0_9 : (Lit.int .i32 a0_9).wf = true) (w0_10 : (Lit.int .i64 a0_10).wf = true) (w1 : a1.size ≤ maxLen) (w2 : a2.size ≤ maxLen) :
    Calls Tryd.prog 8 #[.agg #[.int .i64 a0_0, .int .i64 a0_1, .int .i64 a0_2, .int .i64 a0_3, .bool a0_4, .bool a0_5, .int .i64 a0_6, .int .i64 a0_7, .int .i32 a0_8, .int .i32 a0_9, .int .i64 a0_10], .string a1, .string a2] w fun e w' => e = .returned (.bool true) ∧ Below w.heap.size w w' := by
  obtain ⟨a0_0x, rfl⟩ := vI_of .i64 a0_0 w0_0
  obtain ⟨a0_1x, rfl⟩ := vI_of .i64 a0_1 w0_1
  obtain ⟨a0_2x, rfl⟩ := vI_of .i64 a0_2 w0_2
  obtain ⟨a0_3x, rfl⟩ := vI_of .i64 a0_3 w0_3
  obtain ⟨a0_6x, rfl⟩ := vI_of .i64 a0_6 w0_6
  obtain ⟨a0_7x, rfl⟩ := vI_of .i64 a0_7 w0_7
  obtain ⟨a0_8x, rfl⟩ := vI_of .i32 a0_8 w0_8
  obtain ⟨a0_9x, rfl⟩ := vI_of .i32 a0_9 w0_9
  obtain ⟨a0_10x, rfl⟩ := vI_of .i64 a0_10 w0_10
  exact law_of_F (C_kk m) (by kernel_rfl) Tryd.func8 (args := [.agg [.b64 true a0_0x, .b64 true a0_1x, .b64 true a0_2x, .b64 true a0_3x, .bool a0_4, .bool a0_5, .b64 true a0_6x, .b64 true a0_7x, .b32 true a0_8x, .b32 true a0_9x, .b64 true a0_10x], .one (.str a1), .one (.str a2)]) rfl (CodecBack_main m a0_0x a0_1x a0_2x a0_3x a0_4 a0_5 a0_6x a0_7x a0_8x a0_9x a0_10x a1 (lt63 w1) a2 (lt63 w2)) (by repeat' (first | exact trivial | exact fun _ => rfl | refine ⟨_, rfl, ?_⟩ | refine (relLs_cons rfl).2 ⟨_, _, rfl, fun _ => rfl, ?_⟩ | exact rfl | refine ⟨?_, ?_⟩)) hG
end Go.Proofs.YtppankimieopiaaDoor
