/-
  The walk of the law InsnsMany, out of what the evaluator leaves of it. Conditions: the arguments fit their kinds.
-/
import Derived.Test.YtikhekbdliblnaaDoorInS
import Derived.OpenShut
namespace Go.Proofs.YtikhekbdliblnaaDoor
open Go.Ev Go.RowKit
set_option linter.unusedVariables false

theorem lt63 {n : Nat} (h : n ≤ maxLen) : n < 9223372036854775808 := Nat.lt_of_le_of_lt h (by decide)
set_option maxRecDepth 100000 in
theorem InsnsMany_walk (a0_0 : Int) (a0_1 : Int) (a0_2 : Int) (a0_3 : Int) (a0_4 : Int) (w : World) (m : Nat → Nat) (hG : GI m w) (w0_0 : (Lit.int .u8 a0_0).wf = true) (w0_1 : (Lit.int .u8 a0_1).wf = true) (w0_2 : (Lit.int .u8 a0_2).wf = true) (w0_3 : (Lit.int .i16 a0_3).wf = true) (w0_4 : (Lit.int .i32 a0_4).wf = true) :
    Calls Tryd.prog 8 #[.agg #[.int .u8 a0_0, .int .u8 a0_1, .int .u8 a0_2, .int .i16 a0_3, .int .i32 a0_4]] w fun e w' => e = .returned (.bool true) ∧ Below w.heap.size w w' := by
  obtain ⟨a0_0x, rfl⟩ := vI_of .u8 a0_0 w0_0
  obtain ⟨a0_1x, rfl⟩ := vI_of .u8 a0_1 w0_1
  obtain ⟨a0_2x, rfl⟩ := vI_of .u8 a0_2 w0_2
  obtain ⟨a0_3x, rfl⟩ := vI_of .i16 a0_3 w0_3
  obtain ⟨a0_4x, rfl⟩ := vI_of .i32 a0_4 w0_4
  exact law_of_F (C_firewallref02_Check m) (by kernel_rfl) Tryd.func8 (args := [.agg [.b8 false a0_0x, .b8 false a0_1x, .b8 false a0_2x, .b16 true a0_3x, .b32 true a0_4x]]) rfl (InsnsMany_main m a0_0x a0_1x a0_2x a0_3x a0_4x) (by repeat' (first | exact trivial | exact fun _ => rfl | refine ⟨_, rfl, ?_⟩ | refine ⟨?_, ?_⟩)) hG
end Go.Proofs.YtikhekbdliblnaaDoor
