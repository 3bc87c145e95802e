/-
  The walk of the law CondsBits, out of what the evaluator leaves of it. Conditions: the arguments fit their kinds.
-/
import Derived.Test.YtikhekbdliblnaaDoorCdL
import Derived.OpenShut
namespace Go.Proofs.YtikhekbdliblnaaDoor
open Go.Ev Go.RowKit
set_option linter.unusedVariables false

set_option maxRecDepth 100000 in
theorem CondsBits_walk (a0 : Int) (a1 : Int) (a2 : Int) (w : World) (m : Nat → Nat) (hG : GC m w) (w0 : (Lit.int .u64 a0).wf = true) (w1 : (Lit.int .u64 a1).wf = true) (w2 : (Lit.int .u8 a2).wf = true) :
    Calls Tryd.prog 6 #[.int .u64 a0, .int .u64 a1, .int .u8 a2] w fun e w' => e = .returned (.bool true) ∧ Below w.heap.size w w' := by
  obtain ⟨a0x, rfl⟩ := vI_of .u64 a0 w0
  obtain ⟨a1x, rfl⟩ := vI_of .u64 a1 w1
  obtain ⟨a2x, rfl⟩ := vI_of .u8 a2 w2
  exact law_of_F (C_firewalllaw06_held m) (by kernel_rfl) Tryd.func6 (args := [.one (.b64 false a0x), .one (.b64 false a1x), .one (.b8 false a2x)]) rfl (CondsBits_main m a0x a1x a2x) (by repeat' (first | exact trivial | exact fun _ => rfl | refine ⟨_, rfl, ?_⟩ | refine ⟨?_, ?_⟩)) hG
end Go.Proofs.YtikhekbdliblnaaDoor
