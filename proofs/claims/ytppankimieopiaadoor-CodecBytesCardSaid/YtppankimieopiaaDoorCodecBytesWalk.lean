/-
  The walk of the law CodecBytes, out of what the evaluator leaves of it. Conditions: the arguments fit their kinds.
-/
import Derived.Test.YtppankimieopiaaDoorDy
import Derived.OpenShut
namespace Go.Proofs.YtppankimieopiaaDoor
open Go.Ep Go.RowKit
set_option linter.unusedVariables false

theorem lt63 {n : Nat} (h : n ≤ maxLen) : n < 9223372036854775808 := Nat.lt_of_le_of_lt h (by decide)
set_option maxRecDepth 100000 in
theorem CodecBytes_walk (a0 : ByteArray) (a1 : Int) (w : World) (m : Nat → Nat) (hG : GV m w) (w0 : a0.size ≤ maxLen) (w1 : (Lit.int .i64 a1).wf = true) :
    Calls Tryd.prog 7 #[.string a0, .int .i64 a1] w fun e w' => e = .returned (.bool true) ∧ Below w.heap.size w w' := by
  obtain ⟨a1x, rfl⟩ := vI_of .i64 a1 w1
  exact law_of_F (C_yy m) (by kernel_rfl) Tryd.func7 (args := [.one (.str a0), .one (.b64 true a1x)]) rfl (CodecBytes_main m a0 (lt63 w0) a1x) (by repeat' (first | exact trivial | exact fun _ => rfl | refine ⟨_, rfl, ?_⟩ | refine (relLs_cons rfl).2 ⟨_, _, rfl, fun _ => rfl, ?_⟩ | exact rfl | refine ⟨?_, ?_⟩)) hG
end Go.Proofs.YtppankimieopiaaDoor
