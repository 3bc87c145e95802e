/-
  The walk of the law AluHalf of chapter 05: it returns true, and nothing that was there is changed. Conditions: the arguments fit their kinds.
-/
import Derived.Test.YtaifibnpbkgaiaaAluLaws
namespace Go.Proofs.Ytaifibnpbkgaiaa
open Go.RowKit
set_option linter.unusedVariables false
set_option linter.unusedSimpArgs false

theorem AluHalf_walk (a0 : Int) (a1_0 : Int) (a1_1 : Int) (a2_0 : Int) (a2_1 : Int) (w : World) (w0 : (Lit.int .u8 a0).wf = true) (w1_0 : (Lit.int .u64 a1_0).wf = true) (w1_1 : (Lit.int .u64 a1_1).wf = true) (w2_0 : (Lit.int .u32 a2_0).wf = true) (w2_1 : (Lit.int .u32 a2_1).wf = true) :
    Calls Try.prog 10 #[.int .u8 a0, .agg #[.int .u64 a1_0, .int .u64 a1_1], .agg #[.int .u32 a2_0, .int .u32 a2_1]] w fun e w' => e = .returned (.bool true) ∧ Below w.heap.size w w' := by
  obtain ⟨b1, b2⟩ := bounds_u64 w1_0
  obtain ⟨c1, c2⟩ := bounds_u64 w1_1
  obtain ⟨d1, d2⟩ := bounds_u32 w2_0
  obtain ⟨e1, e2⟩ := bounds_u32 w2_1
  clear w0 w1_0 w1_1 w2_0 w2_1
  have f1 : doS a0 false (a2_0 * 4294967296 + a1_0 % 4294967296) (a2_1 * 4294967296 + a1_1 % 4294967296) = doS a0 false (a1_0 % 4294967296) (a1_1 % 4294967296) := low_only _ _ _ _ _ (by omega) (by omega)
  have f2 : doS a0 false a1_0 a1_1 = doS a0 false (a1_0 % 4294967296) (a1_1 % 4294967296) := low_only _ _ _ _ _ (by omega) (by omega)
  have f3 := doS_hi32 a0 (a1_0 % 4294967296) (a1_1 % 4294967296)
  go_enter Try.func10, Try.ntmps10
  go_wp2_with fail
  go_region
  go_wp2_with (first | (go_at_call 21; refine (do_any _ _ _ _ _ (by omega) (by omega) (by omega) (by omega)).mono ?_; rintro e w' ⟨rfl, rfl⟩) | (go_at_call 23; refine (reckoned_any _).mono ?_; rintro e w' ⟨rfl, rfl⟩))
  go_ret
  exact ⟨rfl, by repeat' (first | exact Below.refl _ _ | (refine Below.alloc ?_ (by simp <;> omega) _) | (refine Below.drew ?_))⟩
end Go.Proofs.Ytaifibnpbkgaiaa
