/-
  What the document's Holds answers: by the evaluator. Conditions: none.
-/
import Derived.Test.YtkmggidgfkchfaaDoorScX
namespace Go.Proofs.YtkmggidgfkchfaaDoor
open Go.Ev Go.RowKit
set_option linter.unusedVariables false
set_option linter.unusedSimpArgs false

def sp_firewallref06_Holds : Sp
  | [.one (.b8 false o), .one (.bool w), .one (.b64 false a), .one (.b64 false b)] => some (Cond.t, .one (.bool (Cd.rHolds o w a b)))
  | _ => none
set_option maxRecDepth 100000 in
set_option maxHeartbeats 4000000 in
theorem e_firewallref06_Holds (m : Nat → Nat) : EntryOK Tryd.prog (GS m) 25 sp_firewallref06_Holds := by
  refine .of_F (C_firewalllaw17_sums m) (by kernel_rfl) Tryd.func25 (by kernel_rfl) (by kernel_rfl) (fun args c v h hc => ?_)
  unfold sp_firewallref06_Holds at h
  split at h
  · rename_i o w a b; cases h
    refine ⟨rfl, rfl, ?_⟩
    cases w
    all_goals
      repeat' (first
        | (with_reducible apply Given.mk; intro h; (try exact absurd h (by decide)))
        | ((conv => whnf); with_reducible apply Both.mk))
      all_goals first
        | (with_reducible apply Ob.mk; decide)
        | (with_reducible apply Ob.mk; kernel_rfl)
        | ((conv => whnf); refine ⟨?_⟩; simp_all [Cd.rHolds, Cd.wid, Cd.flip]; done)
  · cases h
abbrev tb_firewallref06_Holds : List (Nat × Sp) := (25, sp_firewallref06_Holds) :: tb_firewalllaw17_sums
theorem C_firewallref06_Holds (m : Nat → Nat) : CSound Tryd.prog (GS m) (tab (DS m) tb_firewallref06_Holds) := (C_firewalllaw17_sums m).cons (e_firewallref06_Holds m)

end Go.Proofs.YtkmggidgfkchfaaDoor

