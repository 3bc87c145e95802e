/-
  What the laws' own functions of chapter 16 answer: by the evaluator. Conditions: none.
-/
import Derived.Test.YtakemmdcaboapaaSpC
namespace Go.Proofs.Ytakemmdcaboapaa
open Go.Ev Go.RowKit
set_option linter.unusedVariables false
set_option linter.unusedSimpArgs false

def sDown (v b : BitVec 64) : BitVec 64 := umin (umin (v - sMin) b) sMax
def sUp (v b : BitVec 64) : BitVec 64 := umin (umin (sMax - v) b) sMax
def sMade (v p q r s : BitVec 64) : SS := ⟨v - umin v p, v + umin (~~~v) q, v - sDown v r, v + sUp v s⟩

def sp_firewallref16_Has : Sp
  | [.one (.b64 false a), .one (.b64 false b), .one (.b64 true c), .one (.b64 true d), .one (.b64 false v)] => some (Cond.t, .one (.bool ((SS.mk a b c d).has v)))
  | _ => none
set_option maxRecDepth 100000 in
set_option maxHeartbeats 4000000 in
theorem e_firewallref16_Has : EntryOK Try.prog anyWorld 58 sp_firewallref16_Has := by
  refine .of_F C_firewalllaw16_ends (by kernel_rfl) Try.func58 (by kernel_rfl) (by kernel_rfl) (fun args c v h hc => ?_)
  unfold sp_firewallref16_Has at h
  split at h
  · rename_i a b c d v; cases h
    refine ⟨rfl, rfl, ?_⟩
    repeat' (first
      | (with_reducible apply Given.mk; intro h)
      | ((conv => whnf); with_reducible apply Both.mk))
    all_goals first
      | (with_reducible apply Ob.mk; kernel_rfl)
      | ((conv => whnf); refine ⟨?_⟩; simp only [SS.has, *, Bool.true_and, Bool.and_true, Bool.false_and, Bool.and_false, Bool.false_eq_true, Bool.true_eq_false, reduceCtorEq] at *; done)
  · cases h
abbrev tb_firewallref16_Has : List (Nat × Sp) := (58, sp_firewallref16_Has) :: tb_firewalllaw16_ends
theorem C_firewallref16_Has : CSound Try.prog anyWorld (tab tb_firewallref16_Has) := C_firewalllaw16_ends.cons e_firewallref16_Has

def sp_firewalllaw16_has : Sp
  | [.agg [.b64 false a, .b64 false b, .b64 true c, .b64 true d], .one (.b64 false v)] => some (Cond.t, .one (.bool ((SS.mk a b c d).has v)))
  | _ => none
set_option maxRecDepth 100000 in
set_option maxHeartbeats 4000000 in
theorem e_firewalllaw16_has : EntryOK Try.prog anyWorld 26 sp_firewalllaw16_has := by
  refine .of_F C_firewallref16_Has (by kernel_rfl) Try.func26 (by kernel_rfl) (by kernel_rfl) (fun args c v h hc => ?_)
  unfold sp_firewalllaw16_has at h
  split at h
  · rename_i a b c d v; cases h
    refine ⟨rfl, rfl, ?_⟩
    repeat' (first
      | (with_reducible apply Given.mk; intro h)
      | ((conv => whnf); with_reducible apply Both.mk))
    all_goals first
      | (with_reducible apply Ob.mk; kernel_rfl)
      | ((conv => whnf); exact ⟨rfl⟩)
  · cases h
abbrev tb_firewalllaw16_has : List (Nat × Sp) := (26, sp_firewalllaw16_has) :: tb_firewallref16_Has
theorem C_firewalllaw16_has : CSound Try.prog anyWorld (tab tb_firewalllaw16_has) := C_firewallref16_Has.cons e_firewalllaw16_has

def sp_firewalllaw16_down : Sp
  | [.one (.b64 false v), .one (.b64 false b)] => some (Cond.t, .one (.b64 true (sDown v b)))
  | _ => none
set_option maxRecDepth 100000 in
set_option maxHeartbeats 4000000 in
theorem e_firewalllaw16_down : EntryOK Try.prog anyWorld 56 sp_firewalllaw16_down := by
  refine .of_F C_firewalllaw16_has (by kernel_rfl) Try.func56 (by kernel_rfl) (by kernel_rfl) (fun args c v h hc => ?_)
  unfold sp_firewalllaw16_down at h
  split at h
  · rename_i v b; cases h
    refine ⟨rfl, rfl, ?_⟩
    repeat' (first
      | (with_reducible apply Given.mk; intro h)
      | ((conv => whnf); with_reducible apply Both.mk))
    all_goals first
      | (with_reducible apply Ob.mk; kernel_rfl)
      | ((conv => whnf); exact ⟨rfl⟩)
  · cases h
abbrev tb_firewalllaw16_down : List (Nat × Sp) := (56, sp_firewalllaw16_down) :: tb_firewalllaw16_has
theorem C_firewalllaw16_down : CSound Try.prog anyWorld (tab tb_firewalllaw16_down) := C_firewalllaw16_has.cons e_firewalllaw16_down

def sp_firewalllaw16_up : Sp
  | [.one (.b64 false v), .one (.b64 false b)] => some (Cond.t, .one (.b64 true (sUp v b)))
  | _ => none
set_option maxRecDepth 100000 in
set_option maxHeartbeats 4000000 in
theorem e_firewalllaw16_up : EntryOK Try.prog anyWorld 57 sp_firewalllaw16_up := by
  refine .of_F C_firewalllaw16_down (by kernel_rfl) Try.func57 (by kernel_rfl) (by kernel_rfl) (fun args c v h hc => ?_)
  unfold sp_firewalllaw16_up at h
  split at h
  · rename_i v b; cases h
    refine ⟨rfl, rfl, ?_⟩
    repeat' (first
      | (with_reducible apply Given.mk; intro h)
      | ((conv => whnf); with_reducible apply Both.mk))
    all_goals first
      | (with_reducible apply Ob.mk; kernel_rfl)
      | ((conv => whnf); exact ⟨rfl⟩)
  · cases h
abbrev tb_firewalllaw16_up : List (Nat × Sp) := (57, sp_firewalllaw16_up) :: tb_firewalllaw16_down
theorem C_firewalllaw16_up : CSound Try.prog anyWorld (tab tb_firewalllaw16_up) := C_firewalllaw16_down.cons e_firewalllaw16_up

def sp_firewalllaw16_made : Sp
  | [.one (.b64 false v), .agg [.b64 false p, .b64 false q, .b64 false r, .b64 false s]] => some (Cond.t, .agg [.b64 false ((sMade v p q r s).lo), .b64 false ((sMade v p q r s).hi), .b64 true ((sMade v p q r s).slo), .b64 true ((sMade v p q r s).shi)])
  | _ => none
set_option maxRecDepth 100000 in
set_option maxHeartbeats 4000000 in
theorem e_firewalllaw16_made : EntryOK Try.prog anyWorld 23 sp_firewalllaw16_made := by
  refine .of_F C_firewalllaw16_up (by kernel_rfl) Try.func23 (by kernel_rfl) (by kernel_rfl) (fun args c v h hc => ?_)
  unfold sp_firewalllaw16_made at h
  split at h
  · rename_i v p q r s; cases h
    refine ⟨rfl, rfl, ?_⟩
    repeat' (first
      | (with_reducible apply Given.mk; intro h)
      | ((conv => whnf); with_reducible apply Both.mk))
    all_goals first
      | (with_reducible apply Ob.mk; kernel_rfl)
      | ((conv => whnf); exact ⟨rfl⟩)
  · cases h
abbrev tb_firewalllaw16_made : List (Nat × Sp) := (23, sp_firewalllaw16_made) :: tb_firewalllaw16_up
theorem C_firewalllaw16_made : CSound Try.prog anyWorld (tab tb_firewalllaw16_made) := C_firewalllaw16_up.cons e_firewalllaw16_made

end Go.Proofs.Ytakemmdcaboapaa

