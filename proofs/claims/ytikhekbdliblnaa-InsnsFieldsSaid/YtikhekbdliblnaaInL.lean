/-
  InsnsInside and InsnsFields, as the evaluator leaves them. Conditions: none.
-/
import Derived.Test.YtikhekbdliblnaaInC
import Derived.Test.YtikhekbdliblnaaInN
namespace Go.Proofs.Ytikhekbdliblnaa
open Go.Ev Go.RowKit
set_option linter.unusedVariables false
set_option linter.unusedSimpArgs false

set_option maxRecDepth 100000 in
set_option maxHeartbeats 4000000 in
theorem InsnsInside_main (m : Nat → Nat) (o d s : BitVec 8) (f : BitVec 16) (i : BitVec 32) : F Try.prog (tab (DI m) tb_firewalllaw02_checks) Try.f3 [.agg [.b8 false o, .b8 false d, .b8 false s, .b16 true f, .b32 true i]] (fun r => r = .one (.bool true)) := by
  by_cases ho : o = 194#8
  · subst ho
    have e0 := in_ns0 d s f i
    have e1 := in_ns1 d s f i
    have e2 := in_ns2 d s f i
    repeat' (first
      | (with_reducible apply Given.mk; intro h; (try simp only [e0, e1, e2, bne_self_eq_false, beq_self_eq_true, Bool.not_true, Bool.not_false, Bool.false_eq_true, Bool.true_eq_false, reduceCtorEq] at h); (try exact absurd h (by decide)))
      | ((conv => whnf); with_reducible apply Both.mk))
    all_goals first
      | (with_reducible apply Ob.mk; kernel_rfl)
      | ((conv => whnf); exact ⟨rfl⟩)
      | ((conv => whnf); refine ⟨?_⟩; simp only [e0, e1, beq_self_eq_true]; rfl)
  · have e0 := in_other o d s f i ho
    have e1 : (o == 194#8) = false := by simpa using ho
    have e2 : (o != 194#8) = true := by simpa using ho
    repeat' (first
      | (with_reducible apply Given.mk; intro h; (try simp only [e0, e1, e2, bne_self_eq_false, beq_self_eq_true, Bool.not_true, Bool.not_false, Bool.false_eq_true, Bool.true_eq_false, reduceCtorEq] at h); (try exact absurd h (by decide)))
      | ((conv => whnf); with_reducible apply Both.mk))
    all_goals first
      | (with_reducible apply Ob.mk; kernel_rfl)
      | ((conv => whnf); exact ⟨rfl⟩)

theorem setW0 : (0#8).setWidth 64 = 0#64 := rfl
set_option maxRecDepth 100000 in
set_option maxHeartbeats 4000000 in
theorem InsnsFields_main (m : Nat → Nat) (o d s : BitVec 8) (f : BitVec 16) (i : BitVec 32) (w : BitVec 8) (t : BitVec 16) : F Try.prog (tab (DI m) tb_firewalllaw02_checks) Try.f4 [.agg [.b8 false o, .b8 false d, .b8 false s, .b16 true f, .b32 true i], .one (.b8 false w), .one (.b16 true t)] (fun r => r = .one (.bool true)) := by
  by_cases hk : iCheck o d s f i true = 0#64
  · have hf := fits_of hk
    by_cases w0 : w % 4#8 = 0#8
    · have g0 := fld_dst0 hf
      rcases fld_dst hf (t.signExtend 8 % 16#8) with g | g | ⟨g, rfl⟩
      all_goals
        repeat' (first
          | (with_reducible apply Given.mk; intro h; (try simp only [hk, w0, g0, g, bne_self_eq_false, beq_self_eq_true, Bool.not_true, Bool.not_false, Bool.false_eq_true, Bool.true_eq_false, reduceCtorEq] at h); (try exact absurd h (by decide)))
          | ((conv => whnf); with_reducible apply Both.mk))
        all_goals first
          | (with_reducible apply Ob.mk; kernel_rfl)
          | (with_reducible apply Ob.mk; decide)
          | ((conv => whnf); exact ⟨rfl⟩)
    by_cases w1 : w % 4#8 = 1#8
    · have g0 := fld_src0 hf
      have g1 : True := trivial
      rcases fld_src hf (t.signExtend 8 % 16#8) with g | g | ⟨g, g1⟩
      all_goals
        repeat' (first
          | (with_reducible apply Given.mk; intro h; (try simp only [hk, w1, g0, g, g1, bne_self_eq_false, beq_self_eq_true, Bool.not_true, Bool.not_false, Bool.false_eq_true, Bool.true_eq_false, reduceCtorEq] at h); (try exact absurd h (by decide)))
          | ((conv => whnf); with_reducible apply Both.mk))
        all_goals first
          | (with_reducible apply Ob.mk; kernel_rfl)
          | (with_reducible apply Ob.mk; decide)
          | ((conv => whnf); exact ⟨rfl⟩)
    by_cases w2 : w % 4#8 = 2#8
    · have g0 := fld_off0 hf
      rcases fld_off hf t with g | ⟨g, rfl⟩
      all_goals
        repeat' (first
          | (with_reducible apply Given.mk; intro h; (try simp only [hk, w2, g0, g, bne_self_eq_false, beq_self_eq_true, Bool.not_true, Bool.not_false, Bool.false_eq_true, Bool.true_eq_false, reduceCtorEq] at h); (try exact absurd h (by decide)))
          | ((conv => whnf); with_reducible apply Both.mk))
        all_goals first
          | (with_reducible apply Ob.mk; kernel_rfl)
          | (with_reducible apply Ob.mk; decide)
          | ((conv => whnf); exact ⟨rfl⟩)
    have w3 : w % 4#8 = 3#8 := by
      have h3 : (w % 4#8).toNat < 4 := by rw [BitVec.toNat_umod]; exact Nat.mod_lt _ (by decide)
      have k0 : (w % 4#8).toNat ≠ 0 := fun e => w0 (BitVec.eq_of_toNat_eq e)
      have k1 : (w % 4#8).toNat ≠ 1 := fun e => w1 (BitVec.eq_of_toNat_eq e)
      have k2 : (w % 4#8).toNat ≠ 2 := fun e => w2 (BitVec.eq_of_toNat_eq e)
      exact BitVec.eq_of_toNat_eq (by show (w % 4#8).toNat = 3; omega)
    rcases fld_imm0 hf with g0 | g0 <;> rcases fld_imm hf (t.signExtend 32) with g | g | ⟨g, rfl⟩
    all_goals
      repeat' (first
        | (with_reducible apply Given.mk; intro h; (try simp only [hk, w3, g0, g, bne_self_eq_false, beq_self_eq_true, Bool.not_true, Bool.not_false, Bool.false_eq_true, Bool.true_eq_false, reduceCtorEq] at h); (try exact absurd h (by decide)))
        | ((conv => whnf); with_reducible apply Both.mk))
      all_goals first
        | (with_reducible apply Ob.mk; kernel_rfl)
        | (with_reducible apply Ob.mk; decide)
        | ((conv => whnf); exact ⟨rfl⟩)
  · have e0 : (iCheck o d s f i true != 0#64) = true := by simpa using hk
    repeat' (first
      | (with_reducible apply Given.mk; intro h; (try simp only [e0, Bool.not_true, Bool.not_false, Bool.false_eq_true, Bool.true_eq_false, reduceCtorEq] at h); (try exact absurd h (by decide)))
      | ((conv => whnf); with_reducible apply Both.mk))
    all_goals first
      | (with_reducible apply Ob.mk; kernel_rfl)
      | ((conv => whnf); exact ⟨rfl⟩)
end Go.Proofs.Ytikhekbdliblnaa
