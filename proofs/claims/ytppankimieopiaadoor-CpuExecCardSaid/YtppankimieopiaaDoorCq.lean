/-
  Which instructions may be: the program's way of telling it is the document's. Conditions: none.
-/
import Derived.Test.YtppankimieopiaaDoorCpX
namespace Go.Proofs.YtppankimieopiaaDoor
open Go.Ep Go.RowKit
set_option linter.unusedVariables false
set_option linter.unusedSimpArgs false
theorem iF (c x : Bool) : (if c = true then false else x) = (!c && x) := by cases c <;> rfl
theorem iT (c x : Bool) : (if c = true then true else x) = (c || x) := by cases c <;> rfl
theorem iX (c x : Bool) : (if c = true then x else false) = (c && x) := by cases c <;> simp
theorem alu_eq (al : BitVec 64) : (al == 1#64 || (al == 0#64 || ((4#64).sle al && al.sle 7#64))) = aluB al := by
  rw [Bool.eq_iff_iff]
  simp only [aluB, Bool.or_eq_true, Bool.and_eq_true, beq_iff_eq, BitVec.sle_iff_toInt_le, or_assoc]
  have e4 : (4#64).toInt = 4 := rfl
  have e7 : (7#64).toInt = 7 := rfl
  rw [e4, e7]
  have key : ∀ k : BitVec 64, (al.toInt = k.toInt) ↔ (al = k) := fun k => ⟨BitVec.eq_of_toInt_eq, fun h => by rw [h]⟩
  have k0 := key 0#64; have k1 := key 1#64; have k4 := key 4#64; have k5 := key 5#64; have k6 := key 6#64; have k7 := key 7#64
  rw [show (0#64).toInt = 0 from rfl] at k0; rw [show (1#64).toInt = 1 from rfl] at k1; rw [show (4#64).toInt = 4 from rfl] at k4; rw [show (5#64).toInt = 5 from rfl] at k5; rw [show (6#64).toInt = 6 from rfl] at k6; rw [show (7#64).toInt = 7 from rfl] at k7
  rw [← k0, ← k1, ← k4, ← k5, ← k6, ← k7]
  omega
theorem shf_eq (al : BitVec 64) : (al == 4#64 || (al == 5#64 || al == 7#64)) = shiftB al := by unfold shiftB; rw [Bool.or_assoc]
theorem ldn_eq (sz : BitVec 64) : (!(decide (ldV sz = ⟨⟨[]⟩⟩))) = sizeB sz := by
  unfold ldV sizeB
  cases (sz == 1#64) <;> cases (sz == 2#64) <;> cases (sz == 4#64) <;> cases (sz == 8#64) <;> decide
theorem rg_eq (x : BitVec 64) : regB x = (!(x.slt 0#64) && !((15#64).slt x)) := by unfold regB; rw [sle_not, slt16]
theorem rl_eq (x : BitVec 32) : relB x = (mByte.sle x && x.sle 127#32) := rfl
theorem qv1 (al cc sz : BitVec 64) (w sh : Bool) (d s : BitVec 64) (dp rl : BitVec 32) (im : BitVec 64) : q1 al cc sz w sh d s dp rl im = v1 al cc sz w sh d s dp rl im := by
  unfold q1 v1
  simp only [iF, iT, iX, alu_eq, shf_eq, rg_eq, rl_eq, ldn_eq, num0, num8, BitVec.reduceBEq, Bool.or_false, Bool.false_or, Bool.or_self, Bool.or_true, Bool.true_or, if_true, if_false, Bool.false_eq_true, beq_self_eq_true, Bool.true_and, Bool.and_true, Bool.not_not, Bool.not_true, Bool.not_false]
  cases sh <;> cases w <;> simp [Bool.and_assoc, Bool.and_comm, Bool.and_left_comm]
theorem qv2 (al cc sz : BitVec 64) (w sh : Bool) (d s : BitVec 64) (dp rl : BitVec 32) (im : BitVec 64) : q2 al cc sz w sh d s dp rl im = v2 al cc sz w sh d s dp rl im := by
  unfold q2 v2
  simp only [iF, iT, iX, alu_eq, shf_eq, rg_eq, rl_eq, ldn_eq, num0, num8, BitVec.reduceBEq, Bool.or_false, Bool.false_or, Bool.or_self, Bool.or_true, Bool.true_or, if_true, if_false, Bool.false_eq_true, beq_self_eq_true, Bool.true_and, Bool.and_true, Bool.not_not, Bool.not_true, Bool.not_false]
  cases sh <;> cases w <;> simp [Bool.and_assoc, Bool.and_comm, Bool.and_left_comm]
theorem qv3 (al cc sz : BitVec 64) (w sh : Bool) (d s : BitVec 64) (dp rl : BitVec 32) (im : BitVec 64) : q3 al cc sz w sh d s dp rl im = v3 al cc sz w sh d s dp rl im := by
  unfold q3 v3
  simp only [iF, iT, iX, alu_eq, shf_eq, rg_eq, rl_eq, ldn_eq, num0, num8, BitVec.reduceBEq, Bool.or_false, Bool.false_or, Bool.or_self, Bool.or_true, Bool.true_or, if_true, if_false, Bool.false_eq_true, beq_self_eq_true, Bool.true_and, Bool.and_true, Bool.not_not, Bool.not_true, Bool.not_false]
  cases sh <;> cases w <;> simp [Bool.and_assoc, Bool.and_comm, Bool.and_left_comm]
theorem qv4 (al cc sz : BitVec 64) (w sh : Bool) (d s : BitVec 64) (dp rl : BitVec 32) (im : BitVec 64) : q4 al cc sz w sh d s dp rl im = v4 al cc sz w sh d s dp rl im := by
  unfold q4 v4
  simp only [iF, iT, iX, alu_eq, shf_eq, rg_eq, rl_eq, ldn_eq, num0, num8, BitVec.reduceBEq, Bool.or_false, Bool.false_or, Bool.or_self, Bool.or_true, Bool.true_or, if_true, if_false, Bool.false_eq_true, beq_self_eq_true, Bool.true_and, Bool.and_true, Bool.not_not, Bool.not_true, Bool.not_false]
  cases sh <;> cases w <;> simp [Bool.and_assoc, Bool.and_comm, Bool.and_left_comm]
theorem qv5 (al cc sz : BitVec 64) (w sh : Bool) (d s : BitVec 64) (dp rl : BitVec 32) (im : BitVec 64) : q5 al cc sz w sh d s dp rl im = v5 al cc sz w sh d s dp rl im := by
  unfold q5 v5
  simp only [iF, iT, iX, alu_eq, shf_eq, rg_eq, rl_eq, ldn_eq, num0, num8, BitVec.reduceBEq, Bool.or_false, Bool.false_or, Bool.or_self, Bool.or_true, Bool.true_or, if_true, if_false, Bool.false_eq_true, beq_self_eq_true, Bool.true_and, Bool.and_true, Bool.not_not, Bool.not_true, Bool.not_false]
  cases sh <;> cases w <;> simp [Bool.and_assoc, Bool.and_comm, Bool.and_left_comm]
theorem qv6 (al cc sz : BitVec 64) (w sh : Bool) (d s : BitVec 64) (dp rl : BitVec 32) (im : BitVec 64) : q6 al cc sz w sh d s dp rl im = v6 al cc sz w sh d s dp rl im := by
  unfold q6 v6
  simp only [iF, iT, iX, alu_eq, shf_eq, rg_eq, rl_eq, ldn_eq, num0, num8, BitVec.reduceBEq, Bool.or_false, Bool.false_or, Bool.or_self, Bool.or_true, Bool.true_or, if_true, if_false, Bool.false_eq_true, beq_self_eq_true, Bool.true_and, Bool.and_true, Bool.not_not, Bool.not_true, Bool.not_false]
  cases sh <;> cases w <;> simp [Bool.and_assoc, Bool.and_comm, Bool.and_left_comm]
theorem qv7 (al cc sz : BitVec 64) (w sh : Bool) (d s : BitVec 64) (dp rl : BitVec 32) (im : BitVec 64) : q7 al cc sz w sh d s dp rl im = v7 al cc sz w sh d s dp rl im := by
  unfold q7 v7
  simp only [iF, iT, iX, alu_eq, shf_eq, rg_eq, rl_eq, ldn_eq, num0, num8, BitVec.reduceBEq, Bool.or_false, Bool.false_or, Bool.or_self, Bool.or_true, Bool.true_or, if_true, if_false, Bool.false_eq_true, beq_self_eq_true, Bool.true_and, Bool.and_true, Bool.not_not, Bool.not_true, Bool.not_false]
  cases sh <;> cases w <;> simp [Bool.and_assoc, Bool.and_comm, Bool.and_left_comm]
theorem qv8 (al cc sz : BitVec 64) (w sh : Bool) (d s : BitVec 64) (dp rl : BitVec 32) (im : BitVec 64) : q8 al cc sz w sh d s dp rl im = v8 al cc sz w sh d s dp rl im := by
  unfold q8 v8
  simp only [iF, iT, iX, alu_eq, shf_eq, rg_eq, rl_eq, ldn_eq, num0, num8, BitVec.reduceBEq, Bool.or_false, Bool.false_or, Bool.or_self, Bool.or_true, Bool.true_or, if_true, if_false, Bool.false_eq_true, beq_self_eq_true, Bool.true_and, Bool.and_true, Bool.not_not, Bool.not_true, Bool.not_false]
  cases sh <;> cases w <;> simp [Bool.and_assoc, Bool.and_comm, Bool.and_left_comm]
theorem qv9 (al cc sz : BitVec 64) (w sh : Bool) (d s : BitVec 64) (dp rl : BitVec 32) (im : BitVec 64) : q9 al cc sz w sh d s dp rl im = v9 al cc sz w sh d s dp rl im := by
  unfold q9 v9
  simp only [iF, iT, iX, alu_eq, shf_eq, rg_eq, rl_eq, ldn_eq, num0, num8, BitVec.reduceBEq, Bool.or_false, Bool.false_or, Bool.or_self, Bool.or_true, Bool.true_or, if_true, if_false, Bool.false_eq_true, beq_self_eq_true, Bool.true_and, Bool.and_true, Bool.not_not, Bool.not_true, Bool.not_false]
  cases sh <;> cases w <;> simp [Bool.and_assoc, Bool.and_comm, Bool.and_left_comm]
theorem qv10 (al cc sz : BitVec 64) (w sh : Bool) (d s : BitVec 64) (dp rl : BitVec 32) (im : BitVec 64) : q10 al cc sz w sh d s dp rl im = v10 al cc sz w sh d s dp rl im := by
  unfold q10 v10
  simp only [iF, iT, iX, alu_eq, shf_eq, rg_eq, rl_eq, ldn_eq, num0, num8, BitVec.reduceBEq, Bool.or_false, Bool.false_or, Bool.or_self, Bool.or_true, Bool.true_or, if_true, if_false, Bool.false_eq_true, beq_self_eq_true, Bool.true_and, Bool.and_true, Bool.not_not, Bool.not_true, Bool.not_false]
  cases sh <;> cases w <;> simp [Bool.and_assoc, Bool.and_comm, Bool.and_left_comm]
theorem qv11 (al cc sz : BitVec 64) (w sh : Bool) (d s : BitVec 64) (dp rl : BitVec 32) (im : BitVec 64) : q11 al cc sz w sh d s dp rl im = v11 al cc sz w sh d s dp rl im := by
  unfold q11 v11
  simp only [iF, iT, iX, alu_eq, shf_eq, rg_eq, rl_eq, ldn_eq, num0, num8, BitVec.reduceBEq, Bool.or_false, Bool.false_or, Bool.or_self, Bool.or_true, Bool.true_or, if_true, if_false, Bool.false_eq_true, beq_self_eq_true, Bool.true_and, Bool.and_true, Bool.not_not, Bool.not_true, Bool.not_false]
  cases sh <;> cases w <;> simp [Bool.and_assoc, Bool.and_comm, Bool.and_left_comm]
theorem qv12 (al cc sz : BitVec 64) (w sh : Bool) (d s : BitVec 64) (dp rl : BitVec 32) (im : BitVec 64) : q12 al cc sz w sh d s dp rl im = v12 al cc sz w sh d s dp rl im := by
  unfold q12 v12
  simp only [iF, iT, iX, alu_eq, shf_eq, rg_eq, rl_eq, ldn_eq, num0, num8, BitVec.reduceBEq, Bool.or_false, Bool.false_or, Bool.or_self, Bool.or_true, Bool.true_or, if_true, if_false, Bool.false_eq_true, beq_self_eq_true, Bool.true_and, Bool.and_true, Bool.not_not, Bool.not_true, Bool.not_false]
  cases sh <;> cases w <;> simp [Bool.and_assoc, Bool.and_comm, Bool.and_left_comm]
theorem qv13 (al cc sz : BitVec 64) (w sh : Bool) (d s : BitVec 64) (dp rl : BitVec 32) (im : BitVec 64) : q13 al cc sz w sh d s dp rl im = v13 al cc sz w sh d s dp rl im := by
  unfold q13 v13
  simp only [iF, iT, iX, alu_eq, shf_eq, rg_eq, rl_eq, ldn_eq, num0, num8, BitVec.reduceBEq, Bool.or_false, Bool.false_or, Bool.or_self, Bool.or_true, Bool.true_or, if_true, if_false, Bool.false_eq_true, beq_self_eq_true, Bool.true_and, Bool.and_true, Bool.not_not, Bool.not_true, Bool.not_false]
  cases sh <;> cases w <;> simp [Bool.and_assoc, Bool.and_comm, Bool.and_left_comm]
theorem qv14 (al cc sz : BitVec 64) (w sh : Bool) (d s : BitVec 64) (dp rl : BitVec 32) (im : BitVec 64) : q14 al cc sz w sh d s dp rl im = v14 al cc sz w sh d s dp rl im := by
  unfold q14 v14
  simp only [iF, iT, iX, alu_eq, shf_eq, rg_eq, rl_eq, ldn_eq, num0, num8, BitVec.reduceBEq, Bool.or_false, Bool.false_or, Bool.or_self, Bool.or_true, Bool.true_or, if_true, if_false, Bool.false_eq_true, beq_self_eq_true, Bool.true_and, Bool.and_true, Bool.not_not, Bool.not_true, Bool.not_false]
  cases sh <;> cases w <;> simp [Bool.and_assoc, Bool.and_comm, Bool.and_left_comm]
theorem qv15 (al cc sz : BitVec 64) (w sh : Bool) (d s : BitVec 64) (dp rl : BitVec 32) (im : BitVec 64) : q15 al cc sz w sh d s dp rl im = v15 al cc sz w sh d s dp rl im := by
  unfold q15 v15
  simp only [iF, iT, iX, alu_eq, shf_eq, rg_eq, rl_eq, ldn_eq, num0, num8, BitVec.reduceBEq, Bool.or_false, Bool.false_or, Bool.or_self, Bool.or_true, Bool.true_or, if_true, if_false, Bool.false_eq_true, beq_self_eq_true, Bool.true_and, Bool.and_true, Bool.not_not, Bool.not_true, Bool.not_false]
  cases sh <;> cases w <;> simp [Bool.and_assoc, Bool.and_comm, Bool.and_left_comm]
theorem qv16 (al cc sz : BitVec 64) (w sh : Bool) (d s : BitVec 64) (dp rl : BitVec 32) (im : BitVec 64) : q16 al cc sz w sh d s dp rl im = v16 al cc sz w sh d s dp rl im := by
  unfold q16 v16
  simp only [iF, iT, iX, alu_eq, shf_eq, rg_eq, rl_eq, ldn_eq, num0, num8, BitVec.reduceBEq, Bool.or_false, Bool.false_or, Bool.or_self, Bool.or_true, Bool.true_or, if_true, if_false, Bool.false_eq_true, beq_self_eq_true, Bool.true_and, Bool.and_true, Bool.not_not, Bool.not_true, Bool.not_false]
  cases sh <;> cases w <;> simp [Bool.and_assoc, Bool.and_comm, Bool.and_left_comm]
theorem qv17 (al cc sz : BitVec 64) (w sh : Bool) (d s : BitVec 64) (dp rl : BitVec 32) (im : BitVec 64) : q17 al cc sz w sh d s dp rl im = v17 al cc sz w sh d s dp rl im := by
  unfold q17 v17
  simp only [iF, iT, iX, alu_eq, shf_eq, rg_eq, rl_eq, ldn_eq, num0, num8, BitVec.reduceBEq, Bool.or_false, Bool.false_or, Bool.or_self, Bool.or_true, Bool.true_or, if_true, if_false, Bool.false_eq_true, beq_self_eq_true, Bool.true_and, Bool.and_true, Bool.not_not, Bool.not_true, Bool.not_false]
  cases sh <;> cases w <;> simp [Bool.and_assoc, Bool.and_comm, Bool.and_left_comm]
theorem qv18 (al cc sz : BitVec 64) (w sh : Bool) (d s : BitVec 64) (dp rl : BitVec 32) (im : BitVec 64) : q18 al cc sz w sh d s dp rl im = v18 al cc sz w sh d s dp rl im := by
  unfold q18 v18
  simp only [iF, iT, iX, alu_eq, shf_eq, rg_eq, rl_eq, ldn_eq, num0, num8, BitVec.reduceBEq, Bool.or_false, Bool.false_or, Bool.or_self, Bool.or_true, Bool.true_or, if_true, if_false, Bool.false_eq_true, beq_self_eq_true, Bool.true_and, Bool.and_true, Bool.not_not, Bool.not_true, Bool.not_false]
  cases sh <;> cases w <;> simp [Bool.and_assoc, Bool.and_comm, Bool.and_left_comm]
theorem qv19 (al cc sz : BitVec 64) (w sh : Bool) (d s : BitVec 64) (dp rl : BitVec 32) (im : BitVec 64) : q19 al cc sz w sh d s dp rl im = v19 al cc sz w sh d s dp rl im := by
  unfold q19 v19
  simp only [iF, iT, iX, alu_eq, shf_eq, rg_eq, rl_eq, ldn_eq, num0, num8, BitVec.reduceBEq, Bool.or_false, Bool.false_or, Bool.or_self, Bool.or_true, Bool.true_or, if_true, if_false, Bool.false_eq_true, beq_self_eq_true, Bool.true_and, Bool.and_true, Bool.not_not, Bool.not_true, Bool.not_false]
  cases sh <;> cases w <;> simp [Bool.and_assoc, Bool.and_comm, Bool.and_left_comm]
theorem qv20 (al cc sz : BitVec 64) (w sh : Bool) (d s : BitVec 64) (dp rl : BitVec 32) (im : BitVec 64) : q20 al cc sz w sh d s dp rl im = v20 al cc sz w sh d s dp rl im := by
  unfold q20 v20
  simp only [iF, iT, iX, alu_eq, shf_eq, rg_eq, rl_eq, ldn_eq, num0, num8, BitVec.reduceBEq, Bool.or_false, Bool.false_or, Bool.or_self, Bool.or_true, Bool.true_or, if_true, if_false, Bool.false_eq_true, beq_self_eq_true, Bool.true_and, Bool.and_true, Bool.not_not, Bool.not_true, Bool.not_false]
  cases sh <;> cases w <;> simp [Bool.and_assoc, Bool.and_comm, Bool.and_left_comm]
theorem qv21 (al cc sz : BitVec 64) (w sh : Bool) (d s : BitVec 64) (dp rl : BitVec 32) (im : BitVec 64) : q21 al cc sz w sh d s dp rl im = v21 al cc sz w sh d s dp rl im := by
  unfold q21 v21
  simp only [iF, iT, iX, alu_eq, shf_eq, rg_eq, rl_eq, ldn_eq, num0, num8, BitVec.reduceBEq, Bool.or_false, Bool.false_or, Bool.or_self, Bool.or_true, Bool.true_or, if_true, if_false, Bool.false_eq_true, beq_self_eq_true, Bool.true_and, Bool.and_true, Bool.not_not, Bool.not_true, Bool.not_false]
  cases sh <;> cases w <;> simp [Bool.and_assoc, Bool.and_comm, Bool.and_left_comm]
theorem qld_vld (k : BitVec 64) (al cc sz : BitVec 64) (w sh : Bool) (d s : BitVec 64) (dp rl : BitVec 32) (im : BitVec 64) : qld k al cc sz w sh d s dp rl im = vld k al cc sz w sh d s dp rl im := by
  unfold qld vld
  simp only [qv1, qv2, qv3, qv4, qv5, qv6, qv7, qv8, qv9, qv10, qv11, qv12, qv13, qv14, qv15, qv16, qv17, qv18, qv19, qv20, qv21]
end Go.Proofs.YtppankimieopiaaDoor
