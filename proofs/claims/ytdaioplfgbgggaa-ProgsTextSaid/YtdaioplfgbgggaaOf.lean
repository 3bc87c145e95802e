/-
  Chapter 04: ProgsMore, as the evaluator leaves it. Conditions: as typed.
-/
import Derived.Test.YtdaioplfgbgggaaOx
import Derived.Test.YtdaioplfgbgggaaOe
namespace Go.Proofs.Ytdaioplfgbgggaa
open Go.Ep Go.RowKit
set_option linter.unusedVariables false
set_option linter.unusedSimpArgs false
abbrev tb_p : List (Nat × Sp) := (10, spT) :: tb_o
theorem C_p : CSound Try.prog anyWorld (tab noData tb_p) := C_o.cons e_sound
noncomputable abbrev ms_p : List (Nat × SpM) := [(11, spS 5 sq_chk)]
theorem CM_p : CSound Try.prog anyWorld (tabM noData tb_p ms_p) := (CSound.startM C_p).consM e_Check
set_option maxRecDepth 100000 in
set_option maxHeartbeats 8000000 in
theorem More_A1 (T : TypeId) (len cap : Nat) (x : IT) (m : BitVec 64) (k : BitVec 8) (hl : len < 9223372036854775808) (f0 : (60#64).slt (BitVec.ofNat 64 len) = true) :
    FI Try.prog (tabM noData tb_p ms_p) Try.f6 1 [.one (.slc 0 0 len cap), .one (.b64 true m), .one (.b8 false k)] [(0, .ro T [.seg 5 len (inF x)])] (fun r _ => r = .one (.bool true)) := by
  repeat' (first
    | (with_reducible apply Given.mk; intro h; (try simp only [inOf_inF, f0, BitVec.reduceBNe, BitVec.reduceBEq, beq_self_eq_true, bne_self_eq_false, reduceCtorEq, Bool.true_eq_false, Bool.false_eq_true, Bool.not_true, Bool.not_false] at h); (try exact absurd h (by decide)))
    | ((conv => whnf); with_reducible apply Both.mk))
  all_goals first
    | (with_reducible apply Ob.mk; kernel_rfl)
    | ((with_reducible apply Ob.mk); exact ⟨Nat.le_refl _, by omega, .inr rfl⟩)
    | ((with_reducible apply Ob.mk); exact ⟨by decide, .inl rfl⟩)
    | ((with_reducible apply Ob.mk); show len < 9223372036854775808; omega)
    | ((conv => whnf); exact rfl)
    | ((conv => whnf); refine congrArg (fun b => AV.one (.bool b)) ?_; simp only [inOf_inF, f0, beq_self_eq_true, Bool.true_and, Bool.and_true, Bool.or_true, Bool.true_or, Bool.false_or]; done)
    | (exfalso; simp_all; done)
    | (with_reducible apply Ob.mk; skip)
    | ((conv => whnf); skip)
set_option maxRecDepth 100000 in
set_option maxHeartbeats 8000000 in
theorem More_B1 (T : TypeId) (len cap : Nat) (x : IT) (m : BitVec 64) (k : BitVec 8) (hl : len ≤ 60) (f0 : (60#64).slt (BitVec.ofNat 64 len) = false) (f1 : (1000000#64).slt m = true) :
    FI Try.prog (tabM noData tb_p ms_p) Try.f6 1 [.one (.slc 0 0 len cap), .one (.b64 true m), .one (.b8 false k)] [(0, .ro T [.seg 5 len (inF x)])] (fun r _ => r = .one (.bool true)) := by
  repeat' (first
    | (with_reducible apply Given.mk; intro h; (try simp only [inOf_inF, f0, f1, BitVec.reduceBNe, BitVec.reduceBEq, beq_self_eq_true, bne_self_eq_false, reduceCtorEq, Bool.true_eq_false, Bool.false_eq_true, Bool.not_true, Bool.not_false] at h); (try exact absurd h (by decide)))
    | ((conv => whnf); with_reducible apply Both.mk))
  all_goals first
    | (with_reducible apply Ob.mk; kernel_rfl)
    | ((with_reducible apply Ob.mk); exact ⟨Nat.le_refl _, by omega, .inr rfl⟩)
    | ((with_reducible apply Ob.mk); exact ⟨by decide, .inl rfl⟩)
    | ((with_reducible apply Ob.mk); show len < 9223372036854775808; omega)
    | ((conv => whnf); exact rfl)
    | ((conv => whnf); refine congrArg (fun b => AV.one (.bool b)) ?_; simp only [inOf_inF, f0, f1, beq_self_eq_true, Bool.true_and, Bool.and_true, Bool.or_true, Bool.true_or, Bool.false_or]; done)
    | (exfalso; simp_all; done)
    | (with_reducible apply Ob.mk; skip)
    | ((conv => whnf); skip)
set_option maxRecDepth 100000 in
set_option maxHeartbeats 8000000 in
theorem More_C1 (T : TypeId) (len cap : Nat) (x : IT) (m : BitVec 64) (k : BitVec 8) (hl : len ≤ 60) (f0 : (60#64).slt (BitVec.ofNat 64 len) = false) (f1 : (1000000#64).slt m = false) (f2 : m.slt 18446744073708551616#64 = true) :
    FI Try.prog (tabM noData tb_p ms_p) Try.f6 1 [.one (.slc 0 0 len cap), .one (.b64 true m), .one (.b8 false k)] [(0, .ro T [.seg 5 len (inF x)])] (fun r _ => r = .one (.bool true)) := by
  repeat' (first
    | (with_reducible apply Given.mk; intro h; (try simp only [inOf_inF, f0, f1, f2, BitVec.reduceBNe, BitVec.reduceBEq, beq_self_eq_true, bne_self_eq_false, reduceCtorEq, Bool.true_eq_false, Bool.false_eq_true, Bool.not_true, Bool.not_false] at h); (try exact absurd h (by decide)))
    | ((conv => whnf); with_reducible apply Both.mk))
  all_goals first
    | (with_reducible apply Ob.mk; kernel_rfl)
    | ((with_reducible apply Ob.mk); exact ⟨Nat.le_refl _, by omega, .inr rfl⟩)
    | ((with_reducible apply Ob.mk); exact ⟨by decide, .inl rfl⟩)
    | ((with_reducible apply Ob.mk); show len < 9223372036854775808; omega)
    | ((conv => whnf); exact rfl)
    | ((conv => whnf); refine congrArg (fun b => AV.one (.bool b)) ?_; simp only [inOf_inF, f0, f1, f2, beq_self_eq_true, Bool.true_and, Bool.and_true, Bool.or_true, Bool.true_or, Bool.false_or]; done)
    | (exfalso; simp_all; done)
    | (with_reducible apply Ob.mk; skip)
    | ((conv => whnf); skip)
set_option maxRecDepth 100000 in
set_option maxHeartbeats 8000000 in
theorem More_D1 (T : TypeId) (len cap : Nat) (x : IT) (m : BitVec 64) (k : BitVec 8) (hl : len ≤ 60) (f0 : (60#64).slt (BitVec.ofNat 64 len) = false) (f1 : (1000000#64).slt m = false) (f2 : m.slt 18446744073708551616#64 = false) (hA : chk4 x len m false = (0#64, 0#64)) (hF : chk4 x len m true = (0#64, 0#64)) (hG : chk4 x len (m + k.setWidth 64) false = (0#64, 0#64)) :
    FI Try.prog (tabM noData tb_p ms_p) Try.f6 1 [.one (.slc 0 0 len cap), .one (.b64 true m), .one (.b8 false k)] [(0, .ro T [.seg 5 len (inF x)])] (fun r _ => r = .one (.bool true)) := by
  repeat' (first
    | (with_reducible apply Given.mk; intro h; (try simp only [inOf_inF, f0, f1, f2, hA, hF, hG, BitVec.reduceBNe, BitVec.reduceBEq, beq_self_eq_true, bne_self_eq_false, reduceCtorEq, Bool.true_eq_false, Bool.false_eq_true, Bool.not_true, Bool.not_false] at h); (try exact absurd h (by decide)))
    | ((conv => whnf); with_reducible apply Both.mk))
  all_goals first
    | (with_reducible apply Ob.mk; kernel_rfl)
    | ((with_reducible apply Ob.mk); exact ⟨Nat.le_refl _, by omega, .inr rfl⟩)
    | ((with_reducible apply Ob.mk); exact ⟨by decide, .inl rfl⟩)
    | ((with_reducible apply Ob.mk); show len < 9223372036854775808; omega)
    | ((conv => whnf); exact rfl)
    | ((conv => whnf); refine congrArg (fun b => AV.one (.bool b)) ?_; simp only [inOf_inF, f0, f1, f2, hA, hF, hG, beq_self_eq_true, Bool.true_and, Bool.and_true, Bool.or_true, Bool.true_or, Bool.false_or]; done)
    | (exfalso; simp_all; done)
    | (with_reducible apply Ob.mk; skip)
    | ((conv => whnf); skip)
set_option maxRecDepth 100000 in
set_option maxHeartbeats 8000000 in
theorem More_E01 (T : TypeId) (len cap : Nat) (x : IT) (m : BitVec 64) (k : BitVec 8) (hl : len ≤ 60) (a e a1 f a2 g : BitVec 64) (f0 : (60#64).slt (BitVec.ofNat 64 len) = false) (f1 : (1000000#64).slt m = false) (f2 : m.slt 18446744073708551616#64 = false) (hA : chk4 x len m false = (a, e)) (hF : chk4 x len m true = (a1, f)) (hG : chk4 x len (m + k.setWidth 64) false = (a2, g)) (e0 : (e == 0#64) = false) (q1 : (f == e) = true) (q2 : (g == e) = true) :
    FI Try.prog (tabM noData tb_p ms_p) Try.f6 1 [.one (.slc 0 0 len cap), .one (.b64 true m), .one (.b8 false k)] [(0, .ro T [.seg 5 len (inF x)])] (fun r _ => r = .one (.bool true)) := by
  repeat' (first
    | (with_reducible apply Given.mk; intro h; (try simp only [inOf_inF, f0, f1, f2, hA, hF, hG, e0, q1, q2, BitVec.reduceBNe, BitVec.reduceBEq, beq_self_eq_true, bne_self_eq_false, reduceCtorEq, Bool.true_eq_false, Bool.false_eq_true, Bool.not_true, Bool.not_false] at h); (try exact absurd h (by decide)))
    | ((conv => whnf); with_reducible apply Both.mk))
  all_goals first
    | (with_reducible apply Ob.mk; kernel_rfl)
    | ((with_reducible apply Ob.mk); exact ⟨Nat.le_refl _, by omega, .inr rfl⟩)
    | ((with_reducible apply Ob.mk); exact ⟨by decide, .inl rfl⟩)
    | ((with_reducible apply Ob.mk); show len < 9223372036854775808; omega)
    | ((conv => whnf); exact rfl)
    | ((conv => whnf); refine congrArg (fun b => AV.one (.bool b)) ?_; simp only [inOf_inF, f0, f1, f2, hA, hF, hG, e0, q1, q2, beq_self_eq_true, Bool.true_and, Bool.and_true, Bool.or_true, Bool.true_or, Bool.false_or]; done)
    | (exfalso; simp_all; done)
    | (with_reducible apply Ob.mk; skip)
    | ((conv => whnf); skip)
set_option maxRecDepth 100000 in
set_option maxHeartbeats 8000000 in
theorem More_E11 (T : TypeId) (len cap : Nat) (x : IT) (m : BitVec 64) (k : BitVec 8) (hl : len ≤ 60) (a e a1 f a2 g : BitVec 64) (f0 : (60#64).slt (BitVec.ofNat 64 len) = false) (f1 : (1000000#64).slt m = false) (f2 : m.slt 18446744073708551616#64 = false) (hA : chk4 x len m false = (a, e)) (hF : chk4 x len m true = (a1, f)) (hG : chk4 x len (m + k.setWidth 64) false = (a2, g)) (e0 : (e == 0#64) = false) (q1 : (f == e) = true) (q2 : (e == 44#64) = true) :
    FI Try.prog (tabM noData tb_p ms_p) Try.f6 1 [.one (.slc 0 0 len cap), .one (.b64 true m), .one (.b8 false k)] [(0, .ro T [.seg 5 len (inF x)])] (fun r _ => r = .one (.bool true)) := by
  repeat' (first
    | (with_reducible apply Given.mk; intro h; (try simp only [inOf_inF, f0, f1, f2, hA, hF, hG, e0, q1, q2, BitVec.reduceBNe, BitVec.reduceBEq, beq_self_eq_true, bne_self_eq_false, reduceCtorEq, Bool.true_eq_false, Bool.false_eq_true, Bool.not_true, Bool.not_false] at h); (try exact absurd h (by decide)))
    | ((conv => whnf); with_reducible apply Both.mk))
  all_goals first
    | (with_reducible apply Ob.mk; kernel_rfl)
    | ((with_reducible apply Ob.mk); exact ⟨Nat.le_refl _, by omega, .inr rfl⟩)
    | ((with_reducible apply Ob.mk); exact ⟨by decide, .inl rfl⟩)
    | ((with_reducible apply Ob.mk); show len < 9223372036854775808; omega)
    | ((conv => whnf); exact rfl)
    | ((conv => whnf); refine congrArg (fun b => AV.one (.bool b)) ?_; simp only [inOf_inF, f0, f1, f2, hA, hF, hG, e0, q1, q2, beq_self_eq_true, Bool.true_and, Bool.and_true, Bool.or_true, Bool.true_or, Bool.false_or]; done)
    | (exfalso; simp_all; done)
    | (with_reducible apply Ob.mk; skip)
    | ((conv => whnf); skip)
set_option maxRecDepth 100000 in
set_option maxHeartbeats 8000000 in
theorem More_E21 (T : TypeId) (len cap : Nat) (x : IT) (m : BitVec 64) (k : BitVec 8) (hl : len ≤ 60) (a e a1 f a2 g : BitVec 64) (f0 : (60#64).slt (BitVec.ofNat 64 len) = false) (f1 : (1000000#64).slt m = false) (f2 : m.slt 18446744073708551616#64 = false) (hA : chk4 x len m false = (a, e)) (hF : chk4 x len m true = (a1, f)) (hG : chk4 x len (m + k.setWidth 64) false = (a2, g)) (e0 : (e == 0#64) = false) (q1 : (e == 20#64) = true) (q2 : (g == e) = true) :
    FI Try.prog (tabM noData tb_p ms_p) Try.f6 1 [.one (.slc 0 0 len cap), .one (.b64 true m), .one (.b8 false k)] [(0, .ro T [.seg 5 len (inF x)])] (fun r _ => r = .one (.bool true)) := by
  repeat' (first
    | (with_reducible apply Given.mk; intro h; (try simp only [inOf_inF, f0, f1, f2, hA, hF, hG, e0, q1, q2, BitVec.reduceBNe, BitVec.reduceBEq, beq_self_eq_true, bne_self_eq_false, reduceCtorEq, Bool.true_eq_false, Bool.false_eq_true, Bool.not_true, Bool.not_false] at h); (try exact absurd h (by decide)))
    | ((conv => whnf); with_reducible apply Both.mk))
  all_goals first
    | (with_reducible apply Ob.mk; kernel_rfl)
    | ((with_reducible apply Ob.mk); exact ⟨Nat.le_refl _, by omega, .inr rfl⟩)
    | ((with_reducible apply Ob.mk); exact ⟨by decide, .inl rfl⟩)
    | ((with_reducible apply Ob.mk); show len < 9223372036854775808; omega)
    | ((conv => whnf); exact rfl)
    | ((conv => whnf); refine congrArg (fun b => AV.one (.bool b)) ?_; simp only [inOf_inF, f0, f1, f2, hA, hF, hG, e0, q1, q2, beq_self_eq_true, Bool.true_and, Bool.and_true, Bool.or_true, Bool.true_or, Bool.false_or]; done)
    | (exfalso; simp_all; done)
    | (with_reducible apply Ob.mk; skip)
    | ((conv => whnf); skip)
set_option maxRecDepth 100000 in
set_option maxHeartbeats 8000000 in
theorem More_B0 (ad : Option Addr) (cap : Nat) (m : BitVec 64) (k : BitVec 8) (f0 : (60#64).slt 0#64 = false) (f1 : (1000000#64).slt m = true) :
    FI Try.prog (tabM noData tb_p ms_p) Try.f6 1 [.one (.raw (.slice ad 0 cap)), .one (.b64 true m), .one (.b8 false k)] [] (fun r _ => r = .one (.bool true)) := by
  repeat' (first
    | (with_reducible apply Given.mk; intro h; (try simp only [inOf_inF, f0, f1, BitVec.reduceBNe, BitVec.reduceBEq, beq_self_eq_true, bne_self_eq_false, reduceCtorEq, Bool.true_eq_false, Bool.false_eq_true, Bool.not_true, Bool.not_false] at h); (try exact absurd h (by decide)))
    | ((conv => whnf); with_reducible apply Both.mk))
  all_goals first
    | (with_reducible apply Ob.mk; kernel_rfl)
    | ((with_reducible apply Ob.mk); exact ⟨Nat.le_refl _, by omega, .inr rfl⟩)
    | ((with_reducible apply Ob.mk); exact ⟨by decide, .inl rfl⟩)
    | ((with_reducible apply Ob.mk); show len < 9223372036854775808; omega)
    | ((conv => whnf); exact rfl)
    | ((conv => whnf); refine congrArg (fun b => AV.one (.bool b)) ?_; simp only [inOf_inF, f0, f1, beq_self_eq_true, Bool.true_and, Bool.and_true, Bool.or_true, Bool.true_or, Bool.false_or]; done)
    | (exfalso; simp_all; done)
    | (with_reducible apply Ob.mk; skip)
    | ((conv => whnf); skip)
set_option maxRecDepth 100000 in
set_option maxHeartbeats 8000000 in
theorem More_C0 (ad : Option Addr) (cap : Nat) (m : BitVec 64) (k : BitVec 8) (f0 : (60#64).slt 0#64 = false) (f1 : (1000000#64).slt m = false) (f2 : m.slt 18446744073708551616#64 = true) :
    FI Try.prog (tabM noData tb_p ms_p) Try.f6 1 [.one (.raw (.slice ad 0 cap)), .one (.b64 true m), .one (.b8 false k)] [] (fun r _ => r = .one (.bool true)) := by
  repeat' (first
    | (with_reducible apply Given.mk; intro h; (try simp only [inOf_inF, f0, f1, f2, BitVec.reduceBNe, BitVec.reduceBEq, beq_self_eq_true, bne_self_eq_false, reduceCtorEq, Bool.true_eq_false, Bool.false_eq_true, Bool.not_true, Bool.not_false] at h); (try exact absurd h (by decide)))
    | ((conv => whnf); with_reducible apply Both.mk))
  all_goals first
    | (with_reducible apply Ob.mk; kernel_rfl)
    | ((with_reducible apply Ob.mk); exact ⟨Nat.le_refl _, by omega, .inr rfl⟩)
    | ((with_reducible apply Ob.mk); exact ⟨by decide, .inl rfl⟩)
    | ((with_reducible apply Ob.mk); show len < 9223372036854775808; omega)
    | ((conv => whnf); exact rfl)
    | ((conv => whnf); refine congrArg (fun b => AV.one (.bool b)) ?_; simp only [inOf_inF, f0, f1, f2, beq_self_eq_true, Bool.true_and, Bool.and_true, Bool.or_true, Bool.true_or, Bool.false_or]; done)
    | (exfalso; simp_all; done)
    | (with_reducible apply Ob.mk; skip)
    | ((conv => whnf); skip)
set_option maxRecDepth 100000 in
set_option maxHeartbeats 8000000 in
theorem More_D0 (ad : Option Addr) (cap : Nat) (m : BitVec 64) (k : BitVec 8) (f0 : (60#64).slt 0#64 = false) (f1 : (1000000#64).slt m = false) (f2 : m.slt 18446744073708551616#64 = false) (hA : chk4 (inOf fun _ => []) 0 m false = (0#64, 0#64)) (hF : chk4 (inOf fun _ => []) 0 m true = (0#64, 0#64)) (hG : chk4 (inOf fun _ => []) 0 (m + k.setWidth 64) false = (0#64, 0#64)) :
    FI Try.prog (tabM noData tb_p ms_p) Try.f6 1 [.one (.raw (.slice ad 0 cap)), .one (.b64 true m), .one (.b8 false k)] [] (fun r _ => r = .one (.bool true)) := by
  repeat' (first
    | (with_reducible apply Given.mk; intro h; (try simp only [inOf_inF, f0, f1, f2, hA, hF, hG, BitVec.reduceBNe, BitVec.reduceBEq, beq_self_eq_true, bne_self_eq_false, reduceCtorEq, Bool.true_eq_false, Bool.false_eq_true, Bool.not_true, Bool.not_false] at h); (try exact absurd h (by decide)))
    | ((conv => whnf); with_reducible apply Both.mk))
  all_goals first
    | (with_reducible apply Ob.mk; kernel_rfl)
    | ((with_reducible apply Ob.mk); exact ⟨Nat.le_refl _, by omega, .inr rfl⟩)
    | ((with_reducible apply Ob.mk); exact ⟨by decide, .inl rfl⟩)
    | ((with_reducible apply Ob.mk); show len < 9223372036854775808; omega)
    | ((conv => whnf); exact rfl)
    | ((conv => whnf); refine congrArg (fun b => AV.one (.bool b)) ?_; simp only [inOf_inF, f0, f1, f2, hA, hF, hG, beq_self_eq_true, Bool.true_and, Bool.and_true, Bool.or_true, Bool.true_or, Bool.false_or]; done)
    | (exfalso; simp_all; done)
    | (with_reducible apply Ob.mk; skip)
    | ((conv => whnf); skip)
set_option maxRecDepth 100000 in
set_option maxHeartbeats 8000000 in
theorem More_E00 (ad : Option Addr) (cap : Nat) (m : BitVec 64) (k : BitVec 8) (a e a1 f a2 g : BitVec 64) (f0 : (60#64).slt 0#64 = false) (f1 : (1000000#64).slt m = false) (f2 : m.slt 18446744073708551616#64 = false) (hA : chk4 (inOf fun _ => []) 0 m false = (a, e)) (hF : chk4 (inOf fun _ => []) 0 m true = (a1, f)) (hG : chk4 (inOf fun _ => []) 0 (m + k.setWidth 64) false = (a2, g)) (e0 : (e == 0#64) = false) (q1 : (f == e) = true) (q2 : (g == e) = true) :
    FI Try.prog (tabM noData tb_p ms_p) Try.f6 1 [.one (.raw (.slice ad 0 cap)), .one (.b64 true m), .one (.b8 false k)] [] (fun r _ => r = .one (.bool true)) := by
  repeat' (first
    | (with_reducible apply Given.mk; intro h; (try simp only [inOf_inF, f0, f1, f2, hA, hF, hG, e0, q1, q2, BitVec.reduceBNe, BitVec.reduceBEq, beq_self_eq_true, bne_self_eq_false, reduceCtorEq, Bool.true_eq_false, Bool.false_eq_true, Bool.not_true, Bool.not_false] at h); (try exact absurd h (by decide)))
    | ((conv => whnf); with_reducible apply Both.mk))
  all_goals first
    | (with_reducible apply Ob.mk; kernel_rfl)
    | ((with_reducible apply Ob.mk); exact ⟨Nat.le_refl _, by omega, .inr rfl⟩)
    | ((with_reducible apply Ob.mk); exact ⟨by decide, .inl rfl⟩)
    | ((with_reducible apply Ob.mk); show len < 9223372036854775808; omega)
    | ((conv => whnf); exact rfl)
    | ((conv => whnf); refine congrArg (fun b => AV.one (.bool b)) ?_; simp only [inOf_inF, f0, f1, f2, hA, hF, hG, e0, q1, q2, beq_self_eq_true, Bool.true_and, Bool.and_true, Bool.or_true, Bool.true_or, Bool.false_or]; done)
    | (exfalso; simp_all; done)
    | (with_reducible apply Ob.mk; skip)
    | ((conv => whnf); skip)
set_option maxRecDepth 100000 in
set_option maxHeartbeats 8000000 in
theorem More_E10 (ad : Option Addr) (cap : Nat) (m : BitVec 64) (k : BitVec 8) (a e a1 f a2 g : BitVec 64) (f0 : (60#64).slt 0#64 = false) (f1 : (1000000#64).slt m = false) (f2 : m.slt 18446744073708551616#64 = false) (hA : chk4 (inOf fun _ => []) 0 m false = (a, e)) (hF : chk4 (inOf fun _ => []) 0 m true = (a1, f)) (hG : chk4 (inOf fun _ => []) 0 (m + k.setWidth 64) false = (a2, g)) (e0 : (e == 0#64) = false) (q1 : (f == e) = true) (q2 : (e == 44#64) = true) :
    FI Try.prog (tabM noData tb_p ms_p) Try.f6 1 [.one (.raw (.slice ad 0 cap)), .one (.b64 true m), .one (.b8 false k)] [] (fun r _ => r = .one (.bool true)) := by
  repeat' (first
    | (with_reducible apply Given.mk; intro h; (try simp only [inOf_inF, f0, f1, f2, hA, hF, hG, e0, q1, q2, BitVec.reduceBNe, BitVec.reduceBEq, beq_self_eq_true, bne_self_eq_false, reduceCtorEq, Bool.true_eq_false, Bool.false_eq_true, Bool.not_true, Bool.not_false] at h); (try exact absurd h (by decide)))
    | ((conv => whnf); with_reducible apply Both.mk))
  all_goals first
    | (with_reducible apply Ob.mk; kernel_rfl)
    | ((with_reducible apply Ob.mk); exact ⟨Nat.le_refl _, by omega, .inr rfl⟩)
    | ((with_reducible apply Ob.mk); exact ⟨by decide, .inl rfl⟩)
    | ((with_reducible apply Ob.mk); show len < 9223372036854775808; omega)
    | ((conv => whnf); exact rfl)
    | ((conv => whnf); refine congrArg (fun b => AV.one (.bool b)) ?_; simp only [inOf_inF, f0, f1, f2, hA, hF, hG, e0, q1, q2, beq_self_eq_true, Bool.true_and, Bool.and_true, Bool.or_true, Bool.true_or, Bool.false_or]; done)
    | (exfalso; simp_all; done)
    | (with_reducible apply Ob.mk; skip)
    | ((conv => whnf); skip)
set_option maxRecDepth 100000 in
set_option maxHeartbeats 8000000 in
theorem More_E20 (ad : Option Addr) (cap : Nat) (m : BitVec 64) (k : BitVec 8) (a e a1 f a2 g : BitVec 64) (f0 : (60#64).slt 0#64 = false) (f1 : (1000000#64).slt m = false) (f2 : m.slt 18446744073708551616#64 = false) (hA : chk4 (inOf fun _ => []) 0 m false = (a, e)) (hF : chk4 (inOf fun _ => []) 0 m true = (a1, f)) (hG : chk4 (inOf fun _ => []) 0 (m + k.setWidth 64) false = (a2, g)) (e0 : (e == 0#64) = false) (q1 : (e == 20#64) = true) (q2 : (g == e) = true) :
    FI Try.prog (tabM noData tb_p ms_p) Try.f6 1 [.one (.raw (.slice ad 0 cap)), .one (.b64 true m), .one (.b8 false k)] [] (fun r _ => r = .one (.bool true)) := by
  repeat' (first
    | (with_reducible apply Given.mk; intro h; (try simp only [inOf_inF, f0, f1, f2, hA, hF, hG, e0, q1, q2, BitVec.reduceBNe, BitVec.reduceBEq, beq_self_eq_true, bne_self_eq_false, reduceCtorEq, Bool.true_eq_false, Bool.false_eq_true, Bool.not_true, Bool.not_false] at h); (try exact absurd h (by decide)))
    | ((conv => whnf); with_reducible apply Both.mk))
  all_goals first
    | (with_reducible apply Ob.mk; kernel_rfl)
    | ((with_reducible apply Ob.mk); exact ⟨Nat.le_refl _, by omega, .inr rfl⟩)
    | ((with_reducible apply Ob.mk); exact ⟨by decide, .inl rfl⟩)
    | ((with_reducible apply Ob.mk); show len < 9223372036854775808; omega)
    | ((conv => whnf); exact rfl)
    | ((conv => whnf); refine congrArg (fun b => AV.one (.bool b)) ?_; simp only [inOf_inF, f0, f1, f2, hA, hF, hG, e0, q1, q2, beq_self_eq_true, Bool.true_and, Bool.and_true, Bool.or_true, Bool.true_or, Bool.false_or]; done)
    | (exfalso; simp_all; done)
    | (with_reducible apply Ob.mk; skip)
    | ((conv => whnf); skip)
set_option maxRecDepth 100000 in
theorem ProgsMore_main1 (T : TypeId) (len cap : Nat) (x : IT) (m : BitVec 64) (k : BitVec 8) (hl : len < 9223372036854775808) :
    FI Try.prog (tabM noData tb_p ms_p) Try.f6 1 [.one (.slc 0 0 len cap), .one (.b64 true m), .one (.b8 false k)] [(0, .ro T [.seg 5 len (inF x)])] (fun r _ => r = .one (.bool true)) := by
  have g0 := slt_nat (a := 60) (b := len) (by decide) hl
  by_cases h60 : 60 < len
  · exact More_A1 T len cap x m k hl (g0.trans (decide_eq_true h60))
  have f0 : (60#64).slt (BitVec.ofNat 64 len) = false := g0.trans (decide_eq_false h60)
  cases f1 : (1000000#64).slt m with
  | true => exact More_B1 T len cap x m k (by omega) f0 f1
  | false =>
  cases f2 : m.slt 18446744073708551616#64 with
  | true => exact More_C1 T len cap x m k (by omega) f0 f1 f2
  | false =>
  have hk : (k.setWidth 64 : BitVec 64).toNat < 256 := by have := k.isLt; rw [BitVec.toNat_setWidth]; omega
  have H1 := more_in (x := x) (n := len) (m := m) (by omega)
  have H2 := more_of (x := x) (n := len) (m := m) (by omega) f1 f2 hk
  have H3 := chk_ok (x := x) (n := len) (m := m) (w := false)
  obtain ⟨⟨a, e⟩, hA⟩ : ∃ p, chk4 x len m false = p := ⟨_, rfl⟩
  obtain ⟨⟨a1, f⟩, hF⟩ : ∃ p, chk4 x len m true = p := ⟨_, rfl⟩
  obtain ⟨⟨a2, g⟩, hG⟩ : ∃ p, chk4 x len (m + k.setWidth 64) false = p := ⟨_, rfl⟩
  rw [hA, hF] at H1
  rw [hA, hG] at H2
  rw [hA] at H3
  dsimp only at H1 H2 H3
  by_cases e0 : e = 0#64
  · subst e0
    obtain rfl := H3 rfl
    have h1 := H1.resolve_left (by decide)
    have h2 := H2.resolve_left (by decide)
    rw [h1] at hF
    rw [h2] at hG
    exact More_D1 T len cap x m k (by omega) f0 f1 f2 hA hF hG
  · have e0' : (e == 0#64) = false := beq_eq_false_iff_ne.2 e0
    rcases H1 with h1 | h1 <;> rcases H2 with h2 | h2
    · rw [h1] at h2; exact absurd h2 (by decide)
    · exact More_E21 T len cap x m k (by omega) a e a1 f a2 g f0 f1 f2 hA hF hG e0' (by rw [h1]; rfl) (by rw [(Prod.mk.inj h2).2]; exact beq_self_eq_true _)
    · exact More_E11 T len cap x m k (by omega) a e a1 f a2 g f0 f1 f2 hA hF hG e0' (by rw [(Prod.mk.inj h1).2]; exact beq_self_eq_true _) (by rw [h2]; rfl)
    · exact More_E01 T len cap x m k (by omega) a e a1 f a2 g f0 f1 f2 hA hF hG e0' (by rw [(Prod.mk.inj h1).2]; exact beq_self_eq_true _) (by rw [(Prod.mk.inj h2).2]; exact beq_self_eq_true _)
set_option maxRecDepth 100000 in
theorem ProgsMore_main0 (ad : Option Addr) (cap : Nat) (m : BitVec 64) (k : BitVec 8) :
    FI Try.prog (tabM noData tb_p ms_p) Try.f6 1 [.one (.raw (.slice ad 0 cap)), .one (.b64 true m), .one (.b8 false k)] [] (fun r _ => r = .one (.bool true)) := by
  have f0 : (60#64).slt 0#64 = false := by decide
  cases f1 : (1000000#64).slt m with
  | true => exact More_B0 ad cap m k f0 f1
  | false =>
  cases f2 : m.slt 18446744073708551616#64 with
  | true => exact More_C0 ad cap m k f0 f1 f2
  | false =>
  have hk : (k.setWidth 64 : BitVec 64).toNat < 256 := by have := k.isLt; rw [BitVec.toNat_setWidth]; omega
  have H1 := more_in (x := (inOf fun _ => [])) (n := 0) (m := m) (by omega)
  have H2 := more_of (x := (inOf fun _ => [])) (n := 0) (m := m) (by omega) f1 f2 hk
  have H3 := chk_ok (x := (inOf fun _ => [])) (n := 0) (m := m) (w := false)
  obtain ⟨⟨a, e⟩, hA⟩ : ∃ p, chk4 (inOf fun _ => []) 0 m false = p := ⟨_, rfl⟩
  obtain ⟨⟨a1, f⟩, hF⟩ : ∃ p, chk4 (inOf fun _ => []) 0 m true = p := ⟨_, rfl⟩
  obtain ⟨⟨a2, g⟩, hG⟩ : ∃ p, chk4 (inOf fun _ => []) 0 (m + k.setWidth 64) false = p := ⟨_, rfl⟩
  rw [hA, hF] at H1
  rw [hA, hG] at H2
  rw [hA] at H3
  dsimp only at H1 H2 H3
  by_cases e0 : e = 0#64
  · subst e0
    obtain rfl := H3 rfl
    have h1 := H1.resolve_left (by decide)
    have h2 := H2.resolve_left (by decide)
    rw [h1] at hF
    rw [h2] at hG
    exact More_D0 ad cap m k f0 f1 f2 hA hF hG
  · have e0' : (e == 0#64) = false := beq_eq_false_iff_ne.2 e0
    rcases H1 with h1 | h1 <;> rcases H2 with h2 | h2
    · rw [h1] at h2; exact absurd h2 (by decide)
    · exact More_E20 ad cap m k a e a1 f a2 g f0 f1 f2 hA hF hG e0' (by rw [h1]; rfl) (by rw [(Prod.mk.inj h2).2]; exact beq_self_eq_true _)
    · exact More_E10 ad cap m k a e a1 f a2 g f0 f1 f2 hA hF hG e0' (by rw [(Prod.mk.inj h1).2]; exact beq_self_eq_true _) (by rw [h2]; rfl)
    · exact More_E00 ad cap m k a e a1 f a2 g f0 f1 f2 hA hF hG e0' (by rw [(Prod.mk.inj h1).2]; exact beq_self_eq_true _) (by rw [(Prod.mk.inj h2).2]; exact beq_self_eq_true _)
end Go.Proofs.Ytdaioplfgbgggaa
