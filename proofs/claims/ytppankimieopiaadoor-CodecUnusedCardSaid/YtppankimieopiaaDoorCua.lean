/-
  Chapter 11: CodecUnused, as the evaluator leaves it, for some kinds. Conditions: as typed.
-/
import Derived.Test.YtppankimieopiaaDoorCu
namespace Go.Proofs.YtppankimieopiaaDoor
open Go.Ep Go.RowKit
set_option linter.unusedVariables false
set_option linter.unusedSimpArgs false
set_option maxRecDepth 100000 in
set_option maxHeartbeats 16000000 in
theorem cu_0 (D2 : VData) (m : Nat → Nat) (k al cc sz : BitVec 64) (w sh : Bool) (d s : BitVec 64) (dp rl : BitVec 32) (im : BitVec 64) (wh : BitVec 8) (to : BitVec 64) (e : (k.srem 21#64 + 21#64).srem 21#64 = 0#64) : F Tryd.prog (tabI Tryd.prog (DN m D2) (tb_coded m) FSc 2) Tryd.f10 [.agg [.b64 true k, .b64 true al, .b64 true cc, .b64 true sz, .bool w, .bool sh, .b64 true d, .b64 true s, .b32 true dp, .b32 true rl, .b64 true im], .one (.b8 false wh), .one (.b64 true to)] (fun r => r = .one (.bool true)) := by
  repeat' (first
    | ((with_reducible apply Given.mk); intro h; (try simp only [e, BitVec.reduceAdd, BitVec.reduceBEq, BitVec.reduceBNe, BitVec.reduceSLT, BitVec.reduceSLE, qld_vld, vK1, v1, regB, rg15, rg0, nil_s0, al6, al3, cc10, sh31, wd32, rl8, Bool.and_true, Bool.true_and, Bool.and_false, Bool.false_and, Bool.or_false, Bool.false_or, Bool.or_self, Bool.or_true, Bool.true_or, Bool.not_true, Bool.not_false, Bool.not_not, Bool.true_eq_false, Bool.false_eq_true, if_true, if_false, beq_self_eq_true, bne_self_eq_false, decide_true] at h); (try (simp only [beq_iff_eq] at h; subst h)); (try simp only [*, Bool.and_true, Bool.true_and, Bool.and_false, Bool.false_and, Bool.or_false, Bool.false_or, Bool.or_self, Bool.or_true, Bool.true_or, Bool.not_true, Bool.not_false, Bool.not_not, Bool.true_eq_false, Bool.false_eq_true, if_true, if_false, beq_self_eq_true, bne_self_eq_false, decide_true] at h); (try exact absurd h (by decide)))
    | ((conv => whnf); with_reducible apply Both.mk))
  all_goals first
    | (with_reducible apply Ob.mk; kernel_rfl)
    | (with_reducible apply Ob.mk; decide)
    | ((conv => whnf); refine ⟨?_⟩; exact rfl)
    | ((with_reducible apply Ob.mk); first | exact ixn al 6 (by decide) (by decide) | exact ixn al 3 (by decide) (by decide) | exact ixn cc 10 (by decide) (by decide))
    | ((with_reducible apply Ob.mk); exfalso; simp_all only [e, BitVec.reduceAdd, BitVec.reduceBEq, BitVec.reduceBNe, BitVec.reduceSLT, BitVec.reduceSLE, qld_vld, vK1, v1, regB, rg15, rg0, nil_s0, al6, al3, cc10, sh31, wd32, rl8, Bool.and_true, Bool.true_and, Bool.and_false, Bool.false_and, Bool.or_false, Bool.false_or, Bool.or_self, Bool.or_true, Bool.true_or, Bool.not_true, Bool.not_false, Bool.not_not, Bool.true_eq_false, Bool.false_eq_true, if_true, if_false, beq_self_eq_true, bne_self_eq_false, decide_true]; done)
    | ((conv => whnf); skip)
set_option maxRecDepth 100000 in
set_option maxHeartbeats 16000000 in
theorem cu_1 (D2 : VData) (m : Nat → Nat) (k al cc sz : BitVec 64) (w sh : Bool) (d s : BitVec 64) (dp rl : BitVec 32) (im : BitVec 64) (wh : BitVec 8) (to : BitVec 64) (e : (k.srem 21#64 + 21#64).srem 21#64 = 1#64) : F Tryd.prog (tabI Tryd.prog (DN m D2) (tb_coded m) FSc 2) Tryd.f10 [.agg [.b64 true k, .b64 true al, .b64 true cc, .b64 true sz, .bool w, .bool sh, .b64 true d, .b64 true s, .b32 true dp, .b32 true rl, .b64 true im], .one (.b8 false wh), .one (.b64 true to)] (fun r => r = .one (.bool true)) := by
  repeat' (first
    | ((with_reducible apply Given.mk); intro h; (try simp only [e, BitVec.reduceAdd, BitVec.reduceBEq, BitVec.reduceBNe, BitVec.reduceSLT, BitVec.reduceSLE, qld_vld, vK2, v2, regB, rg15, rg0, nil_s0, al6, al3, cc10, sh31, wd32, rl8, Bool.and_true, Bool.true_and, Bool.and_false, Bool.false_and, Bool.or_false, Bool.false_or, Bool.or_self, Bool.or_true, Bool.true_or, Bool.not_true, Bool.not_false, Bool.not_not, Bool.true_eq_false, Bool.false_eq_true, if_true, if_false, beq_self_eq_true, bne_self_eq_false, decide_true] at h); (try (simp only [beq_iff_eq] at h; subst h)); (try simp only [*, Bool.and_true, Bool.true_and, Bool.and_false, Bool.false_and, Bool.or_false, Bool.false_or, Bool.or_self, Bool.or_true, Bool.true_or, Bool.not_true, Bool.not_false, Bool.not_not, Bool.true_eq_false, Bool.false_eq_true, if_true, if_false, beq_self_eq_true, bne_self_eq_false, decide_true] at h); (try exact absurd h (by decide)))
    | ((conv => whnf); with_reducible apply Both.mk))
  all_goals first
    | (with_reducible apply Ob.mk; kernel_rfl)
    | (with_reducible apply Ob.mk; decide)
    | ((conv => whnf); refine ⟨?_⟩; exact rfl)
    | ((with_reducible apply Ob.mk); first | exact ixn al 6 (by decide) (by decide) | exact ixn al 3 (by decide) (by decide) | exact ixn cc 10 (by decide) (by decide))
    | ((with_reducible apply Ob.mk); exfalso; simp_all only [e, BitVec.reduceAdd, BitVec.reduceBEq, BitVec.reduceBNe, BitVec.reduceSLT, BitVec.reduceSLE, qld_vld, vK2, v2, regB, rg15, rg0, nil_s0, al6, al3, cc10, sh31, wd32, rl8, Bool.and_true, Bool.true_and, Bool.and_false, Bool.false_and, Bool.or_false, Bool.false_or, Bool.or_self, Bool.or_true, Bool.true_or, Bool.not_true, Bool.not_false, Bool.not_not, Bool.true_eq_false, Bool.false_eq_true, if_true, if_false, beq_self_eq_true, bne_self_eq_false, decide_true]; done)
    | ((conv => whnf); skip)
set_option maxRecDepth 100000 in
set_option maxHeartbeats 16000000 in
theorem cu_2 (D2 : VData) (m : Nat → Nat) (k al cc sz : BitVec 64) (w sh : Bool) (d s : BitVec 64) (dp rl : BitVec 32) (im : BitVec 64) (wh : BitVec 8) (to : BitVec 64) (e : (k.srem 21#64 + 21#64).srem 21#64 = 2#64) : F Tryd.prog (tabI Tryd.prog (DN m D2) (tb_coded m) FSc 2) Tryd.f10 [.agg [.b64 true k, .b64 true al, .b64 true cc, .b64 true sz, .bool w, .bool sh, .b64 true d, .b64 true s, .b32 true dp, .b32 true rl, .b64 true im], .one (.b8 false wh), .one (.b64 true to)] (fun r => r = .one (.bool true)) := by
  repeat' (first
    | ((with_reducible apply Given.mk); intro h; (try simp only [e, BitVec.reduceAdd, BitVec.reduceBEq, BitVec.reduceBNe, BitVec.reduceSLT, BitVec.reduceSLE, qld_vld, vK3, v3, regB, rg15, rg0, nil_s0, al6, al3, cc10, sh31, wd32, rl8, Bool.and_true, Bool.true_and, Bool.and_false, Bool.false_and, Bool.or_false, Bool.false_or, Bool.or_self, Bool.or_true, Bool.true_or, Bool.not_true, Bool.not_false, Bool.not_not, Bool.true_eq_false, Bool.false_eq_true, if_true, if_false, beq_self_eq_true, bne_self_eq_false, decide_true] at h); (try (simp only [beq_iff_eq] at h; subst h)); (try simp only [*, Bool.and_true, Bool.true_and, Bool.and_false, Bool.false_and, Bool.or_false, Bool.false_or, Bool.or_self, Bool.or_true, Bool.true_or, Bool.not_true, Bool.not_false, Bool.not_not, Bool.true_eq_false, Bool.false_eq_true, if_true, if_false, beq_self_eq_true, bne_self_eq_false, decide_true] at h); (try exact absurd h (by decide)))
    | ((conv => whnf); with_reducible apply Both.mk))
  all_goals first
    | (with_reducible apply Ob.mk; kernel_rfl)
    | (with_reducible apply Ob.mk; decide)
    | ((conv => whnf); refine ⟨?_⟩; exact rfl)
    | ((with_reducible apply Ob.mk); first | exact ixn al 6 (by decide) (by decide) | exact ixn al 3 (by decide) (by decide) | exact ixn cc 10 (by decide) (by decide))
    | ((with_reducible apply Ob.mk); exfalso; simp_all only [e, BitVec.reduceAdd, BitVec.reduceBEq, BitVec.reduceBNe, BitVec.reduceSLT, BitVec.reduceSLE, qld_vld, vK3, v3, regB, rg15, rg0, nil_s0, al6, al3, cc10, sh31, wd32, rl8, Bool.and_true, Bool.true_and, Bool.and_false, Bool.false_and, Bool.or_false, Bool.false_or, Bool.or_self, Bool.or_true, Bool.true_or, Bool.not_true, Bool.not_false, Bool.not_not, Bool.true_eq_false, Bool.false_eq_true, if_true, if_false, beq_self_eq_true, bne_self_eq_false, decide_true]; done)
    | ((conv => whnf); skip)
set_option maxRecDepth 100000 in
set_option maxHeartbeats 16000000 in
theorem cu_3 (D2 : VData) (m : Nat → Nat) (k al cc sz : BitVec 64) (w sh : Bool) (d s : BitVec 64) (dp rl : BitVec 32) (im : BitVec 64) (wh : BitVec 8) (to : BitVec 64) (e : (k.srem 21#64 + 21#64).srem 21#64 = 3#64) : F Tryd.prog (tabI Tryd.prog (DN m D2) (tb_coded m) FSc 2) Tryd.f10 [.agg [.b64 true k, .b64 true al, .b64 true cc, .b64 true sz, .bool w, .bool sh, .b64 true d, .b64 true s, .b32 true dp, .b32 true rl, .b64 true im], .one (.b8 false wh), .one (.b64 true to)] (fun r => r = .one (.bool true)) := by
  repeat' (first
    | ((with_reducible apply Given.mk); intro h; (try simp only [e, BitVec.reduceAdd, BitVec.reduceBEq, BitVec.reduceBNe, BitVec.reduceSLT, BitVec.reduceSLE, qld_vld, vK4, v4, regB, rg15, rg0, nil_s0, al6, al3, cc10, sh31, wd32, rl8, Bool.and_true, Bool.true_and, Bool.and_false, Bool.false_and, Bool.or_false, Bool.false_or, Bool.or_self, Bool.or_true, Bool.true_or, Bool.not_true, Bool.not_false, Bool.not_not, Bool.true_eq_false, Bool.false_eq_true, if_true, if_false, beq_self_eq_true, bne_self_eq_false, decide_true] at h); (try (simp only [beq_iff_eq] at h; subst h)); (try simp only [*, Bool.and_true, Bool.true_and, Bool.and_false, Bool.false_and, Bool.or_false, Bool.false_or, Bool.or_self, Bool.or_true, Bool.true_or, Bool.not_true, Bool.not_false, Bool.not_not, Bool.true_eq_false, Bool.false_eq_true, if_true, if_false, beq_self_eq_true, bne_self_eq_false, decide_true] at h); (try exact absurd h (by decide)))
    | ((conv => whnf); with_reducible apply Both.mk))
  all_goals first
    | (with_reducible apply Ob.mk; kernel_rfl)
    | (with_reducible apply Ob.mk; decide)
    | ((conv => whnf); refine ⟨?_⟩; exact rfl)
    | ((with_reducible apply Ob.mk); first | exact ixn al 6 (by decide) (by decide) | exact ixn al 3 (by decide) (by decide) | exact ixn cc 10 (by decide) (by decide))
    | ((with_reducible apply Ob.mk); exfalso; simp_all only [e, BitVec.reduceAdd, BitVec.reduceBEq, BitVec.reduceBNe, BitVec.reduceSLT, BitVec.reduceSLE, qld_vld, vK4, v4, regB, rg15, rg0, nil_s0, al6, al3, cc10, sh31, wd32, rl8, Bool.and_true, Bool.true_and, Bool.and_false, Bool.false_and, Bool.or_false, Bool.false_or, Bool.or_self, Bool.or_true, Bool.true_or, Bool.not_true, Bool.not_false, Bool.not_not, Bool.true_eq_false, Bool.false_eq_true, if_true, if_false, beq_self_eq_true, bne_self_eq_false, decide_true]; done)
    | ((conv => whnf); skip)
end Go.Proofs.YtppankimieopiaaDoor
