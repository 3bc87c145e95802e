/-
  Chapter 11: CodecBack, as the evaluator walks it. Conditions: none.
-/
import Derived.Test.YtppankimieopiaaDoorDj
namespace Go.Proofs.YtppankimieopiaaDoor
open Go.Ep Go.RowKit
set_option linter.unusedVariables false
set_option linter.unusedSimpArgs false
theorem cut_mk {k al cc sz : BitVec 64} {w sh : Bool} {d s : BitVec 64} {dp rl : BitVec 32} {im : BitVec 64} (h : vld k al cc sz w sh d s dp rl im = true) : ∃ x : MX, vX x = true ∧ AV.agg [.b64 true k, .b64 true al, .b64 true cc, .b64 true sz, .bool w, .bool sh, .b64 true d, .b64 true s, .b32 true dp, .b32 true rl, .b64 true im] = .agg (LX x) := ⟨⟨k, al, cc, sz, w, sh, d, s, dp, rl, im⟩, h, rfl⟩
/-- cut: some instruction that may be. -/
def h_cut : SpH
  | [.agg [.b64 true k, .b64 true al, .b64 true cc, .b64 true sz, .bool w, .bool sh, .b64 true d, .b64 true s, .b32 true dp, .b32 true rl, .b64 true im]] => some ⟨Cond.t, MX, fun x => vX x = true, fun x => .agg (LX x)⟩
  | _ => none
set_option maxRecDepth 100000 in
set_option maxHeartbeats 16000000 in
theorem ck_0 (D2 : VData) (m : Nat → Nat) (k al cc sz : BitVec 64) (w sh : Bool) (d s : BitVec 64) (dp rl : BitVec 32) (im : BitVec 64) (e : (k.srem 21#64 + 21#64).srem 21#64 = 0#64) : FI Tryd.prog (tab (DN m D2) (tb_O m)) Tryd.f25 0 [.agg [.b64 true k, .b64 true al, .b64 true cc, .b64 true sz, .bool w, .bool sh, .b64 true d, .b64 true s, .b32 true dp, .b32 true rl, .b64 true im]] [] (fun r _ => ∃ x : MX, vX x = true ∧ r = .agg (LX x)) := by
  repeat' (first
    | ((with_reducible apply Given.mk); intro h; (try simp only [e, BitVec.reduceAdd, BitVec.reduceBEq, BitVec.reduceBNe, BitVec.reduceSLT, BitVec.reduceSLE, vK1, v1, regB, rg15, rg0, al6, al3, cc10, sh31, wd32, rl8, eq_self, Bool.and_true, Bool.true_and, Bool.and_false, Bool.false_and, Bool.or_false, Bool.false_or, Bool.or_self, Bool.or_true, Bool.true_or, Bool.not_true, Bool.not_false, Bool.not_not, Bool.true_eq_false, Bool.false_eq_true, if_true, if_false, beq_self_eq_true, bne_self_eq_false, decide_true] at h); (try exact absurd h (by decide)); (try (cases sh <;> simp only [Bool.true_eq_false, Bool.false_eq_true] at h)))
    | ((conv => whnf); with_reducible apply Both.mk))
  all_goals first
    | (with_reducible apply Ob.mk; kernel_rfl)
    | (with_reducible apply Ob.mk; decide)
    | ((with_reducible apply Ob.mk); first | exact ixn al 6 (by decide) (by decide) | exact ixn al 3 (by decide) (by decide) | exact ixn cc 10 (by decide) (by decide))
    | ((conv => whnf); refine cut_mk ?_; simp only [e, BitVec.reduceAdd, BitVec.reduceBEq, BitVec.reduceBNe, BitVec.reduceSLT, BitVec.reduceSLE, vK1, v1, regB, rg15, rg0, al6, al3, cc10, sh31, wd32, rl8, eq_self, Bool.and_true, Bool.true_and, Bool.and_false, Bool.false_and, Bool.or_false, Bool.false_or, Bool.or_self, Bool.or_true, Bool.true_or, Bool.not_true, Bool.not_false, Bool.not_not, Bool.true_eq_false, Bool.false_eq_true, if_true, if_false, beq_self_eq_true, bne_self_eq_false, decide_true]; done)
    | ((conv => whnf); refine cut_mk ?_; simp only [e, BitVec.reduceAdd, BitVec.reduceBEq, BitVec.reduceBNe, BitVec.reduceSLT, BitVec.reduceSLE, vK1, v1, regB, rg15, rg0, al6, al3, cc10, sh31, wd32, rl8, eq_self, Bool.and_true, Bool.true_and, Bool.and_false, Bool.false_and, Bool.or_false, Bool.false_or, Bool.or_self, Bool.or_true, Bool.true_or, Bool.not_true, Bool.not_false, Bool.not_not, Bool.true_eq_false, Bool.false_eq_true, if_true, if_false, beq_self_eq_true, bne_self_eq_false, decide_true, *]; done)
    | ((conv => whnf); skip)
set_option maxRecDepth 100000 in
set_option maxHeartbeats 16000000 in
theorem ck_1 (D2 : VData) (m : Nat → Nat) (k al cc sz : BitVec 64) (w sh : Bool) (d s : BitVec 64) (dp rl : BitVec 32) (im : BitVec 64) (e : (k.srem 21#64 + 21#64).srem 21#64 = 1#64) : FI Tryd.prog (tab (DN m D2) (tb_O m)) Tryd.f25 0 [.agg [.b64 true k, .b64 true al, .b64 true cc, .b64 true sz, .bool w, .bool sh, .b64 true d, .b64 true s, .b32 true dp, .b32 true rl, .b64 true im]] [] (fun r _ => ∃ x : MX, vX x = true ∧ r = .agg (LX x)) := by
  repeat' (first
    | ((with_reducible apply Given.mk); intro h; (try simp only [e, BitVec.reduceAdd, BitVec.reduceBEq, BitVec.reduceBNe, BitVec.reduceSLT, BitVec.reduceSLE, vK2, v2, regB, rg15, rg0, al6, al3, cc10, sh31, wd32, rl8, eq_self, Bool.and_true, Bool.true_and, Bool.and_false, Bool.false_and, Bool.or_false, Bool.false_or, Bool.or_self, Bool.or_true, Bool.true_or, Bool.not_true, Bool.not_false, Bool.not_not, Bool.true_eq_false, Bool.false_eq_true, if_true, if_false, beq_self_eq_true, bne_self_eq_false, decide_true] at h); (try exact absurd h (by decide)); (try (cases sh <;> simp only [Bool.true_eq_false, Bool.false_eq_true] at h)))
    | ((conv => whnf); with_reducible apply Both.mk))
  all_goals first
    | (with_reducible apply Ob.mk; kernel_rfl)
    | (with_reducible apply Ob.mk; decide)
    | ((with_reducible apply Ob.mk); first | exact ixn al 6 (by decide) (by decide) | exact ixn al 3 (by decide) (by decide) | exact ixn cc 10 (by decide) (by decide))
    | ((conv => whnf); refine cut_mk ?_; simp only [e, BitVec.reduceAdd, BitVec.reduceBEq, BitVec.reduceBNe, BitVec.reduceSLT, BitVec.reduceSLE, vK2, v2, regB, rg15, rg0, al6, al3, cc10, sh31, wd32, rl8, eq_self, Bool.and_true, Bool.true_and, Bool.and_false, Bool.false_and, Bool.or_false, Bool.false_or, Bool.or_self, Bool.or_true, Bool.true_or, Bool.not_true, Bool.not_false, Bool.not_not, Bool.true_eq_false, Bool.false_eq_true, if_true, if_false, beq_self_eq_true, bne_self_eq_false, decide_true]; done)
    | ((conv => whnf); refine cut_mk ?_; simp only [e, BitVec.reduceAdd, BitVec.reduceBEq, BitVec.reduceBNe, BitVec.reduceSLT, BitVec.reduceSLE, vK2, v2, regB, rg15, rg0, al6, al3, cc10, sh31, wd32, rl8, eq_self, Bool.and_true, Bool.true_and, Bool.and_false, Bool.false_and, Bool.or_false, Bool.false_or, Bool.or_self, Bool.or_true, Bool.true_or, Bool.not_true, Bool.not_false, Bool.not_not, Bool.true_eq_false, Bool.false_eq_true, if_true, if_false, beq_self_eq_true, bne_self_eq_false, decide_true, *]; done)
    | ((conv => whnf); skip)
set_option maxRecDepth 100000 in
set_option maxHeartbeats 16000000 in
theorem ck_2 (D2 : VData) (m : Nat → Nat) (k al cc sz : BitVec 64) (w sh : Bool) (d s : BitVec 64) (dp rl : BitVec 32) (im : BitVec 64) (e : (k.srem 21#64 + 21#64).srem 21#64 = 2#64) : FI Tryd.prog (tab (DN m D2) (tb_O m)) Tryd.f25 0 [.agg [.b64 true k, .b64 true al, .b64 true cc, .b64 true sz, .bool w, .bool sh, .b64 true d, .b64 true s, .b32 true dp, .b32 true rl, .b64 true im]] [] (fun r _ => ∃ x : MX, vX x = true ∧ r = .agg (LX x)) := by
  repeat' (first
    | ((with_reducible apply Given.mk); intro h; (try simp only [e, BitVec.reduceAdd, BitVec.reduceBEq, BitVec.reduceBNe, BitVec.reduceSLT, BitVec.reduceSLE, vK3, v3, regB, rg15, rg0, al6, al3, cc10, sh31, wd32, rl8, eq_self, Bool.and_true, Bool.true_and, Bool.and_false, Bool.false_and, Bool.or_false, Bool.false_or, Bool.or_self, Bool.or_true, Bool.true_or, Bool.not_true, Bool.not_false, Bool.not_not, Bool.true_eq_false, Bool.false_eq_true, if_true, if_false, beq_self_eq_true, bne_self_eq_false, decide_true] at h); (try exact absurd h (by decide)); (try (cases sh <;> simp only [Bool.true_eq_false, Bool.false_eq_true] at h)))
    | ((conv => whnf); with_reducible apply Both.mk))
  all_goals first
    | (with_reducible apply Ob.mk; kernel_rfl)
    | (with_reducible apply Ob.mk; decide)
    | ((with_reducible apply Ob.mk); first | exact ixn al 6 (by decide) (by decide) | exact ixn al 3 (by decide) (by decide) | exact ixn cc 10 (by decide) (by decide))
    | ((conv => whnf); refine cut_mk ?_; simp only [e, BitVec.reduceAdd, BitVec.reduceBEq, BitVec.reduceBNe, BitVec.reduceSLT, BitVec.reduceSLE, vK3, v3, regB, rg15, rg0, al6, al3, cc10, sh31, wd32, rl8, eq_self, Bool.and_true, Bool.true_and, Bool.and_false, Bool.false_and, Bool.or_false, Bool.false_or, Bool.or_self, Bool.or_true, Bool.true_or, Bool.not_true, Bool.not_false, Bool.not_not, Bool.true_eq_false, Bool.false_eq_true, if_true, if_false, beq_self_eq_true, bne_self_eq_false, decide_true]; done)
    | ((conv => whnf); refine cut_mk ?_; simp only [e, BitVec.reduceAdd, BitVec.reduceBEq, BitVec.reduceBNe, BitVec.reduceSLT, BitVec.reduceSLE, vK3, v3, regB, rg15, rg0, al6, al3, cc10, sh31, wd32, rl8, eq_self, Bool.and_true, Bool.true_and, Bool.and_false, Bool.false_and, Bool.or_false, Bool.false_or, Bool.or_self, Bool.or_true, Bool.true_or, Bool.not_true, Bool.not_false, Bool.not_not, Bool.true_eq_false, Bool.false_eq_true, if_true, if_false, beq_self_eq_true, bne_self_eq_false, decide_true, *]; done)
    | ((conv => whnf); skip)
set_option maxRecDepth 100000 in
set_option maxHeartbeats 16000000 in
theorem ck_3 (D2 : VData) (m : Nat → Nat) (k al cc sz : BitVec 64) (w sh : Bool) (d s : BitVec 64) (dp rl : BitVec 32) (im : BitVec 64) (e : (k.srem 21#64 + 21#64).srem 21#64 = 3#64) : FI Tryd.prog (tab (DN m D2) (tb_O m)) Tryd.f25 0 [.agg [.b64 true k, .b64 true al, .b64 true cc, .b64 true sz, .bool w, .bool sh, .b64 true d, .b64 true s, .b32 true dp, .b32 true rl, .b64 true im]] [] (fun r _ => ∃ x : MX, vX x = true ∧ r = .agg (LX x)) := by
  repeat' (first
    | ((with_reducible apply Given.mk); intro h; (try simp only [e, BitVec.reduceAdd, BitVec.reduceBEq, BitVec.reduceBNe, BitVec.reduceSLT, BitVec.reduceSLE, vK4, v4, regB, rg15, rg0, al6, al3, cc10, sh31, wd32, rl8, eq_self, Bool.and_true, Bool.true_and, Bool.and_false, Bool.false_and, Bool.or_false, Bool.false_or, Bool.or_self, Bool.or_true, Bool.true_or, Bool.not_true, Bool.not_false, Bool.not_not, Bool.true_eq_false, Bool.false_eq_true, if_true, if_false, beq_self_eq_true, bne_self_eq_false, decide_true] at h); (try exact absurd h (by decide)); (try (cases sh <;> simp only [Bool.true_eq_false, Bool.false_eq_true] at h)))
    | ((conv => whnf); with_reducible apply Both.mk))
  all_goals first
    | (with_reducible apply Ob.mk; kernel_rfl)
    | (with_reducible apply Ob.mk; decide)
    | ((with_reducible apply Ob.mk); first | exact ixn al 6 (by decide) (by decide) | exact ixn al 3 (by decide) (by decide) | exact ixn cc 10 (by decide) (by decide))
    | ((conv => whnf); refine cut_mk ?_; simp only [e, BitVec.reduceAdd, BitVec.reduceBEq, BitVec.reduceBNe, BitVec.reduceSLT, BitVec.reduceSLE, vK4, v4, regB, rg15, rg0, al6, al3, cc10, sh31, wd32, rl8, eq_self, Bool.and_true, Bool.true_and, Bool.and_false, Bool.false_and, Bool.or_false, Bool.false_or, Bool.or_self, Bool.or_true, Bool.true_or, Bool.not_true, Bool.not_false, Bool.not_not, Bool.true_eq_false, Bool.false_eq_true, if_true, if_false, beq_self_eq_true, bne_self_eq_false, decide_true]; done)
    | ((conv => whnf); refine cut_mk ?_; simp only [e, BitVec.reduceAdd, BitVec.reduceBEq, BitVec.reduceBNe, BitVec.reduceSLT, BitVec.reduceSLE, vK4, v4, regB, rg15, rg0, al6, al3, cc10, sh31, wd32, rl8, eq_self, Bool.and_true, Bool.true_and, Bool.and_false, Bool.false_and, Bool.or_false, Bool.false_or, Bool.or_self, Bool.or_true, Bool.true_or, Bool.not_true, Bool.not_false, Bool.not_not, Bool.true_eq_false, Bool.false_eq_true, if_true, if_false, beq_self_eq_true, bne_self_eq_false, decide_true, *]; done)
    | ((conv => whnf); skip)
set_option maxRecDepth 100000 in
set_option maxHeartbeats 16000000 in
theorem ck_4 (D2 : VData) (m : Nat → Nat) (k al cc sz : BitVec 64) (w sh : Bool) (d s : BitVec 64) (dp rl : BitVec 32) (im : BitVec 64) (e : (k.srem 21#64 + 21#64).srem 21#64 = 4#64) : FI Tryd.prog (tab (DN m D2) (tb_O m)) Tryd.f25 0 [.agg [.b64 true k, .b64 true al, .b64 true cc, .b64 true sz, .bool w, .bool sh, .b64 true d, .b64 true s, .b32 true dp, .b32 true rl, .b64 true im]] [] (fun r _ => ∃ x : MX, vX x = true ∧ r = .agg (LX x)) := by
  repeat' (first
    | ((with_reducible apply Given.mk); intro h; (try simp only [e, BitVec.reduceAdd, BitVec.reduceBEq, BitVec.reduceBNe, BitVec.reduceSLT, BitVec.reduceSLE, vK5, v5, regB, rg15, rg0, al6, al3, cc10, sh31, wd32, rl8, eq_self, Bool.and_true, Bool.true_and, Bool.and_false, Bool.false_and, Bool.or_false, Bool.false_or, Bool.or_self, Bool.or_true, Bool.true_or, Bool.not_true, Bool.not_false, Bool.not_not, Bool.true_eq_false, Bool.false_eq_true, if_true, if_false, beq_self_eq_true, bne_self_eq_false, decide_true] at h); (try exact absurd h (by decide)); (try (cases sh <;> simp only [Bool.true_eq_false, Bool.false_eq_true] at h)))
    | ((conv => whnf); with_reducible apply Both.mk))
  all_goals first
    | (with_reducible apply Ob.mk; kernel_rfl)
    | (with_reducible apply Ob.mk; decide)
    | ((with_reducible apply Ob.mk); first | exact ixn al 6 (by decide) (by decide) | exact ixn al 3 (by decide) (by decide) | exact ixn cc 10 (by decide) (by decide))
    | ((conv => whnf); refine cut_mk ?_; simp only [e, BitVec.reduceAdd, BitVec.reduceBEq, BitVec.reduceBNe, BitVec.reduceSLT, BitVec.reduceSLE, vK5, v5, regB, rg15, rg0, al6, al3, cc10, sh31, wd32, rl8, eq_self, Bool.and_true, Bool.true_and, Bool.and_false, Bool.false_and, Bool.or_false, Bool.false_or, Bool.or_self, Bool.or_true, Bool.true_or, Bool.not_true, Bool.not_false, Bool.not_not, Bool.true_eq_false, Bool.false_eq_true, if_true, if_false, beq_self_eq_true, bne_self_eq_false, decide_true]; done)
    | ((conv => whnf); refine cut_mk ?_; simp only [e, BitVec.reduceAdd, BitVec.reduceBEq, BitVec.reduceBNe, BitVec.reduceSLT, BitVec.reduceSLE, vK5, v5, regB, rg15, rg0, al6, al3, cc10, sh31, wd32, rl8, eq_self, Bool.and_true, Bool.true_and, Bool.and_false, Bool.false_and, Bool.or_false, Bool.false_or, Bool.or_self, Bool.or_true, Bool.true_or, Bool.not_true, Bool.not_false, Bool.not_not, Bool.true_eq_false, Bool.false_eq_true, if_true, if_false, beq_self_eq_true, bne_self_eq_false, decide_true, *]; done)
    | ((conv => whnf); skip)
set_option maxRecDepth 100000 in
set_option maxHeartbeats 16000000 in
theorem ck_5 (D2 : VData) (m : Nat → Nat) (k al cc sz : BitVec 64) (w sh : Bool) (d s : BitVec 64) (dp rl : BitVec 32) (im : BitVec 64) (e : (k.srem 21#64 + 21#64).srem 21#64 = 5#64) : FI Tryd.prog (tab (DN m D2) (tb_O m)) Tryd.f25 0 [.agg [.b64 true k, .b64 true al, .b64 true cc, .b64 true sz, .bool w, .bool sh, .b64 true d, .b64 true s, .b32 true dp, .b32 true rl, .b64 true im]] [] (fun r _ => ∃ x : MX, vX x = true ∧ r = .agg (LX x)) := by
  repeat' (first
    | ((with_reducible apply Given.mk); intro h; (try simp only [e, BitVec.reduceAdd, BitVec.reduceBEq, BitVec.reduceBNe, BitVec.reduceSLT, BitVec.reduceSLE, vK6, v6, regB, rg15, rg0, al6, al3, cc10, sh31, wd32, rl8, eq_self, Bool.and_true, Bool.true_and, Bool.and_false, Bool.false_and, Bool.or_false, Bool.false_or, Bool.or_self, Bool.or_true, Bool.true_or, Bool.not_true, Bool.not_false, Bool.not_not, Bool.true_eq_false, Bool.false_eq_true, if_true, if_false, beq_self_eq_true, bne_self_eq_false, decide_true] at h); (try exact absurd h (by decide)); (try (cases sh <;> simp only [Bool.true_eq_false, Bool.false_eq_true] at h)))
    | ((conv => whnf); with_reducible apply Both.mk))
  all_goals first
    | (with_reducible apply Ob.mk; kernel_rfl)
    | (with_reducible apply Ob.mk; decide)
    | ((with_reducible apply Ob.mk); first | exact ixn al 6 (by decide) (by decide) | exact ixn al 3 (by decide) (by decide) | exact ixn cc 10 (by decide) (by decide))
    | ((conv => whnf); refine cut_mk ?_; simp only [e, BitVec.reduceAdd, BitVec.reduceBEq, BitVec.reduceBNe, BitVec.reduceSLT, BitVec.reduceSLE, vK6, v6, regB, rg15, rg0, al6, al3, cc10, sh31, wd32, rl8, eq_self, Bool.and_true, Bool.true_and, Bool.and_false, Bool.false_and, Bool.or_false, Bool.false_or, Bool.or_self, Bool.or_true, Bool.true_or, Bool.not_true, Bool.not_false, Bool.not_not, Bool.true_eq_false, Bool.false_eq_true, if_true, if_false, beq_self_eq_true, bne_self_eq_false, decide_true]; done)
    | ((conv => whnf); refine cut_mk ?_; simp only [e, BitVec.reduceAdd, BitVec.reduceBEq, BitVec.reduceBNe, BitVec.reduceSLT, BitVec.reduceSLE, vK6, v6, regB, rg15, rg0, al6, al3, cc10, sh31, wd32, rl8, eq_self, Bool.and_true, Bool.true_and, Bool.and_false, Bool.false_and, Bool.or_false, Bool.false_or, Bool.or_self, Bool.or_true, Bool.true_or, Bool.not_true, Bool.not_false, Bool.not_not, Bool.true_eq_false, Bool.false_eq_true, if_true, if_false, beq_self_eq_true, bne_self_eq_false, decide_true, *]; done)
    | ((conv => whnf); skip)
set_option maxRecDepth 100000 in
set_option maxHeartbeats 16000000 in
theorem ck_6 (D2 : VData) (m : Nat → Nat) (k al cc sz : BitVec 64) (w sh : Bool) (d s : BitVec 64) (dp rl : BitVec 32) (im : BitVec 64) (e : (k.srem 21#64 + 21#64).srem 21#64 = 6#64) : FI Tryd.prog (tab (DN m D2) (tb_O m)) Tryd.f25 0 [.agg [.b64 true k, .b64 true al, .b64 true cc, .b64 true sz, .bool w, .bool sh, .b64 true d, .b64 true s, .b32 true dp, .b32 true rl, .b64 true im]] [] (fun r _ => ∃ x : MX, vX x = true ∧ r = .agg (LX x)) := by
  repeat' (first
    | ((with_reducible apply Given.mk); intro h; (try simp only [e, BitVec.reduceAdd, BitVec.reduceBEq, BitVec.reduceBNe, BitVec.reduceSLT, BitVec.reduceSLE, vK7, v7, regB, rg15, rg0, al6, al3, cc10, sh31, wd32, rl8, eq_self, Bool.and_true, Bool.true_and, Bool.and_false, Bool.false_and, Bool.or_false, Bool.false_or, Bool.or_self, Bool.or_true, Bool.true_or, Bool.not_true, Bool.not_false, Bool.not_not, Bool.true_eq_false, Bool.false_eq_true, if_true, if_false, beq_self_eq_true, bne_self_eq_false, decide_true] at h); (try exact absurd h (by decide)); (try (cases sh <;> simp only [Bool.true_eq_false, Bool.false_eq_true] at h)))
    | ((conv => whnf); with_reducible apply Both.mk))
  all_goals first
    | (with_reducible apply Ob.mk; kernel_rfl)
    | (with_reducible apply Ob.mk; decide)
    | ((with_reducible apply Ob.mk); first | exact ixn al 6 (by decide) (by decide) | exact ixn al 3 (by decide) (by decide) | exact ixn cc 10 (by decide) (by decide))
    | ((conv => whnf); refine cut_mk ?_; simp only [e, BitVec.reduceAdd, BitVec.reduceBEq, BitVec.reduceBNe, BitVec.reduceSLT, BitVec.reduceSLE, vK7, v7, regB, rg15, rg0, al6, al3, cc10, sh31, wd32, rl8, eq_self, Bool.and_true, Bool.true_and, Bool.and_false, Bool.false_and, Bool.or_false, Bool.false_or, Bool.or_self, Bool.or_true, Bool.true_or, Bool.not_true, Bool.not_false, Bool.not_not, Bool.true_eq_false, Bool.false_eq_true, if_true, if_false, beq_self_eq_true, bne_self_eq_false, decide_true]; done)
    | ((conv => whnf); refine cut_mk ?_; simp only [e, BitVec.reduceAdd, BitVec.reduceBEq, BitVec.reduceBNe, BitVec.reduceSLT, BitVec.reduceSLE, vK7, v7, regB, rg15, rg0, al6, al3, cc10, sh31, wd32, rl8, eq_self, Bool.and_true, Bool.true_and, Bool.and_false, Bool.false_and, Bool.or_false, Bool.false_or, Bool.or_self, Bool.or_true, Bool.true_or, Bool.not_true, Bool.not_false, Bool.not_not, Bool.true_eq_false, Bool.false_eq_true, if_true, if_false, beq_self_eq_true, bne_self_eq_false, decide_true, *]; done)
    | ((conv => whnf); skip)
set_option maxRecDepth 100000 in
set_option maxHeartbeats 16000000 in
theorem ck_7 (D2 : VData) (m : Nat → Nat) (k al cc sz : BitVec 64) (w sh : Bool) (d s : BitVec 64) (dp rl : BitVec 32) (im : BitVec 64) (e : (k.srem 21#64 + 21#64).srem 21#64 = 7#64) : FI Tryd.prog (tab (DN m D2) (tb_O m)) Tryd.f25 0 [.agg [.b64 true k, .b64 true al, .b64 true cc, .b64 true sz, .bool w, .bool sh, .b64 true d, .b64 true s, .b32 true dp, .b32 true rl, .b64 true im]] [] (fun r _ => ∃ x : MX, vX x = true ∧ r = .agg (LX x)) := by
  repeat' (first
    | ((with_reducible apply Given.mk); intro h; (try simp only [e, BitVec.reduceAdd, BitVec.reduceBEq, BitVec.reduceBNe, BitVec.reduceSLT, BitVec.reduceSLE, vK8, v8, regB, rg15, rg0, al6, al3, cc10, sh31, wd32, rl8, eq_self, Bool.and_true, Bool.true_and, Bool.and_false, Bool.false_and, Bool.or_false, Bool.false_or, Bool.or_self, Bool.or_true, Bool.true_or, Bool.not_true, Bool.not_false, Bool.not_not, Bool.true_eq_false, Bool.false_eq_true, if_true, if_false, beq_self_eq_true, bne_self_eq_false, decide_true] at h); (try exact absurd h (by decide)); (try (cases sh <;> simp only [Bool.true_eq_false, Bool.false_eq_true] at h)))
    | ((conv => whnf); with_reducible apply Both.mk))
  all_goals first
    | (with_reducible apply Ob.mk; kernel_rfl)
    | (with_reducible apply Ob.mk; decide)
    | ((with_reducible apply Ob.mk); first | exact ixn al 6 (by decide) (by decide) | exact ixn al 3 (by decide) (by decide) | exact ixn cc 10 (by decide) (by decide))
    | ((conv => whnf); refine cut_mk ?_; simp only [e, BitVec.reduceAdd, BitVec.reduceBEq, BitVec.reduceBNe, BitVec.reduceSLT, BitVec.reduceSLE, vK8, v8, regB, rg15, rg0, al6, al3, cc10, sh31, wd32, rl8, eq_self, Bool.and_true, Bool.true_and, Bool.and_false, Bool.false_and, Bool.or_false, Bool.false_or, Bool.or_self, Bool.or_true, Bool.true_or, Bool.not_true, Bool.not_false, Bool.not_not, Bool.true_eq_false, Bool.false_eq_true, if_true, if_false, beq_self_eq_true, bne_self_eq_false, decide_true]; done)
    | ((conv => whnf); refine cut_mk ?_; simp only [e, BitVec.reduceAdd, BitVec.reduceBEq, BitVec.reduceBNe, BitVec.reduceSLT, BitVec.reduceSLE, vK8, v8, regB, rg15, rg0, al6, al3, cc10, sh31, wd32, rl8, eq_self, Bool.and_true, Bool.true_and, Bool.and_false, Bool.false_and, Bool.or_false, Bool.false_or, Bool.or_self, Bool.or_true, Bool.true_or, Bool.not_true, Bool.not_false, Bool.not_not, Bool.true_eq_false, Bool.false_eq_true, if_true, if_false, beq_self_eq_true, bne_self_eq_false, decide_true, *]; done)
    | ((conv => whnf); skip)
set_option maxRecDepth 100000 in
set_option maxHeartbeats 16000000 in
theorem ck_8 (D2 : VData) (m : Nat → Nat) (k al cc sz : BitVec 64) (w sh : Bool) (d s : BitVec 64) (dp rl : BitVec 32) (im : BitVec 64) (e : (k.srem 21#64 + 21#64).srem 21#64 = 8#64) : FI Tryd.prog (tab (DN m D2) (tb_O m)) Tryd.f25 0 [.agg [.b64 true k, .b64 true al, .b64 true cc, .b64 true sz, .bool w, .bool sh, .b64 true d, .b64 true s, .b32 true dp, .b32 true rl, .b64 true im]] [] (fun r _ => ∃ x : MX, vX x = true ∧ r = .agg (LX x)) := by
  repeat' (first
    | ((with_reducible apply Given.mk); intro h; (try simp only [e, BitVec.reduceAdd, BitVec.reduceBEq, BitVec.reduceBNe, BitVec.reduceSLT, BitVec.reduceSLE, vK9, v9, regB, rg15, rg0, al6, al3, cc10, sh31, wd32, rl8, eq_self, Bool.and_true, Bool.true_and, Bool.and_false, Bool.false_and, Bool.or_false, Bool.false_or, Bool.or_self, Bool.or_true, Bool.true_or, Bool.not_true, Bool.not_false, Bool.not_not, Bool.true_eq_false, Bool.false_eq_true, if_true, if_false, beq_self_eq_true, bne_self_eq_false, decide_true] at h); (try exact absurd h (by decide)); (try (cases sh <;> simp only [Bool.true_eq_false, Bool.false_eq_true] at h)))
    | ((conv => whnf); with_reducible apply Both.mk))
  all_goals first
    | (with_reducible apply Ob.mk; kernel_rfl)
    | (with_reducible apply Ob.mk; decide)
    | ((with_reducible apply Ob.mk); first | exact ixn al 6 (by decide) (by decide) | exact ixn al 3 (by decide) (by decide) | exact ixn cc 10 (by decide) (by decide))
    | ((conv => whnf); refine cut_mk ?_; simp only [e, BitVec.reduceAdd, BitVec.reduceBEq, BitVec.reduceBNe, BitVec.reduceSLT, BitVec.reduceSLE, vK9, v9, regB, rg15, rg0, al6, al3, cc10, sh31, wd32, rl8, eq_self, Bool.and_true, Bool.true_and, Bool.and_false, Bool.false_and, Bool.or_false, Bool.false_or, Bool.or_self, Bool.or_true, Bool.true_or, Bool.not_true, Bool.not_false, Bool.not_not, Bool.true_eq_false, Bool.false_eq_true, if_true, if_false, beq_self_eq_true, bne_self_eq_false, decide_true]; done)
    | ((conv => whnf); refine cut_mk ?_; simp only [e, BitVec.reduceAdd, BitVec.reduceBEq, BitVec.reduceBNe, BitVec.reduceSLT, BitVec.reduceSLE, vK9, v9, regB, rg15, rg0, al6, al3, cc10, sh31, wd32, rl8, eq_self, Bool.and_true, Bool.true_and, Bool.and_false, Bool.false_and, Bool.or_false, Bool.false_or, Bool.or_self, Bool.or_true, Bool.true_or, Bool.not_true, Bool.not_false, Bool.not_not, Bool.true_eq_false, Bool.false_eq_true, if_true, if_false, beq_self_eq_true, bne_self_eq_false, decide_true, *]; done)
    | ((conv => whnf); skip)
set_option maxRecDepth 100000 in
set_option maxHeartbeats 16000000 in
theorem ck_9 (D2 : VData) (m : Nat → Nat) (k al cc sz : BitVec 64) (w sh : Bool) (d s : BitVec 64) (dp rl : BitVec 32) (im : BitVec 64) (e : (k.srem 21#64 + 21#64).srem 21#64 = 9#64) : FI Tryd.prog (tab (DN m D2) (tb_O m)) Tryd.f25 0 [.agg [.b64 true k, .b64 true al, .b64 true cc, .b64 true sz, .bool w, .bool sh, .b64 true d, .b64 true s, .b32 true dp, .b32 true rl, .b64 true im]] [] (fun r _ => ∃ x : MX, vX x = true ∧ r = .agg (LX x)) := by
  repeat' (first
    | ((with_reducible apply Given.mk); intro h; (try simp only [e, BitVec.reduceAdd, BitVec.reduceBEq, BitVec.reduceBNe, BitVec.reduceSLT, BitVec.reduceSLE, vK10, v10, regB, rg15, rg0, al6, al3, cc10, sh31, wd32, rl8, eq_self, Bool.and_true, Bool.true_and, Bool.and_false, Bool.false_and, Bool.or_false, Bool.false_or, Bool.or_self, Bool.or_true, Bool.true_or, Bool.not_true, Bool.not_false, Bool.not_not, Bool.true_eq_false, Bool.false_eq_true, if_true, if_false, beq_self_eq_true, bne_self_eq_false, decide_true] at h); (try exact absurd h (by decide)); (try (cases sh <;> simp only [Bool.true_eq_false, Bool.false_eq_true] at h)))
    | ((conv => whnf); with_reducible apply Both.mk))
  all_goals first
    | (with_reducible apply Ob.mk; kernel_rfl)
    | (with_reducible apply Ob.mk; decide)
    | ((with_reducible apply Ob.mk); first | exact ixn al 6 (by decide) (by decide) | exact ixn al 3 (by decide) (by decide) | exact ixn cc 10 (by decide) (by decide))
    | ((conv => whnf); refine cut_mk ?_; simp only [e, BitVec.reduceAdd, BitVec.reduceBEq, BitVec.reduceBNe, BitVec.reduceSLT, BitVec.reduceSLE, vK10, v10, regB, rg15, rg0, al6, al3, cc10, sh31, wd32, rl8, eq_self, Bool.and_true, Bool.true_and, Bool.and_false, Bool.false_and, Bool.or_false, Bool.false_or, Bool.or_self, Bool.or_true, Bool.true_or, Bool.not_true, Bool.not_false, Bool.not_not, Bool.true_eq_false, Bool.false_eq_true, if_true, if_false, beq_self_eq_true, bne_self_eq_false, decide_true]; done)
    | ((conv => whnf); refine cut_mk ?_; simp only [e, BitVec.reduceAdd, BitVec.reduceBEq, BitVec.reduceBNe, BitVec.reduceSLT, BitVec.reduceSLE, vK10, v10, regB, rg15, rg0, al6, al3, cc10, sh31, wd32, rl8, eq_self, Bool.and_true, Bool.true_and, Bool.and_false, Bool.false_and, Bool.or_false, Bool.false_or, Bool.or_self, Bool.or_true, Bool.true_or, Bool.not_true, Bool.not_false, Bool.not_not, Bool.true_eq_false, Bool.false_eq_true, if_true, if_false, beq_self_eq_true, bne_self_eq_false, decide_true, *]; done)
    | ((conv => whnf); skip)
set_option maxRecDepth 100000 in
set_option maxHeartbeats 16000000 in
theorem ck_10 (D2 : VData) (m : Nat → Nat) (k al cc sz : BitVec 64) (w sh : Bool) (d s : BitVec 64) (dp rl : BitVec 32) (im : BitVec 64) (e : (k.srem 21#64 + 21#64).srem 21#64 = 10#64) : FI Tryd.prog (tab (DN m D2) (tb_O m)) Tryd.f25 0 [.agg [.b64 true k, .b64 true al, .b64 true cc, .b64 true sz, .bool w, .bool sh, .b64 true d, .b64 true s, .b32 true dp, .b32 true rl, .b64 true im]] [] (fun r _ => ∃ x : MX, vX x = true ∧ r = .agg (LX x)) := by
  repeat' (first
    | ((with_reducible apply Given.mk); intro h; (try simp only [e, BitVec.reduceAdd, BitVec.reduceBEq, BitVec.reduceBNe, BitVec.reduceSLT, BitVec.reduceSLE, vK11, v11, regB, rg15, rg0, al6, al3, cc10, sh31, wd32, rl8, eq_self, Bool.and_true, Bool.true_and, Bool.and_false, Bool.false_and, Bool.or_false, Bool.false_or, Bool.or_self, Bool.or_true, Bool.true_or, Bool.not_true, Bool.not_false, Bool.not_not, Bool.true_eq_false, Bool.false_eq_true, if_true, if_false, beq_self_eq_true, bne_self_eq_false, decide_true] at h); (try exact absurd h (by decide)); (try (cases sh <;> simp only [Bool.true_eq_false, Bool.false_eq_true] at h)))
    | ((conv => whnf); with_reducible apply Both.mk))
  all_goals first
    | (with_reducible apply Ob.mk; kernel_rfl)
    | (with_reducible apply Ob.mk; decide)
    | ((with_reducible apply Ob.mk); first | exact ixn al 6 (by decide) (by decide) | exact ixn al 3 (by decide) (by decide) | exact ixn cc 10 (by decide) (by decide))
    | ((conv => whnf); refine cut_mk ?_; simp only [e, BitVec.reduceAdd, BitVec.reduceBEq, BitVec.reduceBNe, BitVec.reduceSLT, BitVec.reduceSLE, vK11, v11, regB, rg15, rg0, al6, al3, cc10, sh31, wd32, rl8, eq_self, Bool.and_true, Bool.true_and, Bool.and_false, Bool.false_and, Bool.or_false, Bool.false_or, Bool.or_self, Bool.or_true, Bool.true_or, Bool.not_true, Bool.not_false, Bool.not_not, Bool.true_eq_false, Bool.false_eq_true, if_true, if_false, beq_self_eq_true, bne_self_eq_false, decide_true]; done)
    | ((conv => whnf); refine cut_mk ?_; simp only [e, BitVec.reduceAdd, BitVec.reduceBEq, BitVec.reduceBNe, BitVec.reduceSLT, BitVec.reduceSLE, vK11, v11, regB, rg15, rg0, al6, al3, cc10, sh31, wd32, rl8, eq_self, Bool.and_true, Bool.true_and, Bool.and_false, Bool.false_and, Bool.or_false, Bool.false_or, Bool.or_self, Bool.or_true, Bool.true_or, Bool.not_true, Bool.not_false, Bool.not_not, Bool.true_eq_false, Bool.false_eq_true, if_true, if_false, beq_self_eq_true, bne_self_eq_false, decide_true, *]; done)
    | ((conv => whnf); skip)
set_option maxRecDepth 100000 in
set_option maxHeartbeats 16000000 in
theorem ck_11 (D2 : VData) (m : Nat → Nat) (k al cc sz : BitVec 64) (w sh : Bool) (d s : BitVec 64) (dp rl : BitVec 32) (im : BitVec 64) (e : (k.srem 21#64 + 21#64).srem 21#64 = 11#64) : FI Tryd.prog (tab (DN m D2) (tb_O m)) Tryd.f25 0 [.agg [.b64 true k, .b64 true al, .b64 true cc, .b64 true sz, .bool w, .bool sh, .b64 true d, .b64 true s, .b32 true dp, .b32 true rl, .b64 true im]] [] (fun r _ => ∃ x : MX, vX x = true ∧ r = .agg (LX x)) := by
  repeat' (first
    | ((with_reducible apply Given.mk); intro h; (try simp only [e, BitVec.reduceAdd, BitVec.reduceBEq, BitVec.reduceBNe, BitVec.reduceSLT, BitVec.reduceSLE, vK12, v12, regB, rg15, rg0, al6, al3, cc10, sh31, wd32, rl8, eq_self, Bool.and_true, Bool.true_and, Bool.and_false, Bool.false_and, Bool.or_false, Bool.false_or, Bool.or_self, Bool.or_true, Bool.true_or, Bool.not_true, Bool.not_false, Bool.not_not, Bool.true_eq_false, Bool.false_eq_true, if_true, if_false, beq_self_eq_true, bne_self_eq_false, decide_true] at h); (try exact absurd h (by decide)); (try (cases sh <;> simp only [Bool.true_eq_false, Bool.false_eq_true] at h)))
    | ((conv => whnf); with_reducible apply Both.mk))
  all_goals first
    | (with_reducible apply Ob.mk; kernel_rfl)
    | (with_reducible apply Ob.mk; decide)
    | ((with_reducible apply Ob.mk); first | exact ixn al 6 (by decide) (by decide) | exact ixn al 3 (by decide) (by decide) | exact ixn cc 10 (by decide) (by decide))
    | ((conv => whnf); refine cut_mk ?_; simp only [e, BitVec.reduceAdd, BitVec.reduceBEq, BitVec.reduceBNe, BitVec.reduceSLT, BitVec.reduceSLE, vK12, v12, regB, rg15, rg0, al6, al3, cc10, sh31, wd32, rl8, eq_self, Bool.and_true, Bool.true_and, Bool.and_false, Bool.false_and, Bool.or_false, Bool.false_or, Bool.or_self, Bool.or_true, Bool.true_or, Bool.not_true, Bool.not_false, Bool.not_not, Bool.true_eq_false, Bool.false_eq_true, if_true, if_false, beq_self_eq_true, bne_self_eq_false, decide_true]; done)
    | ((conv => whnf); refine cut_mk ?_; simp only [e, BitVec.reduceAdd, BitVec.reduceBEq, BitVec.reduceBNe, BitVec.reduceSLT, BitVec.reduceSLE, vK12, v12, regB, rg15, rg0, al6, al3, cc10, sh31, wd32, rl8, eq_self, Bool.and_true, Bool.true_and, Bool.and_false, Bool.false_and, Bool.or_false, Bool.false_or, Bool.or_self, Bool.or_true, Bool.true_or, Bool.not_true, Bool.not_false, Bool.not_not, Bool.true_eq_false, Bool.false_eq_true, if_true, if_false, beq_self_eq_true, bne_self_eq_false, decide_true, *]; done)
    | ((conv => whnf); skip)
set_option maxRecDepth 100000 in
set_option maxHeartbeats 16000000 in
theorem ck_12_0 (D2 : VData) (m : Nat → Nat) (k al cc sz : BitVec 64) (w sh : Bool) (d s : BitVec 64) (dp rl : BitVec 32) (im : BitVec 64) (e : (k.srem 21#64 + 21#64).srem 21#64 = 12#64) (es : sz &&& 3#64 = 0#64) : FI Tryd.prog (tab (DN m D2) (tb_O m)) Tryd.f25 0 [.agg [.b64 true k, .b64 true al, .b64 true cc, .b64 true sz, .bool w, .bool sh, .b64 true d, .b64 true s, .b32 true dp, .b32 true rl, .b64 true im]] [] (fun r _ => ∃ x : MX, vX x = true ∧ r = .agg (LX x)) := by
  repeat' (first
    | ((with_reducible apply Given.mk); intro h; (try simp only [e, es, sh0, sh1, sh2, sh3, sizeB, BitVec.reduceAdd, BitVec.reduceBEq, BitVec.reduceBNe, BitVec.reduceSLT, BitVec.reduceSLE, vK13, v13, regB, rg15, rg0, al6, al3, cc10, sh31, wd32, rl8, eq_self, Bool.and_true, Bool.true_and, Bool.and_false, Bool.false_and, Bool.or_false, Bool.false_or, Bool.or_self, Bool.or_true, Bool.true_or, Bool.not_true, Bool.not_false, Bool.not_not, Bool.true_eq_false, Bool.false_eq_true, if_true, if_false, beq_self_eq_true, bne_self_eq_false, decide_true] at h); (try exact absurd h (by decide)); (try (cases sh <;> simp only [Bool.true_eq_false, Bool.false_eq_true] at h)))
    | ((conv => whnf); with_reducible apply Both.mk))
  all_goals first
    | (with_reducible apply Ob.mk; kernel_rfl)
    | (with_reducible apply Ob.mk; decide)
    | ((with_reducible apply Ob.mk); first | exact ixn al 6 (by decide) (by decide) | exact ixn al 3 (by decide) (by decide) | exact ixn cc 10 (by decide) (by decide))
    | ((with_reducible apply Ob.mk); rw [es]; decide)
    | ((conv => whnf); refine cut_mk ?_; simp only [e, es, sh0, sh1, sh2, sh3, sizeB, BitVec.reduceAdd, BitVec.reduceBEq, BitVec.reduceBNe, BitVec.reduceSLT, BitVec.reduceSLE, vK13, v13, regB, rg15, rg0, al6, al3, cc10, sh31, wd32, rl8, eq_self, Bool.and_true, Bool.true_and, Bool.and_false, Bool.false_and, Bool.or_false, Bool.false_or, Bool.or_self, Bool.or_true, Bool.true_or, Bool.not_true, Bool.not_false, Bool.not_not, Bool.true_eq_false, Bool.false_eq_true, if_true, if_false, beq_self_eq_true, bne_self_eq_false, decide_true]; done)
    | ((conv => whnf); refine cut_mk ?_; simp only [e, es, sh0, sh1, sh2, sh3, sizeB, BitVec.reduceAdd, BitVec.reduceBEq, BitVec.reduceBNe, BitVec.reduceSLT, BitVec.reduceSLE, vK13, v13, regB, rg15, rg0, al6, al3, cc10, sh31, wd32, rl8, eq_self, Bool.and_true, Bool.true_and, Bool.and_false, Bool.false_and, Bool.or_false, Bool.false_or, Bool.or_self, Bool.or_true, Bool.true_or, Bool.not_true, Bool.not_false, Bool.not_not, Bool.true_eq_false, Bool.false_eq_true, if_true, if_false, beq_self_eq_true, bne_self_eq_false, decide_true, *]; done)
    | ((conv => whnf); skip)
set_option maxRecDepth 100000 in
set_option maxHeartbeats 16000000 in
theorem ck_12_1 (D2 : VData) (m : Nat → Nat) (k al cc sz : BitVec 64) (w sh : Bool) (d s : BitVec 64) (dp rl : BitVec 32) (im : BitVec 64) (e : (k.srem 21#64 + 21#64).srem 21#64 = 12#64) (es : sz &&& 3#64 = 1#64) : FI Tryd.prog (tab (DN m D2) (tb_O m)) Tryd.f25 0 [.agg [.b64 true k, .b64 true al, .b64 true cc, .b64 true sz, .bool w, .bool sh, .b64 true d, .b64 true s, .b32 true dp, .b32 true rl, .b64 true im]] [] (fun r _ => ∃ x : MX, vX x = true ∧ r = .agg (LX x)) := by
  repeat' (first
    | ((with_reducible apply Given.mk); intro h; (try simp only [e, es, sh0, sh1, sh2, sh3, sizeB, BitVec.reduceAdd, BitVec.reduceBEq, BitVec.reduceBNe, BitVec.reduceSLT, BitVec.reduceSLE, vK13, v13, regB, rg15, rg0, al6, al3, cc10, sh31, wd32, rl8, eq_self, Bool.and_true, Bool.true_and, Bool.and_false, Bool.false_and, Bool.or_false, Bool.false_or, Bool.or_self, Bool.or_true, Bool.true_or, Bool.not_true, Bool.not_false, Bool.not_not, Bool.true_eq_false, Bool.false_eq_true, if_true, if_false, beq_self_eq_true, bne_self_eq_false, decide_true] at h); (try exact absurd h (by decide)); (try (cases sh <;> simp only [Bool.true_eq_false, Bool.false_eq_true] at h)))
    | ((conv => whnf); with_reducible apply Both.mk))
  all_goals first
    | (with_reducible apply Ob.mk; kernel_rfl)
    | (with_reducible apply Ob.mk; decide)
    | ((with_reducible apply Ob.mk); first | exact ixn al 6 (by decide) (by decide) | exact ixn al 3 (by decide) (by decide) | exact ixn cc 10 (by decide) (by decide))
    | ((with_reducible apply Ob.mk); rw [es]; decide)
    | ((conv => whnf); refine cut_mk ?_; simp only [e, es, sh0, sh1, sh2, sh3, sizeB, BitVec.reduceAdd, BitVec.reduceBEq, BitVec.reduceBNe, BitVec.reduceSLT, BitVec.reduceSLE, vK13, v13, regB, rg15, rg0, al6, al3, cc10, sh31, wd32, rl8, eq_self, Bool.and_true, Bool.true_and, Bool.and_false, Bool.false_and, Bool.or_false, Bool.false_or, Bool.or_self, Bool.or_true, Bool.true_or, Bool.not_true, Bool.not_false, Bool.not_not, Bool.true_eq_false, Bool.false_eq_true, if_true, if_false, beq_self_eq_true, bne_self_eq_false, decide_true]; done)
    | ((conv => whnf); refine cut_mk ?_; simp only [e, es, sh0, sh1, sh2, sh3, sizeB, BitVec.reduceAdd, BitVec.reduceBEq, BitVec.reduceBNe, BitVec.reduceSLT, BitVec.reduceSLE, vK13, v13, regB, rg15, rg0, al6, al3, cc10, sh31, wd32, rl8, eq_self, Bool.and_true, Bool.true_and, Bool.and_false, Bool.false_and, Bool.or_false, Bool.false_or, Bool.or_self, Bool.or_true, Bool.true_or, Bool.not_true, Bool.not_false, Bool.not_not, Bool.true_eq_false, Bool.false_eq_true, if_true, if_false, beq_self_eq_true, bne_self_eq_false, decide_true, *]; done)
    | ((conv => whnf); skip)
set_option maxRecDepth 100000 in
set_option maxHeartbeats 16000000 in
theorem ck_12_2 (D2 : VData) (m : Nat → Nat) (k al cc sz : BitVec 64) (w sh : Bool) (d s : BitVec 64) (dp rl : BitVec 32) (im : BitVec 64) (e : (k.srem 21#64 + 21#64).srem 21#64 = 12#64) (es : sz &&& 3#64 = 2#64) : FI Tryd.prog (tab (DN m D2) (tb_O m)) Tryd.f25 0 [.agg [.b64 true k, .b64 true al, .b64 true cc, .b64 true sz, .bool w, .bool sh, .b64 true d, .b64 true s, .b32 true dp, .b32 true rl, .b64 true im]] [] (fun r _ => ∃ x : MX, vX x = true ∧ r = .agg (LX x)) := by
  repeat' (first
    | ((with_reducible apply Given.mk); intro h; (try simp only [e, es, sh0, sh1, sh2, sh3, sizeB, BitVec.reduceAdd, BitVec.reduceBEq, BitVec.reduceBNe, BitVec.reduceSLT, BitVec.reduceSLE, vK13, v13, regB, rg15, rg0, al6, al3, cc10, sh31, wd32, rl8, eq_self, Bool.and_true, Bool.true_and, Bool.and_false, Bool.false_and, Bool.or_false, Bool.false_or, Bool.or_self, Bool.or_true, Bool.true_or, Bool.not_true, Bool.not_false, Bool.not_not, Bool.true_eq_false, Bool.false_eq_true, if_true, if_false, beq_self_eq_true, bne_self_eq_false, decide_true] at h); (try exact absurd h (by decide)); (try (cases sh <;> simp only [Bool.true_eq_false, Bool.false_eq_true] at h)))
    | ((conv => whnf); with_reducible apply Both.mk))
  all_goals first
    | (with_reducible apply Ob.mk; kernel_rfl)
    | (with_reducible apply Ob.mk; decide)
    | ((with_reducible apply Ob.mk); first | exact ixn al 6 (by decide) (by decide) | exact ixn al 3 (by decide) (by decide) | exact ixn cc 10 (by decide) (by decide))
    | ((with_reducible apply Ob.mk); rw [es]; decide)
    | ((conv => whnf); refine cut_mk ?_; simp only [e, es, sh0, sh1, sh2, sh3, sizeB, BitVec.reduceAdd, BitVec.reduceBEq, BitVec.reduceBNe, BitVec.reduceSLT, BitVec.reduceSLE, vK13, v13, regB, rg15, rg0, al6, al3, cc10, sh31, wd32, rl8, eq_self, Bool.and_true, Bool.true_and, Bool.and_false, Bool.false_and, Bool.or_false, Bool.false_or, Bool.or_self, Bool.or_true, Bool.true_or, Bool.not_true, Bool.not_false, Bool.not_not, Bool.true_eq_false, Bool.false_eq_true, if_true, if_false, beq_self_eq_true, bne_self_eq_false, decide_true]; done)
    | ((conv => whnf); refine cut_mk ?_; simp only [e, es, sh0, sh1, sh2, sh3, sizeB, BitVec.reduceAdd, BitVec.reduceBEq, BitVec.reduceBNe, BitVec.reduceSLT, BitVec.reduceSLE, vK13, v13, regB, rg15, rg0, al6, al3, cc10, sh31, wd32, rl8, eq_self, Bool.and_true, Bool.true_and, Bool.and_false, Bool.false_and, Bool.or_false, Bool.false_or, Bool.or_self, Bool.or_true, Bool.true_or, Bool.not_true, Bool.not_false, Bool.not_not, Bool.true_eq_false, Bool.false_eq_true, if_true, if_false, beq_self_eq_true, bne_self_eq_false, decide_true, *]; done)
    | ((conv => whnf); skip)
set_option maxRecDepth 100000 in
set_option maxHeartbeats 16000000 in
theorem ck_12_3 (D2 : VData) (m : Nat → Nat) (k al cc sz : BitVec 64) (w sh : Bool) (d s : BitVec 64) (dp rl : BitVec 32) (im : BitVec 64) (e : (k.srem 21#64 + 21#64).srem 21#64 = 12#64) (es : sz &&& 3#64 = 3#64) : FI Tryd.prog (tab (DN m D2) (tb_O m)) Tryd.f25 0 [.agg [.b64 true k, .b64 true al, .b64 true cc, .b64 true sz, .bool w, .bool sh, .b64 true d, .b64 true s, .b32 true dp, .b32 true rl, .b64 true im]] [] (fun r _ => ∃ x : MX, vX x = true ∧ r = .agg (LX x)) := by
  repeat' (first
    | ((with_reducible apply Given.mk); intro h; (try simp only [e, es, sh0, sh1, sh2, sh3, sizeB, BitVec.reduceAdd, BitVec.reduceBEq, BitVec.reduceBNe, BitVec.reduceSLT, BitVec.reduceSLE, vK13, v13, regB, rg15, rg0, al6, al3, cc10, sh31, wd32, rl8, eq_self, Bool.and_true, Bool.true_and, Bool.and_false, Bool.false_and, Bool.or_false, Bool.false_or, Bool.or_self, Bool.or_true, Bool.true_or, Bool.not_true, Bool.not_false, Bool.not_not, Bool.true_eq_false, Bool.false_eq_true, if_true, if_false, beq_self_eq_true, bne_self_eq_false, decide_true] at h); (try exact absurd h (by decide)); (try (cases sh <;> simp only [Bool.true_eq_false, Bool.false_eq_true] at h)))
    | ((conv => whnf); with_reducible apply Both.mk))
  all_goals first
    | (with_reducible apply Ob.mk; kernel_rfl)
    | (with_reducible apply Ob.mk; decide)
    | ((with_reducible apply Ob.mk); first | exact ixn al 6 (by decide) (by decide) | exact ixn al 3 (by decide) (by decide) | exact ixn cc 10 (by decide) (by decide))
    | ((with_reducible apply Ob.mk); rw [es]; decide)
    | ((conv => whnf); refine cut_mk ?_; simp only [e, es, sh0, sh1, sh2, sh3, sizeB, BitVec.reduceAdd, BitVec.reduceBEq, BitVec.reduceBNe, BitVec.reduceSLT, BitVec.reduceSLE, vK13, v13, regB, rg15, rg0, al6, al3, cc10, sh31, wd32, rl8, eq_self, Bool.and_true, Bool.true_and, Bool.and_false, Bool.false_and, Bool.or_false, Bool.false_or, Bool.or_self, Bool.or_true, Bool.true_or, Bool.not_true, Bool.not_false, Bool.not_not, Bool.true_eq_false, Bool.false_eq_true, if_true, if_false, beq_self_eq_true, bne_self_eq_false, decide_true]; done)
    | ((conv => whnf); refine cut_mk ?_; simp only [e, es, sh0, sh1, sh2, sh3, sizeB, BitVec.reduceAdd, BitVec.reduceBEq, BitVec.reduceBNe, BitVec.reduceSLT, BitVec.reduceSLE, vK13, v13, regB, rg15, rg0, al6, al3, cc10, sh31, wd32, rl8, eq_self, Bool.and_true, Bool.true_and, Bool.and_false, Bool.false_and, Bool.or_false, Bool.false_or, Bool.or_self, Bool.or_true, Bool.true_or, Bool.not_true, Bool.not_false, Bool.not_not, Bool.true_eq_false, Bool.false_eq_true, if_true, if_false, beq_self_eq_true, bne_self_eq_false, decide_true, *]; done)
    | ((conv => whnf); skip)
set_option maxRecDepth 100000 in
set_option maxHeartbeats 16000000 in
theorem ck_13_0 (D2 : VData) (m : Nat → Nat) (k al cc sz : BitVec 64) (w sh : Bool) (d s : BitVec 64) (dp rl : BitVec 32) (im : BitVec 64) (e : (k.srem 21#64 + 21#64).srem 21#64 = 13#64) (es : sz &&& 3#64 = 0#64) : FI Tryd.prog (tab (DN m D2) (tb_O m)) Tryd.f25 0 [.agg [.b64 true k, .b64 true al, .b64 true cc, .b64 true sz, .bool w, .bool sh, .b64 true d, .b64 true s, .b32 true dp, .b32 true rl, .b64 true im]] [] (fun r _ => ∃ x : MX, vX x = true ∧ r = .agg (LX x)) := by
  repeat' (first
    | ((with_reducible apply Given.mk); intro h; (try simp only [e, es, sh0, sh1, sh2, sh3, sizeB, BitVec.reduceAdd, BitVec.reduceBEq, BitVec.reduceBNe, BitVec.reduceSLT, BitVec.reduceSLE, vK14, v14, regB, rg15, rg0, al6, al3, cc10, sh31, wd32, rl8, eq_self, Bool.and_true, Bool.true_and, Bool.and_false, Bool.false_and, Bool.or_false, Bool.false_or, Bool.or_self, Bool.or_true, Bool.true_or, Bool.not_true, Bool.not_false, Bool.not_not, Bool.true_eq_false, Bool.false_eq_true, if_true, if_false, beq_self_eq_true, bne_self_eq_false, decide_true] at h); (try exact absurd h (by decide)); (try (cases sh <;> simp only [Bool.true_eq_false, Bool.false_eq_true] at h)))
    | ((conv => whnf); with_reducible apply Both.mk))
  all_goals first
    | (with_reducible apply Ob.mk; kernel_rfl)
    | (with_reducible apply Ob.mk; decide)
    | ((with_reducible apply Ob.mk); first | exact ixn al 6 (by decide) (by decide) | exact ixn al 3 (by decide) (by decide) | exact ixn cc 10 (by decide) (by decide))
    | ((with_reducible apply Ob.mk); rw [es]; decide)
    | ((conv => whnf); refine cut_mk ?_; simp only [e, es, sh0, sh1, sh2, sh3, sizeB, BitVec.reduceAdd, BitVec.reduceBEq, BitVec.reduceBNe, BitVec.reduceSLT, BitVec.reduceSLE, vK14, v14, regB, rg15, rg0, al6, al3, cc10, sh31, wd32, rl8, eq_self, Bool.and_true, Bool.true_and, Bool.and_false, Bool.false_and, Bool.or_false, Bool.false_or, Bool.or_self, Bool.or_true, Bool.true_or, Bool.not_true, Bool.not_false, Bool.not_not, Bool.true_eq_false, Bool.false_eq_true, if_true, if_false, beq_self_eq_true, bne_self_eq_false, decide_true]; done)
    | ((conv => whnf); refine cut_mk ?_; simp only [e, es, sh0, sh1, sh2, sh3, sizeB, BitVec.reduceAdd, BitVec.reduceBEq, BitVec.reduceBNe, BitVec.reduceSLT, BitVec.reduceSLE, vK14, v14, regB, rg15, rg0, al6, al3, cc10, sh31, wd32, rl8, eq_self, Bool.and_true, Bool.true_and, Bool.and_false, Bool.false_and, Bool.or_false, Bool.false_or, Bool.or_self, Bool.or_true, Bool.true_or, Bool.not_true, Bool.not_false, Bool.not_not, Bool.true_eq_false, Bool.false_eq_true, if_true, if_false, beq_self_eq_true, bne_self_eq_false, decide_true, *]; done)
    | ((conv => whnf); skip)
set_option maxRecDepth 100000 in
set_option maxHeartbeats 16000000 in
theorem ck_13_1 (D2 : VData) (m : Nat → Nat) (k al cc sz : BitVec 64) (w sh : Bool) (d s : BitVec 64) (dp rl : BitVec 32) (im : BitVec 64) (e : (k.srem 21#64 + 21#64).srem 21#64 = 13#64) (es : sz &&& 3#64 = 1#64) : FI Tryd.prog (tab (DN m D2) (tb_O m)) Tryd.f25 0 [.agg [.b64 true k, .b64 true al, .b64 true cc, .b64 true sz, .bool w, .bool sh, .b64 true d, .b64 true s, .b32 true dp, .b32 true rl, .b64 true im]] [] (fun r _ => ∃ x : MX, vX x = true ∧ r = .agg (LX x)) := by
  repeat' (first
    | ((with_reducible apply Given.mk); intro h; (try simp only [e, es, sh0, sh1, sh2, sh3, sizeB, BitVec.reduceAdd, BitVec.reduceBEq, BitVec.reduceBNe, BitVec.reduceSLT, BitVec.reduceSLE, vK14, v14, regB, rg15, rg0, al6, al3, cc10, sh31, wd32, rl8, eq_self, Bool.and_true, Bool.true_and, Bool.and_false, Bool.false_and, Bool.or_false, Bool.false_or, Bool.or_self, Bool.or_true, Bool.true_or, Bool.not_true, Bool.not_false, Bool.not_not, Bool.true_eq_false, Bool.false_eq_true, if_true, if_false, beq_self_eq_true, bne_self_eq_false, decide_true] at h); (try exact absurd h (by decide)); (try (cases sh <;> simp only [Bool.true_eq_false, Bool.false_eq_true] at h)))
    | ((conv => whnf); with_reducible apply Both.mk))
  all_goals first
    | (with_reducible apply Ob.mk; kernel_rfl)
    | (with_reducible apply Ob.mk; decide)
    | ((with_reducible apply Ob.mk); first | exact ixn al 6 (by decide) (by decide) | exact ixn al 3 (by decide) (by decide) | exact ixn cc 10 (by decide) (by decide))
    | ((with_reducible apply Ob.mk); rw [es]; decide)
    | ((conv => whnf); refine cut_mk ?_; simp only [e, es, sh0, sh1, sh2, sh3, sizeB, BitVec.reduceAdd, BitVec.reduceBEq, BitVec.reduceBNe, BitVec.reduceSLT, BitVec.reduceSLE, vK14, v14, regB, rg15, rg0, al6, al3, cc10, sh31, wd32, rl8, eq_self, Bool.and_true, Bool.true_and, Bool.and_false, Bool.false_and, Bool.or_false, Bool.false_or, Bool.or_self, Bool.or_true, Bool.true_or, Bool.not_true, Bool.not_false, Bool.not_not, Bool.true_eq_false, Bool.false_eq_true, if_true, if_false, beq_self_eq_true, bne_self_eq_false, decide_true]; done)
    | ((conv => whnf); refine cut_mk ?_; simp only [e, es, sh0, sh1, sh2, sh3, sizeB, BitVec.reduceAdd, BitVec.reduceBEq, BitVec.reduceBNe, BitVec.reduceSLT, BitVec.reduceSLE, vK14, v14, regB, rg15, rg0, al6, al3, cc10, sh31, wd32, rl8, eq_self, Bool.and_true, Bool.true_and, Bool.and_false, Bool.false_and, Bool.or_false, Bool.false_or, Bool.or_self, Bool.or_true, Bool.true_or, Bool.not_true, Bool.not_false, Bool.not_not, Bool.true_eq_false, Bool.false_eq_true, if_true, if_false, beq_self_eq_true, bne_self_eq_false, decide_true, *]; done)
    | ((conv => whnf); skip)
set_option maxRecDepth 100000 in
set_option maxHeartbeats 16000000 in
theorem ck_13_2 (D2 : VData) (m : Nat → Nat) (k al cc sz : BitVec 64) (w sh : Bool) (d s : BitVec 64) (dp rl : BitVec 32) (im : BitVec 64) (e : (k.srem 21#64 + 21#64).srem 21#64 = 13#64) (es : sz &&& 3#64 = 2#64) : FI Tryd.prog (tab (DN m D2) (tb_O m)) Tryd.f25 0 [.agg [.b64 true k, .b64 true al, .b64 true cc, .b64 true sz, .bool w, .bool sh, .b64 true d, .b64 true s, .b32 true dp, .b32 true rl, .b64 true im]] [] (fun r _ => ∃ x : MX, vX x = true ∧ r = .agg (LX x)) := by
  repeat' (first
    | ((with_reducible apply Given.mk); intro h; (try simp only [e, es, sh0, sh1, sh2, sh3, sizeB, BitVec.reduceAdd, BitVec.reduceBEq, BitVec.reduceBNe, BitVec.reduceSLT, BitVec.reduceSLE, vK14, v14, regB, rg15, rg0, al6, al3, cc10, sh31, wd32, rl8, eq_self, Bool.and_true, Bool.true_and, Bool.and_false, Bool.false_and, Bool.or_false, Bool.false_or, Bool.or_self, Bool.or_true, Bool.true_or, Bool.not_true, Bool.not_false, Bool.not_not, Bool.true_eq_false, Bool.false_eq_true, if_true, if_false, beq_self_eq_true, bne_self_eq_false, decide_true] at h); (try exact absurd h (by decide)); (try (cases sh <;> simp only [Bool.true_eq_false, Bool.false_eq_true] at h)))
    | ((conv => whnf); with_reducible apply Both.mk))
  all_goals first
    | (with_reducible apply Ob.mk; kernel_rfl)
    | (with_reducible apply Ob.mk; decide)
    | ((with_reducible apply Ob.mk); first | exact ixn al 6 (by decide) (by decide) | exact ixn al 3 (by decide) (by decide) | exact ixn cc 10 (by decide) (by decide))
    | ((with_reducible apply Ob.mk); rw [es]; decide)
    | ((conv => whnf); refine cut_mk ?_; simp only [e, es, sh0, sh1, sh2, sh3, sizeB, BitVec.reduceAdd, BitVec.reduceBEq, BitVec.reduceBNe, BitVec.reduceSLT, BitVec.reduceSLE, vK14, v14, regB, rg15, rg0, al6, al3, cc10, sh31, wd32, rl8, eq_self, Bool.and_true, Bool.true_and, Bool.and_false, Bool.false_and, Bool.or_false, Bool.false_or, Bool.or_self, Bool.or_true, Bool.true_or, Bool.not_true, Bool.not_false, Bool.not_not, Bool.true_eq_false, Bool.false_eq_true, if_true, if_false, beq_self_eq_true, bne_self_eq_false, decide_true]; done)
    | ((conv => whnf); refine cut_mk ?_; simp only [e, es, sh0, sh1, sh2, sh3, sizeB, BitVec.reduceAdd, BitVec.reduceBEq, BitVec.reduceBNe, BitVec.reduceSLT, BitVec.reduceSLE, vK14, v14, regB, rg15, rg0, al6, al3, cc10, sh31, wd32, rl8, eq_self, Bool.and_true, Bool.true_and, Bool.and_false, Bool.false_and, Bool.or_false, Bool.false_or, Bool.or_self, Bool.or_true, Bool.true_or, Bool.not_true, Bool.not_false, Bool.not_not, Bool.true_eq_false, Bool.false_eq_true, if_true, if_false, beq_self_eq_true, bne_self_eq_false, decide_true, *]; done)
    | ((conv => whnf); skip)
set_option maxRecDepth 100000 in
set_option maxHeartbeats 16000000 in
theorem ck_13_3 (D2 : VData) (m : Nat → Nat) (k al cc sz : BitVec 64) (w sh : Bool) (d s : BitVec 64) (dp rl : BitVec 32) (im : BitVec 64) (e : (k.srem 21#64 + 21#64).srem 21#64 = 13#64) (es : sz &&& 3#64 = 3#64) : FI Tryd.prog (tab (DN m D2) (tb_O m)) Tryd.f25 0 [.agg [.b64 true k, .b64 true al, .b64 true cc, .b64 true sz, .bool w, .bool sh, .b64 true d, .b64 true s, .b32 true dp, .b32 true rl, .b64 true im]] [] (fun r _ => ∃ x : MX, vX x = true ∧ r = .agg (LX x)) := by
  repeat' (first
    | ((with_reducible apply Given.mk); intro h; (try simp only [e, es, sh0, sh1, sh2, sh3, sizeB, BitVec.reduceAdd, BitVec.reduceBEq, BitVec.reduceBNe, BitVec.reduceSLT, BitVec.reduceSLE, vK14, v14, regB, rg15, rg0, al6, al3, cc10, sh31, wd32, rl8, eq_self, Bool.and_true, Bool.true_and, Bool.and_false, Bool.false_and, Bool.or_false, Bool.false_or, Bool.or_self, Bool.or_true, Bool.true_or, Bool.not_true, Bool.not_false, Bool.not_not, Bool.true_eq_false, Bool.false_eq_true, if_true, if_false, beq_self_eq_true, bne_self_eq_false, decide_true] at h); (try exact absurd h (by decide)); (try (cases sh <;> simp only [Bool.true_eq_false, Bool.false_eq_true] at h)))
    | ((conv => whnf); with_reducible apply Both.mk))
  all_goals first
    | (with_reducible apply Ob.mk; kernel_rfl)
    | (with_reducible apply Ob.mk; decide)
    | ((with_reducible apply Ob.mk); first | exact ixn al 6 (by decide) (by decide) | exact ixn al 3 (by decide) (by decide) | exact ixn cc 10 (by decide) (by decide))
    | ((with_reducible apply Ob.mk); rw [es]; decide)
    | ((conv => whnf); refine cut_mk ?_; simp only [e, es, sh0, sh1, sh2, sh3, sizeB, BitVec.reduceAdd, BitVec.reduceBEq, BitVec.reduceBNe, BitVec.reduceSLT, BitVec.reduceSLE, vK14, v14, regB, rg15, rg0, al6, al3, cc10, sh31, wd32, rl8, eq_self, Bool.and_true, Bool.true_and, Bool.and_false, Bool.false_and, Bool.or_false, Bool.false_or, Bool.or_self, Bool.or_true, Bool.true_or, Bool.not_true, Bool.not_false, Bool.not_not, Bool.true_eq_false, Bool.false_eq_true, if_true, if_false, beq_self_eq_true, bne_self_eq_false, decide_true]; done)
    | ((conv => whnf); refine cut_mk ?_; simp only [e, es, sh0, sh1, sh2, sh3, sizeB, BitVec.reduceAdd, BitVec.reduceBEq, BitVec.reduceBNe, BitVec.reduceSLT, BitVec.reduceSLE, vK14, v14, regB, rg15, rg0, al6, al3, cc10, sh31, wd32, rl8, eq_self, Bool.and_true, Bool.true_and, Bool.and_false, Bool.false_and, Bool.or_false, Bool.false_or, Bool.or_self, Bool.or_true, Bool.true_or, Bool.not_true, Bool.not_false, Bool.not_not, Bool.true_eq_false, Bool.false_eq_true, if_true, if_false, beq_self_eq_true, bne_self_eq_false, decide_true, *]; done)
    | ((conv => whnf); skip)
set_option maxRecDepth 100000 in
set_option maxHeartbeats 16000000 in
theorem ck_14 (D2 : VData) (m : Nat → Nat) (k al cc sz : BitVec 64) (w sh : Bool) (d s : BitVec 64) (dp rl : BitVec 32) (im : BitVec 64) (e : (k.srem 21#64 + 21#64).srem 21#64 = 14#64) : FI Tryd.prog (tab (DN m D2) (tb_O m)) Tryd.f25 0 [.agg [.b64 true k, .b64 true al, .b64 true cc, .b64 true sz, .bool w, .bool sh, .b64 true d, .b64 true s, .b32 true dp, .b32 true rl, .b64 true im]] [] (fun r _ => ∃ x : MX, vX x = true ∧ r = .agg (LX x)) := by
  repeat' (first
    | ((with_reducible apply Given.mk); intro h; (try simp only [e, BitVec.reduceAdd, BitVec.reduceBEq, BitVec.reduceBNe, BitVec.reduceSLT, BitVec.reduceSLE, vK15, v15, regB, rg15, rg0, al6, al3, cc10, sh31, wd32, rl8, eq_self, Bool.and_true, Bool.true_and, Bool.and_false, Bool.false_and, Bool.or_false, Bool.false_or, Bool.or_self, Bool.or_true, Bool.true_or, Bool.not_true, Bool.not_false, Bool.not_not, Bool.true_eq_false, Bool.false_eq_true, if_true, if_false, beq_self_eq_true, bne_self_eq_false, decide_true] at h); (try exact absurd h (by decide)); (try (cases sh <;> simp only [Bool.true_eq_false, Bool.false_eq_true] at h)))
    | ((conv => whnf); with_reducible apply Both.mk))
  all_goals first
    | (with_reducible apply Ob.mk; kernel_rfl)
    | (with_reducible apply Ob.mk; decide)
    | ((with_reducible apply Ob.mk); first | exact ixn al 6 (by decide) (by decide) | exact ixn al 3 (by decide) (by decide) | exact ixn cc 10 (by decide) (by decide))
    | ((conv => whnf); refine cut_mk ?_; simp only [e, BitVec.reduceAdd, BitVec.reduceBEq, BitVec.reduceBNe, BitVec.reduceSLT, BitVec.reduceSLE, vK15, v15, regB, rg15, rg0, al6, al3, cc10, sh31, wd32, rl8, eq_self, Bool.and_true, Bool.true_and, Bool.and_false, Bool.false_and, Bool.or_false, Bool.false_or, Bool.or_self, Bool.or_true, Bool.true_or, Bool.not_true, Bool.not_false, Bool.not_not, Bool.true_eq_false, Bool.false_eq_true, if_true, if_false, beq_self_eq_true, bne_self_eq_false, decide_true]; done)
    | ((conv => whnf); refine cut_mk ?_; simp only [e, BitVec.reduceAdd, BitVec.reduceBEq, BitVec.reduceBNe, BitVec.reduceSLT, BitVec.reduceSLE, vK15, v15, regB, rg15, rg0, al6, al3, cc10, sh31, wd32, rl8, eq_self, Bool.and_true, Bool.true_and, Bool.and_false, Bool.false_and, Bool.or_false, Bool.false_or, Bool.or_self, Bool.or_true, Bool.true_or, Bool.not_true, Bool.not_false, Bool.not_not, Bool.true_eq_false, Bool.false_eq_true, if_true, if_false, beq_self_eq_true, bne_self_eq_false, decide_true, *]; done)
    | ((conv => whnf); skip)
set_option maxRecDepth 100000 in
set_option maxHeartbeats 16000000 in
theorem ck_15 (D2 : VData) (m : Nat → Nat) (k al cc sz : BitVec 64) (w sh : Bool) (d s : BitVec 64) (dp rl : BitVec 32) (im : BitVec 64) (e : (k.srem 21#64 + 21#64).srem 21#64 = 15#64) : FI Tryd.prog (tab (DN m D2) (tb_O m)) Tryd.f25 0 [.agg [.b64 true k, .b64 true al, .b64 true cc, .b64 true sz, .bool w, .bool sh, .b64 true d, .b64 true s, .b32 true dp, .b32 true rl, .b64 true im]] [] (fun r _ => ∃ x : MX, vX x = true ∧ r = .agg (LX x)) := by
  repeat' (first
    | ((with_reducible apply Given.mk); intro h; (try simp only [e, BitVec.reduceAdd, BitVec.reduceBEq, BitVec.reduceBNe, BitVec.reduceSLT, BitVec.reduceSLE, vK16, v16, regB, rg15, rg0, al6, al3, cc10, sh31, wd32, rl8, eq_self, Bool.and_true, Bool.true_and, Bool.and_false, Bool.false_and, Bool.or_false, Bool.false_or, Bool.or_self, Bool.or_true, Bool.true_or, Bool.not_true, Bool.not_false, Bool.not_not, Bool.true_eq_false, Bool.false_eq_true, if_true, if_false, beq_self_eq_true, bne_self_eq_false, decide_true] at h); (try exact absurd h (by decide)); (try (cases sh <;> simp only [Bool.true_eq_false, Bool.false_eq_true] at h)))
    | ((conv => whnf); with_reducible apply Both.mk))
  all_goals first
    | (with_reducible apply Ob.mk; kernel_rfl)
    | (with_reducible apply Ob.mk; decide)
    | ((with_reducible apply Ob.mk); first | exact ixn al 6 (by decide) (by decide) | exact ixn al 3 (by decide) (by decide) | exact ixn cc 10 (by decide) (by decide))
    | ((conv => whnf); refine cut_mk ?_; simp only [e, BitVec.reduceAdd, BitVec.reduceBEq, BitVec.reduceBNe, BitVec.reduceSLT, BitVec.reduceSLE, vK16, v16, regB, rg15, rg0, al6, al3, cc10, sh31, wd32, rl8, eq_self, Bool.and_true, Bool.true_and, Bool.and_false, Bool.false_and, Bool.or_false, Bool.false_or, Bool.or_self, Bool.or_true, Bool.true_or, Bool.not_true, Bool.not_false, Bool.not_not, Bool.true_eq_false, Bool.false_eq_true, if_true, if_false, beq_self_eq_true, bne_self_eq_false, decide_true]; done)
    | ((conv => whnf); refine cut_mk ?_; simp only [e, BitVec.reduceAdd, BitVec.reduceBEq, BitVec.reduceBNe, BitVec.reduceSLT, BitVec.reduceSLE, vK16, v16, regB, rg15, rg0, al6, al3, cc10, sh31, wd32, rl8, eq_self, Bool.and_true, Bool.true_and, Bool.and_false, Bool.false_and, Bool.or_false, Bool.false_or, Bool.or_self, Bool.or_true, Bool.true_or, Bool.not_true, Bool.not_false, Bool.not_not, Bool.true_eq_false, Bool.false_eq_true, if_true, if_false, beq_self_eq_true, bne_self_eq_false, decide_true, *]; done)
    | ((conv => whnf); skip)
set_option maxRecDepth 100000 in
set_option maxHeartbeats 16000000 in
theorem ck_16 (D2 : VData) (m : Nat → Nat) (k al cc sz : BitVec 64) (w sh : Bool) (d s : BitVec 64) (dp rl : BitVec 32) (im : BitVec 64) (e : (k.srem 21#64 + 21#64).srem 21#64 = 16#64) : FI Tryd.prog (tab (DN m D2) (tb_O m)) Tryd.f25 0 [.agg [.b64 true k, .b64 true al, .b64 true cc, .b64 true sz, .bool w, .bool sh, .b64 true d, .b64 true s, .b32 true dp, .b32 true rl, .b64 true im]] [] (fun r _ => ∃ x : MX, vX x = true ∧ r = .agg (LX x)) := by
  repeat' (first
    | ((with_reducible apply Given.mk); intro h; (try simp only [e, BitVec.reduceAdd, BitVec.reduceBEq, BitVec.reduceBNe, BitVec.reduceSLT, BitVec.reduceSLE, vK17, v17, regB, rg15, rg0, al6, al3, cc10, sh31, wd32, rl8, eq_self, Bool.and_true, Bool.true_and, Bool.and_false, Bool.false_and, Bool.or_false, Bool.false_or, Bool.or_self, Bool.or_true, Bool.true_or, Bool.not_true, Bool.not_false, Bool.not_not, Bool.true_eq_false, Bool.false_eq_true, if_true, if_false, beq_self_eq_true, bne_self_eq_false, decide_true] at h); (try exact absurd h (by decide)); (try (cases sh <;> simp only [Bool.true_eq_false, Bool.false_eq_true] at h)))
    | ((conv => whnf); with_reducible apply Both.mk))
  all_goals first
    | (with_reducible apply Ob.mk; kernel_rfl)
    | (with_reducible apply Ob.mk; decide)
    | ((with_reducible apply Ob.mk); first | exact ixn al 6 (by decide) (by decide) | exact ixn al 3 (by decide) (by decide) | exact ixn cc 10 (by decide) (by decide))
    | ((conv => whnf); refine cut_mk ?_; simp only [e, BitVec.reduceAdd, BitVec.reduceBEq, BitVec.reduceBNe, BitVec.reduceSLT, BitVec.reduceSLE, vK17, v17, regB, rg15, rg0, al6, al3, cc10, sh31, wd32, rl8, eq_self, Bool.and_true, Bool.true_and, Bool.and_false, Bool.false_and, Bool.or_false, Bool.false_or, Bool.or_self, Bool.or_true, Bool.true_or, Bool.not_true, Bool.not_false, Bool.not_not, Bool.true_eq_false, Bool.false_eq_true, if_true, if_false, beq_self_eq_true, bne_self_eq_false, decide_true]; done)
    | ((conv => whnf); refine cut_mk ?_; simp only [e, BitVec.reduceAdd, BitVec.reduceBEq, BitVec.reduceBNe, BitVec.reduceSLT, BitVec.reduceSLE, vK17, v17, regB, rg15, rg0, al6, al3, cc10, sh31, wd32, rl8, eq_self, Bool.and_true, Bool.true_and, Bool.and_false, Bool.false_and, Bool.or_false, Bool.false_or, Bool.or_self, Bool.or_true, Bool.true_or, Bool.not_true, Bool.not_false, Bool.not_not, Bool.true_eq_false, Bool.false_eq_true, if_true, if_false, beq_self_eq_true, bne_self_eq_false, decide_true, *]; done)
    | ((conv => whnf); skip)
set_option maxRecDepth 100000 in
set_option maxHeartbeats 16000000 in
theorem ck_17 (D2 : VData) (m : Nat → Nat) (k al cc sz : BitVec 64) (w sh : Bool) (d s : BitVec 64) (dp rl : BitVec 32) (im : BitVec 64) (e : (k.srem 21#64 + 21#64).srem 21#64 = 17#64) : FI Tryd.prog (tab (DN m D2) (tb_O m)) Tryd.f25 0 [.agg [.b64 true k, .b64 true al, .b64 true cc, .b64 true sz, .bool w, .bool sh, .b64 true d, .b64 true s, .b32 true dp, .b32 true rl, .b64 true im]] [] (fun r _ => ∃ x : MX, vX x = true ∧ r = .agg (LX x)) := by
  repeat' (first
    | ((with_reducible apply Given.mk); intro h; (try simp only [e, BitVec.reduceAdd, BitVec.reduceBEq, BitVec.reduceBNe, BitVec.reduceSLT, BitVec.reduceSLE, vK18, v18, regB, rg15, rg0, al6, al3, cc10, sh31, wd32, rl8, eq_self, Bool.and_true, Bool.true_and, Bool.and_false, Bool.false_and, Bool.or_false, Bool.false_or, Bool.or_self, Bool.or_true, Bool.true_or, Bool.not_true, Bool.not_false, Bool.not_not, Bool.true_eq_false, Bool.false_eq_true, if_true, if_false, beq_self_eq_true, bne_self_eq_false, decide_true] at h); (try exact absurd h (by decide)); (try (cases sh <;> simp only [Bool.true_eq_false, Bool.false_eq_true] at h)))
    | ((conv => whnf); with_reducible apply Both.mk))
  all_goals first
    | (with_reducible apply Ob.mk; kernel_rfl)
    | (with_reducible apply Ob.mk; decide)
    | ((with_reducible apply Ob.mk); first | exact ixn al 6 (by decide) (by decide) | exact ixn al 3 (by decide) (by decide) | exact ixn cc 10 (by decide) (by decide))
    | ((conv => whnf); refine cut_mk ?_; simp only [e, BitVec.reduceAdd, BitVec.reduceBEq, BitVec.reduceBNe, BitVec.reduceSLT, BitVec.reduceSLE, vK18, v18, regB, rg15, rg0, al6, al3, cc10, sh31, wd32, rl8, eq_self, Bool.and_true, Bool.true_and, Bool.and_false, Bool.false_and, Bool.or_false, Bool.false_or, Bool.or_self, Bool.or_true, Bool.true_or, Bool.not_true, Bool.not_false, Bool.not_not, Bool.true_eq_false, Bool.false_eq_true, if_true, if_false, beq_self_eq_true, bne_self_eq_false, decide_true]; done)
    | ((conv => whnf); refine cut_mk ?_; simp only [e, BitVec.reduceAdd, BitVec.reduceBEq, BitVec.reduceBNe, BitVec.reduceSLT, BitVec.reduceSLE, vK18, v18, regB, rg15, rg0, al6, al3, cc10, sh31, wd32, rl8, eq_self, Bool.and_true, Bool.true_and, Bool.and_false, Bool.false_and, Bool.or_false, Bool.false_or, Bool.or_self, Bool.or_true, Bool.true_or, Bool.not_true, Bool.not_false, Bool.not_not, Bool.true_eq_false, Bool.false_eq_true, if_true, if_false, beq_self_eq_true, bne_self_eq_false, decide_true, *]; done)
    | ((conv => whnf); skip)
set_option maxRecDepth 100000 in
set_option maxHeartbeats 16000000 in
theorem ck_18 (D2 : VData) (m : Nat → Nat) (k al cc sz : BitVec 64) (w sh : Bool) (d s : BitVec 64) (dp rl : BitVec 32) (im : BitVec 64) (e : (k.srem 21#64 + 21#64).srem 21#64 = 18#64) : FI Tryd.prog (tab (DN m D2) (tb_O m)) Tryd.f25 0 [.agg [.b64 true k, .b64 true al, .b64 true cc, .b64 true sz, .bool w, .bool sh, .b64 true d, .b64 true s, .b32 true dp, .b32 true rl, .b64 true im]] [] (fun r _ => ∃ x : MX, vX x = true ∧ r = .agg (LX x)) := by
  repeat' (first
    | ((with_reducible apply Given.mk); intro h; (try simp only [e, BitVec.reduceAdd, BitVec.reduceBEq, BitVec.reduceBNe, BitVec.reduceSLT, BitVec.reduceSLE, vK19, v19, regB, rg15, rg0, al6, al3, cc10, sh31, wd32, rl8, eq_self, Bool.and_true, Bool.true_and, Bool.and_false, Bool.false_and, Bool.or_false, Bool.false_or, Bool.or_self, Bool.or_true, Bool.true_or, Bool.not_true, Bool.not_false, Bool.not_not, Bool.true_eq_false, Bool.false_eq_true, if_true, if_false, beq_self_eq_true, bne_self_eq_false, decide_true] at h); (try exact absurd h (by decide)); (try (cases sh <;> simp only [Bool.true_eq_false, Bool.false_eq_true] at h)))
    | ((conv => whnf); with_reducible apply Both.mk))
  all_goals first
    | (with_reducible apply Ob.mk; kernel_rfl)
    | (with_reducible apply Ob.mk; decide)
    | ((with_reducible apply Ob.mk); first | exact ixn al 6 (by decide) (by decide) | exact ixn al 3 (by decide) (by decide) | exact ixn cc 10 (by decide) (by decide))
    | ((conv => whnf); refine cut_mk ?_; simp only [e, BitVec.reduceAdd, BitVec.reduceBEq, BitVec.reduceBNe, BitVec.reduceSLT, BitVec.reduceSLE, vK19, v19, regB, rg15, rg0, al6, al3, cc10, sh31, wd32, rl8, eq_self, Bool.and_true, Bool.true_and, Bool.and_false, Bool.false_and, Bool.or_false, Bool.false_or, Bool.or_self, Bool.or_true, Bool.true_or, Bool.not_true, Bool.not_false, Bool.not_not, Bool.true_eq_false, Bool.false_eq_true, if_true, if_false, beq_self_eq_true, bne_self_eq_false, decide_true]; done)
    | ((conv => whnf); refine cut_mk ?_; simp only [e, BitVec.reduceAdd, BitVec.reduceBEq, BitVec.reduceBNe, BitVec.reduceSLT, BitVec.reduceSLE, vK19, v19, regB, rg15, rg0, al6, al3, cc10, sh31, wd32, rl8, eq_self, Bool.and_true, Bool.true_and, Bool.and_false, Bool.false_and, Bool.or_false, Bool.false_or, Bool.or_self, Bool.or_true, Bool.true_or, Bool.not_true, Bool.not_false, Bool.not_not, Bool.true_eq_false, Bool.false_eq_true, if_true, if_false, beq_self_eq_true, bne_self_eq_false, decide_true, *]; done)
    | ((conv => whnf); skip)
set_option maxRecDepth 100000 in
set_option maxHeartbeats 16000000 in
theorem ck_19 (D2 : VData) (m : Nat → Nat) (k al cc sz : BitVec 64) (w sh : Bool) (d s : BitVec 64) (dp rl : BitVec 32) (im : BitVec 64) (e : (k.srem 21#64 + 21#64).srem 21#64 = 19#64) : FI Tryd.prog (tab (DN m D2) (tb_O m)) Tryd.f25 0 [.agg [.b64 true k, .b64 true al, .b64 true cc, .b64 true sz, .bool w, .bool sh, .b64 true d, .b64 true s, .b32 true dp, .b32 true rl, .b64 true im]] [] (fun r _ => ∃ x : MX, vX x = true ∧ r = .agg (LX x)) := by
  repeat' (first
    | ((with_reducible apply Given.mk); intro h; (try simp only [e, BitVec.reduceAdd, BitVec.reduceBEq, BitVec.reduceBNe, BitVec.reduceSLT, BitVec.reduceSLE, vK20, v20, regB, rg15, rg0, al6, al3, cc10, sh31, wd32, rl8, eq_self, Bool.and_true, Bool.true_and, Bool.and_false, Bool.false_and, Bool.or_false, Bool.false_or, Bool.or_self, Bool.or_true, Bool.true_or, Bool.not_true, Bool.not_false, Bool.not_not, Bool.true_eq_false, Bool.false_eq_true, if_true, if_false, beq_self_eq_true, bne_self_eq_false, decide_true] at h); (try exact absurd h (by decide)); (try (cases sh <;> simp only [Bool.true_eq_false, Bool.false_eq_true] at h)))
    | ((conv => whnf); with_reducible apply Both.mk))
  all_goals first
    | (with_reducible apply Ob.mk; kernel_rfl)
    | (with_reducible apply Ob.mk; decide)
    | ((with_reducible apply Ob.mk); first | exact ixn al 6 (by decide) (by decide) | exact ixn al 3 (by decide) (by decide) | exact ixn cc 10 (by decide) (by decide))
    | ((conv => whnf); refine cut_mk ?_; simp only [e, BitVec.reduceAdd, BitVec.reduceBEq, BitVec.reduceBNe, BitVec.reduceSLT, BitVec.reduceSLE, vK20, v20, regB, rg15, rg0, al6, al3, cc10, sh31, wd32, rl8, eq_self, Bool.and_true, Bool.true_and, Bool.and_false, Bool.false_and, Bool.or_false, Bool.false_or, Bool.or_self, Bool.or_true, Bool.true_or, Bool.not_true, Bool.not_false, Bool.not_not, Bool.true_eq_false, Bool.false_eq_true, if_true, if_false, beq_self_eq_true, bne_self_eq_false, decide_true]; done)
    | ((conv => whnf); refine cut_mk ?_; simp only [e, BitVec.reduceAdd, BitVec.reduceBEq, BitVec.reduceBNe, BitVec.reduceSLT, BitVec.reduceSLE, vK20, v20, regB, rg15, rg0, al6, al3, cc10, sh31, wd32, rl8, eq_self, Bool.and_true, Bool.true_and, Bool.and_false, Bool.false_and, Bool.or_false, Bool.false_or, Bool.or_self, Bool.or_true, Bool.true_or, Bool.not_true, Bool.not_false, Bool.not_not, Bool.true_eq_false, Bool.false_eq_true, if_true, if_false, beq_self_eq_true, bne_self_eq_false, decide_true, *]; done)
    | ((conv => whnf); skip)
set_option maxRecDepth 100000 in
set_option maxHeartbeats 16000000 in
theorem ck_20 (D2 : VData) (m : Nat → Nat) (k al cc sz : BitVec 64) (w sh : Bool) (d s : BitVec 64) (dp rl : BitVec 32) (im : BitVec 64) (e : (k.srem 21#64 + 21#64).srem 21#64 = 20#64) : FI Tryd.prog (tab (DN m D2) (tb_O m)) Tryd.f25 0 [.agg [.b64 true k, .b64 true al, .b64 true cc, .b64 true sz, .bool w, .bool sh, .b64 true d, .b64 true s, .b32 true dp, .b32 true rl, .b64 true im]] [] (fun r _ => ∃ x : MX, vX x = true ∧ r = .agg (LX x)) := by
  repeat' (first
    | ((with_reducible apply Given.mk); intro h; (try simp only [e, BitVec.reduceAdd, BitVec.reduceBEq, BitVec.reduceBNe, BitVec.reduceSLT, BitVec.reduceSLE, vK21, v21, regB, rg15, rg0, al6, al3, cc10, sh31, wd32, rl8, eq_self, Bool.and_true, Bool.true_and, Bool.and_false, Bool.false_and, Bool.or_false, Bool.false_or, Bool.or_self, Bool.or_true, Bool.true_or, Bool.not_true, Bool.not_false, Bool.not_not, Bool.true_eq_false, Bool.false_eq_true, if_true, if_false, beq_self_eq_true, bne_self_eq_false, decide_true] at h); (try exact absurd h (by decide)); (try (cases sh <;> simp only [Bool.true_eq_false, Bool.false_eq_true] at h)))
    | ((conv => whnf); with_reducible apply Both.mk))
  all_goals first
    | (with_reducible apply Ob.mk; kernel_rfl)
    | (with_reducible apply Ob.mk; decide)
    | ((with_reducible apply Ob.mk); first | exact ixn al 6 (by decide) (by decide) | exact ixn al 3 (by decide) (by decide) | exact ixn cc 10 (by decide) (by decide))
    | ((conv => whnf); refine cut_mk ?_; simp only [e, BitVec.reduceAdd, BitVec.reduceBEq, BitVec.reduceBNe, BitVec.reduceSLT, BitVec.reduceSLE, vK21, v21, regB, rg15, rg0, al6, al3, cc10, sh31, wd32, rl8, eq_self, Bool.and_true, Bool.true_and, Bool.and_false, Bool.false_and, Bool.or_false, Bool.false_or, Bool.or_self, Bool.or_true, Bool.true_or, Bool.not_true, Bool.not_false, Bool.not_not, Bool.true_eq_false, Bool.false_eq_true, if_true, if_false, beq_self_eq_true, bne_self_eq_false, decide_true]; done)
    | ((conv => whnf); refine cut_mk ?_; simp only [e, BitVec.reduceAdd, BitVec.reduceBEq, BitVec.reduceBNe, BitVec.reduceSLT, BitVec.reduceSLE, vK21, v21, regB, rg15, rg0, al6, al3, cc10, sh31, wd32, rl8, eq_self, Bool.and_true, Bool.true_and, Bool.and_false, Bool.false_and, Bool.or_false, Bool.false_or, Bool.or_self, Bool.or_true, Bool.true_or, Bool.not_true, Bool.not_false, Bool.not_not, Bool.true_eq_false, Bool.false_eq_true, if_true, if_false, beq_self_eq_true, bne_self_eq_false, decide_true, *]; done)
    | ((conv => whnf); skip)
set_option maxRecDepth 100000 in
theorem e_cut (G2 : World → Prop) (D2 : VData) (k2 : DataOK Tryd.prog G2 D2) (m : Nat → Nat) : EntryH Tryd.prog (GN m G2) 25 h_cut := by
  refine .of_FI (C_O G2 D2 k2 m) (by kernel_rfl) Tryd.func25 (by kernel_rfl) (by kernel_rfl) (fun args a h hc => ?_)
  unfold h_cut at h
  split at h
  · rename_i k al cc sz w sh d s dp rl im; cases h
    refine ⟨rfl, fun _ => rfl, ?_⟩
    obtain ⟨i, hi, e⟩ := srem_in k 21 (by decide) (by decide)
    have h21 : i = 0 ∨ i = 1 ∨ i = 2 ∨ i = 3 ∨ i = 4 ∨ i = 5 ∨ i = 6 ∨ i = 7 ∨ i = 8 ∨ i = 9 ∨ i = 10 ∨ i = 11 ∨ i = 12 ∨ i = 13 ∨ i = 14 ∨ i = 15 ∨ i = 16 ∨ i = 17 ∨ i = 18 ∨ i = 19 ∨ i = 20 := by omega
    rcases h21 with rfl | rfl | rfl | rfl | rfl | rfl | rfl | rfl | rfl | rfl | rfl | rfl | rfl | rfl | rfl | rfl | rfl | rfl | rfl | rfl | rfl
    · exact ck_0 D2 m k al cc sz w sh d s dp rl im e
    · exact ck_1 D2 m k al cc sz w sh d s dp rl im e
    · exact ck_2 D2 m k al cc sz w sh d s dp rl im e
    · exact ck_3 D2 m k al cc sz w sh d s dp rl im e
    · exact ck_4 D2 m k al cc sz w sh d s dp rl im e
    · exact ck_5 D2 m k al cc sz w sh d s dp rl im e
    · exact ck_6 D2 m k al cc sz w sh d s dp rl im e
    · exact ck_7 D2 m k al cc sz w sh d s dp rl im e
    · exact ck_8 D2 m k al cc sz w sh d s dp rl im e
    · exact ck_9 D2 m k al cc sz w sh d s dp rl im e
    · exact ck_10 D2 m k al cc sz w sh d s dp rl im e
    · exact ck_11 D2 m k al cc sz w sh d s dp rl im e
    · obtain ⟨j, hj, es⟩ := sz3 sz
      have h4 : j = 0 ∨ j = 1 ∨ j = 2 ∨ j = 3 := by omega
      rcases h4 with rfl | rfl | rfl | rfl
      · exact ck_12_0 D2 m k al cc sz w sh d s dp rl im e es
      · exact ck_12_1 D2 m k al cc sz w sh d s dp rl im e es
      · exact ck_12_2 D2 m k al cc sz w sh d s dp rl im e es
      · exact ck_12_3 D2 m k al cc sz w sh d s dp rl im e es
    · obtain ⟨j, hj, es⟩ := sz3 sz
      have h4 : j = 0 ∨ j = 1 ∨ j = 2 ∨ j = 3 := by omega
      rcases h4 with rfl | rfl | rfl | rfl
      · exact ck_13_0 D2 m k al cc sz w sh d s dp rl im e es
      · exact ck_13_1 D2 m k al cc sz w sh d s dp rl im e es
      · exact ck_13_2 D2 m k al cc sz w sh d s dp rl im e es
      · exact ck_13_3 D2 m k al cc sz w sh d s dp rl im e es
    · exact ck_14 D2 m k al cc sz w sh d s dp rl im e
    · exact ck_15 D2 m k al cc sz w sh d s dp rl im e
    · exact ck_16 D2 m k al cc sz w sh d s dp rl im e
    · exact ck_17 D2 m k al cc sz w sh d s dp rl im e
    · exact ck_18 D2 m k al cc sz w sh d s dp rl im e
    · exact ck_19 D2 m k al cc sz w sh d s dp rl im e
    · exact ck_20 D2 m k al cc sz w sh d s dp rl im e
  · cases h
noncomputable abbrev C_k (m : Nat → Nat) (D2 : VData) : Table := withH (tab (DN m D2) (tb_O m)) [(25, h_cut)]
/-- What the law looks at. -/
structure BackOK (u v : ByteArray) (x : MX) : Prop where
  hv : vld x.k x.al x.cc x.sz x.w x.sh x.d x.s x.dp x.rl x.im = true
  c0 : (encB x.k x.al x.cc x.sz x.w x.sh x.d x.s x.dp x.rl x.im).size < 9223372036854775808
  c1 : (BitVec.ofNat 64 (encB x.k x.al x.cc x.sz x.w x.sh x.d x.s x.dp x.rl x.im).size).slt 1#64 = false
  c2 : (10#64).slt (BitVec.ofNat 64 (encB x.k x.al x.cc x.sz x.w x.sh x.d x.s x.dp x.rl x.im).size) = false
  z1 : (catB u (encB x.k x.al x.cc x.sz x.w x.sh x.d x.s x.dp x.rl x.im)).size < 9223372036854775808
  z2 : (catB (catB u (encB x.k x.al x.cc x.sz x.w x.sh x.d x.s x.dp x.rl x.im)) v).size < 9223372036854775808
  hx : xA (catB (catB u (encB x.k x.al x.cc x.sz x.w x.sh x.d x.s x.dp x.rl x.im)) v) (BitVec.ofNat 64 u.size) = x
  hn : nA (catB (catB u (encB x.k x.al x.cc x.sz x.w x.sh x.d x.s x.dp x.rl x.im)) v) (BitVec.ofNat 64 u.size) = BitVec.ofNat 64 (encB x.k x.al x.cc x.sz x.w x.sh x.d x.s x.dp x.rl x.im).size
  he : eA (catB (catB u (encB x.k x.al x.cc x.sz x.w x.sh x.d x.s x.dp x.rl x.im)) v) (BitVec.ofNat 64 u.size) = 0#64
  ix : 0 ≤ (BitVec.ofNat 64 (encB x.k x.al x.cc x.sz x.w x.sh x.d x.s x.dp x.rl x.im).size - 1#64).toInt ∧ 0 ≤ (BitVec.ofNat 64 (encB x.k x.al x.cc x.sz x.w x.sh x.d x.s x.dp x.rl x.im).size - 1#64).toNat ∧ (BitVec.ofNat 64 (encB x.k x.al x.cc x.sz x.w x.sh x.d x.s x.dp x.rl x.im).size - 1#64).toNat ≤ (encB x.k x.al x.cc x.sz x.w x.sh x.d x.s x.dp x.rl x.im).size
  z3 : (catB u (exB (encB x.k x.al x.cc x.sz x.w x.sh x.d x.s x.dp x.rl x.im) 0 (BitVec.ofNat 64 (encB x.k x.al x.cc x.sz x.w x.sh x.d x.s x.dp x.rl x.im).size - 1#64).toNat)).size < 9223372036854775808
  hn' : nA (catB u (exB (encB x.k x.al x.cc x.sz x.w x.sh x.d x.s x.dp x.rl x.im) 0 (BitVec.ofNat 64 (encB x.k x.al x.cc x.sz x.w x.sh x.d x.s x.dp x.rl x.im).size - 1#64).toNat)) (BitVec.ofNat 64 u.size) = 0#64
  he' : eA (catB u (exB (encB x.k x.al x.cc x.sz x.w x.sh x.d x.s x.dp x.rl x.im) 0 (BitVec.ofNat 64 (encB x.k x.al x.cc x.sz x.w x.sh x.d x.s x.dp x.rl x.im).size - 1#64).toNat)) (BitVec.ofNat 64 u.size) = 110#64
theorem ex_app (u y : ByteArray) : exB (catB u y) u.size (catB u y).size = y := by
  obtain ⟨⟨l⟩⟩ := u
  obtain ⟨⟨q⟩⟩ := y
  rw [show exB (catB ⟨⟨l⟩⟩ ⟨⟨q⟩⟩) (⟨⟨l⟩⟩ : ByteArray).size (catB ⟨⟨l⟩⟩ ⟨⟨q⟩⟩).size = B (((l ++ q).drop l.length).take ((l ++ q).length - l.length)) from ex_B (l ++ q) l.length (l ++ q).length]
  refine congrArg B ?_
  simp
theorem cat_assoc (a b c : ByteArray) : catB (catB a b) c = catB a (catB b c) := by
  obtain ⟨⟨a⟩⟩ := a
  obtain ⟨⟨b⟩⟩ := b
  obtain ⟨⟨c⟩⟩ := c
  exact congrArg B (List.append_assoc a b c)
theorem cat_nil (s : ByteArray) : catB s (B []) = s := by
  obtain ⟨⟨l⟩⟩ := s
  show B (l ++ []) = B l
  rw [List.append_nil]
theorem cut_last {x y : MX} (hx : vX x = true) (hy : vX y = true) (h : pre (exB (eX x) 0 ((eX x).size - 1)) (eX y) = true) : False := by
  obtain ⟨p1, p2⟩ := eX_pos hx
  obtain ⟨r, hr⟩ := pre_split h
  have hs := pre_size h
  rw [exB_size _ _ _ (Nat.zero_le _) (by omega)] at hs
  have e : ∃ q, eX x = catB (eX y) (B q) := by
    refine ⟨r ++ ((eX x).data.toList.drop ((eX x).size - 1)), ?_⟩
    have e1 : eX x = catB (exB (eX x) 0 ((eX x).size - 1)) (B ((eX x).data.toList.drop ((eX x).size - 1))) := by
      generalize eX x = t
      obtain ⟨⟨l⟩⟩ := t
      rw [show exB (⟨⟨l⟩⟩ : ByteArray) 0 ((⟨⟨l⟩⟩ : ByteArray).size - 1) = B ((l.drop 0).take (l.length - 1 - 0)) from ex_B l 0 (l.length - 1)]
      show B l = B ((l.drop 0).take (l.length - 1 - 0) ++ l.drop (l.length - 1))
      refine congrArg B ?_
      simp only [List.drop_zero, Nat.sub_zero, List.take_append_drop]
    conv => lhs; rw [e1, hr]
    rw [cat_assoc]; rfl
  obtain ⟨q, hq⟩ := e
  have h1 := RTr hx []
  rw [cat_nil] at h1
  have h2 := RTr hy q
  rw [← hq, h1] at h2
  rw [← h2] at hs
  omega
theorem back_ok {u v : ByteArray} {x : MX} (hu : u.size ≤ 50) (hw : v.size ≤ 50) (hv : vX x = true) : BackOK u v x := by
  obtain ⟨p1, p2⟩ := eX_pos hv
  have hu0 : (BitVec.ofNat 64 u.size).toNat = u.size := nat_of (by omega)
  have hui : (BitVec.ofNat 64 u.size).toInt = ((BitVec.ofNat 64 u.size).toNat : Int) := by rw [hu0, toInt_ofNat (by omega)]
  have s1 : (catB u (eX x)).size = u.size + (eX x).size := cat_sz2 _ _
  have s2 : (catB (catB u (eX x)) v).size = u.size + (eX x).size + v.size := by rw [cat_sz2, s1]
  have b1 : badA (catB (catB u (eX x)) v) (BitVec.ofNat 64 u.size) = false := bad_no (by rw [s2]; omega) (by rw [s2, hu0]; omega) hui
  have t1 : exB (catB (catB u (eX x)) v) (BitVec.ofNat 64 u.size).toNat (catB (catB u (eX x)) v).size = catB (eX x) v := by rw [hu0, cat_assoc, ex_app]
  obtain ⟨x1, x2, x3⟩ := kA_at b1 (by rw [s2]; omega) hv (by rw [t1]; exact pre_cat _ _)
  have hL : (BitVec.ofNat 64 (eX x).size - 1#64).toNat = (eX x).size - 1 := by
    rw [BitVec.toNat_sub, nat_of (a := (eX x).size) (by omega), show (1#64).toNat = 1 from rfl]
    omega
  have hLi : (BitVec.ofNat 64 (eX x).size - 1#64).toInt = (((eX x).size - 1 : Nat) : Int) := by
    rw [BitVec.toInt_eq_toNat_cond, hL, if_pos (by omega)]
  have s3 : (exB (eX x) 0 ((eX x).size - 1)).size = (eX x).size - 1 := by rw [exB_size _ _ _ (Nat.zero_le _) (by omega)]; omega
  have s4 : (catB u (exB (eX x) 0 ((eX x).size - 1))).size = u.size + ((eX x).size - 1) := by rw [cat_sz2, s3]
  have hk : kA (catB u (exB (eX x) 0 ((eX x).size - 1))) (BitVec.ofNat 64 u.size) = 0 := by
    cases hb : badA (catB u (exB (eX x) 0 ((eX x).size - 1))) (BitVec.ofNat 64 u.size) with
    | true => unfold kA; rw [hb, if_pos rfl]
    | false =>
      rw [kA_eq hb, hu0, ex_app]
      refine dec_0 (by rw [s3]; omega) (fun y hy => ?_)
      cases hp : pre (exB (eX x) 0 ((eX x).size - 1)) (eX y) with
      | false => rfl
      | true => exact (cut_last hv hy hp).elim
  obtain ⟨-, y2, y3⟩ := kA_no hk
  have hc1 : (BitVec.ofNat 64 (eX x).size).slt 1#64 = false := by
    rw [BitVec.slt_eq_decide, decide_eq_false_iff_not, toInt_ofNat (by omega)]
    have z : (1#64).toInt = 1 := rfl
    rw [z]; omega
  have hc2 : (10#64).slt (BitVec.ofNat 64 (eX x).size) = false := by
    have z : (10#64).toInt = 10 := rfl
    rw [BitVec.slt_eq_decide, decide_eq_false_iff_not, z, toInt_ofNat (n := (eX x).size) (by omega)]
    omega
  refine ⟨hv, by show (eX x).size < _; omega, hc1, hc2, by show (catB u (eX x)).size < _; rw [s1]; omega, by show (catB (catB u (eX x)) v).size < _; rw [s2]; omega, x1, x2, x3, ?_, ?_, ?_, ?_⟩
  · show 0 ≤ (BitVec.ofNat 64 (eX x).size - 1#64).toInt ∧ 0 ≤ (BitVec.ofNat 64 (eX x).size - 1#64).toNat ∧ (BitVec.ofNat 64 (eX x).size - 1#64).toNat ≤ (eX x).size
    rw [hL, hLi]; omega
  · show (catB u (exB (eX x) 0 (BitVec.ofNat 64 (eX x).size - 1#64).toNat)).size < _
    rw [hL, s4]; omega
  · show nA (catB u (exB (eX x) 0 (BitVec.ofNat 64 (eX x).size - 1#64).toNat)) _ = _
    rw [hL]; exact y2
  · show eA (catB u (exB (eX x) 0 (BitVec.ofNat 64 (eX x).size - 1#64).toNat)) _ = _
    rw [hL]; exact y3
theorem sl50 {s : ByteArray} (hs : s.size < 9223372036854775808) (h : (50#64).slt (BitVec.ofNat 64 s.size) = false) : s.size ≤ 50 := by
  rw [BitVec.slt_eq_decide, decide_eq_false_iff_not, toInt_ofNat hs] at h
  have z : (50#64).toInt = 50 := rfl
  rw [z] at h; omega
set_option maxRecDepth 100000 in
set_option maxHeartbeats 8000000 in
theorem CodecBack_main (m : Nat → Nat) (k al cc sz : BitVec 64) (w sh : Bool) (d s : BitVec 64) (dp rl : BitVec 32) (im : BitVec 64) (u : ByteArray) (hu : u.size < 9223372036854775808) (v : ByteArray) (hw : v.size < 9223372036854775808) : F Tryd.prog (C_k m noData) Tryd.f8 [.agg [.b64 true k, .b64 true al, .b64 true cc, .b64 true sz, .bool w, .bool sh, .b64 true d, .b64 true s, .b32 true dp, .b32 true rl, .b64 true im], .one (.str u), .one (.str v)] (fun r => r = .one (.bool true)) := by
  cases f0 : (50#64).slt (BitVec.ofNat 64 u.size)
  all_goals cases f1 : (50#64).slt (BitVec.ofNat 64 v.size)
  all_goals
    repeat' (first
      | (with_reducible apply Given.mk; intro h; (try simp only [f0, f1, Bool.true_eq_false, Bool.false_eq_true, eq_self] at h); (try ((have _q := hv); simp only [hv, c1, c2, hx, hn, he, hn', he', if_true, BitVec.reduceBEq, bne_self_eq_false, beq_self_eq_true, Bool.and_self, Bool.not_true, Bool.true_eq_false, Bool.false_eq_true, eq_self] at h)); (try exact absurd h (by decide)))
      | ((conv => whnf); first
        | with_reducible apply Both.mk
        | ((with_reducible apply Each.mk); intro x; (with_reducible apply Given.mk); intro hx0; have BB := back_ok (sl50 hu f0) (sl50 hw f1) hx0; obtain ⟨hv, c0, c1, c2, z1, z2, hx, hn, he, ix, z3, hn', he'⟩ := BB)))
    all_goals first
      | ((with_reducible apply Ob.mk); first | with_reducible exact hu | with_reducible exact hw)
      | (with_reducible apply Ob.mk; kernel_rfl)
      | ((with_reducible apply Ob.mk); simp only [hv, if_true]; first | with_reducible exact c0 | with_reducible exact z1 | with_reducible exact z2 | with_reducible exact z3 | with_reducible exact ix | (rw [cat_sz2] at z1; with_reducible exact z1) | (rw [cat_sz2] at z2; with_reducible exact z2) | (rw [cat_sz2] at z3; with_reducible exact z3))
      | ((conv => whnf); exact ⟨rfl⟩)
      | ((conv => whnf); refine ⟨?_⟩; simp only [hv, c1, c2, hx, hn, he, hn', he', if_true, BitVec.reduceBEq, bne_self_eq_false, beq_self_eq_true, Bool.and_self, Bool.not_true, Bool.true_eq_false, Bool.false_eq_true, eq_self]; done)
      | ((conv => whnf); skip)
theorem C_kk (m : Nat → Nat) : CSound Tryd.prog (GV m) (C_k m noData) := (C_O anyWorld noData .none m).withH (.cons (e_cut anyWorld noData .none m) .nil)
end Go.Proofs.YtppankimieopiaaDoor
