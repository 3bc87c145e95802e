/-
  CpuCompare, as the evaluator leaves it. Conditions: none.
-/
import Derived.Test.YtppankimieopiaaDoorCpD
namespace Go.Proofs.YtppankimieopiaaDoor
open Go.El Go.RowKit
set_option linter.unusedVariables false
set_option linter.unusedSimpArgs false

noncomputable abbrev FV : List (Nat × Func) := [(39, Tryd.f39), (13, Tryd.f13), (29, Tryd.f29), (30, Tryd.f30), (74, Tryd.f74), (75, Tryd.f75)]
theorem C_vi (m : Nat → Nat) : CSound Tryd.prog (GV m) (tabI Tryd.prog (DV m) (tb_conds_Holds m) FV 6) := CSound.tabI (C_conds_Holds m) (by kernel_rfl) fs_firewalllaw12_done 6
theorem tk2 (z s k o : Bool) : tk 2#64 z s k o = (k) := rfl
theorem tk3 (z s k o : Bool) : tk 3#64 z s k o = (!k) := rfl
theorem tk4 (z s k o : Bool) : tk 4#64 z s k o = (z) := rfl
theorem tk5 (z s k o : Bool) : tk 5#64 z s k o = (!z) := rfl
theorem tk6 (z s k o : Bool) : tk 6#64 z s k o = (k || z) := rfl
theorem tk7 (z s k o : Bool) : tk 7#64 z s k o = (!(k || z)) := rfl
theorem tk12 (z s k o : Bool) : tk 12#64 z s k o = (s != o) := rfl
theorem tk13 (z s k o : Bool) : tk 13#64 z s k o = (!(s != o)) := rfl
theorem tk14 (z s k o : Bool) : tk 14#64 z s k o = ((s != o) || z) := rfl
theorem tk15 (z s k o : Bool) : tk 15#64 z s k o = (!((s != o) || z)) := rfl
theorem a16t (a b : BitVec 64) : aluD 16#8 true a b = a - b := by simp [aluD, aluW]
theorem a16f (a b : BitVec 64) : (aluD 16#8 false a b).setWidth 32 = a.setWidth 32 - b.setWidth 32 := by
  simp only [aluD, aluW]
  apply BitVec.eq_of_toNat_eq
  simp
theorem a80t (a b : BitVec 64) : aluD 80#8 true a b = a &&& b := by simp [aluD, aluW]
theorem a80f (a b : BitVec 64) : (aluD 80#8 false a b).setWidth 32 = a.setWidth 32 &&& b.setWidth 32 := by
  simp only [aluD, aluW]
  apply BitVec.eq_of_toNat_eq
  simp
theorem n0 (a r1 r2 r3 r4 r5 r6 r7 r8 r9 r10 r11 r12 r13 r14 r15 : BitVec 64) : nthW [a, r1, r2, r3, r4, r5, r6, r7, r8, r9, r10, r11, r12, r13, r14, r15] (0#64).toNat = a := rfl
theorem n3 (a r1 r2 b r4 r5 r6 r7 r8 r9 r10 r11 r12 r13 r14 r15 : BitVec 64) : nthW [a, r1, r2, b, r4, r5, r6, r7, r8, r9, r10, r11, r12, r13, r14, r15] (3#64).toNat = b := rfl
theorem dz4c : dzV 4#64 = 80#8 := rfl
theorem dz7c : dzV 7#64 = 16#8 := rfl
theorem absC {p q : Prop} (h : ¬ p) : p → q := fun e => absurd e h
theorem dropC {p q : Prop} (h : p) (k : q) : p → q := fun _ => k
set_option maxRecDepth 100000 in
set_option maxHeartbeats 8000000 in
theorem CpuCompare_main (m : Nat → Nat) (r0 r1 r2 r3 r4 r5 r6 r7 r8 r9 r10 r11 r12 r13 r14 r15 : BitVec 64) (fz fs fc fo : Bool) (pc a b : BitVec 64) : F Tryd.prog (tabI Tryd.prog (DV m) (tb_conds_Holds m) FV 6) Tryd.f12 [.agg [.b64 false r0, .b64 false r1, .b64 false r2, .b64 false r3, .b64 false r4, .b64 false r5, .b64 false r6, .b64 false r7, .b64 false r8, .b64 false r9, .b64 false r10, .b64 false r11, .b64 false r12, .b64 false r13, .b64 false r14, .b64 false r15, .bool fz, .bool fs, .bool fc, .bool fo, .b64 false pc], .one (.b64 false a), .one (.b64 false b)] (fun r => r = .one (.bool true)) := by
  repeat' (first
    | (with_reducible apply Given.mk; first | exact absC (by decide +kernel) | refine dropC (by decide +kernel) ?_ | (refine dropC ?_ ?_; focus (simp only [tk2, tk3, tk4, tk5, tk6, tk7, tk12, tk13, tk14, tk15, bne, n0, n3, dz4c, dz7c, k160, k48, k16, k80, k176, k32, k192, k112, k208, k96, k64t, k64f, fZ, fC, fS, fO, a16t, a16f, a80t, a80f, beq_self_eq_true, Bool.and_self, Bool.and_true, Bool.true_and, Bool.not_true, Bool.not_false, Bool.or_false, Bool.false_or, if_true, if_false, Bool.false_eq_true, Bool.true_eq_false, reduceCtorEq]; done)) | (intro h; (try (exfalso; revert h; simp only [tk2, tk3, tk4, tk5, tk6, tk7, tk12, tk13, tk14, tk15, bne, n0, n3, dz4c, dz7c, k160, k48, k16, k80, k176, k32, k192, k112, k208, k96, k64t, k64f, fZ, fC, fS, fO, a16t, a16f, a80t, a80f, beq_self_eq_true, Bool.and_self, Bool.and_true, Bool.true_and, Bool.not_true, Bool.not_false, Bool.or_false, Bool.false_or, if_true, if_false, Bool.false_eq_true, Bool.true_eq_false, reduceCtorEq]; done)); (try simp only [tk2, tk3, tk4, tk5, tk6, tk7, tk12, tk13, tk14, tk15, bne, n0, n3, dz4c, dz7c, k160, k48, k16, k80, k176, k32, k192, k112, k208, k96, k64t, k64f, fZ, fC, fS, fO, a16t, a16f, a80t, a80f, beq_self_eq_true, Bool.and_self, Bool.and_true, Bool.true_and, Bool.not_true, Bool.not_false, Bool.or_false, Bool.false_or, if_true, if_false, Bool.false_eq_true, Bool.true_eq_false, reduceCtorEq] at h); (try exact no2 h (by with_reducible assumption)); (try exact no2 (by with_reducible assumption) h)))
    | ((conv => whnf); first | with_reducible apply Both.mk | refine LoopP.times 11 ?_))
  all_goals first
    | (with_reducible apply Ob.mk; decide +kernel)
    | (with_reducible apply Ob.mk; kernel_rfl)
    | ((conv => whnf); exact ⟨rfl⟩)
    | ((conv => whnf); skip)
end Go.Proofs.YtppankimieopiaaDoor
