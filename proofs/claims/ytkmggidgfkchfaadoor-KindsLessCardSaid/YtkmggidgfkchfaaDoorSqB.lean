/-
  The laws KindsIn and KindsLess, as the evaluator leaves them. Conditions: as typed.
-/
import Derived.Test.YtkmggidgfkchfaaDoorSqA
namespace Go.Proofs.YtkmggidgfkchfaaDoor
open Go.Ep Go.RowKit
set_option linter.unusedVariables false
set_option linter.unusedSimpArgs false

theorem xor1 (j : BitVec 64) : (j == j ^^^ 1#64) = false := by
  rw [beq_eq_false_iff_ne]
  intro h
  have := congrArg (fun x => x.getLsbD 0) h
  simp at this
theorem BitVec.sle_refl' (x : BitVec 64) : x.sle x = true := by simp [BitVec.sle]
theorem nIn_self {n : NN} (h : n.tv &&& n.tm = 0#64) : nIn n n = true := by
  have h1 : n.tm &&& ~~~n.tm = 0#64 := by simp
  have h2 : n.tv &&& ~~~n.tm = n.tv := by
    apply BitVec.eq_of_getLsbD_eq
    intro i hi
    have := congrArg (fun x => x.getLsbD i) h
    simp at this
    simp only [BitVec.getLsbD_and, BitVec.getLsbD_not, hi, decide_true, Bool.true_and]
    cases ha : n.tv.getLsbD i <;> cases hb : n.tm.getLsbD i <;> simp_all
  simp only [nIn, tIn, tHas, sIn, NN.s, h1, h2, beq_self_eq_true, Bool.and_self, Bool.true_and]
  simp [BitVec.ule, BitVec.sle]
theorem nMade_self (v k p q r s : BitVec 64) : nIn (nMade v k p q r s) (nMade v k p q r s) = true := nIn_self (by
  simp only [nMade, nMk]
  apply BitVec.eq_of_getLsbD_eq
  intro i hi
  simp)
noncomputable abbrev FK : List (Nat × Func) := [(19, Tryd.f19), (37, Tryd.f37)]
theorem fs_K : FsOK Tryd.prog FK := FsOK.cons Tryd.func19 (by kernel_rfl) (by kernel_rfl) (FsOK.cons Tryd.func37 (by kernel_rfl) (by kernel_rfl) (FsOK.nil))
theorem C_K (m : Nat → Nat) : CSound Tryd.prog (GS m) (tabI Tryd.prog (DS m) tb_firewalllaw18_points FK 4) := CSound.tabI (C_firewalllaw18_points m) (by kernel_rfl) fs_K 4
theorem no2 {b : Bool} {q : Prop} (h : b = true) (h' : b = false) : q := by rw [h] at h'; cases h'
theorem absC {p q : Prop} (h : ¬ p) : p → q := fun e => absurd e h
theorem dropC {p q : Prop} (h : p) (k : q) : p → q := fun _ => k
set_option maxRecDepth 100000 in
set_option maxHeartbeats 8000000 in
theorem KI_0 (m : Nat → Nat) (xp xj xo xs : BitVec 64) (xq : BitVec 32) (x1 x2 x3 x4 x5 : BitVec 64) (yk yp yj yo ys : BitVec 64) (yq : BitVec 32) (y1 y2 y3 y4 y5 : BitVec 64) : F Tryd.prog (tabI Tryd.prog (DS m) tb_firewalllaw18_points FK 4) Tryd.f4 [.agg [.b64 true 0#64, .b64 true xp, .b64 true xj, .b64 true xo, .b64 true xs, .b32 false xq, .b64 false x1, .b64 false x2, .b64 false x3, .b64 false x4, .b64 false x5], .agg [.b64 true yk, .b64 true yp, .b64 true yj, .b64 true yo, .b64 true ys, .b32 false yq, .b64 false y1, .b64 false y2, .b64 false y3, .b64 false y4, .b64 false y5]] (fun r => r = .one (.bool true)) := by
  have hN : nIn ⟨(nMade (xq.setWidth 64) x1 x2 x3 x4 x5).tv, (nMade (xq.setWidth 64) x1 x2 x3 x4 x5).tm, (nMade (xq.setWidth 64) x1 x2 x3 x4 x5).lo, (nMade (xq.setWidth 64) x1 x2 x3 x4 x5).hi, (nMade (xq.setWidth 64) x1 x2 x3 x4 x5).slo, (nMade (xq.setWidth 64) x1 x2 x3 x4 x5).shi⟩ ⟨(nMade (xq.setWidth 64) x1 x2 x3 x4 x5).tv, (nMade (xq.setWidth 64) x1 x2 x3 x4 x5).tm, (nMade (xq.setWidth 64) x1 x2 x3 x4 x5).lo, (nMade (xq.setWidth 64) x1 x2 x3 x4 x5).hi, (nMade (xq.setWidth 64) x1 x2 x3 x4 x5).slo, (nMade (xq.setWidth 64) x1 x2 x3 x4 x5).shi⟩ = true := nMade_self _ _ _ _ _ _
  repeat' (first
    | (with_reducible apply Given.mk; first | exact absC (by decide) | refine dropC (by decide) ?_ | (intro h; (try exact no2 h (by with_reducible assumption)); (try exact no2 (by with_reducible assumption) h); (try simp only [hN, bne, mhas, mval, mput, beq_self_eq_true, xor1, BitVec.sle_refl', List.length, Bool.and_true, Bool.and_false, Bool.true_and, Bool.false_and, Bool.or_true, Bool.true_or, Bool.or_false, Bool.false_or, Bool.not_true, Bool.not_false, Bool.not_not, Bool.false_eq_true, Bool.true_eq_false, if_true, if_false, ite_true, ite_false, reduceCtorEq] at h); (try exact absurd h (by decide)); (try exact no2 h (by with_reducible assumption)); (try exact no2 (by with_reducible assumption) h)))
    | ((conv => whnf); with_reducible apply Both.mk))
  all_goals first
    | (with_reducible apply Ob.mk; simp only [mput, List.length]; decide)
    | (with_reducible apply Ob.mk; kernel_rfl)
    | (with_reducible apply Ob.mk; decide)
    | ((conv => whnf); refine ⟨?_⟩; first | with_reducible rfl | (refine congrArg (fun v => AV.one (.bool v)) ?_; first | rfl | (simp only [hN, *, bne, mhas, mval, mput, beq_self_eq_true, xor1, BitVec.sle_refl', List.length, Bool.and_true, Bool.and_false, Bool.true_and, Bool.false_and, Bool.or_true, Bool.true_or, Bool.or_false, Bool.false_or, Bool.not_true, Bool.not_false, Bool.not_not, Bool.false_eq_true, Bool.true_eq_false, if_true, if_false, ite_true, ite_false, reduceCtorEq]; done) | (simp [hN, *]; done)))
    | ((conv => whnf); skip)
set_option maxRecDepth 100000 in
set_option maxHeartbeats 8000000 in
theorem KI_1 (m : Nat → Nat) (xp xj xo xs : BitVec 64) (xq : BitVec 32) (x1 x2 x3 x4 x5 : BitVec 64) (yk yp yj yo ys : BitVec 64) (yq : BitVec 32) (y1 y2 y3 y4 y5 : BitVec 64) : F Tryd.prog (tabI Tryd.prog (DS m) tb_firewalllaw18_points FK 4) Tryd.f4 [.agg [.b64 true 1#64, .b64 true xp, .b64 true xj, .b64 true xo, .b64 true xs, .b32 false xq, .b64 false x1, .b64 false x2, .b64 false x3, .b64 false x4, .b64 false x5], .agg [.b64 true yk, .b64 true yp, .b64 true yj, .b64 true yo, .b64 true ys, .b32 false yq, .b64 false y1, .b64 false y2, .b64 false y3, .b64 false y4, .b64 false y5]] (fun r => r = .one (.bool true)) := by
  have hN : nIn ⟨(nMade (xq.setWidth 64) x1 x2 x3 x4 x5).tv, (nMade (xq.setWidth 64) x1 x2 x3 x4 x5).tm, (nMade (xq.setWidth 64) x1 x2 x3 x4 x5).lo, (nMade (xq.setWidth 64) x1 x2 x3 x4 x5).hi, (nMade (xq.setWidth 64) x1 x2 x3 x4 x5).slo, (nMade (xq.setWidth 64) x1 x2 x3 x4 x5).shi⟩ ⟨(nMade (xq.setWidth 64) x1 x2 x3 x4 x5).tv, (nMade (xq.setWidth 64) x1 x2 x3 x4 x5).tm, (nMade (xq.setWidth 64) x1 x2 x3 x4 x5).lo, (nMade (xq.setWidth 64) x1 x2 x3 x4 x5).hi, (nMade (xq.setWidth 64) x1 x2 x3 x4 x5).slo, (nMade (xq.setWidth 64) x1 x2 x3 x4 x5).shi⟩ = true := nMade_self _ _ _ _ _ _
  repeat' (first
    | (with_reducible apply Given.mk; first | exact absC (by decide) | refine dropC (by decide) ?_ | (intro h; (try exact no2 h (by with_reducible assumption)); (try exact no2 (by with_reducible assumption) h); (try simp only [hN, bne, mhas, mval, mput, beq_self_eq_true, xor1, BitVec.sle_refl', List.length, Bool.and_true, Bool.and_false, Bool.true_and, Bool.false_and, Bool.or_true, Bool.true_or, Bool.or_false, Bool.false_or, Bool.not_true, Bool.not_false, Bool.not_not, Bool.false_eq_true, Bool.true_eq_false, if_true, if_false, ite_true, ite_false, reduceCtorEq] at h); (try exact absurd h (by decide)); (try exact no2 h (by with_reducible assumption)); (try exact no2 (by with_reducible assumption) h)))
    | ((conv => whnf); with_reducible apply Both.mk))
  all_goals first
    | (with_reducible apply Ob.mk; simp only [mput, List.length]; decide)
    | (with_reducible apply Ob.mk; kernel_rfl)
    | (with_reducible apply Ob.mk; decide)
    | ((conv => whnf); refine ⟨?_⟩; first | with_reducible rfl | (refine congrArg (fun v => AV.one (.bool v)) ?_; first | rfl | (simp only [hN, *, bne, mhas, mval, mput, beq_self_eq_true, xor1, BitVec.sle_refl', List.length, Bool.and_true, Bool.and_false, Bool.true_and, Bool.false_and, Bool.or_true, Bool.true_or, Bool.or_false, Bool.false_or, Bool.not_true, Bool.not_false, Bool.not_not, Bool.false_eq_true, Bool.true_eq_false, if_true, if_false, ite_true, ite_false, reduceCtorEq]; done) | (simp [hN, *]; done)))
    | ((conv => whnf); skip)
set_option maxRecDepth 100000 in
set_option maxHeartbeats 8000000 in
theorem KI_6 (m : Nat → Nat) (xp xj xo xs : BitVec 64) (xq : BitVec 32) (x1 x2 x3 x4 x5 : BitVec 64) (yk yp yj yo ys : BitVec 64) (yq : BitVec 32) (y1 y2 y3 y4 y5 : BitVec 64) : F Tryd.prog (tabI Tryd.prog (DS m) tb_firewalllaw18_points FK 4) Tryd.f4 [.agg [.b64 true 6#64, .b64 true xp, .b64 true xj, .b64 true xo, .b64 true xs, .b32 false xq, .b64 false x1, .b64 false x2, .b64 false x3, .b64 false x4, .b64 false x5], .agg [.b64 true yk, .b64 true yp, .b64 true yj, .b64 true yo, .b64 true ys, .b32 false yq, .b64 false y1, .b64 false y2, .b64 false y3, .b64 false y4, .b64 false y5]] (fun r => r = .one (.bool true)) := by
  have hN : nIn ⟨(nMade (xq.setWidth 64) x1 x2 x3 x4 x5).tv, (nMade (xq.setWidth 64) x1 x2 x3 x4 x5).tm, (nMade (xq.setWidth 64) x1 x2 x3 x4 x5).lo, (nMade (xq.setWidth 64) x1 x2 x3 x4 x5).hi, (nMade (xq.setWidth 64) x1 x2 x3 x4 x5).slo, (nMade (xq.setWidth 64) x1 x2 x3 x4 x5).shi⟩ ⟨(nMade (xq.setWidth 64) x1 x2 x3 x4 x5).tv, (nMade (xq.setWidth 64) x1 x2 x3 x4 x5).tm, (nMade (xq.setWidth 64) x1 x2 x3 x4 x5).lo, (nMade (xq.setWidth 64) x1 x2 x3 x4 x5).hi, (nMade (xq.setWidth 64) x1 x2 x3 x4 x5).slo, (nMade (xq.setWidth 64) x1 x2 x3 x4 x5).shi⟩ = true := nMade_self _ _ _ _ _ _
  repeat' (first
    | (with_reducible apply Given.mk; first | exact absC (by decide) | refine dropC (by decide) ?_ | (intro h; (try exact no2 h (by with_reducible assumption)); (try exact no2 (by with_reducible assumption) h); (try simp only [hN, bne, mhas, mval, mput, beq_self_eq_true, xor1, BitVec.sle_refl', List.length, Bool.and_true, Bool.and_false, Bool.true_and, Bool.false_and, Bool.or_true, Bool.true_or, Bool.or_false, Bool.false_or, Bool.not_true, Bool.not_false, Bool.not_not, Bool.false_eq_true, Bool.true_eq_false, if_true, if_false, ite_true, ite_false, reduceCtorEq] at h); (try exact absurd h (by decide)); (try exact no2 h (by with_reducible assumption)); (try exact no2 (by with_reducible assumption) h)))
    | ((conv => whnf); with_reducible apply Both.mk))
  all_goals first
    | (with_reducible apply Ob.mk; simp only [mput, List.length]; decide)
    | (with_reducible apply Ob.mk; kernel_rfl)
    | (with_reducible apply Ob.mk; decide)
    | ((conv => whnf); refine ⟨?_⟩; first | with_reducible rfl | (refine congrArg (fun v => AV.one (.bool v)) ?_; first | rfl | (simp only [hN, *, bne, mhas, mval, mput, beq_self_eq_true, xor1, BitVec.sle_refl', List.length, Bool.and_true, Bool.and_false, Bool.true_and, Bool.false_and, Bool.or_true, Bool.true_or, Bool.or_false, Bool.false_or, Bool.not_true, Bool.not_false, Bool.not_not, Bool.false_eq_true, Bool.true_eq_false, if_true, if_false, ite_true, ite_false, reduceCtorEq]; done) | (simp [hN, *]; done)))
    | ((conv => whnf); skip)
set_option maxRecDepth 100000 in
set_option maxHeartbeats 8000000 in
theorem KI_7 (m : Nat → Nat) (xp xj xo xs : BitVec 64) (xq : BitVec 32) (x1 x2 x3 x4 x5 : BitVec 64) (yk yp yj yo ys : BitVec 64) (yq : BitVec 32) (y1 y2 y3 y4 y5 : BitVec 64) : F Tryd.prog (tabI Tryd.prog (DS m) tb_firewalllaw18_points FK 4) Tryd.f4 [.agg [.b64 true 7#64, .b64 true xp, .b64 true xj, .b64 true xo, .b64 true xs, .b32 false xq, .b64 false x1, .b64 false x2, .b64 false x3, .b64 false x4, .b64 false x5], .agg [.b64 true yk, .b64 true yp, .b64 true yj, .b64 true yo, .b64 true ys, .b32 false yq, .b64 false y1, .b64 false y2, .b64 false y3, .b64 false y4, .b64 false y5]] (fun r => r = .one (.bool true)) := by
  have hN : nIn ⟨(nMade (xq.setWidth 64) x1 x2 x3 x4 x5).tv, (nMade (xq.setWidth 64) x1 x2 x3 x4 x5).tm, (nMade (xq.setWidth 64) x1 x2 x3 x4 x5).lo, (nMade (xq.setWidth 64) x1 x2 x3 x4 x5).hi, (nMade (xq.setWidth 64) x1 x2 x3 x4 x5).slo, (nMade (xq.setWidth 64) x1 x2 x3 x4 x5).shi⟩ ⟨(nMade (xq.setWidth 64) x1 x2 x3 x4 x5).tv, (nMade (xq.setWidth 64) x1 x2 x3 x4 x5).tm, (nMade (xq.setWidth 64) x1 x2 x3 x4 x5).lo, (nMade (xq.setWidth 64) x1 x2 x3 x4 x5).hi, (nMade (xq.setWidth 64) x1 x2 x3 x4 x5).slo, (nMade (xq.setWidth 64) x1 x2 x3 x4 x5).shi⟩ = true := nMade_self _ _ _ _ _ _
  repeat' (first
    | (with_reducible apply Given.mk; first | exact absC (by decide) | refine dropC (by decide) ?_ | (intro h; (try exact no2 h (by with_reducible assumption)); (try exact no2 (by with_reducible assumption) h); (try simp only [hN, bne, mhas, mval, mput, beq_self_eq_true, xor1, BitVec.sle_refl', List.length, Bool.and_true, Bool.and_false, Bool.true_and, Bool.false_and, Bool.or_true, Bool.true_or, Bool.or_false, Bool.false_or, Bool.not_true, Bool.not_false, Bool.not_not, Bool.false_eq_true, Bool.true_eq_false, if_true, if_false, ite_true, ite_false, reduceCtorEq] at h); (try exact absurd h (by decide)); (try exact no2 h (by with_reducible assumption)); (try exact no2 (by with_reducible assumption) h)))
    | ((conv => whnf); with_reducible apply Both.mk))
  all_goals first
    | (with_reducible apply Ob.mk; simp only [mput, List.length]; decide)
    | (with_reducible apply Ob.mk; kernel_rfl)
    | (with_reducible apply Ob.mk; decide)
    | ((conv => whnf); refine ⟨?_⟩; first | with_reducible rfl | (refine congrArg (fun v => AV.one (.bool v)) ?_; first | rfl | (simp only [hN, *, bne, mhas, mval, mput, beq_self_eq_true, xor1, BitVec.sle_refl', List.length, Bool.and_true, Bool.and_false, Bool.true_and, Bool.false_and, Bool.or_true, Bool.true_or, Bool.or_false, Bool.false_or, Bool.not_true, Bool.not_false, Bool.not_not, Bool.false_eq_true, Bool.true_eq_false, if_true, if_false, ite_true, ite_false, reduceCtorEq]; done) | (simp [hN, *]; done)))
    | ((conv => whnf); skip)
set_option maxRecDepth 100000 in
set_option maxHeartbeats 8000000 in
theorem KI_n (m : Nat → Nat) (ak : BitVec 64) (xp xj xo xs : BitVec 64) (xq : BitVec 32) (x1 x2 x3 x4 x5 : BitVec 64) (yk yp yj yo ys : BitVec 64) (yq : BitVec 32) (y1 y2 y3 y4 y5 : BitVec 64) (h0 : (ak == 0#64) = false) (h1 : (ak == 1#64) = false) (h6 : (ak == 6#64) = false) (h7 : (ak == 7#64) = false) : F Tryd.prog (tabI Tryd.prog (DS m) tb_firewalllaw18_points FK 4) Tryd.f4 [.agg [.b64 true ak, .b64 true xp, .b64 true xj, .b64 true xo, .b64 true xs, .b32 false xq, .b64 false x1, .b64 false x2, .b64 false x3, .b64 false x4, .b64 false x5], .agg [.b64 true yk, .b64 true yp, .b64 true yj, .b64 true yo, .b64 true ys, .b32 false yq, .b64 false y1, .b64 false y2, .b64 false y3, .b64 false y4, .b64 false y5]] (fun r => r = .one (.bool true)) := by
  have hN : nIn ⟨(nMade (xq.setWidth 64) x1 x2 x3 x4 x5).tv, (nMade (xq.setWidth 64) x1 x2 x3 x4 x5).tm, (nMade (xq.setWidth 64) x1 x2 x3 x4 x5).lo, (nMade (xq.setWidth 64) x1 x2 x3 x4 x5).hi, (nMade (xq.setWidth 64) x1 x2 x3 x4 x5).slo, (nMade (xq.setWidth 64) x1 x2 x3 x4 x5).shi⟩ ⟨(nMade (xq.setWidth 64) x1 x2 x3 x4 x5).tv, (nMade (xq.setWidth 64) x1 x2 x3 x4 x5).tm, (nMade (xq.setWidth 64) x1 x2 x3 x4 x5).lo, (nMade (xq.setWidth 64) x1 x2 x3 x4 x5).hi, (nMade (xq.setWidth 64) x1 x2 x3 x4 x5).slo, (nMade (xq.setWidth 64) x1 x2 x3 x4 x5).shi⟩ = true := nMade_self _ _ _ _ _ _
  repeat' (first
    | (with_reducible apply Given.mk; first | exact absC (by decide) | refine dropC (by decide) ?_ | (intro h; (try exact no2 h (by with_reducible assumption)); (try exact no2 (by with_reducible assumption) h); (try simp only [hN, h0, h1, h6, h7, bne, mhas, mval, mput, beq_self_eq_true, xor1, BitVec.sle_refl', List.length, Bool.and_true, Bool.and_false, Bool.true_and, Bool.false_and, Bool.or_true, Bool.true_or, Bool.or_false, Bool.false_or, Bool.not_true, Bool.not_false, Bool.not_not, Bool.false_eq_true, Bool.true_eq_false, if_true, if_false, ite_true, ite_false, reduceCtorEq] at h); (try exact absurd h (by decide)); (try exact no2 h (by with_reducible assumption)); (try exact no2 (by with_reducible assumption) h)))
    | ((conv => whnf); with_reducible apply Both.mk))
  all_goals first
    | (with_reducible apply Ob.mk; simp only [mput, List.length]; decide)
    | (with_reducible apply Ob.mk; kernel_rfl)
    | (with_reducible apply Ob.mk; decide)
    | ((conv => whnf); refine ⟨?_⟩; first | with_reducible rfl | (refine congrArg (fun v => AV.one (.bool v)) ?_; first | rfl | (simp only [hN, h0, h1, h6, h7, *, bne, mhas, mval, mput, beq_self_eq_true, xor1, BitVec.sle_refl', List.length, Bool.and_true, Bool.and_false, Bool.true_and, Bool.false_and, Bool.or_true, Bool.true_or, Bool.or_false, Bool.false_or, Bool.not_true, Bool.not_false, Bool.not_not, Bool.false_eq_true, Bool.true_eq_false, if_true, if_false, ite_true, ite_false, reduceCtorEq]; done) | (simp [hN, h0, h1, h6, h7, *]; done)))
    | ((conv => whnf); skip)
set_option maxRecDepth 100000 in
set_option maxHeartbeats 8000000 in
theorem KindsIn_main (m : Nat → Nat) (ak : BitVec 64) (xp xj xo xs : BitVec 64) (xq : BitVec 32) (x1 x2 x3 x4 x5 : BitVec 64) (yk yp yj yo ys : BitVec 64) (yq : BitVec 32) (y1 y2 y3 y4 y5 : BitVec 64) : F Tryd.prog (tabI Tryd.prog (DS m) tb_firewalllaw18_points FK 4) Tryd.f4 [.agg [.b64 true ak, .b64 true xp, .b64 true xj, .b64 true xo, .b64 true xs, .b32 false xq, .b64 false x1, .b64 false x2, .b64 false x3, .b64 false x4, .b64 false x5], .agg [.b64 true yk, .b64 true yp, .b64 true yj, .b64 true yo, .b64 true ys, .b32 false yq, .b64 false y1, .b64 false y2, .b64 false y3, .b64 false y4, .b64 false y5]] (fun r => r = .one (.bool true)) := by
  by_cases e0 : ak = 0#64
  · subst e0; exact KI_0 m xp xj xo xs xq x1 x2 x3 x4 x5 yk yp yj yo ys yq y1 y2 y3 y4 y5
  by_cases e1 : ak = 1#64
  · subst e1; exact KI_1 m xp xj xo xs xq x1 x2 x3 x4 x5 yk yp yj yo ys yq y1 y2 y3 y4 y5
  by_cases e6 : ak = 6#64
  · subst e6; exact KI_6 m xp xj xo xs xq x1 x2 x3 x4 x5 yk yp yj yo ys yq y1 y2 y3 y4 y5
  by_cases e7 : ak = 7#64
  · subst e7; exact KI_7 m xp xj xo xs xq x1 x2 x3 x4 x5 yk yp yj yo ys yq y1 y2 y3 y4 y5
  exact KI_n m ak xp xj xo xs xq x1 x2 x3 x4 x5 yk yp yj yo ys yq y1 y2 y3 y4 y5 (by simpa using e0) (by simpa using e1) (by simpa using e6) (by simpa using e7)

theorem sure_le (a b : BitVec 16) : ((if b.ult a then b else a).setWidth 64).sle ((if a.ult b then b else a).setWidth 64) = true := by
  have h : ∀ x : BitVec 16, (x.setWidth 64).toInt = (x.toNat : Int) := by
    intro x
    have := x.isLt
    rw [BitVec.toInt_eq_toNat_of_lt (by simp; omega)]
    simp; omega
  rw [BitVec.sle_iff_toInt_le, h, h]
  by_cases h1 : b.ult a = true <;> by_cases h2 : a.ult b = true <;> simp only [h1, h2, if_true, if_false, Bool.false_eq_true] <;> simp [BitVec.ult] at h1 h2 <;> omega
theorem nIn_const (a : NN) (v : BitVec 64) : nIn a (nConst v) = a.has v := by
  simp [nIn, tIn, sIn, nConst, NN.has, NN.s, SS.has]
theorem any_no (v : BitVec 64) : nIn (nConst v) nAny = false := by
  have : ((~~~0#64 : BitVec 64) &&& ~~~0#64 == 0#64) = false := by decide
  simp only [nIn, tIn, nConst, nAny, nMk, this, Bool.false_and]
theorem and_in (n : BitVec 64) : nIn (nDo 80#8 true nAny (nConst n)) (nConst n) = true := by
  rw [nIn_const]
  have := nDo_has (a := nAny) (b := nConst n) (x := n) (y := n) 80#8 true (nAny_has n) (nConst_has n)
  simpa [rDoW, rDo] using this
theorem and_no (n : BitVec 64) (hn : n ≠ 0#64) : nIn (nConst n) (nDo 80#8 true nAny (nConst n)) = false := by
  have h0 := nDo_has (a := nAny) (b := nConst n) (x := 0#64) (y := n) 80#8 true (nAny_has 0#64) (nConst_has n)
  have h0 : (nDo 80#8 true nAny (nConst n)).has 0#64 = true := by simpa [rDoW, rDo] using h0
  generalize nDo 80#8 true nAny (nConst n) = c at h0 ⊢
  cases h : nIn (nConst n) c with
  | false => rfl
  | true =>
    exfalso
    simp only [nIn, tIn, tHas, nConst, Bool.and_eq_true, beq_iff_eq] at h
    simp only [NN.has, tHas, Bool.and_eq_true, beq_iff_eq] at h0
    obtain ⟨⟨h1, h2⟩, -⟩ := h
    have h3 := h0.1
    apply hn
    rw [← h2, ← h3]
    simp
set_option maxRecDepth 100000 in
set_option maxHeartbeats 8000000 in
theorem KindsLess_main (m : Nat → Nat) (s0 s1 : BitVec 16) (n : BitVec 32) : F Tryd.prog (tabI Tryd.prog (DS m) tb_firewalllaw18_points FK 4) Tryd.f5 [.agg [.b16 false s0, .b16 false s1], .one (.b32 false n)] (fun r => r = .one (.bool true)) := by
  have hS := sure_le s0 s1
  have hA1 : nIn ⟨nAny.tv, nAny.tm, nAny.lo, nAny.hi, nAny.slo, nAny.shi⟩ ⟨(nConst (n.setWidth 64)).tv, (nConst (n.setWidth 64)).tm, (nConst (n.setWidth 64)).lo, (nConst (n.setWidth 64)).hi, (nConst (n.setWidth 64)).slo, (nConst (n.setWidth 64)).shi⟩ = true := (nIn_const nAny (n.setWidth 64)).trans (nAny_has _)
  have hA2 : nIn ⟨(nConst (n.setWidth 64)).tv, (nConst (n.setWidth 64)).tm, (nConst (n.setWidth 64)).lo, (nConst (n.setWidth 64)).hi, (nConst (n.setWidth 64)).slo, (nConst (n.setWidth 64)).shi⟩ ⟨nAny.tv, nAny.tm, nAny.lo, nAny.hi, nAny.slo, nAny.shi⟩ = false := any_no (n.setWidth 64)
  have hC1 : nIn ⟨(nDo 80#8 true nAny (nConst (n.setWidth 64))).tv, (nDo 80#8 true nAny (nConst (n.setWidth 64))).tm, (nDo 80#8 true nAny (nConst (n.setWidth 64))).lo, (nDo 80#8 true nAny (nConst (n.setWidth 64))).hi, (nDo 80#8 true nAny (nConst (n.setWidth 64))).slo, (nDo 80#8 true nAny (nConst (n.setWidth 64))).shi⟩ ⟨(nConst (n.setWidth 64)).tv, (nConst (n.setWidth 64)).tm, (nConst (n.setWidth 64)).lo, (nConst (n.setWidth 64)).hi, (nConst (n.setWidth 64)).slo, (nConst (n.setWidth 64)).shi⟩ = true := and_in (n.setWidth 64)
  have hC2 : (n == 0#32) = false → nIn ⟨(nConst (n.setWidth 64)).tv, (nConst (n.setWidth 64)).tm, (nConst (n.setWidth 64)).lo, (nConst (n.setWidth 64)).hi, (nConst (n.setWidth 64)).slo, (nConst (n.setWidth 64)).shi⟩ ⟨(nDo 80#8 true nAny (nConst (n.setWidth 64))).tv, (nDo 80#8 true nAny (nConst (n.setWidth 64))).tm, (nDo 80#8 true nAny (nConst (n.setWidth 64))).lo, (nDo 80#8 true nAny (nConst (n.setWidth 64))).hi, (nDo 80#8 true nAny (nConst (n.setWidth 64))).slo, (nDo 80#8 true nAny (nConst (n.setWidth 64))).shi⟩ = false := fun h => and_no (n.setWidth 64) (fun e => by
    have h : n ≠ 0#32 := by simpa using h
    apply h
    apply BitVec.eq_of_toNat_eq
    have h2 := congrArg BitVec.toNat e
    rw [BitVec.toNat_setWidth] at h2
    have h4 := n.isLt
    have h3 : n.toNat % 2 ^ 64 = 0 := h2
    show n.toNat = 0
    omega)
  cases hn : (n == 0#32)
  all_goals (try have hC3 := hC2 hn)
  all_goals (
    repeat' (first
      | (with_reducible apply Given.mk; first | exact absC (by decide) | refine dropC (by decide) ?_ | (intro h; (try exact no2 h (by with_reducible assumption)); (try exact no2 (by with_reducible assumption) h); (try simp only [hn, hS, hA1, hA2, hC1, hC3, bne, mhas, mval, mput, beq_self_eq_true, xor1, BitVec.sle_refl', List.length, Bool.and_true, Bool.and_false, Bool.true_and, Bool.false_and, Bool.or_true, Bool.true_or, Bool.or_false, Bool.false_or, Bool.not_true, Bool.not_false, Bool.not_not, Bool.false_eq_true, Bool.true_eq_false, if_true, if_false, ite_true, ite_false, reduceCtorEq] at h); (try simp only [hn, hS, hA1, hA2, hC1, bne, mhas, mval, mput, beq_self_eq_true, xor1, BitVec.sle_refl', List.length, Bool.and_true, Bool.and_false, Bool.true_and, Bool.false_and, Bool.or_true, Bool.true_or, Bool.or_false, Bool.false_or, Bool.not_true, Bool.not_false, Bool.not_not, Bool.false_eq_true, Bool.true_eq_false, if_true, if_false, ite_true, ite_false, reduceCtorEq] at h)))
      | ((conv => whnf); with_reducible apply Both.mk))
    all_goals first
      | (with_reducible apply Ob.mk; kernel_rfl)
      | (with_reducible apply Ob.mk; decide)
      | ((conv => whnf); refine ⟨?_⟩; first | with_reducible rfl | (refine congrArg (fun v => AV.one (.bool v)) ?_; first | rfl | (simp only [hn, hS, hA1, hA2, hC1, hC3, bne, mhas, mval, mput, beq_self_eq_true, xor1, BitVec.sle_refl', List.length, Bool.and_true, Bool.and_false, Bool.true_and, Bool.false_and, Bool.or_true, Bool.true_or, Bool.or_false, Bool.false_or, Bool.not_true, Bool.not_false, Bool.not_not, Bool.false_eq_true, Bool.true_eq_false, if_true, if_false, ite_true, ite_false, reduceCtorEq]; done) | (simp [*]; done)))
      | ((conv => whnf); skip))
end Go.Proofs.YtkmggidgfkchfaaDoor
