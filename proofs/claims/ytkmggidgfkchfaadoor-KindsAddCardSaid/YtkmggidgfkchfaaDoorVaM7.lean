/-
  KindsAdd: the maths, and what the evaluator leaves of it. Conditions: as typed.
-/
import Derived.Test.YtkmggidgfkchfaaDoorVa
namespace Go.Proofs.YtkmggidgfkchfaaDoor
open Go.Ev Go.RowKit
set_option linter.unusedVariables false
set_option linter.unusedSimpArgs false

theorem no2 {p : Bool} {α : Prop} (h : p = true) (h' : p = false) : α := by rw [h] at h'; cases h'
theorem vAdd_c (v : VV) (x a b c d j : BitVec 64) : vAdd v (NN.mk x 0#64 a b c d) j = vFix v x := rfl
theorem vAdd_v (v : VV) (x j : BitVec 64) : vAdd v (nConst x) j = vFix v x := rfl
set_option maxRecDepth 100000 in
set_option maxHeartbeats 4000000 in
theorem K7_n0_a0 (m : Nat → Nat) (p j o s : BitVec 64) (q : BitVec 32) (b1 b2 b3 b4 b5 x c1 c2 c3 c4 c5 : BitVec 64) (hn : (mNear.slt o && o.slt 200000#64) = false) (hA : (vAdd (VV.mk 7#64 p j o s (nMade (q.setWidth 64) b1 b2 b3 b4 b5)) (nMade x c1 c2 c3 c4 c5) 77#64).ok = false) : F Tryd.prog (tab (DS m) tb_firewalllaw18_points) Tryd.f3 [.agg [.b64 true 7#64, .b64 true p, .b64 true j, .b64 true o, .b64 true s, .b32 false q, .b64 false b1, .b64 false b2, .b64 false b3, .b64 false b4, .b64 false b5], .one (.b64 false x), .agg [.b64 false c1, .b64 false c2, .b64 false c3, .b64 false c4, .b64 false c5]] (fun r => r = .one (.bool true)) := by
  repeat' (first
    | (with_reducible apply Given.mk; intro h; (try simp only [hn, hA, nn_eta, vAdd_c, vAdd_v, BEq.rfl, beq_self_eq_true, Bool.not_true, Bool.not_false, Bool.true_and, Bool.and_true, Bool.false_and, Bool.and_false, Bool.true_or, Bool.or_true, Bool.false_or, Bool.or_false, Bool.and_self, if_true, if_false, Bool.false_eq_true, Bool.true_eq_false, eq_self, reduceCtorEq] at h); (try exact absurd h (by decide)); (try exact no2 h (by with_reducible assumption)); (try exact no2 (by with_reducible assumption) h))
    | ((conv => whnf); with_reducible apply Both.mk))
  all_goals first
    | (with_reducible apply Ob.mk; kernel_rfl)
    | (with_reducible apply Ob.mk; decide)
    | ((conv => whnf); exact ⟨rfl⟩)
set_option maxRecDepth 100000 in
set_option maxHeartbeats 4000000 in
theorem K7_n0_a1 (m : Nat → Nat) (p j o s : BitVec 64) (q : BitVec 32) (b1 b2 b3 b4 b5 x c1 c2 c3 c4 c5 : BitVec 64) (hn : (mNear.slt o && o.slt 200000#64) = false) (hA : (vAdd (VV.mk 7#64 p j o s (nMade (q.setWidth 64) b1 b2 b3 b4 b5)) (nMade x c1 c2 c3 c4 c5) 77#64).ok = true) (hT : ((nMade x c1 c2 c3 c4 c5).tm == 0#64) = true) : F Tryd.prog (tab (DS m) tb_firewalllaw18_points) Tryd.f3 [.agg [.b64 true 7#64, .b64 true p, .b64 true j, .b64 true o, .b64 true s, .b32 false q, .b64 false b1, .b64 false b2, .b64 false b3, .b64 false b4, .b64 false b5], .one (.b64 false x), .agg [.b64 false c1, .b64 false c2, .b64 false c3, .b64 false c4, .b64 false c5]] (fun r => r = .one (.bool true)) := by
  repeat' (first
    | (with_reducible apply Given.mk; intro h; (try simp only [hn, hA, hT, nn_eta, vAdd_c, vAdd_v, BEq.rfl, beq_self_eq_true, Bool.not_true, Bool.not_false, Bool.true_and, Bool.and_true, Bool.false_and, Bool.and_false, Bool.true_or, Bool.or_true, Bool.false_or, Bool.or_false, Bool.and_self, if_true, if_false, Bool.false_eq_true, Bool.true_eq_false, eq_self, reduceCtorEq] at h); (try exact absurd h (by decide)); (try exact no2 h (by with_reducible assumption)); (try exact no2 (by with_reducible assumption) h))
    | ((conv => whnf); with_reducible apply Both.mk))
  all_goals first
    | (with_reducible apply Ob.mk; kernel_rfl)
    | (with_reducible apply Ob.mk; decide)
    | ((conv => whnf); exact ⟨rfl⟩)
set_option maxRecDepth 100000 in
set_option maxHeartbeats 4000000 in
theorem K7_n0_a2p (m : Nat → Nat) (p j o s : BitVec 64) (q : BitVec 32) (b1 b2 b3 b4 b5 x c1 c2 c3 c4 c5 : BitVec 64) (hn : (mNear.slt o && o.slt 200000#64) = false) (hA : vAdd (VV.mk 7#64 p j o s (nMade (q.setWidth 64) b1 b2 b3 b4 b5)) (nMade x c1 c2 c3 c4 c5) 77#64 = ⟨⟨7#64, p, 77#64, o, 0#64, nDo 0#8 true (nMade (q.setWidth 64) b1 b2 b3 b4 b5) (nMade x c1 c2 c3 c4 c5)⟩, true⟩) (hT : ((nMade x c1 c2 c3 c4 c5).tm == 0#64) = false) (hU : (nDo 0#8 true (nMade (q.setWidth 64) b1 b2 b3 b4 b5) (nMade x c1 c2 c3 c4 c5)).hi.ult 65536#64 = true) (hS : (nDo 0#8 true (nMade (q.setWidth 64) b1 b2 b3 b4 b5) (nMade x c1 c2 c3 c4 c5)).has (q.setWidth 64 + x) = true) : F Tryd.prog (tab (DS m) tb_firewalllaw18_points) Tryd.f3 [.agg [.b64 true 7#64, .b64 true p, .b64 true j, .b64 true o, .b64 true s, .b32 false q, .b64 false b1, .b64 false b2, .b64 false b3, .b64 false b4, .b64 false b5], .one (.b64 false x), .agg [.b64 false c1, .b64 false c2, .b64 false c3, .b64 false c4, .b64 false c5]] (fun r => r = .one (.bool true)) := by
  repeat' (first
    | (with_reducible apply Given.mk; intro h; (try simp only [hn, hA, hT, hU, hS, nn_eta, vAdd_c, vAdd_v, BEq.rfl, beq_self_eq_true, Bool.not_true, Bool.not_false, Bool.true_and, Bool.and_true, Bool.false_and, Bool.and_false, Bool.true_or, Bool.or_true, Bool.false_or, Bool.or_false, Bool.and_self, if_true, if_false, Bool.false_eq_true, Bool.true_eq_false, eq_self, reduceCtorEq] at h); (try exact absurd h (by decide)); (try exact no2 h (by with_reducible assumption)); (try exact no2 (by with_reducible assumption) h))
    | ((conv => whnf); with_reducible apply Both.mk))
  all_goals first
    | (with_reducible apply Ob.mk; kernel_rfl)
    | (with_reducible apply Ob.mk; decide)
    | ((conv => whnf); exact ⟨rfl⟩)
set_option maxRecDepth 100000 in
set_option maxHeartbeats 4000000 in
theorem K7_n1_a0 (m : Nat → Nat) (p j o s : BitVec 64) (q : BitVec 32) (b1 b2 b3 b4 b5 x c1 c2 c3 c4 c5 : BitVec 64) (hn : (mNear.slt o && o.slt 200000#64) = true) (hk : (vFix (VV.mk 7#64 p j o s (nMade (q.setWidth 64) b1 b2 b3 b4 b5)) x).ok = false) (P1 : mFar.slt x = false) (hA : (vAdd (VV.mk 7#64 p j o s (nMade (q.setWidth 64) b1 b2 b3 b4 b5)) (nMade x c1 c2 c3 c4 c5) 77#64).ok = false) : F Tryd.prog (tab (DS m) tb_firewalllaw18_points) Tryd.f3 [.agg [.b64 true 7#64, .b64 true p, .b64 true j, .b64 true o, .b64 true s, .b32 false q, .b64 false b1, .b64 false b2, .b64 false b3, .b64 false b4, .b64 false b5], .one (.b64 false x), .agg [.b64 false c1, .b64 false c2, .b64 false c3, .b64 false c4, .b64 false c5]] (fun r => r = .one (.bool true)) := by
  repeat' (first
    | (with_reducible apply Given.mk; intro h; (try simp only [hn, hk, P1, hA, nn_eta, vAdd_c, vAdd_v, BEq.rfl, beq_self_eq_true, Bool.not_true, Bool.not_false, Bool.true_and, Bool.and_true, Bool.false_and, Bool.and_false, Bool.true_or, Bool.or_true, Bool.false_or, Bool.or_false, Bool.and_self, if_true, if_false, Bool.false_eq_true, Bool.true_eq_false, eq_self, reduceCtorEq] at h); (try exact absurd h (by decide)); (try exact no2 h (by with_reducible assumption)); (try exact no2 (by with_reducible assumption) h))
    | ((conv => whnf); with_reducible apply Both.mk))
  all_goals first
    | (with_reducible apply Ob.mk; kernel_rfl)
    | (with_reducible apply Ob.mk; decide)
    | ((conv => whnf); exact ⟨rfl⟩)
set_option maxRecDepth 100000 in
set_option maxHeartbeats 4000000 in
theorem K7_n1_a1 (m : Nat → Nat) (p j o s : BitVec 64) (q : BitVec 32) (b1 b2 b3 b4 b5 x c1 c2 c3 c4 c5 : BitVec 64) (hn : (mNear.slt o && o.slt 200000#64) = true) (hk : (vFix (VV.mk 7#64 p j o s (nMade (q.setWidth 64) b1 b2 b3 b4 b5)) x).ok = false) (P1 : mFar.slt x = false) (hA : (vAdd (VV.mk 7#64 p j o s (nMade (q.setWidth 64) b1 b2 b3 b4 b5)) (nMade x c1 c2 c3 c4 c5) 77#64).ok = true) (hT : ((nMade x c1 c2 c3 c4 c5).tm == 0#64) = true) : F Tryd.prog (tab (DS m) tb_firewalllaw18_points) Tryd.f3 [.agg [.b64 true 7#64, .b64 true p, .b64 true j, .b64 true o, .b64 true s, .b32 false q, .b64 false b1, .b64 false b2, .b64 false b3, .b64 false b4, .b64 false b5], .one (.b64 false x), .agg [.b64 false c1, .b64 false c2, .b64 false c3, .b64 false c4, .b64 false c5]] (fun r => r = .one (.bool true)) := by
  repeat' (first
    | (with_reducible apply Given.mk; intro h; (try simp only [hn, hk, P1, hA, hT, nn_eta, vAdd_c, vAdd_v, BEq.rfl, beq_self_eq_true, Bool.not_true, Bool.not_false, Bool.true_and, Bool.and_true, Bool.false_and, Bool.and_false, Bool.true_or, Bool.or_true, Bool.false_or, Bool.or_false, Bool.and_self, if_true, if_false, Bool.false_eq_true, Bool.true_eq_false, eq_self, reduceCtorEq] at h); (try exact absurd h (by decide)); (try exact no2 h (by with_reducible assumption)); (try exact no2 (by with_reducible assumption) h))
    | ((conv => whnf); with_reducible apply Both.mk))
  all_goals first
    | (with_reducible apply Ob.mk; kernel_rfl)
    | (with_reducible apply Ob.mk; decide)
    | ((conv => whnf); exact ⟨rfl⟩)
set_option maxRecDepth 100000 in
set_option maxHeartbeats 4000000 in
theorem K7_n1_a2p (m : Nat → Nat) (p j o s : BitVec 64) (q : BitVec 32) (b1 b2 b3 b4 b5 x c1 c2 c3 c4 c5 : BitVec 64) (hn : (mNear.slt o && o.slt 200000#64) = true) (hk : (vFix (VV.mk 7#64 p j o s (nMade (q.setWidth 64) b1 b2 b3 b4 b5)) x).ok = false) (P1 : mFar.slt x = false) (hA : vAdd (VV.mk 7#64 p j o s (nMade (q.setWidth 64) b1 b2 b3 b4 b5)) (nMade x c1 c2 c3 c4 c5) 77#64 = ⟨⟨7#64, p, 77#64, o, 0#64, nDo 0#8 true (nMade (q.setWidth 64) b1 b2 b3 b4 b5) (nMade x c1 c2 c3 c4 c5)⟩, true⟩) (hT : ((nMade x c1 c2 c3 c4 c5).tm == 0#64) = false) (hU : (nDo 0#8 true (nMade (q.setWidth 64) b1 b2 b3 b4 b5) (nMade x c1 c2 c3 c4 c5)).hi.ult 65536#64 = true) (hS : (nDo 0#8 true (nMade (q.setWidth 64) b1 b2 b3 b4 b5) (nMade x c1 c2 c3 c4 c5)).has (q.setWidth 64 + x) = true) : F Tryd.prog (tab (DS m) tb_firewalllaw18_points) Tryd.f3 [.agg [.b64 true 7#64, .b64 true p, .b64 true j, .b64 true o, .b64 true s, .b32 false q, .b64 false b1, .b64 false b2, .b64 false b3, .b64 false b4, .b64 false b5], .one (.b64 false x), .agg [.b64 false c1, .b64 false c2, .b64 false c3, .b64 false c4, .b64 false c5]] (fun r => r = .one (.bool true)) := by
  repeat' (first
    | (with_reducible apply Given.mk; intro h; (try simp only [hn, hk, P1, hA, hT, hU, hS, nn_eta, vAdd_c, vAdd_v, BEq.rfl, beq_self_eq_true, Bool.not_true, Bool.not_false, Bool.true_and, Bool.and_true, Bool.false_and, Bool.and_false, Bool.true_or, Bool.or_true, Bool.false_or, Bool.or_false, Bool.and_self, if_true, if_false, Bool.false_eq_true, Bool.true_eq_false, eq_self, reduceCtorEq] at h); (try exact absurd h (by decide)); (try exact no2 h (by with_reducible assumption)); (try exact no2 (by with_reducible assumption) h))
    | ((conv => whnf); with_reducible apply Both.mk))
  all_goals first
    | (with_reducible apply Ob.mk; kernel_rfl)
    | (with_reducible apply Ob.mk; decide)
    | ((conv => whnf); exact ⟨rfl⟩)
set_option maxRecDepth 100000 in
set_option maxHeartbeats 4000000 in
theorem K7_n2_a0 (m : Nat → Nat) (p j o s : BitVec 64) (q : BitVec 32) (b1 b2 b3 b4 b5 x c1 c2 c3 c4 c5 : BitVec 64) (hn : (mNear.slt o && o.slt 200000#64) = true) (hk : (vFix (VV.mk 7#64 p j o s (nMade (q.setWidth 64) b1 b2 b3 b4 b5)) x).ok = false) (P1 : mFar.slt x = true) (P2 : x.slt 65536#64 = false) (hA : (vAdd (VV.mk 7#64 p j o s (nMade (q.setWidth 64) b1 b2 b3 b4 b5)) (nMade x c1 c2 c3 c4 c5) 77#64).ok = false) : F Tryd.prog (tab (DS m) tb_firewalllaw18_points) Tryd.f3 [.agg [.b64 true 7#64, .b64 true p, .b64 true j, .b64 true o, .b64 true s, .b32 false q, .b64 false b1, .b64 false b2, .b64 false b3, .b64 false b4, .b64 false b5], .one (.b64 false x), .agg [.b64 false c1, .b64 false c2, .b64 false c3, .b64 false c4, .b64 false c5]] (fun r => r = .one (.bool true)) := by
  repeat' (first
    | (with_reducible apply Given.mk; intro h; (try simp only [hn, hk, P1, P2, hA, nn_eta, vAdd_c, vAdd_v, BEq.rfl, beq_self_eq_true, Bool.not_true, Bool.not_false, Bool.true_and, Bool.and_true, Bool.false_and, Bool.and_false, Bool.true_or, Bool.or_true, Bool.false_or, Bool.or_false, Bool.and_self, if_true, if_false, Bool.false_eq_true, Bool.true_eq_false, eq_self, reduceCtorEq] at h); (try exact absurd h (by decide)); (try exact no2 h (by with_reducible assumption)); (try exact no2 (by with_reducible assumption) h))
    | ((conv => whnf); with_reducible apply Both.mk))
  all_goals first
    | (with_reducible apply Ob.mk; kernel_rfl)
    | (with_reducible apply Ob.mk; decide)
    | ((conv => whnf); exact ⟨rfl⟩)
set_option maxRecDepth 100000 in
set_option maxHeartbeats 4000000 in
theorem K7_n2_a1 (m : Nat → Nat) (p j o s : BitVec 64) (q : BitVec 32) (b1 b2 b3 b4 b5 x c1 c2 c3 c4 c5 : BitVec 64) (hn : (mNear.slt o && o.slt 200000#64) = true) (hk : (vFix (VV.mk 7#64 p j o s (nMade (q.setWidth 64) b1 b2 b3 b4 b5)) x).ok = false) (P1 : mFar.slt x = true) (P2 : x.slt 65536#64 = false) (hA : (vAdd (VV.mk 7#64 p j o s (nMade (q.setWidth 64) b1 b2 b3 b4 b5)) (nMade x c1 c2 c3 c4 c5) 77#64).ok = true) (hT : ((nMade x c1 c2 c3 c4 c5).tm == 0#64) = true) : F Tryd.prog (tab (DS m) tb_firewalllaw18_points) Tryd.f3 [.agg [.b64 true 7#64, .b64 true p, .b64 true j, .b64 true o, .b64 true s, .b32 false q, .b64 false b1, .b64 false b2, .b64 false b3, .b64 false b4, .b64 false b5], .one (.b64 false x), .agg [.b64 false c1, .b64 false c2, .b64 false c3, .b64 false c4, .b64 false c5]] (fun r => r = .one (.bool true)) := by
  repeat' (first
    | (with_reducible apply Given.mk; intro h; (try simp only [hn, hk, P1, P2, hA, hT, nn_eta, vAdd_c, vAdd_v, BEq.rfl, beq_self_eq_true, Bool.not_true, Bool.not_false, Bool.true_and, Bool.and_true, Bool.false_and, Bool.and_false, Bool.true_or, Bool.or_true, Bool.false_or, Bool.or_false, Bool.and_self, if_true, if_false, Bool.false_eq_true, Bool.true_eq_false, eq_self, reduceCtorEq] at h); (try exact absurd h (by decide)); (try exact no2 h (by with_reducible assumption)); (try exact no2 (by with_reducible assumption) h))
    | ((conv => whnf); with_reducible apply Both.mk))
  all_goals first
    | (with_reducible apply Ob.mk; kernel_rfl)
    | (with_reducible apply Ob.mk; decide)
    | ((conv => whnf); exact ⟨rfl⟩)
set_option maxRecDepth 100000 in
set_option maxHeartbeats 4000000 in
theorem K7_n2_a2p (m : Nat → Nat) (p j o s : BitVec 64) (q : BitVec 32) (b1 b2 b3 b4 b5 x c1 c2 c3 c4 c5 : BitVec 64) (hn : (mNear.slt o && o.slt 200000#64) = true) (hk : (vFix (VV.mk 7#64 p j o s (nMade (q.setWidth 64) b1 b2 b3 b4 b5)) x).ok = false) (P1 : mFar.slt x = true) (P2 : x.slt 65536#64 = false) (hA : vAdd (VV.mk 7#64 p j o s (nMade (q.setWidth 64) b1 b2 b3 b4 b5)) (nMade x c1 c2 c3 c4 c5) 77#64 = ⟨⟨7#64, p, 77#64, o, 0#64, nDo 0#8 true (nMade (q.setWidth 64) b1 b2 b3 b4 b5) (nMade x c1 c2 c3 c4 c5)⟩, true⟩) (hT : ((nMade x c1 c2 c3 c4 c5).tm == 0#64) = false) (hU : (nDo 0#8 true (nMade (q.setWidth 64) b1 b2 b3 b4 b5) (nMade x c1 c2 c3 c4 c5)).hi.ult 65536#64 = true) (hS : (nDo 0#8 true (nMade (q.setWidth 64) b1 b2 b3 b4 b5) (nMade x c1 c2 c3 c4 c5)).has (q.setWidth 64 + x) = true) : F Tryd.prog (tab (DS m) tb_firewalllaw18_points) Tryd.f3 [.agg [.b64 true 7#64, .b64 true p, .b64 true j, .b64 true o, .b64 true s, .b32 false q, .b64 false b1, .b64 false b2, .b64 false b3, .b64 false b4, .b64 false b5], .one (.b64 false x), .agg [.b64 false c1, .b64 false c2, .b64 false c3, .b64 false c4, .b64 false c5]] (fun r => r = .one (.bool true)) := by
  repeat' (first
    | (with_reducible apply Given.mk; intro h; (try simp only [hn, hk, P1, P2, hA, hT, hU, hS, nn_eta, vAdd_c, vAdd_v, BEq.rfl, beq_self_eq_true, Bool.not_true, Bool.not_false, Bool.true_and, Bool.and_true, Bool.false_and, Bool.and_false, Bool.true_or, Bool.or_true, Bool.false_or, Bool.or_false, Bool.and_self, if_true, if_false, Bool.false_eq_true, Bool.true_eq_false, eq_self, reduceCtorEq] at h); (try exact absurd h (by decide)); (try exact no2 h (by with_reducible assumption)); (try exact no2 (by with_reducible assumption) h))
    | ((conv => whnf); with_reducible apply Both.mk))
  all_goals first
    | (with_reducible apply Ob.mk; kernel_rfl)
    | (with_reducible apply Ob.mk; decide)
    | ((conv => whnf); exact ⟨rfl⟩)
set_option maxRecDepth 100000 in
set_option maxHeartbeats 4000000 in
theorem K7_n3_a0 (m : Nat → Nat) (p j o s : BitVec 64) (q : BitVec 32) (b1 b2 b3 b4 b5 x c1 c2 c3 c4 c5 : BitVec 64) (hn : (mNear.slt o && o.slt 200000#64) = true) (hk : (vFix (VV.mk 7#64 p j o s (nMade (q.setWidth 64) b1 b2 b3 b4 b5)) x).ok = false) (P1 : mFar.slt x = true) (P2 : x.slt 65536#64 = true) (Q1 : mFar.slt (o + x) = false) (hA : (vAdd (VV.mk 7#64 p j o s (nMade (q.setWidth 64) b1 b2 b3 b4 b5)) (nMade x c1 c2 c3 c4 c5) 77#64).ok = false) : F Tryd.prog (tab (DS m) tb_firewalllaw18_points) Tryd.f3 [.agg [.b64 true 7#64, .b64 true p, .b64 true j, .b64 true o, .b64 true s, .b32 false q, .b64 false b1, .b64 false b2, .b64 false b3, .b64 false b4, .b64 false b5], .one (.b64 false x), .agg [.b64 false c1, .b64 false c2, .b64 false c3, .b64 false c4, .b64 false c5]] (fun r => r = .one (.bool true)) := by
  repeat' (first
    | (with_reducible apply Given.mk; intro h; (try simp only [hn, hk, P1, P2, Q1, hA, nn_eta, vAdd_c, vAdd_v, BEq.rfl, beq_self_eq_true, Bool.not_true, Bool.not_false, Bool.true_and, Bool.and_true, Bool.false_and, Bool.and_false, Bool.true_or, Bool.or_true, Bool.false_or, Bool.or_false, Bool.and_self, if_true, if_false, Bool.false_eq_true, Bool.true_eq_false, eq_self, reduceCtorEq] at h); (try exact absurd h (by decide)); (try exact no2 h (by with_reducible assumption)); (try exact no2 (by with_reducible assumption) h))
    | ((conv => whnf); with_reducible apply Both.mk))
  all_goals first
    | (with_reducible apply Ob.mk; kernel_rfl)
    | (with_reducible apply Ob.mk; decide)
    | ((conv => whnf); exact ⟨rfl⟩)
set_option maxRecDepth 100000 in
set_option maxHeartbeats 4000000 in
theorem K7_n3_a1 (m : Nat → Nat) (p j o s : BitVec 64) (q : BitVec 32) (b1 b2 b3 b4 b5 x c1 c2 c3 c4 c5 : BitVec 64) (hn : (mNear.slt o && o.slt 200000#64) = true) (hk : (vFix (VV.mk 7#64 p j o s (nMade (q.setWidth 64) b1 b2 b3 b4 b5)) x).ok = false) (P1 : mFar.slt x = true) (P2 : x.slt 65536#64 = true) (Q1 : mFar.slt (o + x) = false) (hA : (vAdd (VV.mk 7#64 p j o s (nMade (q.setWidth 64) b1 b2 b3 b4 b5)) (nMade x c1 c2 c3 c4 c5) 77#64).ok = true) (hT : ((nMade x c1 c2 c3 c4 c5).tm == 0#64) = true) : F Tryd.prog (tab (DS m) tb_firewalllaw18_points) Tryd.f3 [.agg [.b64 true 7#64, .b64 true p, .b64 true j, .b64 true o, .b64 true s, .b32 false q, .b64 false b1, .b64 false b2, .b64 false b3, .b64 false b4, .b64 false b5], .one (.b64 false x), .agg [.b64 false c1, .b64 false c2, .b64 false c3, .b64 false c4, .b64 false c5]] (fun r => r = .one (.bool true)) := by
  repeat' (first
    | (with_reducible apply Given.mk; intro h; (try simp only [hn, hk, P1, P2, Q1, hA, hT, nn_eta, vAdd_c, vAdd_v, BEq.rfl, beq_self_eq_true, Bool.not_true, Bool.not_false, Bool.true_and, Bool.and_true, Bool.false_and, Bool.and_false, Bool.true_or, Bool.or_true, Bool.false_or, Bool.or_false, Bool.and_self, if_true, if_false, Bool.false_eq_true, Bool.true_eq_false, eq_self, reduceCtorEq] at h); (try exact absurd h (by decide)); (try exact no2 h (by with_reducible assumption)); (try exact no2 (by with_reducible assumption) h))
    | ((conv => whnf); with_reducible apply Both.mk))
  all_goals first
    | (with_reducible apply Ob.mk; kernel_rfl)
    | (with_reducible apply Ob.mk; decide)
    | ((conv => whnf); exact ⟨rfl⟩)
set_option maxRecDepth 100000 in
set_option maxHeartbeats 4000000 in
theorem K7_n3_a2p (m : Nat → Nat) (p j o s : BitVec 64) (q : BitVec 32) (b1 b2 b3 b4 b5 x c1 c2 c3 c4 c5 : BitVec 64) (hn : (mNear.slt o && o.slt 200000#64) = true) (hk : (vFix (VV.mk 7#64 p j o s (nMade (q.setWidth 64) b1 b2 b3 b4 b5)) x).ok = false) (P1 : mFar.slt x = true) (P2 : x.slt 65536#64 = true) (Q1 : mFar.slt (o + x) = false) (hA : vAdd (VV.mk 7#64 p j o s (nMade (q.setWidth 64) b1 b2 b3 b4 b5)) (nMade x c1 c2 c3 c4 c5) 77#64 = ⟨⟨7#64, p, 77#64, o, 0#64, nDo 0#8 true (nMade (q.setWidth 64) b1 b2 b3 b4 b5) (nMade x c1 c2 c3 c4 c5)⟩, true⟩) (hT : ((nMade x c1 c2 c3 c4 c5).tm == 0#64) = false) (hU : (nDo 0#8 true (nMade (q.setWidth 64) b1 b2 b3 b4 b5) (nMade x c1 c2 c3 c4 c5)).hi.ult 65536#64 = true) (hS : (nDo 0#8 true (nMade (q.setWidth 64) b1 b2 b3 b4 b5) (nMade x c1 c2 c3 c4 c5)).has (q.setWidth 64 + x) = true) : F Tryd.prog (tab (DS m) tb_firewalllaw18_points) Tryd.f3 [.agg [.b64 true 7#64, .b64 true p, .b64 true j, .b64 true o, .b64 true s, .b32 false q, .b64 false b1, .b64 false b2, .b64 false b3, .b64 false b4, .b64 false b5], .one (.b64 false x), .agg [.b64 false c1, .b64 false c2, .b64 false c3, .b64 false c4, .b64 false c5]] (fun r => r = .one (.bool true)) := by
  repeat' (first
    | (with_reducible apply Given.mk; intro h; (try simp only [hn, hk, P1, P2, Q1, hA, hT, hU, hS, nn_eta, vAdd_c, vAdd_v, BEq.rfl, beq_self_eq_true, Bool.not_true, Bool.not_false, Bool.true_and, Bool.and_true, Bool.false_and, Bool.and_false, Bool.true_or, Bool.or_true, Bool.false_or, Bool.or_false, Bool.and_self, if_true, if_false, Bool.false_eq_true, Bool.true_eq_false, eq_self, reduceCtorEq] at h); (try exact absurd h (by decide)); (try exact no2 h (by with_reducible assumption)); (try exact no2 (by with_reducible assumption) h))
    | ((conv => whnf); with_reducible apply Both.mk))
  all_goals first
    | (with_reducible apply Ob.mk; kernel_rfl)
    | (with_reducible apply Ob.mk; decide)
    | ((conv => whnf); exact ⟨rfl⟩)
set_option maxRecDepth 100000 in
set_option maxHeartbeats 4000000 in
theorem K7_n4_a0 (m : Nat → Nat) (p j o s : BitVec 64) (q : BitVec 32) (b1 b2 b3 b4 b5 x c1 c2 c3 c4 c5 : BitVec 64) (hn : (mNear.slt o && o.slt 200000#64) = true) (hk : (vFix (VV.mk 7#64 p j o s (nMade (q.setWidth 64) b1 b2 b3 b4 b5)) x).ok = false) (P1 : mFar.slt x = true) (P2 : x.slt 65536#64 = true) (Q1 : mFar.slt (o + x) = true) (Q2 : (o + x).slt 65536#64 = false) (hA : (vAdd (VV.mk 7#64 p j o s (nMade (q.setWidth 64) b1 b2 b3 b4 b5)) (nMade x c1 c2 c3 c4 c5) 77#64).ok = false) : F Tryd.prog (tab (DS m) tb_firewalllaw18_points) Tryd.f3 [.agg [.b64 true 7#64, .b64 true p, .b64 true j, .b64 true o, .b64 true s, .b32 false q, .b64 false b1, .b64 false b2, .b64 false b3, .b64 false b4, .b64 false b5], .one (.b64 false x), .agg [.b64 false c1, .b64 false c2, .b64 false c3, .b64 false c4, .b64 false c5]] (fun r => r = .one (.bool true)) := by
  repeat' (first
    | (with_reducible apply Given.mk; intro h; (try simp only [hn, hk, P1, P2, Q1, Q2, hA, nn_eta, vAdd_c, vAdd_v, BEq.rfl, beq_self_eq_true, Bool.not_true, Bool.not_false, Bool.true_and, Bool.and_true, Bool.false_and, Bool.and_false, Bool.true_or, Bool.or_true, Bool.false_or, Bool.or_false, Bool.and_self, if_true, if_false, Bool.false_eq_true, Bool.true_eq_false, eq_self, reduceCtorEq] at h); (try exact absurd h (by decide)); (try exact no2 h (by with_reducible assumption)); (try exact no2 (by with_reducible assumption) h))
    | ((conv => whnf); with_reducible apply Both.mk))
  all_goals first
    | (with_reducible apply Ob.mk; kernel_rfl)
    | (with_reducible apply Ob.mk; decide)
    | ((conv => whnf); exact ⟨rfl⟩)
set_option maxRecDepth 100000 in
set_option maxHeartbeats 4000000 in
theorem K7_n4_a1 (m : Nat → Nat) (p j o s : BitVec 64) (q : BitVec 32) (b1 b2 b3 b4 b5 x c1 c2 c3 c4 c5 : BitVec 64) (hn : (mNear.slt o && o.slt 200000#64) = true) (hk : (vFix (VV.mk 7#64 p j o s (nMade (q.setWidth 64) b1 b2 b3 b4 b5)) x).ok = false) (P1 : mFar.slt x = true) (P2 : x.slt 65536#64 = true) (Q1 : mFar.slt (o + x) = true) (Q2 : (o + x).slt 65536#64 = false) (hA : (vAdd (VV.mk 7#64 p j o s (nMade (q.setWidth 64) b1 b2 b3 b4 b5)) (nMade x c1 c2 c3 c4 c5) 77#64).ok = true) (hT : ((nMade x c1 c2 c3 c4 c5).tm == 0#64) = true) : F Tryd.prog (tab (DS m) tb_firewalllaw18_points) Tryd.f3 [.agg [.b64 true 7#64, .b64 true p, .b64 true j, .b64 true o, .b64 true s, .b32 false q, .b64 false b1, .b64 false b2, .b64 false b3, .b64 false b4, .b64 false b5], .one (.b64 false x), .agg [.b64 false c1, .b64 false c2, .b64 false c3, .b64 false c4, .b64 false c5]] (fun r => r = .one (.bool true)) := by
  repeat' (first
    | (with_reducible apply Given.mk; intro h; (try simp only [hn, hk, P1, P2, Q1, Q2, hA, hT, nn_eta, vAdd_c, vAdd_v, BEq.rfl, beq_self_eq_true, Bool.not_true, Bool.not_false, Bool.true_and, Bool.and_true, Bool.false_and, Bool.and_false, Bool.true_or, Bool.or_true, Bool.false_or, Bool.or_false, Bool.and_self, if_true, if_false, Bool.false_eq_true, Bool.true_eq_false, eq_self, reduceCtorEq] at h); (try exact absurd h (by decide)); (try exact no2 h (by with_reducible assumption)); (try exact no2 (by with_reducible assumption) h))
    | ((conv => whnf); with_reducible apply Both.mk))
  all_goals first
    | (with_reducible apply Ob.mk; kernel_rfl)
    | (with_reducible apply Ob.mk; decide)
    | ((conv => whnf); exact ⟨rfl⟩)
set_option maxRecDepth 100000 in
set_option maxHeartbeats 4000000 in
theorem K7_n4_a2p (m : Nat → Nat) (p j o s : BitVec 64) (q : BitVec 32) (b1 b2 b3 b4 b5 x c1 c2 c3 c4 c5 : BitVec 64) (hn : (mNear.slt o && o.slt 200000#64) = true) (hk : (vFix (VV.mk 7#64 p j o s (nMade (q.setWidth 64) b1 b2 b3 b4 b5)) x).ok = false) (P1 : mFar.slt x = true) (P2 : x.slt 65536#64 = true) (Q1 : mFar.slt (o + x) = true) (Q2 : (o + x).slt 65536#64 = false) (hA : vAdd (VV.mk 7#64 p j o s (nMade (q.setWidth 64) b1 b2 b3 b4 b5)) (nMade x c1 c2 c3 c4 c5) 77#64 = ⟨⟨7#64, p, 77#64, o, 0#64, nDo 0#8 true (nMade (q.setWidth 64) b1 b2 b3 b4 b5) (nMade x c1 c2 c3 c4 c5)⟩, true⟩) (hT : ((nMade x c1 c2 c3 c4 c5).tm == 0#64) = false) (hU : (nDo 0#8 true (nMade (q.setWidth 64) b1 b2 b3 b4 b5) (nMade x c1 c2 c3 c4 c5)).hi.ult 65536#64 = true) (hS : (nDo 0#8 true (nMade (q.setWidth 64) b1 b2 b3 b4 b5) (nMade x c1 c2 c3 c4 c5)).has (q.setWidth 64 + x) = true) : F Tryd.prog (tab (DS m) tb_firewalllaw18_points) Tryd.f3 [.agg [.b64 true 7#64, .b64 true p, .b64 true j, .b64 true o, .b64 true s, .b32 false q, .b64 false b1, .b64 false b2, .b64 false b3, .b64 false b4, .b64 false b5], .one (.b64 false x), .agg [.b64 false c1, .b64 false c2, .b64 false c3, .b64 false c4, .b64 false c5]] (fun r => r = .one (.bool true)) := by
  repeat' (first
    | (with_reducible apply Given.mk; intro h; (try simp only [hn, hk, P1, P2, Q1, Q2, hA, hT, hU, hS, nn_eta, vAdd_c, vAdd_v, BEq.rfl, beq_self_eq_true, Bool.not_true, Bool.not_false, Bool.true_and, Bool.and_true, Bool.false_and, Bool.and_false, Bool.true_or, Bool.or_true, Bool.false_or, Bool.or_false, Bool.and_self, if_true, if_false, Bool.false_eq_true, Bool.true_eq_false, eq_self, reduceCtorEq] at h); (try exact absurd h (by decide)); (try exact no2 h (by with_reducible assumption)); (try exact no2 (by with_reducible assumption) h))
    | ((conv => whnf); with_reducible apply Both.mk))
  all_goals first
    | (with_reducible apply Ob.mk; kernel_rfl)
    | (with_reducible apply Ob.mk; decide)
    | ((conv => whnf); exact ⟨rfl⟩)
set_option maxRecDepth 100000 in
set_option maxHeartbeats 4000000 in
theorem K7_n5_a0 (m : Nat → Nat) (p j o s : BitVec 64) (q : BitVec 32) (b1 b2 b3 b4 b5 x c1 c2 c3 c4 c5 : BitVec 64) (hn : (mNear.slt o && o.slt 200000#64) = true) (P1 : mFar.slt x = true) (P2 : x.slt 65536#64 = true) (Q1 : mFar.slt (o + x) = true) (Q2 : (o + x).slt 65536#64 = true) (hk : vFix (VV.mk 7#64 p j o s (nMade (q.setWidth 64) b1 b2 b3 b4 b5)) x = ⟨⟨7#64, p, j, o + x, s, (nMade (q.setWidth 64) b1 b2 b3 b4 b5)⟩, true⟩) (e1 : x.slt mFar = false) (e2 : (65536#64).slt x = false) (hA : (vAdd (VV.mk 7#64 p j o s (nMade (q.setWidth 64) b1 b2 b3 b4 b5)) (nMade x c1 c2 c3 c4 c5) 77#64).ok = false) : F Tryd.prog (tab (DS m) tb_firewalllaw18_points) Tryd.f3 [.agg [.b64 true 7#64, .b64 true p, .b64 true j, .b64 true o, .b64 true s, .b32 false q, .b64 false b1, .b64 false b2, .b64 false b3, .b64 false b4, .b64 false b5], .one (.b64 false x), .agg [.b64 false c1, .b64 false c2, .b64 false c3, .b64 false c4, .b64 false c5]] (fun r => r = .one (.bool true)) := by
  repeat' (first
    | (with_reducible apply Given.mk; intro h; (try simp only [hn, P1, P2, Q1, Q2, hk, e1, e2, hA, nn_eta, vAdd_c, vAdd_v, BEq.rfl, beq_self_eq_true, Bool.not_true, Bool.not_false, Bool.true_and, Bool.and_true, Bool.false_and, Bool.and_false, Bool.true_or, Bool.or_true, Bool.false_or, Bool.or_false, Bool.and_self, if_true, if_false, Bool.false_eq_true, Bool.true_eq_false, eq_self, reduceCtorEq] at h); (try exact absurd h (by decide)); (try exact no2 h (by with_reducible assumption)); (try exact no2 (by with_reducible assumption) h))
    | ((conv => whnf); with_reducible apply Both.mk))
  all_goals first
    | (with_reducible apply Ob.mk; kernel_rfl)
    | (with_reducible apply Ob.mk; decide)
    | ((conv => whnf); exact ⟨rfl⟩)
set_option maxRecDepth 100000 in
set_option maxHeartbeats 4000000 in
theorem K7_n5_a1 (m : Nat → Nat) (p j o s : BitVec 64) (q : BitVec 32) (b1 b2 b3 b4 b5 x c1 c2 c3 c4 c5 : BitVec 64) (hn : (mNear.slt o && o.slt 200000#64) = true) (P1 : mFar.slt x = true) (P2 : x.slt 65536#64 = true) (Q1 : mFar.slt (o + x) = true) (Q2 : (o + x).slt 65536#64 = true) (hk : vFix (VV.mk 7#64 p j o s (nMade (q.setWidth 64) b1 b2 b3 b4 b5)) x = ⟨⟨7#64, p, j, o + x, s, (nMade (q.setWidth 64) b1 b2 b3 b4 b5)⟩, true⟩) (e1 : x.slt mFar = false) (e2 : (65536#64).slt x = false) (hA : (vAdd (VV.mk 7#64 p j o s (nMade (q.setWidth 64) b1 b2 b3 b4 b5)) (nMade x c1 c2 c3 c4 c5) 77#64).ok = true) (hT : ((nMade x c1 c2 c3 c4 c5).tm == 0#64) = true) : F Tryd.prog (tab (DS m) tb_firewalllaw18_points) Tryd.f3 [.agg [.b64 true 7#64, .b64 true p, .b64 true j, .b64 true o, .b64 true s, .b32 false q, .b64 false b1, .b64 false b2, .b64 false b3, .b64 false b4, .b64 false b5], .one (.b64 false x), .agg [.b64 false c1, .b64 false c2, .b64 false c3, .b64 false c4, .b64 false c5]] (fun r => r = .one (.bool true)) := by
  repeat' (first
    | (with_reducible apply Given.mk; intro h; (try simp only [hn, P1, P2, Q1, Q2, hk, e1, e2, hA, hT, nn_eta, vAdd_c, vAdd_v, BEq.rfl, beq_self_eq_true, Bool.not_true, Bool.not_false, Bool.true_and, Bool.and_true, Bool.false_and, Bool.and_false, Bool.true_or, Bool.or_true, Bool.false_or, Bool.or_false, Bool.and_self, if_true, if_false, Bool.false_eq_true, Bool.true_eq_false, eq_self, reduceCtorEq] at h); (try exact absurd h (by decide)); (try exact no2 h (by with_reducible assumption)); (try exact no2 (by with_reducible assumption) h))
    | ((conv => whnf); with_reducible apply Both.mk))
  all_goals first
    | (with_reducible apply Ob.mk; kernel_rfl)
    | (with_reducible apply Ob.mk; decide)
    | ((conv => whnf); exact ⟨rfl⟩)
set_option maxRecDepth 100000 in
set_option maxHeartbeats 4000000 in
theorem K7_n5_a2p (m : Nat → Nat) (p j o s : BitVec 64) (q : BitVec 32) (b1 b2 b3 b4 b5 x c1 c2 c3 c4 c5 : BitVec 64) (hn : (mNear.slt o && o.slt 200000#64) = true) (P1 : mFar.slt x = true) (P2 : x.slt 65536#64 = true) (Q1 : mFar.slt (o + x) = true) (Q2 : (o + x).slt 65536#64 = true) (hk : vFix (VV.mk 7#64 p j o s (nMade (q.setWidth 64) b1 b2 b3 b4 b5)) x = ⟨⟨7#64, p, j, o + x, s, (nMade (q.setWidth 64) b1 b2 b3 b4 b5)⟩, true⟩) (e1 : x.slt mFar = false) (e2 : (65536#64).slt x = false) (hA : vAdd (VV.mk 7#64 p j o s (nMade (q.setWidth 64) b1 b2 b3 b4 b5)) (nMade x c1 c2 c3 c4 c5) 77#64 = ⟨⟨7#64, p, 77#64, o, 0#64, nDo 0#8 true (nMade (q.setWidth 64) b1 b2 b3 b4 b5) (nMade x c1 c2 c3 c4 c5)⟩, true⟩) (hT : ((nMade x c1 c2 c3 c4 c5).tm == 0#64) = false) (hU : (nDo 0#8 true (nMade (q.setWidth 64) b1 b2 b3 b4 b5) (nMade x c1 c2 c3 c4 c5)).hi.ult 65536#64 = true) (hS : (nDo 0#8 true (nMade (q.setWidth 64) b1 b2 b3 b4 b5) (nMade x c1 c2 c3 c4 c5)).has (q.setWidth 64 + x) = true) : F Tryd.prog (tab (DS m) tb_firewalllaw18_points) Tryd.f3 [.agg [.b64 true 7#64, .b64 true p, .b64 true j, .b64 true o, .b64 true s, .b32 false q, .b64 false b1, .b64 false b2, .b64 false b3, .b64 false b4, .b64 false b5], .one (.b64 false x), .agg [.b64 false c1, .b64 false c2, .b64 false c3, .b64 false c4, .b64 false c5]] (fun r => r = .one (.bool true)) := by
  repeat' (first
    | (with_reducible apply Given.mk; intro h; (try simp only [hn, P1, P2, Q1, Q2, hk, e1, e2, hA, hT, hU, hS, nn_eta, vAdd_c, vAdd_v, BEq.rfl, beq_self_eq_true, Bool.not_true, Bool.not_false, Bool.true_and, Bool.and_true, Bool.false_and, Bool.and_false, Bool.true_or, Bool.or_true, Bool.false_or, Bool.or_false, Bool.and_self, if_true, if_false, Bool.false_eq_true, Bool.true_eq_false, eq_self, reduceCtorEq] at h); (try exact absurd h (by decide)); (try exact no2 h (by with_reducible assumption)); (try exact no2 (by with_reducible assumption) h))
    | ((conv => whnf); with_reducible apply Both.mk))
  all_goals first
    | (with_reducible apply Ob.mk; kernel_rfl)
    | (with_reducible apply Ob.mk; decide)
    | ((conv => whnf); exact ⟨rfl⟩)
end Go.Proofs.YtkmggidgfkchfaaDoor
