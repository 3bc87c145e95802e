/-
  ScalarsExact and ScalarsTight: the maths, and what the evaluator leaves of them. Conditions: as typed.
-/
import Derived.Test.YtkmggidgfkchfaaDoorScG
namespace Go.Proofs.YtkmggidgfkchfaaDoor
open Go.Ev Go.RowKit
set_option linter.unusedVariables false
set_option linter.unusedSimpArgs false

theorem only_one {n : NN} {v : BitVec 64} (h : n.has v = true) (hm : n.tm = 0#64) : n.tv = v := (const_only ((nhas_iff _ _).1 h).1 hm).1
theorem n1_tm {a : NN} (h : a.tm = 0#64) : (n1 a).tm = 0#64 := by
  show a.tm &&& nRm a = 0#64
  rw [h, BitVec.zero_and]
theorem nTt_tm {a : NN} (h : a.tm = 0#64) : (nTt a).tm = 0#64 := by
  unfold nTt nTight
  split
  · exact n1_tm (n1_tm h)
  · exact h
def exactO (o : BitVec 8) : Bool := o == 0#8 || o == 16#8 || o == 32#8 || o == 64#8 || o == 80#8 || o == 160#8 || o == 176#8 || o == 128#8
theorem exact_cases : ∀ o : BitVec 8, exactO o = true → (opH o || o == 128#8 || o == 176#8) = true := by decide +kernel
theorem addM0 (x y : BitVec 64) : tAddM x 0#64 y 0#64 = 0#64 := by
  unfold tAddM; rw [BitVec.add_zero, BitVec.add_zero, BitVec.xor_self, BitVec.or_zero, BitVec.or_zero]
theorem subM0 (x y : BitVec 64) : tSubM x 0#64 y 0#64 = 0#64 := by
  unfold tSubM; rw [BitVec.add_zero, BitVec.sub_zero, BitVec.xor_self, BitVec.or_zero, BitVec.or_zero]
theorem orM0 (x y : BitVec 64) : tOrM x 0#64 y 0#64 = 0#64 := by
  unfold tOrM; rw [BitVec.or_zero, BitVec.zero_and]
theorem xorM0 : (0#64 ||| 0#64) = 0#64 := rfl
theorem andM0 (x y : BitVec 64) : tAndM x 0#64 y 0#64 = 0#64 := by
  unfold tAndM; rw [BitVec.or_zero, BitVec.or_zero]
  apply BitVec.eq_of_getLsbD_eq
  intro j hj
  simp only [BitVec.getLsbD_and, BitVec.getLsbD_not, BitVec.getLsbD_zero]
  cases x.getLsbD j <;> cases y.getLsbD j <;> simp
theorem nOp_tm (o : BitVec 8) (x y : BitVec 64) (h : exactO o = true) (ho : opH o = true) : (nOp o (nConst x) (nConst y)).tm = 0#64 := by
  refine nTt_tm ?_
  show (tOp o (nConst x) (nConst y)).2 = 0#64
  rcases op_cases o ho with rfl | rfl | rfl | rfl | rfl | rfl | rfl | rfl
  · exact addM0 x y
  · exact subM0 x y
  · exact mulC_mask x y 64
  · exact absurd h (by decide)
  · exact orM0 x y
  · exact andM0 x y
  · exact absurd h (by decide)
  · exact xorM0
theorem nWhole_tm (o : BitVec 8) (x y : BitVec 64) (h : exactO o = true) : (nWhole o (nConst x) (nConst y)).tm = 0#64 := by
  unfold nWhole
  split
  · rename_i ho; exact nOp_tm o x y h ho
  split
  · exact nOp_tm 16#8 0#64 x rfl rfl
  split
  · rfl
  split
  · rename_i h1 h2 h3 h4
    rw [Bool.and_eq_true] at h4
    have h5 : o = 96#8 ∨ o = 112#8 ∨ o = 192#8 := by simpa [or_assoc] using h4.2
    rcases h5 with rfl | rfl | rfl <;> exact absurd h (by decide)
  · rename_i h1 h2 h3 h4
    have e := exact_cases o h
    rw [Bool.or_eq_true, Bool.or_eq_true] at e
    rcases e with (e | e) | e
    · exact absurd e h1
    · exact absurd e h2
    · exact absurd e h3
theorem nDo_exact (o : BitVec 8) (x y : BitVec 64) (h : exactO o = true) : (nDo o true (nConst x) (nConst y)).tm = 0#64 ∧ (nDo o true (nConst x) (nConst y)).tv = rDoW o true x y := by
  have e : (nDo o true (nConst x) (nConst y)).tm = 0#64 := nWhole_tm o x y h
  exact ⟨e, only_one (nDo_has o true (nConst_has x) (nConst_has y)) e⟩

set_option maxRecDepth 100000 in
set_option maxHeartbeats 4000000 in
theorem ScalarsExact_main (m : Nat → Nat) (x y : BitVec 64) : F Tryd.prog (tab (DS m) tb_firewalllaw17_sums) Tryd.f8 [.one (.b64 false x), .one (.b64 false y)] (fun r => r = .one (.bool true)) := by
  obtain ⟨a1, c1⟩ := nDo_exact 0#8 x y rfl
  obtain ⟨a2, c2⟩ := nDo_exact 16#8 x y rfl
  obtain ⟨a3, c3⟩ := nDo_exact 32#8 x y rfl
  obtain ⟨a4, c4⟩ := nDo_exact 64#8 x y rfl
  obtain ⟨a5, c5⟩ := nDo_exact 80#8 x y rfl
  obtain ⟨a6, c6⟩ := nDo_exact 160#8 x y rfl
  obtain ⟨a7, c7⟩ := nDo_exact 176#8 x y rfl
  obtain ⟨a8, c8⟩ := nDo_exact 128#8 x y rfl
  repeat' (first
    | (with_reducible apply Given.mk; intro h; (try simp only [nn_eta, a1, a2, a3, a4, a5, a6, a7, a8, c1, c2, c3, c4, c5, c6, c7, c8, beq_self_eq_true, bne_self_eq_false, if_true, Bool.not_true, Bool.not_false, Bool.false_eq_true, Bool.true_eq_false, reduceCtorEq] at h); (try exact absurd h (by decide)))
    | ((conv => whnf); first | with_reducible apply Both.mk | refine LoopP.times 9 ?_))
  all_goals first
    | (with_reducible apply Ob.mk; kernel_rfl)
    | (with_reducible apply Ob.mk; decide)
    | (with_reducible apply Ob.mk; rfl)
    | ((conv => whnf); exact ⟨rfl⟩)
end Go.Proofs.YtkmggidgfkchfaaDoor
