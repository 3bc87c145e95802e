/-
  ScalarsTight, as the evaluator leaves it. Conditions: none.
-/
import Derived.Test.YtkmggidgfkchfaaDoorScI
namespace Go.Proofs.YtkmggidgfkchfaaDoor
open Go.Ev Go.RowKit
set_option linter.unusedVariables false
set_option linter.unusedSimpArgs false

theorem bytes_in (n v : BitVec 64) (h : n.slt 0#64 = false) (h' : (8#64).sle n = false) : (nBytes n).has v = (v &&& nMost n == v) := by
  have e : nBytes n = nMk 0#64 (nMost n) (sFrom 0#64 (nMost n)) := by rw [nBytes, h, h']; rfl
  rw [e, Bool.eq_iff_iff, nhas_iff]
  generalize nMost n = m
  show tHas 0#64 m v = true ∧ (sFrom 0#64 m).has v = true ↔ _
  constructor
  · rintro ⟨h1, -⟩
    rw [has_iff] at h1
    rw [beq_iff_eq]
    apply BitVec.eq_of_getLsbD_eq
    intro j hj
    have := h1 j hj
    rw [BitVec.getLsbD_and]
    rw [BitVec.getLsbD_zero] at this
    cases hv : v.getLsbD j <;> cases hm : m.getLsbD j <;> simp_all
  · intro h1
    have h1 := eq_of_beq h1
    refine ⟨?_, from_has (zero_le _) ?_⟩
    · rw [has_iff]
      intro j hj
      have e := congrArg (fun x => x.getLsbD j) h1
      simp only [BitVec.getLsbD_and] at e
      rw [BitVec.getLsbD_zero]
      cases hv : v.getLsbD j <;> cases hm : m.getLsbD j <;> simp_all
    · rw [← h1, BitVec.toNat_and]
      exact Nat.and_le_right
theorem bytes_low (n v : BitVec 64) (h : n.slt 0#64 = false) (h' : (8#64).sle n = false) : (nBytes n).has (v &&& nMost n) = true := by
  rw [bytes_in n _ h h', BitVec.and_assoc, BitVec.and_self]
  exact beq_self_eq_true _
theorem bytes_neg (n v : BitVec 64) (h : n.slt 0#64 = true) : (nBytes n).has v = true := by
  rw [nBytes, h]; exact nAny_has v
theorem bytes_much (n v : BitVec 64) (h : (8#64).sle n = true) : (nBytes n).has v = true := by
  rw [nBytes, h, Bool.or_true]; exact nAny_has v
theorem sle0n (n : BitVec 64) : (0#64).sle n = !(n.slt 0#64) := by
  rw [Bool.eq_iff_iff]
  simp only [BitVec.sle_iff_toInt_le, Bool.not_eq_true', ← Bool.not_eq_true, BitVec.slt_iff_toInt_lt]
  omega
theorem slt8n (n : BitVec 64) : n.slt 8#64 = !((8#64).sle n) := by
  rw [Bool.eq_iff_iff]
  simp only [BitVec.sle_iff_toInt_le, Bool.not_eq_true', ← Bool.not_eq_true, BitVec.slt_iff_toInt_lt]
  omega
theorem eqv (v m : BitVec 64) : (m &&& v == v) = (v &&& m == v) := by rw [BitVec.and_comm]

set_option maxRecDepth 100000 in
set_option maxHeartbeats 4000000 in
theorem ScalarsTight_main (m : Nat → Nat) (v p0 p1 p2 p3 p4 n : BitVec 64) : F Tryd.prog (tab (DS m) tb_firewalllaw17_sums) Tryd.f9 [.one (.b64 false v), .agg [.b64 false p0, .b64 false p1, .b64 false p2, .b64 false p3, .b64 false p4], .one (.b64 true n)] (fun r => r = .one (.bool true)) := by
  have hA := nMade_has v p0 p1 p2 p3 p4
  obtain ⟨hO, hT⟩ := nTight_ok hA
  have hI := nTight_in hO
  have hV := nAny_has v
  cases hs : n.slt 0#64 with
  | true =>
    have hB := bytes_neg n v hs
    repeat' (first
      | (with_reducible apply Given.mk; intro h; (try simp only [nn_eta, hA, hO, hT, hI, hV, hB, hs, sle0n, nConst, beq_self_eq_true, bne_self_eq_false, if_true, Bool.not_true, Bool.not_false, Bool.false_eq_true, Bool.true_eq_false, reduceCtorEq] at h); (try exact absurd h (by decide)))
      | ((conv => whnf); with_reducible apply Both.mk))
    all_goals first
      | (with_reducible apply Ob.mk; kernel_rfl)
      | (with_reducible apply Ob.mk; decide)
      | ((conv => whnf); exact ⟨rfl⟩)
  | false =>
    cases ht : (8#64).sle n with
    | true =>
      have hB := bytes_much n v ht
      repeat' (first
        | (with_reducible apply Given.mk; intro h; (try simp only [nn_eta, hA, hO, hT, hI, hV, hB, hs, ht, sle0n, slt8n, nConst, beq_self_eq_true, bne_self_eq_false, if_true, Bool.not_true, Bool.not_false, Bool.false_eq_true, Bool.true_eq_false, reduceCtorEq] at h); (try exact absurd h (by decide)))
        | ((conv => whnf); with_reducible apply Both.mk))
      all_goals first
        | (with_reducible apply Ob.mk; kernel_rfl)
        | (with_reducible apply Ob.mk; decide)
        | ((conv => whnf); exact ⟨rfl⟩)
    | false =>
      have hB := bytes_low n v hs ht
      have hC := bytes_in n v hs ht
      have hp := most_pos n hs ht
      unfold nMost at hB hC
      repeat' (first
        | (with_reducible apply Given.mk; intro h; (try simp only [nn_eta, hA, hO, hT, hI, hV, hB, hC, hs, ht, sle0n, slt8n, nConst, beq_self_eq_true, bne_self_eq_false, if_true, Bool.not_true, Bool.not_false, Bool.false_eq_true, Bool.true_eq_false, reduceCtorEq] at h); (try exact absurd h (by decide)))
        | ((conv => whnf); with_reducible apply Both.mk))
      all_goals first
        | (with_reducible apply Ob.mk; kernel_rfl)
        | (with_reducible apply Ob.mk; exact hp)
        | (with_reducible apply Ob.mk; decide)
        | ((conv => whnf); exact ⟨rfl⟩)
end Go.Proofs.YtkmggidgfkchfaaDoor
