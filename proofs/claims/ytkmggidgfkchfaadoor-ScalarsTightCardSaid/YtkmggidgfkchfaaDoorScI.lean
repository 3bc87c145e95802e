/-
  ScalarsTight: the maths. Conditions: as typed.
-/
import Derived.Test.YtkmggidgfkchfaaDoorScH
namespace Go.Proofs.YtkmggidgfkchfaaDoor
open Go.Ev Go.RowKit
set_option linter.unusedVariables false
set_option linter.unusedSimpArgs false

theorem tIn_iff (a b c d : BitVec 64) : tIn a b c d = true ↔ ∀ j, j < 64 → (d.getLsbD j = true → b.getLsbD j = true) ∧ a.getLsbD j = (c.getLsbD j && !b.getLsbD j) := by
  rw [tIn, Bool.and_eq_true, has_iff]
  constructor
  · rintro ⟨h1, h2⟩ j hj
    refine ⟨fun h => ?_, h2 j hj⟩
    have e := congrArg (fun x => x.getLsbD j) (eq_of_beq h1)
    simp only [BitVec.getLsbD_and, BitVec.getLsbD_not, BitVec.getLsbD_zero, hj, decide_true, Bool.true_and, h] at e
    cases hb : b.getLsbD j
    · rw [hb] at e; cases e
    · rfl
  · intro h
    refine ⟨?_, fun j hj => (h j hj).2⟩
    rw [beq_iff_eq]
    apply BitVec.eq_of_getLsbD_eq
    intro j hj
    simp only [BitVec.getLsbD_and, BitVec.getLsbD_not, BitVec.getLsbD_zero, hj, decide_true, Bool.true_and]
    have := (h j hj).1
    cases hd : d.getLsbD j
    · rfl
    · rw [this hd]; rfl
theorem tIn_trans {a b c d e f : BitVec 64} (h : tIn a b c d = true) (h' : tIn c d e f = true) : tIn a b e f = true := by
  rw [tIn_iff] at *
  intro j hj
  obtain ⟨h1, h2⟩ := h j hj
  obtain ⟨h3, h4⟩ := h' j hj
  refine ⟨fun x => h1 (h3 x), ?_⟩
  rw [h2, h4]
  cases hb : b.getLsbD j <;> cases hd : d.getLsbD j <;> simp_all
theorem tBothOk_iff (a b c d : BitVec 64) : tBothOk a b c d = true ↔ ∀ j, j < 64 → b.getLsbD j = false → d.getLsbD j = false → a.getLsbD j = c.getLsbD j := by
  rw [tBothOk, beq_iff_eq]
  constructor
  · intro h j hj hb hd
    have e := congrArg (fun x => x.getLsbD j) h
    simp only [BitVec.getLsbD_and, BitVec.getLsbD_xor, BitVec.getLsbD_not, BitVec.getLsbD_zero, hj, decide_true, Bool.true_and, hb, hd, Bool.not_false, Bool.and_true] at e
    cases ha : a.getLsbD j <;> cases hc : c.getLsbD j <;> simp_all
  · intro h
    apply BitVec.eq_of_getLsbD_eq
    intro j hj
    simp only [BitVec.getLsbD_and, BitVec.getLsbD_xor, BitVec.getLsbD_not, BitVec.getLsbD_zero, hj, decide_true, Bool.true_and]
    have := h j hj
    cases hb : b.getLsbD j <;> cases hd : d.getLsbD j <;> simp_all
theorem both_in {a b c d : BitVec 64} (hv : tValid a b = true) (hv' : tValid c d = true) (h : tBothOk a b c d = true) : tIn a b (tBothV a b c d) (tBothM a b c d) = true := by
  rw [tIn_iff]
  rw [valid_iff] at hv hv'
  rw [tBothOk_iff] at h
  intro j hj
  have h1 := hv j hj
  have h2 := hv' j hj
  have h3 := h j hj
  simp only [tBothV, tBothM, BitVec.getLsbD_and, BitVec.getLsbD_or, BitVec.getLsbD_not, hj, decide_true, Bool.true_and]
  generalize a.getLsbD j = p at *
  generalize b.getLsbD j = q at *
  generalize c.getLsbD j = r at *
  generalize d.getLsbD j = s at *
  revert h1 h2 h3
  revert p q r s
  decide
theorem nR_valid (a : NN) : tValid (nRv a) (nRm a) = true := by
  unfold nRv nRm
  rw [valid_iff]
  intro j hj
  split
  · simp
  · rw [BitVec.getLsbD_and, BitVec.getLsbD_not]
    simp only [hj, decide_true, Bool.true_and]
    cases (belowB ((nBy a).lo ^^^ (nBy a).hi)).getLsbD j <;> simp
theorem n1_in {a : NN} (hv : tValid a.tv a.tm = true) (h : nOk1 a = true) : nIn a (n1 a) = true ∧ tValid (n1 a).tv (n1 a).tm = true := by
  rw [nOk1, Bool.and_eq_true] at h
  refine ⟨?_, both_valid _ _ _ _⟩
  rw [nIn, Bool.and_eq_true]
  exact ⟨both_in hv (nR_valid a) h.2, in_trans (meet_inL a.s _) (tight_in h.1)⟩
theorem nTight_in {a : NN} (h : nOk a = true) : nIn a (nTight a) = true := by
  have e := h
  rw [nOk, Bool.and_eq_true, Bool.and_eq_true] at h
  obtain ⟨⟨h1, h2⟩, h3⟩ := h
  obtain ⟨h4, h5⟩ := n1_in h1 h2
  obtain ⟨h6, -⟩ := n1_in h5 h3
  rw [nTight, if_pos e]
  rw [nIn, Bool.and_eq_true] at *
  exact ⟨tIn_trans h4.1 h6.1, in_trans h4.2 h6.2⟩
end Go.Proofs.YtkmggidgfkchfaaDoor
