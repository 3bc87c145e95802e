/-
  Spans as numbers: what is drawn together has what was there. Conditions: none.
-/
import Derived.Test.YtkmggidgfkchfaaDoorSqS
namespace Go.Proofs.YtkmggidgfkchfaaDoor
set_option linter.unusedVariables false
set_option linter.unusedSimpArgs false

def sg (x : BitVec 64) : Nat := (x.toNat + 9223372036854775808) % 18446744073709551616
theorem sg_cases (x : BitVec 64) : (x.toNat < 9223372036854775808 ∧ sg x = x.toNat + 9223372036854775808) ∨ (9223372036854775808 ≤ x.toNat ∧ x.toNat < 18446744073709551616 ∧ sg x = x.toNat - 9223372036854775808) := by
  have := x.isLt
  unfold sg
  omega
theorem sg_lt (x : BitVec 64) : sg x < 18446744073709551616 := by unfold sg; omega
theorem sg_sub (v d : BitVec 64) (h : d.toNat ≤ sg v) : sg (v - d) = sg v - d.toNat := by
  have := v.isLt; have := d.isLt
  have e : (v - d).toNat = (18446744073709551616 - d.toNat + v.toNat) % 18446744073709551616 := BitVec.toNat_sub _ _
  have h1 := sg_cases v; have h2 := sg_cases (v - d)
  rw [e] at h2
  generalize v.toNat = V at *; generalize d.toNat = D at *; generalize sg v = sv at *; generalize sg (v - d) = sd at *
  omega
theorem sg_add (v d : BitVec 64) (h : sg v + d.toNat < 18446744073709551616) : sg (v + d) = sg v + d.toNat := by
  have := v.isLt; have := d.isLt
  have e : (v + d).toNat = (v.toNat + d.toNat) % 18446744073709551616 := BitVec.toNat_add _ _
  have h1 := sg_cases v; have h2 := sg_cases (v + d)
  rw [e] at h2
  generalize v.toNat = V at *; generalize d.toNat = D at *; generalize sg v = sv at *; generalize sg (v + d) = sd at *
  omega
theorem ule_nat (x y : BitVec 64) : x.ule y = true ↔ x.toNat ≤ y.toNat := by simp [BitVec.ule]
theorem ult_nat (x y : BitVec 64) : x.ult y = true ↔ x.toNat < y.toNat := by simp [BitVec.ult]
theorem sg_int (x : BitVec 64) : (sg x : Int) = x.toInt + 9223372036854775808 := by
  have := x.isLt
  rw [BitVec.toInt_eq_toNat_cond]
  split <;> simp only [sg] <;> omega
theorem sle_nat (x y : BitVec 64) : x.sle y = true ↔ sg x ≤ sg y := by
  rw [BitVec.sle_iff_toInt_le]
  have := sg_int x; have := sg_int y
  omega
theorem slt_nat (x y : BitVec 64) : x.slt y = true ↔ sg x < sg y := by
  rw [BitVec.slt_iff_toInt_lt]
  have := sg_int x; have := sg_int y
  omega
theorem shas_iff (s : SS) (v : BitVec 64) : s.has v = true ↔ s.lo.toNat ≤ v.toNat ∧ v.toNat ≤ s.hi.toNat ∧ sg s.slo ≤ sg v ∧ sg v ≤ sg s.shi := by
  simp only [SS.has, Bool.and_eq_true, ule_nat, sle_nat, and_assoc]
theorem svalid_iff (s : SS) : s.valid = true ↔ s.lo.toNat ≤ s.hi.toNat ∧ sg s.slo ≤ sg s.shi := by
  simp only [SS.valid, Bool.and_eq_true, ule_nat, sle_nat]
theorem sin_iff (a b : SS) : sIn a b = true ↔ a.lo.toNat ≤ b.lo.toNat ∧ b.hi.toNat ≤ a.hi.toNat ∧ sg a.slo ≤ sg b.slo ∧ sg b.shi ≤ sg a.shi := by
  simp only [sIn, Bool.and_eq_true, ule_nat, sle_nat, and_assoc]
theorem umax_nat (x y : BitVec 64) : (umax x y).toNat = max x.toNat y.toNat := by
  unfold umax; split <;> rename_i h <;> rw [ult_nat] at h <;> omega
theorem umin_nat (x y : BitVec 64) : (umin x y).toNat = min x.toNat y.toNat := by
  unfold umin; split <;> rename_i h <;> rw [ult_nat] at h <;> omega
theorem smax_nat (x y : BitVec 64) : sg (smax x y) = max (sg x) (sg y) := by
  unfold smax; split <;> rename_i h <;> rw [slt_nat] at h <;> omega
theorem smin_nat (x y : BitVec 64) : sg (smin x y) = min (sg x) (sg y) := by
  unfold smin; split <;> rename_i h <;> rw [slt_nat] at h <;> omega
theorem shas_valid {s : SS} {v : BitVec 64} (h : s.has v = true) : s.valid = true := by
  rw [shas_iff] at h; rw [svalid_iff]; omega
theorem sg_zero : sg 0#64 = 9223372036854775808 := rfl
theorem step1_has {s : SS} {v : BitVec 64} (h : s.has v = true) : (step1 s).has v = true := by
  unfold step1
  split
  · rename_i h1
    rw [sle_nat] at h1
    rw [shas_iff] at h ⊢
    simp only [smax_nat, smin_nat, Nat.max_le, Nat.le_min]
    obtain ⟨a, b, c, d⟩ := h
    have key : sg s.lo ≤ sg v ∧ sg v ≤ sg s.hi := by
      have k1 := sg_cases s.lo; have k2 := sg_cases v; have k3 := sg_cases s.hi
      clear c d
      omega
    exact ⟨a, b, ⟨c, key.1⟩, d, key.2⟩
  · exact h
theorem step2_has {s : SS} {v : BitVec 64} (h : s.has v = true) : (step2 s).has v = true := by
  unfold step2
  split
  · rename_i h1
    rw [Bool.or_eq_true, sle_nat, slt_nat, sg_zero] at h1
    rw [shas_iff] at h ⊢
    simp only [umax_nat, umin_nat, Nat.max_le, Nat.le_min]
    obtain ⟨a, b, c, d⟩ := h
    have key : s.slo.toNat ≤ v.toNat ∧ v.toNat ≤ s.shi.toNat := by
      have k1 := sg_cases s.slo; have k2 := sg_cases v; have k3 := sg_cases s.shi
      clear a b
      omega
    exact ⟨⟨a, key.1⟩, ⟨b, key.2⟩, c, d⟩
  · exact h
theorem step1_in (s : SS) : sIn s (step1 s) = true := by
  unfold step1
  split <;> rw [sin_iff] <;> (try simp only [smax_nat, smin_nat]) <;> omega
theorem step2_in (s : SS) : sIn s (step2 s) = true := by
  unfold step2
  split <;> rw [sin_iff] <;> (try simp only [umax_nat, umin_nat]) <;> omega
theorem in_trans {a b c : SS} (h : sIn a b = true) (h' : sIn b c = true) : sIn a c = true := by
  rw [sin_iff] at *; omega
theorem ok_has {s : SS} {v : BitVec 64} (h : s.has v = true) : sOk s = true := by
  unfold sOk; rw [shas_valid h, shas_valid (step2_has (step1_has h))]; rfl
theorem tight_has {s : SS} {v : BitVec 64} (h : s.has v = true) : (sTight s).has v = true := by
  unfold sTight; rw [if_pos (ok_has h)]; exact step2_has (step1_has h)
theorem tight_in {s : SS} (h : sOk s = true) : sIn s (sTight s) = true := by
  unfold sTight; rw [if_pos h]; exact in_trans (step1_in _) (step2_in _)
theorem tight_valid {s : SS} (h : sOk s = true) : (sTight s).valid = true := by
  have h2 := h
  unfold sOk at h2
  rw [Bool.and_eq_true] at h2
  unfold sTight; rw [if_pos h]; exact h2.2
theorem tt_has {s : SS} {v : BitVec 64} (h : s.has v = true) : (sTt s).has v = true := by
  unfold sTt; rw [if_pos (ok_has h)]; exact tight_has h
theorem meet_has {a b : SS} {v : BitVec 64} (h : a.has v = true) (h' : b.has v = true) : (sMeet a b).has v = true := by
  rw [shas_iff] at h h' ⊢
  simp only [sMeet, umax_nat, umin_nat, smax_nat, smin_nat, Nat.max_le, Nat.le_min]
  exact ⟨⟨h.1, h'.1⟩, ⟨h.2.1, h'.2.1⟩, ⟨h.2.2.1, h'.2.2.1⟩, h.2.2.2, h'.2.2.2⟩
theorem meet_inL (a b : SS) : sIn a (sMeet a b) = true := by
  rw [sin_iff]; simp only [sMeet, umax_nat, umin_nat, smax_nat, smin_nat]; omega
theorem meet_inR (a b : SS) : sIn b (sMeet a b) = true := by
  rw [sin_iff]; simp only [sMeet, umax_nat, umin_nat, smax_nat, smin_nat]; omega
theorem down_nat (v r : BitVec 64) : (sDown v r).toNat ≤ sg v := by
  unfold sDown
  rw [umin_nat, umin_nat]
  have e : (v - sMin).toNat = sg v := by
    rw [BitVec.toNat_sub]
    unfold sg
    simp only [BitVec.toNat_ofNat]
    omega
  rw [e]
  omega
theorem up_nat (v r : BitVec 64) : sg v + (sUp v r).toNat < 18446744073709551616 := by
  unfold sUp
  rw [umin_nat, umin_nat]
  have e : (sMax - v).toNat = 18446744073709551615 - sg v := by
    have := v.isLt
    rw [BitVec.toNat_sub]
    have h := sg_cases v
    simp only [BitVec.toNat_ofNat]
    omega
  have := sg_lt v
  rw [e]
  omega
theorem smade_has (v p q r s : BitVec 64) : (sMade v p q r s).has v = true := by
  rw [shas_iff]
  have hv := v.isLt
  have h1 := umin_nat v p
  have h2 := umin_nat (~~~v) q
  have h3 := sg_sub v _ (down_nat v r)
  have h4 := sg_add v _ (up_nat v s)
  have e : (~~~v).toNat = 18446744073709551615 - v.toNat := by rw [BitVec.toNat_not]
  rw [e] at h2
  refine ⟨?_, ?_, ?_, ?_⟩
  · show (v - umin v p).toNat ≤ v.toNat
    rw [BitVec.toNat_sub, h1]
    omega
  · show v.toNat ≤ (v + umin (~~~v) q).toNat
    rw [BitVec.toNat_add, h2, Nat.mod_eq_of_lt (by omega)]
    omega
  · show sg (v - sDown v r) ≤ sg v
    omega
  · show sg v ≤ sg (v + sUp v s)
    omega
theorem ss_eta (s : SS) : SS.mk s.lo s.hi s.slo s.shi = s := rfl
end Go.Proofs.YtkmggidgfkchfaaDoor
