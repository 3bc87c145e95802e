/-
  Numbers moved up and down, as bit vectors: plain facts, no program in sight. Conditions: as each says.
-/
import Derived.WalkKit
namespace Go.Proofs.Ytaifibnpbkgaiaa
set_option linter.unusedVariables false

theorem back32 (y : BitVec 32) : (y.setWidth 64).setWidth 32 = y := by
  apply BitVec.eq_of_toNat_eq
  have := y.isLt
  simp
theorem sub32 (x y : BitVec 64) : (x - y).setWidth 32 = x.setWidth 32 - y.setWidth 32 := by
  apply BitVec.eq_of_toNat_eq
  have h1 := x.isLt
  have h2 := y.isLt
  rw [BitVec.toNat_setWidth, BitVec.toNat_sub, BitVec.toNat_sub, BitVec.toNat_setWidth, BitVec.toNat_setWidth]
  omega
theorem add32 (x y : BitVec 64) : (x + y).setWidth 32 = x.setWidth 32 + y.setWidth 32 := by
  apply BitVec.eq_of_toNat_eq
  simp
theorem one_shl {w k : Nat} (h : k < w) : (1#w <<< k).toNat = 2 ^ k := by
  rw [BitVec.toNat_shiftLeft, BitVec.toNat_ofNat, Nat.mod_eq_of_lt (Nat.one_lt_two_pow (by omega)), Nat.shiftLeft_eq, Nat.one_mul, Nat.mod_eq_of_lt (Nat.pow_lt_pow_right (by decide) h)]
theorem up_down {w : Nat} (a : BitVec w) (N : Nat) (h : N ≤ w) : ((a <<< N) >>> N).toNat = a.toNat % 2 ^ (w - N) := by
  rw [BitVec.toNat_ushiftRight, BitVec.toNat_shiftLeft, Nat.shiftRight_eq_div_pow, Nat.shiftLeft_eq]
  have e : 2 ^ w = 2 ^ (w - N) * 2 ^ N := by rw [← Nat.pow_add]; congr 1; omega
  rw [e, Nat.mul_mod_mul_right, Nat.mul_div_cancel _ (Nat.two_pow_pos _)]
theorem down_up {w : Nat} (a : BitVec w) (N : Nat) : ((a >>> N) <<< N).toNat = a.toNat - a.toNat % 2 ^ N := by
  rw [BitVec.toNat_shiftLeft, BitVec.toNat_ushiftRight, Nat.shiftRight_eq_div_pow, Nat.shiftLeft_eq]
  have h := Nat.div_add_mod a.toNat (2 ^ N)
  have h2 := a.isLt
  rw [Nat.mul_comm] at h
  rw [Nat.mod_eq_of_lt (by omega)]
  omega
theorem neg_one {w : Nat} (a : BitVec w) : -a - 1#w = ~~~a := by rw [BitVec.neg_eq_not_add, BitVec.add_sub_cancel]
theorem zero_sub_succ {w : Nat} (y : BitVec w) : 0#w - (y + 1#w) = ~~~y := by
  rw [← neg_one]
  simp only [BitVec.sub_eq_add_neg, BitVec.neg_add, BitVec.zero_add]
theorem w1 (a n : BitVec 64) (h0 : 0 < n.toNat) (hn : n.toNat < 64) : (a <<< n.toNat) >>> n.toNat = a % (1#64 <<< (64#64 - n).toNat) := by
  apply BitVec.eq_of_toNat_eq
  have e : (64#64 - n).toNat = 64 - n.toNat := by rw [BitVec.toNat_sub]; simp; omega
  rw [up_down a _ (by omega), BitVec.toNat_umod, e, one_shl (by omega)]
theorem w2 (a n : BitVec 64) (hn : n.toNat < 64) : (a >>> n.toNat) <<< n.toNat = a - a % (1#64 <<< n.toNat) := by
  apply BitVec.eq_of_toNat_eq
  have h := Nat.mod_le a.toNat (2 ^ n.toNat)
  have h2 := a.isLt
  rw [down_up, BitVec.toNat_sub, BitVec.toNat_umod, one_shl hn]
  omega
theorem w3 (a n : BitVec 64) (h : (a >>> (64#64 - 1#64).toNat == 1#64) = false) : a.sshiftRight n.toNat = a >>> n.toNat := by
  apply BitVec.sshiftRight_eq_of_msb_false
  cases hm : a.msb
  · rfl
  · exfalso
    have : a >>> (64#64 - 1#64).toNat = 1#64 := by
      apply BitVec.eq_of_toNat_eq
      have := BitVec.le_toNat_of_msb_true hm
      have h2 := a.isLt
      rw [BitVec.toNat_ushiftRight, Nat.shiftRight_eq_div_pow]
      simp at this ⊢
      omega
    rw [this] at h; simp at h
theorem w4 (a n : BitVec 64) (h : (a >>> (64#64 - 1#64).toNat == 1#64) = true) : a.sshiftRight n.toNat = ~~~((~~~a) >>> n.toNat) := by
  apply BitVec.sshiftRight_eq_of_msb_true
  cases hm : a.msb
  · exfalso
    have h1 := BitVec.toNat_lt_of_msb_false hm
    rw [beq_iff_eq] at h
    have := congrArg BitVec.toNat h
    rw [BitVec.toNat_ushiftRight, Nat.shiftRight_eq_div_pow] at this
    simp at this h1
    omega
  · rfl
theorem s1 (A : BitVec 32) (n : BitVec 64) (h0 : 0 < n.toNat) (hn : n.toNat < 32) : ((A <<< n.toNat) >>> n.toNat).setWidth 64 = A.setWidth 64 % (1#64 <<< (32#64 - n).toNat) := by
  apply BitVec.eq_of_toNat_eq
  have e : (32#64 - n).toNat = 32 - n.toNat := by rw [BitVec.toNat_sub]; simp; omega
  have h1 := A.isLt
  have hp : 2 ^ (32 - n.toNat) ≤ 2 ^ 32 := Nat.pow_le_pow_right (by decide) (by omega)
  have h2 := Nat.mod_lt A.toNat (Nat.two_pow_pos (32 - n.toNat))
  have e2 : A.toNat % 2 ^ 64 = A.toNat := by omega
  have e4 : (2 : Nat) ^ 32 ≤ 2 ^ 64 := by decide
  have e3 : A.toNat % 2 ^ (32 - n.toNat) % 2 ^ 64 = A.toNat % 2 ^ (32 - n.toNat) := Nat.mod_eq_of_lt (Nat.lt_of_lt_of_le h2 (Nat.le_trans hp e4))
  rw [BitVec.toNat_setWidth, up_down A _ (by omega), BitVec.toNat_umod, e, one_shl (by omega), BitVec.toNat_setWidth, e2, e3]
theorem s2 (A : BitVec 32) (n : BitVec 64) (hn : n.toNat < 32) : ((A >>> n.toNat) <<< n.toNat).setWidth 64 = A.setWidth 64 - A.setWidth 64 % (1#64 <<< n.toNat) := by
  apply BitVec.eq_of_toNat_eq
  have h := Nat.mod_le A.toNat (2 ^ n.toNat)
  have h2 := A.isLt
  have e2 : A.toNat % 2 ^ 64 = A.toNat := by omega
  rw [BitVec.toNat_setWidth, down_up, BitVec.toNat_sub, BitVec.toNat_umod, one_shl (by omega), BitVec.toNat_setWidth, e2]
  omega
theorem s3 (A : BitVec 32) (n : BitVec 64) (h : (A.setWidth 64 >>> (32#64 - 1#64).toNat == 1#64) = false) : A.sshiftRight n.toNat = A >>> n.toNat := by
  apply BitVec.sshiftRight_eq_of_msb_false
  cases hm : A.msb
  · rfl
  · exfalso
    have : A.setWidth 64 >>> (32#64 - 1#64).toNat = 1#64 := by
      apply BitVec.eq_of_toNat_eq
      have := BitVec.le_toNat_of_msb_true hm
      have h2 := A.isLt
      rw [BitVec.toNat_ushiftRight, Nat.shiftRight_eq_div_pow]
      simp at this ⊢
      omega
    rw [this] at h; simp at h
theorem s4 (A : BitVec 32) (n : BitVec 64) (h : (A.setWidth 64 >>> (32#64 - 1#64).toNat == 1#64) = true) : A.sshiftRight n.toNat = ~~~((~~~A) >>> n.toNat) := by
  apply BitVec.sshiftRight_eq_of_msb_true
  cases hm : A.msb
  · exfalso
    have h1 := BitVec.toNat_lt_of_msb_false hm
    rw [beq_iff_eq] at h
    have := congrArg BitVec.toNat h
    rw [BitVec.toNat_ushiftRight, Nat.shiftRight_eq_div_pow] at this
    simp at this h1
    omega
  · rfl
theorem red64 (p : BitVec 64) : (p % 64#64) % 64#64 = p % 64#64 ∧ (p % 64#64 + 64#64) % 64#64 = p % 64#64 ∧ (p % 64#64).toNat < 64 := by
  refine ⟨?_, ?_, ?_⟩
  · apply BitVec.eq_of_toNat_eq; simp
  · apply BitVec.eq_of_toNat_eq; simp
  · simp; omega
theorem red32 (p : BitVec 64) : (p % 32#64) % 32#64 = p % 32#64 ∧ (p % 32#64 + 32#64) % 32#64 = p % 32#64 ∧ (p % 32#64).toNat < 32 := by
  refine ⟨?_, ?_, ?_⟩
  · apply BitVec.eq_of_toNat_eq; simp
  · apply BitVec.eq_of_toNat_eq; simp
  · simp; omega

theorem zero_of (p : BitVec 64) (h : (0#64).ult p = false) : p = 0#64 := by
  apply BitVec.eq_of_toNat_eq
  simpa [BitVec.ult] using h
theorem pos_of (p : BitVec 64) (h : (0#64).ult p = true) : (p == 0#64) = false := by
  rw [beq_eq_false_iff_ne]
  rintro rfl
  simp [BitVec.ult] at h

theorem shl_ne {k : Nat} (h : k < 64) : 1#64 <<< k ≠ 0#64 := by
  intro e
  have := congrArg BitVec.toNat e
  rw [one_shl h] at this
  have h2 := Nat.two_pow_pos k
  simp at this
end Go.Proofs.Ytaifibnpbkgaiaa
