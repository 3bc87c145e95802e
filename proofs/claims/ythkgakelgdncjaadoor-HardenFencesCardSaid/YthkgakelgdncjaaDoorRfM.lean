/-
  The document's numbers (layer 1), as bit vectors: powers, lowest bits, signs. Plain definitions and facts. Conditions: as each says.
-/
import Derived.Test.YthkgakelgdncjaaDoorPs
namespace Go.Proofs.YthkgakelgdncjaaDoor
open Go.Ep Go.RowKit
set_option linter.unusedVariables false
set_option linter.unusedSimpArgs false

theorem pow_succ' (k : Nat) : (1#64 <<< k) * 2#64 = 1#64 <<< (k + 1) := by
  rw [BitVec.shiftLeft_add, BitVec.shiftLeft_eq_mul_twoPow _ 1]; rfl
def rLow (v n : BitVec 64) : BitVec 64 := if (64#64).sle n = true then v else if n.sle 0#64 = true then 0#64 else v % (1#64 <<< n.toNat)
theorem sle_lt {n : BitVec 64} (h : (64#64).sle n = false) (h' : n.sle 0#64 = false) : n.toNat < 64 := by
  have h1 : ¬ ((64#64).sle n = true) := by rw [h]; decide
  have h2 : ¬ (n.sle 0#64 = true) := by rw [h']; decide
  rw [BitVec.sle_iff_toInt_le] at h1 h2
  have e1 : (64#64).toInt = 64 := rfl
  have e2 : (0#64).toInt = 0 := rfl
  rw [e1] at h1; rw [e2] at h2
  have := n.isLt
  rw [BitVec.toInt_eq_toNat_cond] at h1 h2
  split at h1 <;> omega
theorem sle_lt1 {n : BitVec 64} (h : (64#64).sle n = false) (h' : n.sle 0#64 = false) : (n - 1#64).toNat < 64 := by
  have h1 := sle_lt h h'
  have h2 : ¬ (n.sle 0#64 = true) := by rw [h']; decide
  rw [BitVec.sle_iff_toInt_le, BitVec.toInt_eq_toNat_cond, if_pos (by omega)] at h2
  have e2 : (0#64).toInt = 0 := rfl
  rw [e2] at h2
  rw [BitVec.toNat_sub]
  simp only [BitVec.toNat_ofNat]
  omega
theorem pow_ne {m : Nat} (h : m < 64) : 1#64 <<< m ≠ 0#64 := by
  intro e
  have e2 := congrArg BitVec.toNat e
  have h2 : 2 ^ m < 2 ^ 64 := Nat.pow_lt_pow_right (by decide) h
  have h3 : 0 < 2 ^ m := Nat.two_pow_pos m
  rw [BitVec.toNat_shiftLeft, Nat.shiftLeft_eq] at e2
  simp only [BitVec.toNat_ofNat, Nat.one_mod, Nat.one_mul] at e2
  rw [Nat.mod_eq_of_lt (by simpa using h2)] at e2
  simp at e2
def rSign (v n : BitVec 64) : BitVec 64 := if (n.sle 0#64 || (64#64).sle n || (rLow v n).ult (1#64 <<< (n - 1#64).toNat)) = true then rLow v n else rLow v n - 1#64 <<< n.toNat
end Go.Proofs.YthkgakelgdncjaaDoor
