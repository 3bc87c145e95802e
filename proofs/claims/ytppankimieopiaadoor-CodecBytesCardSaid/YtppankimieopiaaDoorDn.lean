/-
  Chapter 11: numbers in bytes, read again. Conditions: as typed.
-/
import Derived.Test.YtppankimieopiaaDoorDm
namespace Go.Proofs.YtppankimieopiaaDoor
open Go.Ep Go.RowKit
set_option linter.unusedVariables false
set_option linter.unusedSimpArgs false
theorem sgT1 (s : ByteArray) : sgT 1#64 s = (numT 1#64 s <<< 56).sshiftRight 56 := rfl
theorem sgT4 (s : ByteArray) : sgT 4#64 s = (numT 4#64 s <<< 32).sshiftRight 32 := rfl
theorem sgT8 (s : ByteArray) : sgT 8#64 s = (numT 8#64 s <<< 0).sshiftRight 0 := rfl
theorem shl_sar (x : BitVec 64) (n : Nat) (h0 : 0 < n) (hn : n < 64) : (x <<< (64 - n)).sshiftRight (64 - n) = (x.setWidth n).signExtend 64 := by
  apply BitVec.eq_of_getLsbD_eq
  intro i hi
  rw [BitVec.getLsbD_sshiftRight, BitVec.getLsbD_signExtend, BitVec.getLsbD_shiftLeft, BitVec.getLsbD_setWidth]
  have hd : decide (i < 64) = true := decide_eq_true hi
  have hd2 : decide (64 ≤ i) = false := decide_eq_false (by omega)
  rw [hd, hd2]
  simp only [Bool.not_false, Bool.true_and]
  by_cases h : i < n
  · rw [if_pos (by omega), if_pos h]
    simp [show 64 - n + i < 64 by omega, show 64 - n + i - (64 - n) = i by omega, h]
  · rw [if_neg (by omega), if_neg h]
    rw [BitVec.msb_eq_getLsbD_last, BitVec.msb_eq_getLsbD_last, BitVec.getLsbD_shiftLeft, BitVec.getLsbD_setWidth]
    simp [show 64 - 1 - (64 - n) = n - 1 by omega, show ¬ (64 - 1 < 64 - n) by omega, show n - 1 < n by omega]
theorem low8 (v : BitVec 64) : ((v >>> 0).setWidth 8).setWidth 64 = (v.setWidth 8).setWidth 64 := by simp
theorem low32 (v : BitVec 64) : (0#64 ||| ((v >>> 0).setWidth 8).setWidth 64 <<< 0 ||| ((v >>> 8).setWidth 8).setWidth 64 <<< 8 ||| ((v >>> 16).setWidth 8).setWidth 64 <<< 16 ||| ((v >>> 24).setWidth 8).setWidth 64 <<< 24) = (v.setWidth 32).setWidth 64 := by
  apply BitVec.eq_of_getLsbD_eq
  intro j hj
  simp only [BitVec.getLsbD_setWidth, BitVec.getLsbD_or, BitVec.getLsbD_shiftLeft, BitVec.getLsbD_ushiftRight, BitVec.getLsbD_zero, Bool.false_or]
  by_cases h1 : j < 8
  · simp [h1, show j < 64 by omega, show j < 16 by omega, show j < 24 by omega, show j < 32 by omega]
  · by_cases h2 : j < 16
    · simp [h1, h2, show j - 8 < 8 by omega, show j < 64 by omega, show j < 24 by omega, show j < 32 by omega, show j - 8 < 64 by omega, show 8 + (j - 8) = j by omega]
    · by_cases h3 : j < 24
      · simp [h1, h2, h3, show ¬ (j - 8 < 8) by omega, show j - 16 < 8 by omega, show j < 64 by omega, show j < 32 by omega, show j - 16 < 64 by omega, show 16 + (j - 16) = j by omega]
      · by_cases h4 : j < 32
        · simp [h1, h2, h3, h4, show ¬ (j - 8 < 8) by omega, show ¬ (j - 16 < 8) by omega, show j - 24 < 8 by omega, show j < 64 by omega, show j - 24 < 64 by omega, show 24 + (j - 24) = j by omega]
        · simp [h1, h2, h3, h4, show ¬ (j - 8 < 8) by omega, show ¬ (j - 16 < 8) by omega, show ¬ (j - 24 < 8) by omega]
theorem low64 (v : BitVec 64) : (0#64 ||| ((v >>> 0).setWidth 8).setWidth 64 <<< 0 ||| ((v >>> 8).setWidth 8).setWidth 64 <<< 8 ||| ((v >>> 16).setWidth 8).setWidth 64 <<< 16 ||| ((v >>> 24).setWidth 8).setWidth 64 <<< 24 ||| ((v >>> 32).setWidth 8).setWidth 64 <<< 32 ||| ((v >>> 40).setWidth 8).setWidth 64 <<< 40 ||| ((v >>> 48).setWidth 8).setWidth 64 <<< 48 ||| ((v >>> 56).setWidth 8).setWidth 64 <<< 56) = v := by
  apply BitVec.eq_of_getLsbD_eq
  intro j hj
  simp only [BitVec.getLsbD_setWidth, BitVec.getLsbD_or, BitVec.getLsbD_shiftLeft, BitVec.getLsbD_ushiftRight, BitVec.getLsbD_zero, Bool.false_or]
  have key : ∀ k : Nat, k ≤ j → k + (j - k) = j := fun k hk => by omega
  rcases (show j < 8 ∨ (8 ≤ j ∧ j < 16) ∨ (16 ≤ j ∧ j < 24) ∨ (24 ≤ j ∧ j < 32) ∨ (32 ≤ j ∧ j < 40) ∨ (40 ≤ j ∧ j < 48) ∨ (48 ≤ j ∧ j < 56) ∨ (56 ≤ j ∧ j < 64) by omega) with h | ⟨h, g⟩ | ⟨h, g⟩ | ⟨h, g⟩ | ⟨h, g⟩ | ⟨h, g⟩ | ⟨h, g⟩ | ⟨h, g⟩
  · simp [h, hj, show j < 16 by omega, show j < 24 by omega, show j < 32 by omega, show j < 40 by omega, show j < 48 by omega, show j < 56 by omega]
  · simp [hj, g, show ¬ j < 8 by omega, show j - 8 < 8 by omega, show j - 8 < 64 by omega, key 8 h, show j < 24 by omega, show j < 32 by omega, show j < 40 by omega, show j < 48 by omega, show j < 56 by omega]
  · simp [hj, g, show ¬ j < 8 by omega, show ¬ j < 16 by omega, show ¬ j - 8 < 8 by omega, show j - 16 < 8 by omega, show j - 16 < 64 by omega, key 16 h, show j < 32 by omega, show j < 40 by omega, show j < 48 by omega, show j < 56 by omega]
  · simp [hj, g, show ¬ j < 8 by omega, show ¬ j < 16 by omega, show ¬ j < 24 by omega, show ¬ j - 8 < 8 by omega, show ¬ j - 16 < 8 by omega, show j - 24 < 8 by omega, show j - 24 < 64 by omega, key 24 h, show j < 40 by omega, show j < 48 by omega, show j < 56 by omega]
  · simp [hj, g, show ¬ j < 8 by omega, show ¬ j < 16 by omega, show ¬ j < 24 by omega, show ¬ j < 32 by omega, show ¬ j - 8 < 8 by omega, show ¬ j - 16 < 8 by omega, show ¬ j - 24 < 8 by omega, show j - 32 < 8 by omega, show j - 32 < 64 by omega, key 32 h, show j < 48 by omega, show j < 56 by omega]
  · simp [hj, g, show ¬ j < 8 by omega, show ¬ j < 16 by omega, show ¬ j < 24 by omega, show ¬ j < 32 by omega, show ¬ j < 40 by omega, show ¬ j - 8 < 8 by omega, show ¬ j - 16 < 8 by omega, show ¬ j - 24 < 8 by omega, show ¬ j - 32 < 8 by omega, show j - 40 < 8 by omega, show j - 40 < 64 by omega, key 40 h, show j < 56 by omega]
  · simp [hj, g, show ¬ j < 8 by omega, show ¬ j < 16 by omega, show ¬ j < 24 by omega, show ¬ j < 32 by omega, show ¬ j < 40 by omega, show ¬ j < 48 by omega, show ¬ j - 8 < 8 by omega, show ¬ j - 16 < 8 by omega, show ¬ j - 24 < 8 by omega, show ¬ j - 32 < 8 by omega, show ¬ j - 40 < 8 by omega, show j - 48 < 8 by omega, show j - 48 < 64 by omega, key 48 h]
  · simp [hj, show ¬ j < 8 by omega, show ¬ j < 16 by omega, show ¬ j < 24 by omega, show ¬ j < 32 by omega, show ¬ j < 40 by omega, show ¬ j < 48 by omega, show ¬ j < 56 by omega, show ¬ j - 8 < 8 by omega, show ¬ j - 16 < 8 by omega, show ¬ j - 24 < 8 by omega, show ¬ j - 32 < 8 by omega, show ¬ j - 40 < 8 by omega, show ¬ j - 48 < 8 by omega, show j - 56 < 8 by omega, show j - 56 < 64 by omega, key 56 h]
theorem sg1 (v : BitVec 64) (r : List UInt8) (hs : (by8 v 0 :: r).length < 9223372036854775808) : sgT 1#64 (B (by8 v 0 :: r)) = (v.setWidth 8).signExtend 64 := by
  rw [sgT1, (num1 _ _ hs).1]
  have e : (by8 v 0).toBitVec = (v >>> 0).setWidth 8 := rfl
  rw [e, low8, show (56 : Nat) = 64 - 8 from rfl, shl_sar _ 8 (by decide) (by decide), BitVec.setWidth_setWidth_of_le _ (by decide), BitVec.setWidth_eq]
theorem sg4 (v : BitVec 64) (r : List UInt8) (hs : (by8 v 0 :: by8 v 8 :: by8 v 16 :: by8 v 24 :: r).length < 9223372036854775808) : sgT 4#64 (B (by8 v 0 :: by8 v 8 :: by8 v 16 :: by8 v 24 :: r)) = (v.setWidth 32).signExtend 64 := by
  rw [sgT4, (num4 _ _ _ _ _ hs).1]
  have e : ∀ k, (by8 v k).toBitVec = (v >>> k).setWidth 8 := fun _ => rfl
  rw [e, e, e, e, low32, show (32 : Nat) = 64 - 32 from rfl, shl_sar _ 32 (by decide) (by decide)]
  show BitVec.signExtend 64 (BitVec.setWidth 32 (BitVec.setWidth 64 (BitVec.setWidth 32 v))) = _
  rw [BitVec.setWidth_setWidth_of_le _ (by decide), BitVec.setWidth_eq]
theorem sg8 (v : BitVec 64) (r : List UInt8) (hs : (by8 v 0 :: by8 v 8 :: by8 v 16 :: by8 v 24 :: by8 v 32 :: by8 v 40 :: by8 v 48 :: by8 v 56 :: r).length < 9223372036854775808) : sgT 8#64 (B (by8 v 0 :: by8 v 8 :: by8 v 16 :: by8 v 24 :: by8 v 32 :: by8 v 40 :: by8 v 48 :: by8 v 56 :: r)) = v := by
  rw [sgT8, nm8 _ _ _ _ _ _ _ _ _ hs]
  have e : ∀ k, (by8 v k).toBitVec = (v >>> k).setWidth 8 := fun _ => rfl
  rw [e, e, e, e, e, e, e, e, low64]
  simp
theorem bmod_id {x : Int} {n : Nat} (h0 : -(n : Int) ≤ 2 * x) (h1 : 2 * x < n) : Int.bmod x n = x := by
  rw [Int.bmod_def]
  by_cases h : 0 ≤ x
  · rw [Int.emod_eq_of_lt h (by omega), if_pos (by omega)]
  · have e : x % (n : Int) = x + n := by
      rw [← Int.add_emod_right, Int.emod_eq_of_lt (by omega) (by omega)]
    rw [e, if_neg (by omega)]; omega
theorem low_sx {n : Nat} {w : Nat} (x : BitVec w) (h0 : 0 < n) (hn : n ≤ w) (h1 : -((2 ^ n : Nat) : Int) ≤ 2 * x.toInt) (h2 : 2 * x.toInt < (2 ^ n : Nat)) : (x.setWidth n).signExtend w = x := by
  apply BitVec.eq_of_toInt_eq
  rw [BitVec.toInt_signExtend, Nat.min_eq_right hn, BitVec.toInt_setWidth]
  have e : Int.bmod (x.toNat : Int) (2 ^ n) = Int.bmod x.toInt (2 ^ n) := by
    obtain ⟨k, hk⟩ := Nat.pow_dvd_pow 2 hn
    rw [BitVec.toInt_eq_toNat_cond]
    split
    · rfl
    · rw [hk]
      rw [show ((x.toNat : Int) - ((2 ^ n * k : Nat) : Int)) = (x.toNat : Int) + ((2 ^ n : Nat) : Int) * (-(k : Int)) by push_cast; rw [Int.mul_neg]; omega]
      rw [Int.bmod_def, Int.bmod_def, Int.add_mul_emod_self_left]
  rw [Int.bmod_bmod, e, bmod_id h1 h2]
theorem word_sx {x : BitVec 64} (h : wordB x = true) : (x.setWidth 32).signExtend 64 = x := by
  unfold wordB at h
  rw [Bool.and_eq_true, BitVec.sle_iff_toInt_le, BitVec.sle_iff_toInt_le] at h
  have e1 : mWord.toInt = -2147483648 := by decide
  have e2 : (2147483647#64).toInt = 2147483647 := by decide
  rw [e1, e2] at h
  exact low_sx x (by decide) (by decide) (by omega) (by omega)
theorem rel_sx {x : BitVec 32} (h : relB x = true) : BitVec.signExtend 32 (((x.signExtend 64).setWidth 8).signExtend 64) = x := by
  unfold relB at h
  rw [Bool.and_eq_true, BitVec.sle_iff_toInt_le, BitVec.sle_iff_toInt_le] at h
  have e1 : mByte.toInt = -128 := by decide
  have e2 : (127#32).toInt = 127 := by decide
  rw [e1, e2] at h
  have e3 : (x.signExtend 64).setWidth 8 = x.setWidth 8 := by
    apply BitVec.eq_of_getLsbD_eq
    intro i hi
    rw [BitVec.getLsbD_setWidth, BitVec.getLsbD_setWidth, BitVec.getLsbD_signExtend, if_pos (by omega)]
    simp [hi, show i < 64 by omega]
  rw [e3]
  have e4 : BitVec.signExtend 32 ((x.setWidth 8).signExtend 64) = (x.setWidth 8).signExtend 32 := by
    apply BitVec.eq_of_getLsbD_eq
    intro i hi
    rw [BitVec.getLsbD_signExtend, if_pos (by omega), BitVec.getLsbD_signExtend, BitVec.getLsbD_signExtend]
    simp [hi, show i < 64 by omega]
  rw [e4]
  exact low_sx x (by decide) (by decide) (by omega) (by omega)
theorem dp_sx (x : BitVec 32) : BitVec.signExtend 32 (((x.signExtend 64).setWidth 32).signExtend 64) = x := by
  apply BitVec.eq_of_getLsbD_eq
  intro i hi
  rw [BitVec.getLsbD_signExtend, if_pos (by omega), BitVec.getLsbD_signExtend, if_pos hi, BitVec.getLsbD_setWidth, BitVec.getLsbD_signExtend, if_pos hi]
  simp [hi, show i < 64 by omega]
theorem sh_sx {w : Bool} {x : BitVec 64} (h : shB w x = true) : (x.setWidth 8).signExtend 64 = x := by
  unfold shB at h
  rw [Bool.and_eq_true, BitVec.sle_iff_toInt_le, Bool.or_eq_true, Bool.and_eq_true, BitVec.slt_iff_toInt_lt, BitVec.slt_iff_toInt_lt] at h
  have e0 : (0#64).toInt = 0 := rfl
  have e1 : (32#64).toInt = 32 := rfl
  have e2 : (64#64).toInt = 64 := rfl
  rw [e0, e1, e2] at h
  exact low_sx x (by decide) (by decide) (by omega) (by omega)
theorem and7_f : ∀ j : Fin 16, ((BitVec.ofNat 64 j &&& 7#64 == 4#64) == ((BitVec.ofNat 64 j).srem 8#64 == 4#64)) = true := by decide +kernel
theorem and7 {b : BitVec 64} (hb : regB b = true) : (b &&& 7#64 == 4#64) = (b.srem 8#64 == 4#64) := by
  obtain ⟨j, rfl⟩ := reg_in' hb
  simpa using and7_f j
end Go.Proofs.YtppankimieopiaaDoor
