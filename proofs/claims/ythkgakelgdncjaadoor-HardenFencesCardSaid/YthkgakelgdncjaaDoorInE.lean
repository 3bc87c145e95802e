/-
  Instructions as bytes and back: mathematics. Conditions: none.
-/
import Derived.Test.YthkgakelgdncjaaDoorStM
import Derived.Test.YthkgakelgdncjaaDoorInN
namespace Go.Proofs.YthkgakelgdncjaaDoor
open Go.Ep Go.RowKit
set_option linter.unusedVariables false
set_option linter.unusedSimpArgs false
abbrev eightB (b0 b1 b2 b3 b4 b5 b6 b7 : BitVec 8) : ByteArray := ⟨⟨[UInt8.ofBitVec b0, UInt8.ofBitVec b1, UInt8.ofBitVec b2, UInt8.ofBitVec b3, UInt8.ofBitVec b4, UInt8.ofBitVec b5, UInt8.ofBitVec b6, UInt8.ofBitVec b7]⟩⟩
theorem d_O (b0 b1 b2 b3 b4 b5 b6 b7 : BitVec 8) : dcO (eightB b0 b1 b2 b3 b4 b5 b6 b7) = b0 := rfl
theorem d_D (b0 b1 b2 b3 b4 b5 b6 b7 : BitVec 8) : dcD (eightB b0 b1 b2 b3 b4 b5 b6 b7) = b1 &&& 15#8 := rfl
theorem d_S (b0 b1 b2 b3 b4 b5 b6 b7 : BitVec 8) : dcS (eightB b0 b1 b2 b3 b4 b5 b6 b7) = b1 >>> (4#64).toNat := rfl
theorem d_E (b0 b1 b2 b3 b4 b5 b6 b7 : BitVec 8) : dcE (eightB b0 b1 b2 b3 b4 b5 b6 b7) = 0#64 := rfl
theorem d_F (b0 b1 b2 b3 b4 b5 b6 b7 : BitVec 8) : dcF (eightB b0 b1 b2 b3 b4 b5 b6 b7) = (0#64 ||| b2.setWidth 64 <<< 0 ||| b3.setWidth 64 <<< 8).setWidth 16 := rfl
theorem d_I (b0 b1 b2 b3 b4 b5 b6 b7 : BitVec 8) : dcI (eightB b0 b1 b2 b3 b4 b5 b6 b7) = (0#64 ||| b4.setWidth 64 <<< 0 ||| b5.setWidth 64 <<< 8 ||| b6.setWidth 64 <<< 16 ||| b7.setWidth 64 <<< 24).setWidth 32 := rfl
theorem enc_eight (o d s : BitVec 8) (f : BitVec 16) (i : BitVec 32) : iEnc o d s f i = eightB o (s <<< 4 ||| d &&& 15#8) (((f.signExtend 64) >>> 0).setWidth 8) (((f.signExtend 64) >>> 8).setWidth 8) (((i.signExtend 64) >>> 0).setWidth 8) (((i.signExtend 64) >>> 8).setWidth 8) (((i.signExtend 64) >>> 16).setWidth 8) (((i.signExtend 64) >>> 24).setWidth 8) := rfl
theorem se_bit {w : Nat} (x : BitVec w) (j : Nat) (hj : j < w) (h64 : j < 64) : (x.signExtend 64).getLsbD j = x.getLsbD j := by
  rw [BitVec.getLsbD_signExtend, decide_eq_true h64, if_pos hj]; simp
theorem se_get {w : Nat} (x : BitVec w) (j : Nat) (hj : j < w) (h64 : j < 64) : (x.signExtend 64)[j] = x[j] := by
  have := se_bit x j hj h64
  rwa [BitVec.getLsbD_eq_getElem h64, BitVec.getLsbD_eq_getElem hj] at this
theorem back16 (f : BitVec 16) : (0#64 ||| (((f.signExtend 64) >>> 0).setWidth 8).setWidth 64 <<< 0 ||| (((f.signExtend 64) >>> 8).setWidth 8).setWidth 64 <<< 8).setWidth 16 = f := by
  apply BitVec.eq_of_getLsbD_eq
  intro j hj
  simp only [BitVec.getLsbD_setWidth, BitVec.getLsbD_or, BitVec.getLsbD_shiftLeft, BitVec.getLsbD_ushiftRight, BitVec.getLsbD_zero, Bool.false_or]
  by_cases h1 : j < 8
  · simp [hj, h1, show j < 64 by omega, se_get f j hj (by omega)]
  · have h2 : j - 8 < 8 := by omega
    simp [hj, h1, h2, show j < 64 by omega, show j - 8 < 64 by omega, show 8 + (j - 8) = j by omega, se_get f j hj (by omega)]
theorem back32 (i : BitVec 32) : (0#64 ||| (((i.signExtend 64) >>> 0).setWidth 8).setWidth 64 <<< 0 ||| (((i.signExtend 64) >>> 8).setWidth 8).setWidth 64 <<< 8 ||| (((i.signExtend 64) >>> 16).setWidth 8).setWidth 64 <<< 16 ||| (((i.signExtend 64) >>> 24).setWidth 8).setWidth 64 <<< 24).setWidth 32 = i := by
  apply BitVec.eq_of_getLsbD_eq
  intro j hj
  simp only [BitVec.getLsbD_setWidth, BitVec.getLsbD_or, BitVec.getLsbD_shiftLeft, BitVec.getLsbD_ushiftRight, BitVec.getLsbD_zero, Bool.false_or]
  have e := se_get i j hj (by omega)
  by_cases h1 : j < 8
  · simp [hj, h1, show j < 64 by omega, show j < 16 by omega, show j < 24 by omega, e]
  · by_cases h2 : j < 16
    · simp [hj, h1, h2, show j - 8 < 8 by omega, show j < 64 by omega, show j < 24 by omega, show j - 8 < 64 by omega, show 8 + (j - 8) = j by omega, e]
    · by_cases h3 : j < 24
      · simp [hj, h1, h2, h3, show ¬ (j - 8 < 8) by omega, show j - 16 < 8 by omega, show j < 64 by omega, show j - 16 < 64 by omega, show 16 + (j - 16) = j by omega, e]
      · simp [hj, h1, h2, h3, show ¬ (j - 8 < 8) by omega, show ¬ (j - 16 < 8) by omega, show j - 24 < 8 by omega, show j < 64 by omega, show j - 24 < 64 by omega, show 24 + (j - 24) = j by omega, e]
theorem lo_of (s d : BitVec 8) : (s <<< 4 ||| d &&& 15#8) &&& 15#8 = d &&& 15#8 := by
  have h1 := all8 (p := fun s => (s <<< 4) &&& 15#8 == 0#8) (by decide +kernel) s
  have h1 : (s <<< 4) &&& 15#8 = 0#8 := by simpa using h1
  rw [BitVec.and_or_distrib_right, h1, BitVec.and_assoc, BitVec.and_self, BitVec.zero_or]
theorem hi_of (s d : BitVec 8) : (s <<< 4 ||| d &&& 15#8) >>> (4#64).toNat = s &&& 15#8 := by
  have h1 := all8 (p := fun s => (s <<< 4) >>> (4#64).toNat == s &&& 15#8) (by decide +kernel) s
  have h2 := all8 (p := fun d => (d &&& 15#8) >>> (4#64).toNat == 0#8) (by decide +kernel) d
  have h1 : (s <<< 4) >>> (4#64).toNat = s &&& 15#8 := by simpa using h1
  have h2 : (d &&& 15#8) >>> (4#64).toNat = 0#8 := by simpa using h2
  rw [BitVec.ushiftRight_or_distrib, h1, h2, BitVec.or_zero]
theorem small15 (x : BitVec 8) : (x &&& 15#8 == x) = x.ult 16#8 := by simpa using all8 (p := fun x => (x &&& 15#8 == x) == x.ult 16#8) (by decide +kernel) x
theorem merge4 (b : BitVec 8) : (b >>> (4#64).toNat) <<< 4 ||| (b &&& 15#8) &&& 15#8 = b := by simpa using all8 (p := fun b => (b >>> (4#64).toNat) <<< 4 ||| (b &&& 15#8) &&& 15#8 == b) (by decide +kernel) b
theorem fwd16 (a b : BitVec 8) : ((((0#64 ||| a.setWidth 64 <<< 0 ||| b.setWidth 64 <<< 8).setWidth 16).signExtend 64 >>> 0).setWidth 8 : BitVec 8) = a ∧ ((((0#64 ||| a.setWidth 64 <<< 0 ||| b.setWidth 64 <<< 8).setWidth 16).signExtend 64 >>> 8).setWidth 8 : BitVec 8) = b := by
  constructor
  all_goals
    apply BitVec.eq_of_getLsbD_eq
    intro j hj
  · rw [BitVec.getLsbD_setWidth, BitVec.getLsbD_ushiftRight, se_bit _ _ (by omega) (by omega)]
    simp [hj, show j < 16 by omega, show j < 64 by omega]
  · rw [BitVec.getLsbD_setWidth, BitVec.getLsbD_ushiftRight, se_bit _ _ (by omega) (by omega)]
    have : a.getLsbD (8 + j) = false := BitVec.getLsbD_of_ge _ _ (by omega)
    simp [hj, show 8 + j < 16 by omega, show 8 + j < 64 by omega, this, show j < 64 by omega]
theorem fwd32 (a b c e : BitVec 8) (X : BitVec 64) (hX : X = 0#64 ||| a.setWidth 64 <<< 0 ||| b.setWidth 64 <<< 8 ||| c.setWidth 64 <<< 16 ||| e.setWidth 64 <<< 24) :
    (((X.setWidth 32).signExtend 64 >>> 0).setWidth 8 : BitVec 8) = a ∧ (((X.setWidth 32).signExtend 64 >>> 8).setWidth 8 : BitVec 8) = b ∧ (((X.setWidth 32).signExtend 64 >>> 16).setWidth 8 : BitVec 8) = c ∧ (((X.setWidth 32).signExtend 64 >>> 24).setWidth 8 : BitVec 8) = e := by
  have g : ∀ (x : BitVec 8) (n : Nat), 8 ≤ n → x.getLsbD n = false := fun x n h => BitVec.getLsbD_of_ge _ _ h
  subst hX
  refine ⟨?_, ?_, ?_, ?_⟩
  all_goals
    apply BitVec.eq_of_getLsbD_eq
    intro j hj
    rw [BitVec.getLsbD_setWidth, BitVec.getLsbD_ushiftRight, se_bit _ _ (by omega) (by omega)]
    simp only [BitVec.getLsbD_setWidth, BitVec.getLsbD_or, BitVec.getLsbD_shiftLeft, BitVec.getLsbD_zero, Bool.false_or]
  · simp [hj, show j < 16 by omega, show j < 24 by omega, show j < 32 by omega, show j < 64 by omega]
  · simp [hj, g a (8 + j) (by omega), show 8 + j < 16 by omega, show 8 + j < 24 by omega, show 8 + j < 32 by omega, show 8 + j < 64 by omega, show j < 64 by omega]
  · simp [hj, g a (16 + j) (by omega), g b (16 + j - 8) (by omega), show 16 + j < 24 by omega, show 16 + j < 32 by omega, show 16 + j < 64 by omega, show j < 64 by omega]
  · simp [hj, g a (24 + j) (by omega), g b (24 + j - 8) (by omega), g c (24 + j - 16) (by omega), show 24 + j < 32 by omega, show 24 + j < 64 by omega, show j < 64 by omega]
theorem enc_dec (b0 b1 b2 b3 b4 b5 b6 b7 : BitVec 8) :
    iEnc (dcO (eightB b0 b1 b2 b3 b4 b5 b6 b7)) (dcD (eightB b0 b1 b2 b3 b4 b5 b6 b7)) (dcS (eightB b0 b1 b2 b3 b4 b5 b6 b7)) (dcF (eightB b0 b1 b2 b3 b4 b5 b6 b7)) (dcI (eightB b0 b1 b2 b3 b4 b5 b6 b7)) = eightB b0 b1 b2 b3 b4 b5 b6 b7 := by
  rw [enc_eight, d_O, d_D, d_S, d_F, d_I, merge4, (fwd16 b2 b3).1, (fwd16 b2 b3).2]
  obtain ⟨h1, h2, h3, h4⟩ := fwd32 b4 b5 b6 b7 _ rfl
  rw [h1, h2, h3, h4]
theorem dec_enc (o d s : BitVec 8) (f : BitVec 16) (i : BitVec 32) : dcO (iEnc o d s f i) = o ∧ dcD (iEnc o d s f i) = d &&& 15#8 ∧ dcS (iEnc o d s f i) = s &&& 15#8 ∧ dcF (iEnc o d s f i) = f ∧ dcI (iEnc o d s f i) = i ∧ dcE (iEnc o d s f i) = 0#64 := by
  rw [enc_eight, d_O, d_D, d_S, d_F, d_I, d_E, back16, back32, lo_of, hi_of]
  exact ⟨rfl, rfl, rfl, rfl, rfl, rfl⟩
theorem enc_size (o d s : BitVec 8) (f : BitVec 16) (i : BitVec 32) : (iEnc o d s f i).size = 8 := rfl
end Go.Proofs.YthkgakelgdncjaaDoor
