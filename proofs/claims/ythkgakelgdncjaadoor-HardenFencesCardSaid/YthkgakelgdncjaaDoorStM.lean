/-
  Numbers as bytes and back, as bit vectors. Plain definitions and facts. Conditions: as each says.
-/
import Derived.Test.YthkgakelgdncjaaDoorInM
import Derived.Test.YthkgakelgdncjaaDoorRfM
namespace Go.Proofs.YthkgakelgdncjaaDoor
open Go.Ep Go.RowKit
set_option linter.unusedVariables false
set_option linter.unusedSimpArgs false

/-- The number of a string's first k bytes. -/
def pN (s : ByteArray) : Nat → BitVec 64
  | 0 => 0#64
  | k + 1 => pN s k ||| (byteAt s k).setWidth 64 <<< (8 * k)
/-- .. read from the n-th byte down. -/
def rN (s : ByteArray) (n : Nat) : Nat → BitVec 64
  | 0 => 0#64
  | j + 1 => rN s n j * 256#64 + (byteAt s (n - 1 - j)).setWidth 64
theorem mn_eq (n : Nat) (h : n < 9223372036854775808) : (if (8#64).slt (BitVec.ofNat 64 n) then 8#64 else BitVec.ofNat 64 n) = BitVec.ofNat 64 (min n 8) := by
  rw [show (8#64) = BitVec.ofNat 64 8 from rfl, slt_ofNat (by omega) h]
  by_cases hc : 8 < n
  · rw [decide_eq_true hc, if_pos rfl, show min n 8 = 8 by omega]
  · rw [decide_eq_false hc, show min n 8 = n by omega]; rfl
theorem shl8 (k : Nat) (h : k < 9) : (8#64 * BitVec.ofNat 64 k).toNat = 8 * k := by
  rw [BitVec.toNat_mul, BitVec.toNat_ofNat, BitVec.toNat_ofNat]; simp only [Nat.reducePow, Nat.reduceMod]; omega
theorem pN_step (s : ByteArray) (k : Nat) (h : k < 8) : AV.one (.b64 false (pN s k ||| BitVec.setWidth 64 (byteAt s (BitVec.ofNat 64 k).toNat) <<< (8#64 * BitVec.ofNat 64 k).toNat)) = .one (.b64 false (pN s (k + 1))) := by
  rw [shl8 k (by omega), toNat_ofNat (by omega)]; rfl
theorem pN_bit (s : ByteArray) : ∀ (k i : Nat), k ≤ 8 → i < 64 → (pN s k).getLsbD i = (decide (i < 8 * k) && (byteAt s (i / 8)).getLsbD (i % 8))
  | 0, i, _, _ => by simp [pN]
  | k + 1, i, hk, hi => by
    rw [pN, BitVec.getLsbD_or, pN_bit s k i (by omega) hi, BitVec.getLsbD_shiftLeft, BitVec.getLsbD_setWidth, decide_eq_true hi, Bool.true_and]
    by_cases h1 : i < 8 * k
    · rw [decide_eq_true h1, decide_eq_true (show i < 8 * (k + 1) by omega)]; simp
    · rw [decide_eq_false h1]
      by_cases h2 : i < 8 * (k + 1)
      · rw [decide_eq_true h2, show i / 8 = k by omega, show i % 8 = i - 8 * k by omega]
        rw [decide_eq_true (show i - 8 * k < 64 by omega)]
        simp
      · rw [decide_eq_false h2]
        have : (byteAt s k).getLsbD (i - 8 * k) = false := BitVec.getLsbD_of_ge _ _ (by omega)
        rw [this]; simp
theorem add_byte (x : BitVec 64) (b : BitVec 8) : x * 256#64 + b.setWidth 64 = x <<< 8 ||| b.setWidth 64 := by
  rw [show x * 256#64 = x <<< 8 by rw [BitVec.shiftLeft_eq_mul_twoPow]; rfl]
  apply BitVec.add_eq_or_of_and_eq_zero
  apply BitVec.eq_of_getLsbD_eq
  intro i hi
  rw [BitVec.getLsbD_and, BitVec.getLsbD_shiftLeft, BitVec.getLsbD_setWidth, BitVec.getLsbD_zero]
  by_cases h : i < 8
  · simp [h]
  · have : b.getLsbD i = false := BitVec.getLsbD_of_ge _ _ (by omega)
    rw [this]; simp
theorem rN_bit (s : ByteArray) (n : Nat) (hn : n ≤ 8) : ∀ (j i : Nat), j ≤ n → i < 64 → (rN s n j).getLsbD i = (decide (i < 8 * j) && (byteAt s (n - j + i / 8)).getLsbD (i % 8))
  | 0, i, _, _ => by simp [rN]
  | j + 1, i, hj, hi => by
    rw [rN, add_byte, BitVec.getLsbD_or, BitVec.getLsbD_shiftLeft, BitVec.getLsbD_setWidth, decide_eq_true hi, Bool.true_and]
    by_cases h : i < 8
    · rw [decide_eq_true h, decide_eq_true (show i < 8 * (j + 1) by omega), show n - (j + 1) + i / 8 = n - 1 - j by omega, show i % 8 = i by omega]
      simp
    · have hb : (byteAt s (n - 1 - j)).getLsbD i = false := BitVec.getLsbD_of_ge _ _ (by omega)
      rw [decide_eq_false h, hb, rN_bit s n hn j (i - 8) (by omega) (by omega), show n - j + (i - 8) / 8 = n - (j + 1) + i / 8 by omega, show (i - 8) % 8 = i % 8 by omega,
        show decide (i - 8 < 8 * j) = decide (i < 8 * (j + 1)) from decide_eq_decide.2 (by omega)]
      simp
theorem rN_eq (s : ByteArray) (n : Nat) (hn : n ≤ 8) : rN s n n = pN s n := by
  apply BitVec.eq_of_getLsbD_eq
  intro i hi
  rw [rN_bit s n hn n i (Nat.le_refl _) hi, pN_bit s n i hn hi, show n - n + i / 8 = i / 8 by omega]
theorem dropU_len : ∀ (xs : List UInt8) (n : Nat), (dropU xs n).length = xs.length - n
  | xs, 0 => by cases xs <;> simp [dropU]
  | [], n + 1 => by simp [dropU]
  | _ :: xs, n + 1 => by simp [dropU, dropU_len xs n]
theorem takeU_len : ∀ (xs : List UInt8) (n : Nat), (takeU xs n).length = min n xs.length
  | xs, 0 => by cases xs <;> simp [takeU]
  | [], n + 1 => by simp [takeU]
  | _ :: xs, n + 1 => by simp only [takeU, List.length_cons, takeU_len xs n]; omega
theorem exB_size (s : ByteArray) (l h : Nat) : (exB s l h).size = min (h - l) (s.size - l) := by
  show (takeU (dropU s.data.toList l) (h - l)).length = _
  rw [takeU_len, dropU_len]; rfl
theorem dn_nat {n : Nat} (h : 0 < n) (h2 : n < 4611686018427387904) : (BitVec.ofNat 64 n - 1#64).toNat = n - 1 := by
  rw [BitVec.toNat_sub, toNat_ofNat (by omega)]; simp only [BitVec.toNat_ofNat, Nat.reducePow, Nat.reduceMod]; omega
theorem dn_int {n : Nat} (h : 0 < n) (h2 : n < 4611686018427387904) : (BitVec.ofNat 64 n - 1#64).toInt = (n : Int) - 1 := by
  rw [BitVec.toInt_eq_toNat_cond, dn_nat h h2, if_pos (by omega)]; omega
theorem dn_yes {n k : Nat} (h2 : n < 4611686018427387904) (h : (0#64).sle (BitVec.ofNat 64 (n - k) - 1#64) = true) : k < n := by
  by_cases hc : k < n
  · exact hc
  · exfalso
    rw [show n - k = 0 by omega] at h
    exact absurd h (by decide)
theorem dn_no {n k : Nat} (h2 : n < 4611686018427387904) (h : (0#64).sle (BitVec.ofNat 64 (n - k) - 1#64) = false) : n ≤ k := by
  by_cases hc : n ≤ k
  · exact hc
  · exfalso
    have h' : ¬ ((0#64).sle (BitVec.ofNat 64 (n - k) - 1#64) = true) := by rw [h]; decide
    rw [BitVec.sle_iff_toInt_le, dn_int (show 0 < n - k by omega) (by omega)] at h'
    have e : (0#64).toInt = 0 := rfl
    rw [e] at h'
    omega
theorem dn_step (k n : Nat) (h : k < n) (h2 : n < 4611686018427387904) : AV.one (.b64 true (BitVec.ofNat 64 (n - k) - 1#64 - 1#64)) = .one (.b64 true (BitVec.ofNat 64 (n - (k + 1)) - 1#64)) := by
  have : BitVec.ofNat 64 (n - k) - 1#64 = BitVec.ofNat 64 (n - (k + 1)) := by
    apply BitVec.eq_of_toNat_eq
    rw [dn_nat (by omega) (by omega), toNat_ofNat (by omega)]; omega
  rw [this]
theorem rN_step (s : ByteArray) (k n : Nat) (h : k < n) (h2 : n < 4611686018427387904) : AV.one (.b64 false (rN s n k * 256#64 + BitVec.setWidth 64 (byteAt s (BitVec.ofNat 64 (n - k) - 1#64).toNat))) = .one (.b64 false (rN s n (k + 1))) := by
  rw [dn_nat (by omega) (by omega), show n - k - 1 = n - 1 - k by omega]; rfl
/-! ### Instructions -/
def dcO (s : ByteArray) : BitVec 8 := if s.size = 8 then byteAt s 0 else 0#8
def dcD (s : ByteArray) : BitVec 8 := if s.size = 8 then byteAt s 1 &&& 15#8 else 0#8
def dcS (s : ByteArray) : BitVec 8 := if s.size = 8 then byteAt s 1 >>> (4#64).toNat else 0#8
def dcF (s : ByteArray) : BitVec 16 := if s.size = 8 then (pN (exB s 2 4) 2).setWidth 16 else 0#16
def dcI (s : ByteArray) : BitVec 32 := if s.size = 8 then (pN (exB s 4 8) 4).setWidth 32 else 0#32
def dcE (s : ByteArray) : BitVec 64 := if s.size = 8 then 0#64 else 10#64
theorem size_ne (s : ByteArray) (h : s.size < 9223372036854775808) : (BitVec.ofNat 64 s.size != 8#64) = decide (s.size ≠ 8) := by
  rw [Bool.eq_iff_iff, bne_iff_ne, decide_eq_true_iff, ne_eq, ← BitVec.toNat_inj, toNat_ofNat (by omega)]
  exact Iff.rfl
theorem sign16 (v : BitVec 64) : (rSign v 16#64).setWidth 16 = v.setWidth 16 := by
  have e : rLow v 16#64 = v % 65536#64 := rfl
  have h1 : (v % 65536#64).setWidth 16 = v.setWidth 16 := by
    apply BitVec.eq_of_toNat_eq
    simp only [BitVec.toNat_setWidth, BitVec.toNat_umod, BitVec.toNat_ofNat, Nat.reducePow, Nat.reduceMod]; omega
  unfold rSign
  split
  · rw [e, h1]
  · rw [e, ← h1]
    apply BitVec.eq_of_toNat_eq
    rw [show 1#64 <<< (16#64).toNat = 65536#64 from rfl]
    simp only [BitVec.toNat_setWidth, BitVec.toNat_sub, BitVec.toNat_umod, BitVec.toNat_ofNat, Nat.reducePow, Nat.reduceMod]; omega
theorem sign32' (v : BitVec 64) : (rSign v 32#64).setWidth 32 = v.setWidth 32 := by
  have e : rLow v 32#64 = v % 4294967296#64 := rfl
  have h1 : (v % 4294967296#64).setWidth 32 = v.setWidth 32 := by
    apply BitVec.eq_of_toNat_eq
    simp only [BitVec.toNat_setWidth, BitVec.toNat_umod, BitVec.toNat_ofNat, Nat.reducePow, Nat.reduceMod]; omega
  unfold rSign
  split
  · rw [e, h1]
  · rw [e, ← h1]
    apply BitVec.eq_of_toNat_eq
    rw [show 1#64 <<< (32#64).toNat = 4294967296#64 from rfl]
    simp only [BitVec.toNat_setWidth, BitVec.toNat_sub, BitVec.toNat_umod, BitVec.toNat_ofNat, Nat.reducePow, Nat.reduceMod]; omega
theorem lo4 (x : BitVec 8) : x % 16#8 = x &&& 15#8 := by simpa using all8 (p := fun x => x % 16#8 == x &&& 15#8) (by decide +kernel) x
theorem hi4 (x : BitVec 8) : x / 16#8 = x >>> (4#64).toNat := by simpa using all8 (p := fun x => x / 16#8 == x >>> (4#64).toNat) (by decide +kernel) x
theorem up4 (x : BitVec 8) : (x &&& 15#8) * 16#8 = x <<< (4#64).toNat := by simpa using all8 (p := fun x => (x &&& 15#8) * 16#8 == x <<< (4#64).toNat) (by decide +kernel) x
theorem both4 (s d : BitVec 8) : s % 16#8 * 16#8 + d % 16#8 = s <<< (4#64).toNat ||| d &&& 15#8 := by
  rw [lo4, lo4, up4]
  apply BitVec.add_eq_or_of_and_eq_zero
  have h1 := all8 (p := fun s => (s <<< (4#64).toNat) &&& 15#8 == 0#8) (by decide +kernel) s
  have h1 : (s <<< (4#64).toNat) &&& 15#8 = 0#8 := by simpa using h1
  rw [BitVec.and_comm d, ← BitVec.and_assoc, h1, BitVec.zero_and]
theorem div256 (v : BitVec 64) : v / 256#64 = v >>> 8 := by
  apply BitVec.eq_of_toNat_eq
  rw [BitVec.toNat_udiv, BitVec.toNat_ushiftRight, Nat.shiftRight_eq_div_pow]; rfl
theorem mod256 (v : BitVec 64) : (v % 256#64).setWidth 8 = v.setWidth 8 := by
  apply BitVec.eq_of_toNat_eq
  simp only [BitVec.toNat_setWidth, BitVec.toNat_umod, BitVec.toNat_ofNat, Nat.reducePow, Nat.reduceMod]; omega
theorem shr0 (v : BitVec 64) : v >>> 0 = v := by simp
theorem shr_shr (v : BitVec 64) (a b : Nat) : (v >>> a) >>> b = v >>> (a + b) := (BitVec.shiftRight_add v a b).symm
end Go.Proofs.YthkgakelgdncjaaDoor
