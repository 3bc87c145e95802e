/-
  Instructions: what package insns makes of an opcode and of fields, as bit vectors. Plain definitions and facts. Conditions: none.
-/
import Derived.Test.YtdaioplfgbgggaaPs
namespace Go.Proofs.Ytdaioplfgbgggaa
open Go.Ep Go.RowKit
set_option linter.unusedVariables false
set_option linter.unusedSimpArgs false

abbrev oc (o : BitVec 8) : BitVec 8 := o &&& 240#8
abbrev orr (o : BitVec 8) : Bool := o &&& 8#8 != 0#8
def isA (o : BitVec 8) : Bool := o &&& 7#8 == 4#8 || o &&& 7#8 == 7#8
def isJ (o : BitVec 8) : Bool := o &&& 7#8 == 5#8 || o &&& 7#8 == 6#8
def isLd (o : BitVec 8) : Bool := o == 24#8
def isLx (o : BitVec 8) : Bool := o == 113#8 || o == 105#8 || o == 97#8 || o == 121#8
def isSt (o : BitVec 8) : Bool := o == 114#8 || o == 106#8 || o == 98#8 || o == 122#8
def isSx (o : BitVec 8) : Bool := o == 115#8 || o == 107#8 || o == 99#8 || o == 123#8
def isNs (o : BitVec 8) : Bool := o == 194#8
def jAl (o : BitVec 8) : Bool := o &&& 7#8 == 5#8 && o &&& 8#8 == 0#8
def jSp (o : BitVec 8) : Bool := oc o == 0#8 || oc o == 128#8 || oc o == 144#8
def jD (o : BitVec 8) : Bool := !(jSp o)
def jS (o : BitVec 8) : Bool := !(jSp o) && orr o
def jO (o : BitVec 8) : Bool := oc o == 0#8 || !(jSp o)
def jI (o : BitVec 8) : Bool := oc o == 128#8 || !(jSp o) && !(orr o)
def jK (o : BitVec 8) : Bool := if jSp o then jAl o else (oc o).ule 208#8
def fD (o : BitVec 8) : Bool := if isA o then true else if isJ o then jD o else isLd o || isLx o || isSt o || isSx o
def fS (o : BitVec 8) : Bool := if isA o then orr o else if isJ o then jS o else isLd o || isLx o || isSx o
def fO (o : BitVec 8) : Bool := if isA o then false else if isJ o then jO o else isLx o || isSt o || isSx o
def fI (o : BitVec 8) : Bool := if isA o then !(orr o) && !(oc o == 128#8) else if isJ o then jI o else isLd o || isSt o
def fW (o : BitVec 8) : Bool := if isA o then true else if isJ o then false else isLd o || isLx o
def fK (o : BitVec 8) (inner : Bool) : Bool := if isA o then (oc o).ule 192#8 && !(oc o == 128#8 && orr o) else if isJ o then jK o else isLd o || isLx o || isSt o || isSx o || isNs o && inner
def iN' (o : BitVec 8) (imm : BitVec 32) : Bool :=
  if isA o then (if oc o == 96#8 || oc o == 112#8 || oc o == 192#8 then (0#32).sle imm && (imm.slt 32#32 || imm.slt 64#32 && o &&& 7#8 == 7#8) else if oc o == 48#8 || oc o == 144#8 then imm != 0#32 else true) else true
def iCheck (o d s : BitVec 8) (off : BitVec 16) (imm : BitVec 32) (inner : Bool) : BitVec 64 :=
  if !(fK o inner) then 20#64 else if (10#8).ult d || (10#8).ult s || fW o && d == 10#8 then 22#64
  else if !(fD o) && d != 0#8 || !(fS o) && s != 0#8 || !(fO o) && off != 0#16 || !(fI o) && imm != 0#32 || o == 24#8 && (1#8).ult s then 21#64
  else if fI o && !(iN' o imm) then 23#64 else 0#64
/-- The bytes of a number. -/
abbrev by8 (v : BitVec 64) (k : Nat) : UInt8 := UInt8.ofBitVec ((v >>> k).setWidth 8)
def bytes2 (v : BitVec 64) : ByteArray := ⟨⟨[by8 v 0, by8 v 8]⟩⟩
def bytes4 (v : BitVec 64) : ByteArray := ⟨⟨[by8 v 0, by8 v 8, by8 v 16, by8 v 24]⟩⟩
def iEnc (o d s : BitVec 8) (off : BitVec 16) (imm : BitVec 32) : ByteArray :=
  ⟨⟨[UInt8.ofBitVec o, UInt8.ofBitVec (s <<< 4 ||| d &&& 15#8), by8 (off.signExtend 64) 0, by8 (off.signExtend 64) 8, by8 (imm.signExtend 64) 0, by8 (imm.signExtend 64) 8, by8 (imm.signExtend 64) 16, by8 (imm.signExtend 64) 24]⟩⟩
theorem all8 {p : BitVec 8 → Bool} (h : ((List.range 256).all fun n => p (BitVec.ofNat 8 n)) = true) (o : BitVec 8) : p o = true := by
  have := List.all_eq_true.1 h o.toNat (List.mem_range.2 o.isLt)
  simpa using this
end Go.Proofs.Ytdaioplfgbgggaa
/-
  The document's numbers (layer 1), as bit vectors: powers, lowest bits, signs. Plain definitions and facts. Conditions: as each says.
-/
namespace Go.Proofs.Ytdaioplfgbgggaa
open Go.Ep Go.RowKit
set_option linter.unusedVariables false
set_option linter.unusedSimpArgs false

theorem pow_succ' (k : Nat) : (1#64 <<< k) * 2#64 = 1#64 <<< (k + 1) := by
  rw [BitVec.shiftLeft_add, BitVec.shiftLeft_eq_mul_twoPow _ 1]; rfl
def rLow (v n : BitVec 64) : BitVec 64 := if (64#64).sle n = true then v else if n.sle 0#64 = true then 0#64 else v % (1#64 <<< n.toNat)
theorem sle_lt {n : BitVec 64} (h : (64#64).sle n = false) (h' : n.sle 0#64 = false) : n.toNat < 64 := by
  have h1 : ¬ ((64#64).sle n = true) := by rw [h]; decide
  have h2 : ¬ (n.sle 0#64 = true) := by rw [h']; decide
  rw [BitVec.sle_iff_toInt_le] at h1 h2
  have e1 : (64#64).toInt = 64 := rfl
  have e2 : (0#64).toInt = 0 := rfl
  rw [e1] at h1; rw [e2] at h2
  have := n.isLt
  rw [BitVec.toInt_eq_toNat_cond] at h1 h2
  split at h1 <;> omega
theorem sle_lt1 {n : BitVec 64} (h : (64#64).sle n = false) (h' : n.sle 0#64 = false) : (n - 1#64).toNat < 64 := by
  have h1 := sle_lt h h'
  have h2 : ¬ (n.sle 0#64 = true) := by rw [h']; decide
  rw [BitVec.sle_iff_toInt_le, BitVec.toInt_eq_toNat_cond, if_pos (by omega)] at h2
  have e2 : (0#64).toInt = 0 := rfl
  rw [e2] at h2
  rw [BitVec.toNat_sub]
  simp only [BitVec.toNat_ofNat]
  omega
theorem pow_ne {m : Nat} (h : m < 64) : 1#64 <<< m ≠ 0#64 := by
  intro e
  have e2 := congrArg BitVec.toNat e
  have h2 : 2 ^ m < 2 ^ 64 := Nat.pow_lt_pow_right (by decide) h
  have h3 : 0 < 2 ^ m := Nat.two_pow_pos m
  rw [BitVec.toNat_shiftLeft, Nat.shiftLeft_eq] at e2
  simp only [BitVec.toNat_ofNat, Nat.one_mod, Nat.one_mul] at e2
  rw [Nat.mod_eq_of_lt (by simpa using h2)] at e2
  simp at e2
def rSign (v n : BitVec 64) : BitVec 64 := if (n.sle 0#64 || (64#64).sle n || (rLow v n).ult (1#64 <<< (n - 1#64).toNat)) = true then rLow v n else rLow v n - 1#64 <<< n.toNat
end Go.Proofs.Ytdaioplfgbgggaa
/-
  Numbers as bytes and back, as bit vectors. Plain definitions and facts. Conditions: as each says.
-/
namespace Go.Proofs.Ytdaioplfgbgggaa
open Go.Ep Go.RowKit
set_option linter.unusedVariables false
set_option linter.unusedSimpArgs false

/-- The number of a string's first k bytes. -/
def pN (s : ByteArray) : Nat → BitVec 64
  | 0 => 0#64
  | k + 1 => pN s k ||| (byteAt s k).setWidth 64 <<< (8 * k)
/-- .. read from the n-th byte down. -/
def rN (s : ByteArray) (n : Nat) : Nat → BitVec 64
  | 0 => 0#64
  | j + 1 => rN s n j * 256#64 + (byteAt s (n - 1 - j)).setWidth 64
theorem mn_eq (n : Nat) (h : n < 9223372036854775808) : (if (8#64).slt (BitVec.ofNat 64 n) then 8#64 else BitVec.ofNat 64 n) = BitVec.ofNat 64 (min n 8) := by
  rw [show (8#64) = BitVec.ofNat 64 8 from rfl, slt_ofNat (by omega) h]
  by_cases hc : 8 < n
  · rw [decide_eq_true hc, if_pos rfl, show min n 8 = 8 by omega]
  · rw [decide_eq_false hc, show min n 8 = n by omega]; rfl
theorem shl8 (k : Nat) (h : k < 9) : (8#64 * BitVec.ofNat 64 k).toNat = 8 * k := by
  rw [BitVec.toNat_mul, BitVec.toNat_ofNat, BitVec.toNat_ofNat]; simp only [Nat.reducePow, Nat.reduceMod]; omega
theorem pN_step (s : ByteArray) (k : Nat) (h : k < 8) : AV.one (.b64 false (pN s k ||| BitVec.setWidth 64 (byteAt s (BitVec.ofNat 64 k).toNat) <<< (8#64 * BitVec.ofNat 64 k).toNat)) = .one (.b64 false (pN s (k + 1))) := by
  rw [shl8 k (by omega), toNat_ofNat (by omega)]; rfl
theorem pN_bit (s : ByteArray) : ∀ (k i : Nat), k ≤ 8 → i < 64 → (pN s k).getLsbD i = (decide (i < 8 * k) && (byteAt s (i / 8)).getLsbD (i % 8))
  | 0, i, _, _ => by simp [pN]
  | k + 1, i, hk, hi => by
    rw [pN, BitVec.getLsbD_or, pN_bit s k i (by omega) hi, BitVec.getLsbD_shiftLeft, BitVec.getLsbD_setWidth, decide_eq_true hi, Bool.true_and]
    by_cases h1 : i < 8 * k
    · rw [decide_eq_true h1, decide_eq_true (show i < 8 * (k + 1) by omega)]; simp
    · rw [decide_eq_false h1]
      by_cases h2 : i < 8 * (k + 1)
      · rw [decide_eq_true h2, show i / 8 = k by omega, show i % 8 = i - 8 * k by omega]
        rw [decide_eq_true (show i - 8 * k < 64 by omega)]
        simp
      · rw [decide_eq_false h2]
        have : (byteAt s k).getLsbD (i - 8 * k) = false := BitVec.getLsbD_of_ge _ _ (by omega)
        rw [this]; simp
theorem add_byte (x : BitVec 64) (b : BitVec 8) : x * 256#64 + b.setWidth 64 = x <<< 8 ||| b.setWidth 64 := by
  rw [show x * 256#64 = x <<< 8 by rw [BitVec.shiftLeft_eq_mul_twoPow]; rfl]
  apply BitVec.add_eq_or_of_and_eq_zero
  apply BitVec.eq_of_getLsbD_eq
  intro i hi
  rw [BitVec.getLsbD_and, BitVec.getLsbD_shiftLeft, BitVec.getLsbD_setWidth, BitVec.getLsbD_zero]
  by_cases h : i < 8
  · simp [h]
  · have : b.getLsbD i = false := BitVec.getLsbD_of_ge _ _ (by omega)
    rw [this]; simp
theorem rN_bit (s : ByteArray) (n : Nat) (hn : n ≤ 8) : ∀ (j i : Nat), j ≤ n → i < 64 → (rN s n j).getLsbD i = (decide (i < 8 * j) && (byteAt s (n - j + i / 8)).getLsbD (i % 8))
  | 0, i, _, _ => by simp [rN]
  | j + 1, i, hj, hi => by
    rw [rN, add_byte, BitVec.getLsbD_or, BitVec.getLsbD_shiftLeft, BitVec.getLsbD_setWidth, decide_eq_true hi, Bool.true_and]
    by_cases h : i < 8
    · rw [decide_eq_true h, decide_eq_true (show i < 8 * (j + 1) by omega), show n - (j + 1) + i / 8 = n - 1 - j by omega, show i % 8 = i by omega]
      simp
    · have hb : (byteAt s (n - 1 - j)).getLsbD i = false := BitVec.getLsbD_of_ge _ _ (by omega)
      rw [decide_eq_false h, hb, rN_bit s n hn j (i - 8) (by omega) (by omega), show n - j + (i - 8) / 8 = n - (j + 1) + i / 8 by omega, show (i - 8) % 8 = i % 8 by omega,
        show decide (i - 8 < 8 * j) = decide (i < 8 * (j + 1)) from decide_eq_decide.2 (by omega)]
      simp
theorem rN_eq (s : ByteArray) (n : Nat) (hn : n ≤ 8) : rN s n n = pN s n := by
  apply BitVec.eq_of_getLsbD_eq
  intro i hi
  rw [rN_bit s n hn n i (Nat.le_refl _) hi, pN_bit s n i hn hi, show n - n + i / 8 = i / 8 by omega]
theorem dropU_len : ∀ (xs : List UInt8) (n : Nat), (dropU xs n).length = xs.length - n
  | xs, 0 => by cases xs <;> simp [dropU]
  | [], n + 1 => by simp [dropU]
  | _ :: xs, n + 1 => by simp [dropU, dropU_len xs n]
theorem takeU_len : ∀ (xs : List UInt8) (n : Nat), (takeU xs n).length = min n xs.length
  | xs, 0 => by cases xs <;> simp [takeU]
  | [], n + 1 => by simp [takeU]
  | _ :: xs, n + 1 => by simp only [takeU, List.length_cons, takeU_len xs n]; omega
theorem exB_size (s : ByteArray) (l h : Nat) : (exB s l h).size = min (h - l) (s.size - l) := by
  show (takeU (dropU s.data.toList l) (h - l)).length = _
  rw [takeU_len, dropU_len]; rfl
theorem dn_nat {n : Nat} (h : 0 < n) (h2 : n < 4611686018427387904) : (BitVec.ofNat 64 n - 1#64).toNat = n - 1 := by
  rw [BitVec.toNat_sub, toNat_ofNat (by omega)]; simp only [BitVec.toNat_ofNat, Nat.reducePow, Nat.reduceMod]; omega
theorem dn_int {n : Nat} (h : 0 < n) (h2 : n < 4611686018427387904) : (BitVec.ofNat 64 n - 1#64).toInt = (n : Int) - 1 := by
  rw [BitVec.toInt_eq_toNat_cond, dn_nat h h2, if_pos (by omega)]; omega
theorem dn_yes {n k : Nat} (h2 : n < 4611686018427387904) (h : (0#64).sle (BitVec.ofNat 64 (n - k) - 1#64) = true) : k < n := by
  by_cases hc : k < n
  · exact hc
  · exfalso
    rw [show n - k = 0 by omega] at h
    exact absurd h (by decide)
theorem dn_no {n k : Nat} (h2 : n < 4611686018427387904) (h : (0#64).sle (BitVec.ofNat 64 (n - k) - 1#64) = false) : n ≤ k := by
  by_cases hc : n ≤ k
  · exact hc
  · exfalso
    have h' : ¬ ((0#64).sle (BitVec.ofNat 64 (n - k) - 1#64) = true) := by rw [h]; decide
    rw [BitVec.sle_iff_toInt_le, dn_int (show 0 < n - k by omega) (by omega)] at h'
    have e : (0#64).toInt = 0 := rfl
    rw [e] at h'
    omega
theorem dn_step (k n : Nat) (h : k < n) (h2 : n < 4611686018427387904) : AV.one (.b64 true (BitVec.ofNat 64 (n - k) - 1#64 - 1#64)) = .one (.b64 true (BitVec.ofNat 64 (n - (k + 1)) - 1#64)) := by
  have : BitVec.ofNat 64 (n - k) - 1#64 = BitVec.ofNat 64 (n - (k + 1)) := by
    apply BitVec.eq_of_toNat_eq
    rw [dn_nat (by omega) (by omega), toNat_ofNat (by omega)]; omega
  rw [this]
theorem rN_step (s : ByteArray) (k n : Nat) (h : k < n) (h2 : n < 4611686018427387904) : AV.one (.b64 false (rN s n k * 256#64 + BitVec.setWidth 64 (byteAt s (BitVec.ofNat 64 (n - k) - 1#64).toNat))) = .one (.b64 false (rN s n (k + 1))) := by
  rw [dn_nat (by omega) (by omega), show n - k - 1 = n - 1 - k by omega]; rfl
/-! ### Instructions -/
def dcO (s : ByteArray) : BitVec 8 := if s.size = 8 then byteAt s 0 else 0#8
def dcD (s : ByteArray) : BitVec 8 := if s.size = 8 then byteAt s 1 &&& 15#8 else 0#8
def dcS (s : ByteArray) : BitVec 8 := if s.size = 8 then byteAt s 1 >>> (4#64).toNat else 0#8
def dcF (s : ByteArray) : BitVec 16 := if s.size = 8 then (pN (exB s 2 4) 2).setWidth 16 else 0#16
def dcI (s : ByteArray) : BitVec 32 := if s.size = 8 then (pN (exB s 4 8) 4).setWidth 32 else 0#32
def dcE (s : ByteArray) : BitVec 64 := if s.size = 8 then 0#64 else 10#64
theorem size_ne (s : ByteArray) (h : s.size < 9223372036854775808) : (BitVec.ofNat 64 s.size != 8#64) = decide (s.size ≠ 8) := by
  rw [Bool.eq_iff_iff, bne_iff_ne, decide_eq_true_iff, ne_eq, ← BitVec.toNat_inj, toNat_ofNat (by omega)]
  exact Iff.rfl
theorem sign16 (v : BitVec 64) : (rSign v 16#64).setWidth 16 = v.setWidth 16 := by
  have e : rLow v 16#64 = v % 65536#64 := rfl
  have h1 : (v % 65536#64).setWidth 16 = v.setWidth 16 := by
    apply BitVec.eq_of_toNat_eq
    simp only [BitVec.toNat_setWidth, BitVec.toNat_umod, BitVec.toNat_ofNat, Nat.reducePow, Nat.reduceMod]; omega
  unfold rSign
  split
  · rw [e, h1]
  · rw [e, ← h1]
    apply BitVec.eq_of_toNat_eq
    rw [show 1#64 <<< (16#64).toNat = 65536#64 from rfl]
    simp only [BitVec.toNat_setWidth, BitVec.toNat_sub, BitVec.toNat_umod, BitVec.toNat_ofNat, Nat.reducePow, Nat.reduceMod]; omega
theorem sign32' (v : BitVec 64) : (rSign v 32#64).setWidth 32 = v.setWidth 32 := by
  have e : rLow v 32#64 = v % 4294967296#64 := rfl
  have h1 : (v % 4294967296#64).setWidth 32 = v.setWidth 32 := by
    apply BitVec.eq_of_toNat_eq
    simp only [BitVec.toNat_setWidth, BitVec.toNat_umod, BitVec.toNat_ofNat, Nat.reducePow, Nat.reduceMod]; omega
  unfold rSign
  split
  · rw [e, h1]
  · rw [e, ← h1]
    apply BitVec.eq_of_toNat_eq
    rw [show 1#64 <<< (32#64).toNat = 4294967296#64 from rfl]
    simp only [BitVec.toNat_setWidth, BitVec.toNat_sub, BitVec.toNat_umod, BitVec.toNat_ofNat, Nat.reducePow, Nat.reduceMod]; omega
theorem lo4 (x : BitVec 8) : x % 16#8 = x &&& 15#8 := by simpa using all8 (p := fun x => x % 16#8 == x &&& 15#8) (by decide +kernel) x
theorem hi4 (x : BitVec 8) : x / 16#8 = x >>> (4#64).toNat := by simpa using all8 (p := fun x => x / 16#8 == x >>> (4#64).toNat) (by decide +kernel) x
theorem up4 (x : BitVec 8) : (x &&& 15#8) * 16#8 = x <<< (4#64).toNat := by simpa using all8 (p := fun x => (x &&& 15#8) * 16#8 == x <<< (4#64).toNat) (by decide +kernel) x
theorem both4 (s d : BitVec 8) : s % 16#8 * 16#8 + d % 16#8 = s <<< (4#64).toNat ||| d &&& 15#8 := by
  rw [lo4, lo4, up4]
  apply BitVec.add_eq_or_of_and_eq_zero
  have h1 := all8 (p := fun s => (s <<< (4#64).toNat) &&& 15#8 == 0#8) (by decide +kernel) s
  have h1 : (s <<< (4#64).toNat) &&& 15#8 = 0#8 := by simpa using h1
  rw [BitVec.and_comm d, ← BitVec.and_assoc, h1, BitVec.zero_and]
theorem div256 (v : BitVec 64) : v / 256#64 = v >>> 8 := by
  apply BitVec.eq_of_toNat_eq
  rw [BitVec.toNat_udiv, BitVec.toNat_ushiftRight, Nat.shiftRight_eq_div_pow]; rfl
theorem mod256 (v : BitVec 64) : (v % 256#64).setWidth 8 = v.setWidth 8 := by
  apply BitVec.eq_of_toNat_eq
  simp only [BitVec.toNat_setWidth, BitVec.toNat_umod, BitVec.toNat_ofNat, Nat.reducePow, Nat.reduceMod]; omega
theorem shr0 (v : BitVec 64) : v >>> 0 = v := by simp
theorem shr_shr (v : BitVec 64) (a b : Nat) : (v >>> a) >>> b = v >>> (a + b) := (BitVec.shiftRight_add v a b).symm
end Go.Proofs.Ytdaioplfgbgggaa
/-
  Instructions: when one may stand, field by field. Plain mathematics. Conditions: none.
-/
namespace Go.Proofs.Ytdaioplfgbgggaa
set_option linter.unusedVariables false
set_option linter.unusedSimpArgs false

def chk (K x w f n : Bool) : BitVec 64 := if !K then 20#64 else if x || w then 22#64 else if f then 21#64 else if n then 23#64 else 0#64
theorem chk_zero {K x w f n : Bool} (h : chk K x w f n = 0#64) : K = true ∧ x = false ∧ w = false ∧ f = false ∧ n = false := by
  revert h; cases K <;> cases x <;> cases w <;> cases f <;> cases n <;> decide
theorem iCheck_chk (o d s : BitVec 8) (off : BitVec 16) (imm : BitVec 32) (inner : Bool) : iCheck o d s off imm inner =
    chk (fK o inner) ((10#8).ult d || (10#8).ult s) (fW o && d == 10#8) (!(fD o) && d != 0#8 || !(fS o) && s != 0#8 || !(fO o) && off != 0#16 || !(fI o) && imm != 0#32 || o == 24#8 && (1#8).ult s) (fI o && !(iN' o imm)) := rfl
structure Fits (o d s : BitVec 8) (off : BitVec 16) (imm : BitVec 32) : Prop where
  K : fK o true = true
  hd : (10#8).ult d = false
  hs : (10#8).ult s = false
  w : (fW o && d == 10#8) = false
  fd : (!(fD o) && d != 0#8) = false
  fs : (!(fS o) && s != 0#8) = false
  fo : (!(fO o) && off != 0#16) = false
  fi : (!(fI o) && imm != 0#32) = false
  l : (o == 24#8 && (1#8).ult s) = false
  n : (fI o && !(iN' o imm)) = false
theorem fits_of {o d s : BitVec 8} {off : BitVec 16} {imm : BitVec 32} (h : iCheck o d s off imm true = 0#64) : Fits o d s off imm := by
  rw [iCheck_chk] at h
  obtain ⟨h1, h2, h3, h4, h5⟩ := chk_zero h
  simp only [Bool.or_eq_false_iff] at h2 h4
  obtain ⟨⟨⟨⟨a, b⟩, c⟩, d⟩, e⟩ := h4
  exact ⟨h1, h2.1, h2.2, h3, a, b, c, d, e, h5⟩
theorem and_ff (x y : Bool) : (!x && y) = false ↔ (x = true ∨ y = false) := by cases x <;> cases y <;> decide
theorem fld_dst {o d s : BitVec 8} {off : BitVec 16} {imm : BitVec 32} (h : Fits o d s off imm) (d' : BitVec 8) :
    iCheck o d' s off imm true = 0#64 ∨ iCheck o d' s off imm true = 22#64 ∨ iCheck o d' s off imm true = 21#64 ∧ d = 0#8 := by
  obtain ⟨h1, h2, h3, h4, h5, h6, h7, h8, h9, h10⟩ := h
  rw [iCheck_chk, h1, h3, h6, h7, h8, h9, h10]
  cases a : (10#8).ult d' <;> cases b : (fW o && d' == 10#8) <;> cases c : (!(fD o) && d' != 0#8)
  all_goals first
    | exact .inl rfl
    | exact .inr (.inl rfl)
    | (refine .inr (.inr ⟨rfl, ?_⟩)
       rw [and_ff] at h5
       rcases h5 with h5 | h5
       · rw [h5] at c; cases c
       · simpa using h5)
theorem fld_dst0 {o d s : BitVec 8} {off : BitVec 16} {imm : BitVec 32} (h : Fits o d s off imm) : iCheck o 0#8 s off imm true = 0#64 := by
  obtain ⟨h1, h2, h3, h4, h5, h6, h7, h8, h9, h10⟩ := h
  rw [iCheck_chk, h1, h3, h6, h7, h8, h9, h10]
  have e : (fW o && 0#8 == 10#8) = false := by cases fW o <;> rfl
  have e2 : (!(fD o) && 0#8 != 0#8) = false := by cases fD o <;> rfl
  rw [e, e2]; rfl
theorem fld_src {o d s : BitVec 8} {off : BitVec 16} {imm : BitVec 32} (h : Fits o d s off imm) (s' : BitVec 8) :
    iCheck o d s' off imm true = 0#64 ∨ iCheck o d s' off imm true = 22#64 ∨ iCheck o d s' off imm true = 21#64 ∧ (s.setWidth 64).slt 2#64 = true := by
  obtain ⟨h1, h2, h3, h4, h5, h6, h7, h8, h9, h10⟩ := h
  rw [iCheck_chk, h1, h2, h4, h5, h7, h8, h10]
  cases a : (10#8).ult s' <;> cases c : (!(fS o) && s' != 0#8) <;> cases b : (o == 24#8 && (1#8).ult s')
  all_goals first
    | exact .inl rfl
    | exact .inr (.inl rfl)
    | (refine .inr (.inr ⟨rfl, ?_⟩)
       have : s.toNat < 2 := by
         first
           | (rw [and_ff] at h6
              rcases h6 with h6 | h6
              · rw [h6] at c; cases c
              · have : s = 0#8 := by simpa using h6
                subst this; decide)
           | (rw [Bool.and_eq_true] at b
              rw [b.1, Bool.true_and] at h9
              have : ¬ ((1#8).ult s = true) := by rw [h9]; decide
              simp only [BitVec.ult, decide_eq_true_eq, BitVec.toNat_ofNat] at this
              omega)
       rw [BitVec.slt_iff_toInt_lt, BitVec.toInt_eq_toNat_cond, BitVec.toNat_setWidth]
       have h2 : (2#64).toInt = 2 := rfl
       rw [h2]
       split <;> omega)
theorem fld_src0 {o d s : BitVec 8} {off : BitVec 16} {imm : BitVec 32} (h : Fits o d s off imm) : iCheck o d 0#8 off imm true = 0#64 := by
  obtain ⟨h1, h2, h3, h4, h5, h6, h7, h8, h9, h10⟩ := h
  rw [iCheck_chk, h1, h2, h4, h5, h7, h8, h10]
  have e : (!(fS o) && 0#8 != 0#8) = false := by cases fS o <;> rfl
  have e2 : (o == 24#8 && (1#8).ult 0#8) = false := by cases (o == 24#8) <;> rfl
  rw [e, e2]; rfl
theorem fld_off {o d s : BitVec 8} {off : BitVec 16} {imm : BitVec 32} (h : Fits o d s off imm) (f' : BitVec 16) :
    iCheck o d s f' imm true = 0#64 ∨ iCheck o d s f' imm true = 21#64 ∧ off = 0#16 := by
  obtain ⟨h1, h2, h3, h4, h5, h6, h7, h8, h9, h10⟩ := h
  rw [iCheck_chk, h1, h2, h3, h4, h5, h6, h8, h9, h10]
  cases c : (!(fO o) && f' != 0#16)
  · exact .inl rfl
  · refine .inr ⟨rfl, ?_⟩
    rw [and_ff] at h7
    rcases h7 with h7 | h7
    · rw [h7] at c; cases c
    · simpa using h7
theorem fld_off0 {o d s : BitVec 8} {off : BitVec 16} {imm : BitVec 32} (h : Fits o d s off imm) : iCheck o d s 0#16 imm true = 0#64 := by
  obtain ⟨h1, h2, h3, h4, h5, h6, h7, h8, h9, h10⟩ := h
  rw [iCheck_chk, h1, h2, h3, h4, h5, h6, h8, h9, h10]
  have e : (!(fO o) && 0#16 != 0#16) = false := by cases fO o <;> rfl
  rw [e]; rfl
theorem fld_imm {o d s : BitVec 8} {off : BitVec 16} {imm : BitVec 32} (h : Fits o d s off imm) (i' : BitVec 32) :
    iCheck o d s off i' true = 0#64 ∨ iCheck o d s off i' true = 23#64 ∨ iCheck o d s off i' true = 21#64 ∧ imm = 0#32 := by
  obtain ⟨h1, h2, h3, h4, h5, h6, h7, h8, h9, h10⟩ := h
  rw [iCheck_chk, h1, h2, h3, h4, h5, h6, h7, h9]
  cases c : (!(fI o) && i' != 0#32) <;> cases b : (fI o && !(iN' o i'))
  all_goals first
    | exact .inl rfl
    | exact .inr (.inl rfl)
    | (refine .inr (.inr ⟨rfl, ?_⟩)
       rw [and_ff] at h8
       rcases h8 with h8 | h8
       · rw [h8] at c; cases c
       · simpa using h8)
theorem fld_imm0 {o d s : BitVec 8} {off : BitVec 16} {imm : BitVec 32} (h : Fits o d s off imm) : iCheck o d s off 0#32 true = 0#64 ∨ iCheck o d s off 0#32 true = 23#64 := by
  rcases fld_imm h 0#32 with e | e | ⟨e, -⟩
  · exact .inl e
  · exact .inr e
  · exfalso
    obtain ⟨h1, h2, h3, h4, h5, h6, h7, h8, h9, h10⟩ := h
    rw [iCheck_chk, h1, h2, h3, h4, h5, h6, h7, h9] at e
    have e2 : (!(fI o) && 0#32 != 0#32) = false := by cases fI o <;> rfl
    rw [e2] at e
    cases b : (fI o && !(iN' o 0#32)) <;> rw [b] at e <;> exact absurd e (by decide)
theorem in_other (o d s : BitVec 8) (off : BitVec 16) (imm : BitVec 32) (h : o ≠ 194#8) : iCheck o d s off imm false = iCheck o d s off imm true := by
  have e : fK o false = fK o true := by
    have : isNs o = false := by simp [isNs, h]
    simp only [fK, this, Bool.false_and]
  rw [iCheck_chk, iCheck_chk, e]
theorem in_ns0 (d s : BitVec 8) (off : BitVec 16) (imm : BitVec 32) : iCheck 194#8 d s off imm false = 20#64 := rfl
theorem in_ns1 (d s : BitVec 8) (off : BitVec 16) (imm : BitVec 32) : (iCheck 194#8 d s off imm true == 0#64) = (194#8 == 194#8 && (d == 0#8 && (s == 0#8 && (off == 0#16 && imm == 0#32)))) := by
  rw [iCheck_chk, show fK 194#8 true = true from rfl, show fW 194#8 = false from rfl, show fD 194#8 = false from rfl, show fS 194#8 = false from rfl, show fO 194#8 = false from rfl, show fI 194#8 = false from rfl,
    show (194#8 == 24#8) = false from rfl]
  by_cases h1 : d = 0#8
  · subst h1
    by_cases h2 : s = 0#8
    · subst h2
      by_cases h3 : off = 0#16
      · subst h3
        by_cases h4 : imm = 0#32
        · subst h4; rfl
        · have : (imm == 0#32) = false := by simpa using h4
          unfold bne; rw [this]; rfl
      · have : (off == 0#16) = false := by simpa using h3
        unfold bne; rw [this]; rfl
    · have : (s == 0#8) = false := by simpa using h2
      unfold bne; rw [this]
      cases (10#8).ult s <;> rfl
  · have : (d == 0#8) = false := by simpa using h1
    unfold bne; rw [this]
    cases (10#8).ult d <;> cases (10#8).ult s <;> rfl
theorem in_ns2 (d s : BitVec 8) (off : BitVec 16) (imm : BitVec 32) : (20#64 == iCheck 194#8 d s off imm true) = false := by
  rw [iCheck_chk, show fK 194#8 true = true from rfl]
  generalize ((10#8).ult d || (10#8).ult s) = a
  generalize (fW 194#8 && d == 10#8) = b
  generalize (fI 194#8 && !(iN' 194#8 imm)) = c
  generalize (!(fD 194#8) && d != 0#8 || !(fS 194#8) && s != 0#8 || !(fO 194#8) && off != 0#16 || !(fI 194#8) && imm != 0#32 || 194#8 == 24#8 && (1#8).ult s) = e
  revert a b c e
  decide
end Go.Proofs.Ytdaioplfgbgggaa
/-
  Instructions as bytes and back: mathematics. Conditions: none.
-/
namespace Go.Proofs.Ytdaioplfgbgggaa
open Go.Ep Go.RowKit
set_option linter.unusedVariables false
set_option linter.unusedSimpArgs false
abbrev eightB (b0 b1 b2 b3 b4 b5 b6 b7 : BitVec 8) : ByteArray := ⟨⟨[UInt8.ofBitVec b0, UInt8.ofBitVec b1, UInt8.ofBitVec b2, UInt8.ofBitVec b3, UInt8.ofBitVec b4, UInt8.ofBitVec b5, UInt8.ofBitVec b6, UInt8.ofBitVec b7]⟩⟩
theorem d_O (b0 b1 b2 b3 b4 b5 b6 b7 : BitVec 8) : dcO (eightB b0 b1 b2 b3 b4 b5 b6 b7) = b0 := rfl
theorem d_D (b0 b1 b2 b3 b4 b5 b6 b7 : BitVec 8) : dcD (eightB b0 b1 b2 b3 b4 b5 b6 b7) = b1 &&& 15#8 := rfl
theorem d_S (b0 b1 b2 b3 b4 b5 b6 b7 : BitVec 8) : dcS (eightB b0 b1 b2 b3 b4 b5 b6 b7) = b1 >>> (4#64).toNat := rfl
theorem d_E (b0 b1 b2 b3 b4 b5 b6 b7 : BitVec 8) : dcE (eightB b0 b1 b2 b3 b4 b5 b6 b7) = 0#64 := rfl
theorem d_F (b0 b1 b2 b3 b4 b5 b6 b7 : BitVec 8) : dcF (eightB b0 b1 b2 b3 b4 b5 b6 b7) = (0#64 ||| b2.setWidth 64 <<< 0 ||| b3.setWidth 64 <<< 8).setWidth 16 := rfl
theorem d_I (b0 b1 b2 b3 b4 b5 b6 b7 : BitVec 8) : dcI (eightB b0 b1 b2 b3 b4 b5 b6 b7) = (0#64 ||| b4.setWidth 64 <<< 0 ||| b5.setWidth 64 <<< 8 ||| b6.setWidth 64 <<< 16 ||| b7.setWidth 64 <<< 24).setWidth 32 := rfl
theorem enc_eight (o d s : BitVec 8) (f : BitVec 16) (i : BitVec 32) : iEnc o d s f i = eightB o (s <<< 4 ||| d &&& 15#8) (((f.signExtend 64) >>> 0).setWidth 8) (((f.signExtend 64) >>> 8).setWidth 8) (((i.signExtend 64) >>> 0).setWidth 8) (((i.signExtend 64) >>> 8).setWidth 8) (((i.signExtend 64) >>> 16).setWidth 8) (((i.signExtend 64) >>> 24).setWidth 8) := rfl
theorem se_bit {w : Nat} (x : BitVec w) (j : Nat) (hj : j < w) (h64 : j < 64) : (x.signExtend 64).getLsbD j = x.getLsbD j := by
  rw [BitVec.getLsbD_signExtend, decide_eq_true h64, if_pos hj]; simp
theorem se_get {w : Nat} (x : BitVec w) (j : Nat) (hj : j < w) (h64 : j < 64) : (x.signExtend 64)[j] = x[j] := by
  have := se_bit x j hj h64
  rwa [BitVec.getLsbD_eq_getElem h64, BitVec.getLsbD_eq_getElem hj] at this
theorem back16 (f : BitVec 16) : (0#64 ||| (((f.signExtend 64) >>> 0).setWidth 8).setWidth 64 <<< 0 ||| (((f.signExtend 64) >>> 8).setWidth 8).setWidth 64 <<< 8).setWidth 16 = f := by
  apply BitVec.eq_of_getLsbD_eq
  intro j hj
  simp only [BitVec.getLsbD_setWidth, BitVec.getLsbD_or, BitVec.getLsbD_shiftLeft, BitVec.getLsbD_ushiftRight, BitVec.getLsbD_zero, Bool.false_or]
  by_cases h1 : j < 8
  · simp [hj, h1, show j < 64 by omega, se_get f j hj (by omega)]
  · have h2 : j - 8 < 8 := by omega
    simp [hj, h1, h2, show j < 64 by omega, show j - 8 < 64 by omega, show 8 + (j - 8) = j by omega, se_get f j hj (by omega)]
theorem back32 (i : BitVec 32) : (0#64 ||| (((i.signExtend 64) >>> 0).setWidth 8).setWidth 64 <<< 0 ||| (((i.signExtend 64) >>> 8).setWidth 8).setWidth 64 <<< 8 ||| (((i.signExtend 64) >>> 16).setWidth 8).setWidth 64 <<< 16 ||| (((i.signExtend 64) >>> 24).setWidth 8).setWidth 64 <<< 24).setWidth 32 = i := by
  apply BitVec.eq_of_getLsbD_eq
  intro j hj
  simp only [BitVec.getLsbD_setWidth, BitVec.getLsbD_or, BitVec.getLsbD_shiftLeft, BitVec.getLsbD_ushiftRight, BitVec.getLsbD_zero, Bool.false_or]
  have e := se_get i j hj (by omega)
  by_cases h1 : j < 8
  · simp [hj, h1, show j < 64 by omega, show j < 16 by omega, show j < 24 by omega, e]
  · by_cases h2 : j < 16
    · simp [hj, h1, h2, show j - 8 < 8 by omega, show j < 64 by omega, show j < 24 by omega, show j - 8 < 64 by omega, show 8 + (j - 8) = j by omega, e]
    · by_cases h3 : j < 24
      · simp [hj, h1, h2, h3, show ¬ (j - 8 < 8) by omega, show j - 16 < 8 by omega, show j < 64 by omega, show j - 16 < 64 by omega, show 16 + (j - 16) = j by omega, e]
      · simp [hj, h1, h2, h3, show ¬ (j - 8 < 8) by omega, show ¬ (j - 16 < 8) by omega, show j - 24 < 8 by omega, show j < 64 by omega, show j - 24 < 64 by omega, show 24 + (j - 24) = j by omega, e]
theorem lo_of (s d : BitVec 8) : (s <<< 4 ||| d &&& 15#8) &&& 15#8 = d &&& 15#8 := by
  have h1 := all8 (p := fun s => (s <<< 4) &&& 15#8 == 0#8) (by decide +kernel) s
  have h1 : (s <<< 4) &&& 15#8 = 0#8 := by simpa using h1
  rw [BitVec.and_or_distrib_right, h1, BitVec.and_assoc, BitVec.and_self, BitVec.zero_or]
theorem hi_of (s d : BitVec 8) : (s <<< 4 ||| d &&& 15#8) >>> (4#64).toNat = s &&& 15#8 := by
  have h1 := all8 (p := fun s => (s <<< 4) >>> (4#64).toNat == s &&& 15#8) (by decide +kernel) s
  have h2 := all8 (p := fun d => (d &&& 15#8) >>> (4#64).toNat == 0#8) (by decide +kernel) d
  have h1 : (s <<< 4) >>> (4#64).toNat = s &&& 15#8 := by simpa using h1
  have h2 : (d &&& 15#8) >>> (4#64).toNat = 0#8 := by simpa using h2
  rw [BitVec.ushiftRight_or_distrib, h1, h2, BitVec.or_zero]
theorem small15 (x : BitVec 8) : (x &&& 15#8 == x) = x.ult 16#8 := by simpa using all8 (p := fun x => (x &&& 15#8 == x) == x.ult 16#8) (by decide +kernel) x
theorem merge4 (b : BitVec 8) : (b >>> (4#64).toNat) <<< 4 ||| (b &&& 15#8) &&& 15#8 = b := by simpa using all8 (p := fun b => (b >>> (4#64).toNat) <<< 4 ||| (b &&& 15#8) &&& 15#8 == b) (by decide +kernel) b
theorem fwd16 (a b : BitVec 8) : ((((0#64 ||| a.setWidth 64 <<< 0 ||| b.setWidth 64 <<< 8).setWidth 16).signExtend 64 >>> 0).setWidth 8 : BitVec 8) = a ∧ ((((0#64 ||| a.setWidth 64 <<< 0 ||| b.setWidth 64 <<< 8).setWidth 16).signExtend 64 >>> 8).setWidth 8 : BitVec 8) = b := by
  constructor
  all_goals
    apply BitVec.eq_of_getLsbD_eq
    intro j hj
  · rw [BitVec.getLsbD_setWidth, BitVec.getLsbD_ushiftRight, se_bit _ _ (by omega) (by omega)]
    simp [hj, show j < 16 by omega, show j < 64 by omega]
  · rw [BitVec.getLsbD_setWidth, BitVec.getLsbD_ushiftRight, se_bit _ _ (by omega) (by omega)]
    have : a.getLsbD (8 + j) = false := BitVec.getLsbD_of_ge _ _ (by omega)
    simp [hj, show 8 + j < 16 by omega, show 8 + j < 64 by omega, this, show j < 64 by omega]
theorem fwd32 (a b c e : BitVec 8) (X : BitVec 64) (hX : X = 0#64 ||| a.setWidth 64 <<< 0 ||| b.setWidth 64 <<< 8 ||| c.setWidth 64 <<< 16 ||| e.setWidth 64 <<< 24) :
    (((X.setWidth 32).signExtend 64 >>> 0).setWidth 8 : BitVec 8) = a ∧ (((X.setWidth 32).signExtend 64 >>> 8).setWidth 8 : BitVec 8) = b ∧ (((X.setWidth 32).signExtend 64 >>> 16).setWidth 8 : BitVec 8) = c ∧ (((X.setWidth 32).signExtend 64 >>> 24).setWidth 8 : BitVec 8) = e := by
  have g : ∀ (x : BitVec 8) (n : Nat), 8 ≤ n → x.getLsbD n = false := fun x n h => BitVec.getLsbD_of_ge _ _ h
  subst hX
  refine ⟨?_, ?_, ?_, ?_⟩
  all_goals
    apply BitVec.eq_of_getLsbD_eq
    intro j hj
    rw [BitVec.getLsbD_setWidth, BitVec.getLsbD_ushiftRight, se_bit _ _ (by omega) (by omega)]
    simp only [BitVec.getLsbD_setWidth, BitVec.getLsbD_or, BitVec.getLsbD_shiftLeft, BitVec.getLsbD_zero, Bool.false_or]
  · simp [hj, show j < 16 by omega, show j < 24 by omega, show j < 32 by omega, show j < 64 by omega]
  · simp [hj, g a (8 + j) (by omega), show 8 + j < 16 by omega, show 8 + j < 24 by omega, show 8 + j < 32 by omega, show 8 + j < 64 by omega, show j < 64 by omega]
  · simp [hj, g a (16 + j) (by omega), g b (16 + j - 8) (by omega), show 16 + j < 24 by omega, show 16 + j < 32 by omega, show 16 + j < 64 by omega, show j < 64 by omega]
  · simp [hj, g a (24 + j) (by omega), g b (24 + j - 8) (by omega), g c (24 + j - 16) (by omega), show 24 + j < 32 by omega, show 24 + j < 64 by omega, show j < 64 by omega]
theorem enc_dec (b0 b1 b2 b3 b4 b5 b6 b7 : BitVec 8) :
    iEnc (dcO (eightB b0 b1 b2 b3 b4 b5 b6 b7)) (dcD (eightB b0 b1 b2 b3 b4 b5 b6 b7)) (dcS (eightB b0 b1 b2 b3 b4 b5 b6 b7)) (dcF (eightB b0 b1 b2 b3 b4 b5 b6 b7)) (dcI (eightB b0 b1 b2 b3 b4 b5 b6 b7)) = eightB b0 b1 b2 b3 b4 b5 b6 b7 := by
  rw [enc_eight, d_O, d_D, d_S, d_F, d_I, merge4, (fwd16 b2 b3).1, (fwd16 b2 b3).2]
  obtain ⟨h1, h2, h3, h4⟩ := fwd32 b4 b5 b6 b7 _ rfl
  rw [h1, h2, h3, h4]
theorem dec_enc (o d s : BitVec 8) (f : BitVec 16) (i : BitVec 32) : dcO (iEnc o d s f i) = o ∧ dcD (iEnc o d s f i) = d &&& 15#8 ∧ dcS (iEnc o d s f i) = s &&& 15#8 ∧ dcF (iEnc o d s f i) = f ∧ dcI (iEnc o d s f i) = i ∧ dcE (iEnc o d s f i) = 0#64 := by
  rw [enc_eight, d_O, d_D, d_S, d_F, d_I, d_E, back16, back32, lo_of, hi_of]
  exact ⟨rfl, rfl, rfl, rfl, rfl, rfl⟩
theorem enc_size (o d s : BitVec 8) (f : BitVec 16) (i : BitVec 32) : (iEnc o d s f i).size = 8 := rfl
end Go.Proofs.Ytdaioplfgbgggaa
