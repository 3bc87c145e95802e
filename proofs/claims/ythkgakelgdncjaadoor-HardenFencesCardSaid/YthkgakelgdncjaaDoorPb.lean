/-
  What the model's arithmetic of numbers comes to, told of bit vectors, at each kind of numbers. Plain mathematics: no program in sight. Conditions: none.
-/
import Derived.Test.YthkgakelgdncjaaDoorPa
namespace Go.Ep
open Go.RowKit
set_option linter.unusedVariables false
set_option linter.unusedSimpArgs false

/-- The number of a bit vector; s: its highest bit is a sign. -/
def vI {w : Nat} (s : Bool) (x : BitVec w) : Int := match s with
  | true => x.toInt
  | false => (x.toNat : Int)

theorem ofInt_vI {w : Nat} (s : Bool) (x : BitVec w) : BitVec.ofInt w (vI s x) = x := by
  cases s
  · show BitVec.ofInt w (x.toNat : Int) = x; rw [BitVec.ofInt_natCast]; simp
  · exact BitVec.ofInt_toInt
theorem wrap_vI (K : IntKind) (n : Int) : K.wrap n = vI K.signed (BitVec.ofInt K.bits n) := by
  cases K <;> simp only [IntKind.wrap, IntKind.bits, IntKind.signed, vI, BitVec.toInt_ofInt, BitVec.toNat_ofInt, Int.bmod_def] <;> simp <;> omega
theorem vI_inj {w : Nat} {s : Bool} {x y : BitVec w} (h : vI s x = vI s y) : x = y := by
  rw [← ofInt_vI s x, h, ofInt_vI]
theorem wrap_vI_self (K : IntKind) (x : BitVec K.bits) : K.wrap (vI K.signed x) = vI K.signed x := by rw [wrap_vI, ofInt_vI]
theorem n_add (K : IntKind) (x y : BitVec K.bits) : K.wrap (vI K.signed x + vI K.signed y) = vI K.signed (x + y) := by
  rw [wrap_vI, BitVec.ofInt_add, ofInt_vI, ofInt_vI]
theorem ofInt_sub' {w : Nat} (a b : Int) : BitVec.ofInt w (a - b) = BitVec.ofInt w a - BitVec.ofInt w b := by
  apply BitVec.eq_of_toInt_eq
  simp [BitVec.toInt_ofInt, BitVec.toInt_sub]
theorem n_sub (K : IntKind) (x y : BitVec K.bits) : K.wrap (vI K.signed x - vI K.signed y) = vI K.signed (x - y) := by
  rw [wrap_vI, ofInt_sub', ofInt_vI, ofInt_vI]
theorem n_neg (K : IntKind) (x : BitVec K.bits) : K.wrap (0 - vI K.signed x) = vI K.signed (-x) := by
  rw [wrap_vI, ofInt_sub', ofInt_vI]; simp
theorem n_mul (K : IntKind) (x y : BitVec K.bits) : K.wrap (vI K.signed x * vI K.signed y) = vI K.signed (x * y) := by
  rw [wrap_vI, BitVec.ofInt_mul, ofInt_vI, ofInt_vI]
theorem n_back (K : IntKind) (x : BitVec K.bits) : K.wrap ((x.toNat : Nat) : Int) = vI K.signed x := by
  rw [wrap_vI, BitVec.ofInt_natCast]; simp
theorem n_eql {w : Nat} (s : Bool) (x y : BitVec w) : (vI s x == vI s y) = (x == y) := by
  by_cases h : x = y
  · subst h; simp
  · have : vI s x ≠ vI s y := fun e => h (vI_inj e)
    rw [beq_eq_false_iff_ne.2 h, beq_eq_false_iff_ne.2 this]
theorem n_lt {w : Nat} (s : Bool) (x y : BitVec w) : decide (vI s x < vI s y) = ltW s x y := by
  cases s
  · simp [vI, ltW, BitVec.ult]
  · exact decide_eq_decide.2 Iff.rfl
theorem n_le {w : Nat} (s : Bool) (x y : BitVec w) : decide (vI s x ≤ vI s y) = leW s x y := by
  cases s
  · simp [vI, leW, BitVec.ule]
  · exact decide_eq_decide.2 Iff.rfl
theorem n_zero {w : Nat} (s : Bool) (y : BitVec w) (h : y ≠ 0#w) : vI s y ≠ 0 := by
  intro e
  apply h
  rw [← ofInt_vI s y, e]
  rfl
theorem n_quo (K : IntKind) (x y : BitVec K.bits) : K.wrap ((vI K.signed x).tdiv (vI K.signed y)) = vI K.signed (quoW K.signed x y) := by
  rw [wrap_vI]
  congr 1
  cases hs : K.signed
  · simp only [vI, quoW]
    rw [← Int.ofNat_tdiv, BitVec.ofInt_natCast]
    apply BitVec.eq_of_toNat_eq
    rw [BitVec.toNat_ofNat, BitVec.toNat_udiv]
    exact Nat.mod_eq_of_lt (Nat.lt_of_le_of_lt (Nat.div_le_self _ _) x.isLt)
  · simp only [vI, quoW]
    apply BitVec.eq_of_toInt_eq
    rw [BitVec.toInt_ofInt, BitVec.toInt_sdiv]
theorem n_rem (K : IntKind) (x y : BitVec K.bits) : (vI K.signed x).tmod (vI K.signed y) = vI K.signed (remW K.signed x y) := by
  cases hs : K.signed
  · simp only [vI, remW]
    rw [← Int.ofNat_tmod, BitVec.toNat_umod]
  · simp only [vI, remW]
    rw [BitVec.toInt_srem]
theorem n_shl (K : IntKind) (x : BitVec K.bits) (n : Nat) : K.wrap (vI K.signed x * 2 ^ (min n K.bits)) = vI K.signed (x <<< n) := by
  rw [wrap_vI, BitVec.ofInt_mul, ofInt_vI]
  congr 1
  apply BitVec.eq_of_toNat_eq
  have e : BitVec.ofInt K.bits (2 ^ (min n K.bits)) = BitVec.ofNat K.bits (2 ^ (min n K.bits)) := by
    have : ((2 : Int) ^ (min n K.bits)) = ((2 ^ (min n K.bits) : Nat) : Int) := by simp
    rw [this, BitVec.ofInt_natCast]
  rw [e, BitVec.toNat_mul, BitVec.toNat_ofNat, BitVec.toNat_shiftLeft, Nat.shiftLeft_eq, Nat.mul_mod_mod]
  rcases Nat.lt_or_ge n K.bits with h | h
  · rw [Nat.min_eq_left (by omega)]
  · rw [Nat.min_eq_right h]
    have h1 : 2 ^ n = 2 ^ K.bits * 2 ^ (n - K.bits) := by rw [← Nat.pow_add]; congr 1; omega
    rw [h1, Nat.mul_left_comm, Nat.mul_mod_right, Nat.mul_mod_left]
theorem n_shr (K : IntKind) (x : BitVec K.bits) (n : Nat) : (vI K.signed x).fdiv (2 ^ (min n K.bits)) = vI K.signed (shrW K.signed x n) := by
  have hp : ((2 : Int) ^ (min n K.bits)) = ((2 ^ (min n K.bits) : Nat) : Int) := by simp
  have h0 : (0 : Int) ≤ 2 ^ (min n K.bits) := by rw [hp]; exact Int.natCast_nonneg _
  rw [Int.fdiv_eq_ediv_of_nonneg _ h0]
  cases hs : K.signed
  · simp only [vI, shrW]
    rw [hp, BitVec.toNat_ushiftRight, Nat.shiftRight_eq_div_pow, ← Int.natCast_ediv]
    congr 1
    rcases Nat.lt_or_ge n K.bits with h | h
    · rw [Nat.min_eq_left (by omega)]
    · rw [Nat.min_eq_right h]
      have hx := x.isLt
      rw [Nat.div_eq_of_lt hx, Nat.div_eq_of_lt (Nat.lt_of_lt_of_le hx (Nat.pow_le_pow_right (by omega) h))]
  · simp only [vI, shrW]
    rw [BitVec.toInt_sshiftRight, Int.shiftRight_eq_div_pow]
    rcases Nat.lt_or_ge n K.bits with h | h
    · rw [Nat.min_eq_left (by omega)]; simp
    · rw [Nat.min_eq_right h]
      have h1 := BitVec.toInt_lt (x := x)
      have h2 := BitVec.le_toInt (x := x)
      have hb : 0 < K.bits := by cases K <;> simp [IntKind.bits]
      have hq : (2 : Int) ^ (K.bits - 1) ≤ 2 ^ K.bits := by
        have := Nat.pow_le_pow_right (n := 2) (by omega) (show K.bits - 1 ≤ K.bits by omega)
        exact_mod_cast this
      have hq2 : (2 : Int) ^ K.bits ≤ 2 ^ n := by
        have := Nat.pow_le_pow_right (n := 2) (by omega) h
        exact_mod_cast this
      rcases Int.lt_or_le x.toInt 0 with hneg | hpos
      · have e1 : x.toInt / (2 ^ K.bits : Int) = -1 := by
          apply Int.ediv_eq_neg_one_of_neg_of_le hneg
          omega
        have e2 : x.toInt / ((2 ^ n : Nat) : Int) = -1 := by
          apply Int.ediv_eq_neg_one_of_neg_of_le hneg
          simp; omega
        rw [e1, e2]
      · rw [Int.ediv_eq_zero_of_lt hpos (by omega), Int.ediv_eq_zero_of_lt hpos (by simp; omega)]
theorem n_conv (K : IntKind) {w : Nat} (s : Bool) (x : BitVec w) : K.wrap (vI s x) = vI K.signed (convW s x : BitVec K.bits) := by
  rw [wrap_vI]
  congr 1
  cases s
  · simp only [vI, convW]
    apply BitVec.eq_of_toNat_eq
    simp
  · simp only [vI, convW]
    rfl
theorem n_toNat {w : Nat} (y : BitVec w) (h : 0 ≤ y.toInt) : y.toInt.toNat = y.toNat := by
  have := BitVec.toInt_eq_toNat_cond y
  have h1 := y.isLt
  split at this
  · rw [this]; simp
  · exfalso; rw [this] at h
    have : (y.toNat : Int) < ((2 ^ w : Nat) : Int) := by exact_mod_cast h1
    omega
theorem n_not (K : IntKind) (x : BitVec K.bits) : K.wrap (((BitVec.ofInt K.bits (if K.signed then -1 else K.max)) ^^^ (BitVec.ofInt K.bits (vI K.signed x))).toNat : Nat) = vI K.signed (~~~x) := by
  rw [ofInt_vI, n_back]
  congr 1
  have : BitVec.ofInt K.bits (if K.signed then -1 else K.max) = BitVec.allOnes K.bits := by
    cases K <;> rfl
  rw [this]; simp
end Go.Ep
