/-
  Numbers of 64 bits as bit vectors: what the model's arithmetic of uint64 and int64 comes to. Plain mathematics: no program in sight. Conditions: none.
-/
import Derived.WalkKit
namespace Go.Proofs.Ytakemmdcaboapaa
open Go.RowKit

/-- A bit vector as the number that the model bears: without a sign, with one. -/
def U (x : BitVec 64) : Int := x.toNat
def Sg (x : BitVec 64) : Int := x.toInt

theorem U_lo (x : BitVec 64) : 0 ≤ U x := by unfold U; omega
theorem U_hi (x : BitVec 64) : U x < 18446744073709551616 := by unfold U; have := x.isLt; omega
theorem U_ofInt (n : Int) (h0 : 0 ≤ n) (h1 : n < 18446744073709551616) : U (BitVec.ofInt 64 n) = n := by
  unfold U; rw [BitVec.toNat_ofInt]; simp; omega
theorem ofInt_U (x : BitVec 64) : BitVec.ofInt 64 (U x) = x := by
  unfold U; rw [BitVec.ofInt_natCast]; simp
theorem ofInt_Sg (x : BitVec 64) : BitVec.ofInt 64 (Sg x) = x := by
  unfold Sg; exact BitVec.ofInt_toInt
theorem U_wrap (n : Int) : IntKind.u64.wrap n = U (BitVec.ofInt 64 n) := by
  unfold U; rw [BitVec.toNat_ofInt, IntKind.wrap_u64]; simp; omega
theorem Sg_wrap (n : Int) : wrap64 n = Sg (BitVec.ofInt 64 n) := by
  unfold Sg wrap64; rw [BitVec.toInt_ofInt]; rw [Int.bmod_def]; simp; split <;> omega
theorem U_inj {x y : BitVec 64} (h : U x = U y) : x = y := by rw [← ofInt_U x, h, ofInt_U]
theorem U_lit (n : Nat) (h : n < 18446744073709551616) : (n : Int) = U (BitVec.ofNat 64 n) := by
  unfold U; rw [BitVec.toNat_ofNat]; omega

theorem u_add (x y : BitVec 64) : IntKind.u64.wrap (U x + U y) = U (x + y) := by
  rw [U_wrap, BitVec.ofInt_add, ofInt_U, ofInt_U]
theorem u_sub (x y : BitVec 64) : IntKind.u64.wrap (U x - U y) = U (x - y) := by
  rw [U_wrap, Int.sub_eq_add_neg, BitVec.ofInt_add, BitVec.ofInt_neg, ofInt_U, ofInt_U, BitVec.sub_eq_add_neg]
theorem u_mul (x y : BitVec 64) : IntKind.u64.wrap (U x * U y) = U (x * y) := by
  rw [U_wrap, BitVec.ofInt_mul, ofInt_U, ofInt_U]
theorem u_bits_and (x y : BitVec 64) : bits .and .u64 (U x) (U y) = U (x &&& y) := by
  show IntKind.u64.wrap ((BitVec.ofInt 64 (U x) &&& BitVec.ofInt 64 (U y)).toNat : Int) = _
  rw [ofInt_U, ofInt_U]
  exact (U_wrap _).trans (congrArg U (ofInt_U _))
theorem u_bits_or (x y : BitVec 64) : bits .or .u64 (U x) (U y) = U (x ||| y) := by
  show IntKind.u64.wrap ((BitVec.ofInt 64 (U x) ||| BitVec.ofInt 64 (U y)).toNat : Int) = _
  rw [ofInt_U, ofInt_U]
  exact (U_wrap _).trans (congrArg U (ofInt_U _))
theorem u_bits_xor (x y : BitVec 64) : bits .xor .u64 (U x) (U y) = U (x ^^^ y) := by
  show IntKind.u64.wrap ((BitVec.ofInt 64 (U x) ^^^ BitVec.ofInt 64 (U y)).toNat : Int) = _
  rw [ofInt_U, ofInt_U]
  exact (U_wrap _).trans (congrArg U (ofInt_U _))
theorem u_bits_andNot (x y : BitVec 64) : bits .andNot .u64 (U x) (U y) = U (x &&& ~~~y) := by
  show IntKind.u64.wrap ((BitVec.ofInt 64 (U x) &&& ~~~BitVec.ofInt 64 (U y)).toNat : Int) = _
  rw [ofInt_U, ofInt_U]
  exact (U_wrap _).trans (congrArg U (ofInt_U _))
theorem u_eq (x y : BitVec 64) : (U x == U y) = (x == y) := by
  rw [Bool.eq_iff_iff]; simp only [beq_iff_eq]; exact ⟨U_inj, fun h => by rw [h]⟩
theorem u_ne (x y : BitVec 64) : (U x != U y) = (x != y) := by rw [bne, bne, u_eq]
theorem u_zero (x : BitVec 64) : (U x == 0) = (x == 0#64) := u_eq x 0#64
theorem u_lt (x y : BitVec 64) : decide (U x < U y) = decide (x < y) := by
  rw [decide_eq_decide, BitVec.lt_def]; unfold U; omega
theorem u_le (x y : BitVec 64) : decide (U x ≤ U y) = decide (x ≤ y) := by
  rw [decide_eq_decide, BitVec.le_def]; unfold U; omega

theorem u_shl (x : BitVec 64) (n : Nat) : IntKind.u64.wrap (U x * 2 ^ n) = U (x <<< n) := by
  rw [U_wrap, BitVec.ofInt_mul, ofInt_U]
  congr 1
  apply BitVec.eq_of_toNat_eq
  rw [BitVec.toNat_mul, BitVec.toNat_shiftLeft, Nat.shiftLeft_eq]
  have : ((2 : Int) ^ n) = ((2 ^ n : Nat) : Int) := by simp
  rw [this, BitVec.ofInt_natCast, BitVec.toNat_ofNat, Nat.mul_mod_mod]
theorem u_shr (x : BitVec 64) (n : Nat) : U x / 2 ^ n = U (x >>> n) := by
  unfold U
  rw [BitVec.toNat_ushiftRight, Nat.shiftRight_eq_div_pow]
  simp
theorem s_shr (x : BitVec 64) (n : Nat) : Sg x / 2 ^ n = Sg (x.sshiftRight n) := by
  unfold Sg
  rw [BitVec.toInt_sshiftRight, Int.shiftRight_eq_div_pow]
  simp
theorem u_to_s (x : BitVec 64) : wrap64 (U x) = Sg x := by rw [Sg_wrap, ofInt_U]
theorem u_to_s' (x : BitVec 64) : IntKind.i64.wrap (U x) = Sg x := (IntWalk.i64_left _).trans (u_to_s x)
theorem s_to_u (x : BitVec 64) : IntKind.u64.wrap (Sg x) = U x := by rw [U_wrap, ofInt_Sg]
theorem u_neg (x : BitVec 64) : IntKind.u64.wrap (-(U x)) = U (-x) := by rw [U_wrap, BitVec.ofInt_neg, ofInt_U]
theorem u_of (a : Int) (h0 : 0 ≤ a) (h1 : a ≤ 18446744073709551615) : ∃ x : BitVec 64, a = U x := ⟨BitVec.ofInt 64 a, (U_ofInt a h0 (by omega)).symm⟩
theorem s_of (a : Int) (h0 : -9223372036854775808 ≤ a) (h1 : a ≤ 9223372036854775807) : ∃ x : BitVec 64, a = Sg x := by
  refine ⟨BitVec.ofInt 64 a, ?_⟩
  rw [← Sg_wrap]; unfold wrap64; omega
theorem U_zero : U 0#64 = 0 := rfl

/-- By how many bits is shifted. -/
def cnt (n : Int) : Nat := (n % 64).toNat
theorem cnt_le (n : Int) : cnt n ≤ 63 := by unfold cnt; omega
theorem and63 (n : Int) : bits .and .i64 n 63 = (cnt n : Int) := by
  show IntKind.i64.wrap ((BitVec.ofInt 64 n &&& BitVec.ofInt 64 63).toNat : Int) = _
  have e : (BitVec.ofInt 64 63 : BitVec 64).toNat = 2 ^ 6 - 1 := by decide
  rw [BitVec.toNat_and, e, Nat.and_two_pow_sub_one_eq_mod, BitVec.toNat_ofInt]
  unfold cnt
  have h : (n % ((2 ^ 64 : Nat) : Int)).toNat % 2 ^ 6 = (n % 64).toNat := by
    have : ((2 ^ 64 : Nat) : Int) = 18446744073709551616 := by decide
    rw [this]; omega
  rw [h]
  exact IntWalk.i64_in _ (by omega)
/-- The lowest bits, as a mask. -/
def maskB (n : Int) : BitVec 64 := (1#64 <<< (max n 0).toNat) - 1#64
theorem u_one_shl (n : Nat) : IntKind.u64.wrap (2 ^ n) = U (1#64 <<< n) := by
  have := u_shl 1#64 n
  rw [show U 1#64 = 1 from rfl, Int.one_mul] at this
  exact this
theorem u_sub_one (x : BitVec 64) : IntKind.u64.wrap (U x - 1) = U (x - 1#64) := u_sub x 1#64
end Go.Proofs.Ytakemmdcaboapaa
