/-
  Long division by halves, in natural numbers: what math/bits.Div64 reckons, digit by digit. Conditions: as typed.
-/
import Derived.Test.YtppankimieopiaaDoorCpG
namespace Go.Proofs.YtppankimieopiaaDoor
set_option linter.unusedVariables false
set_option linter.unusedSimpArgs false
/-- The digit that is sought. -/
def dgQ (y1 y0 u u1 : Nat) : Nat := (u * 4294967296 + u1) / (y1 * 4294967296 + y0)
structure DgH (y1 y0 u u1 : Nat) : Prop where
  b1 : y1 < 4294967296
  b0 : y0 < 4294967296
  bn : 2147483648 ≤ y1
  bu : u1 < 4294967296
  bl : u < y1 * 4294967296 + y0
/-- The digit's guess, and what is left. -/
structure DgL (y1 y0 u u1 q r : Nat) : Prop where
  e : q * y1 + r = u
  le : dgQ y1 y0 u u1 ≤ q
  lt : r < 4294967296
def dgBad (y0 u1 q r : Nat) : Prop := 4294967296 ≤ q ∨ 4294967296 * r + u1 < q * y0
theorem mul_y (q y1 y0 : Nat) : q * (y1 * 4294967296 + y0) = q * y1 * 4294967296 + q * y0 := by
  rw [Nat.mul_add, Nat.mul_assoc]
theorem y_pos {y1 y0 u u1 : Nat} (h : DgH y1 y0 u u1) : 0 < y1 * 4294967296 + y0 := by have := h.bn; omega
theorem dg_start {y1 y0 u u1 : Nat} (h : DgH y1 y0 u u1) : DgL y1 y0 u u1 (u / y1) (u % y1) := by
  have h1 := h.bn
  have h2 := h.b1
  have hp : 0 < y1 := by omega
  refine ⟨by rw [Nat.mul_comm]; exact Nat.div_add_mod u y1, ?_, Nat.lt_trans (Nat.mod_lt _ hp) h.b1⟩
  rw [Nat.le_div_iff_mul_le hp]
  have h3 : dgQ y1 y0 u u1 * (y1 * 4294967296 + y0) ≤ u * 4294967296 + u1 := Nat.div_mul_le_self _ _
  rw [mul_y] at h3
  have h4 := h.bu
  generalize dgQ y1 y0 u u1 * y1 = P at *
  generalize dgQ y1 y0 u u1 * y0 = R at *
  omega
theorem dg_small {y1 y0 u u1 : Nat} (h : DgH y1 y0 u u1) : dgQ y1 y0 u u1 < 4294967296 := by
  unfold dgQ
  rw [Nat.div_lt_iff_lt_mul (y_pos h), Nat.mul_comm]
  have h1 := h.bl
  have h2 := h.bu
  omega
theorem dg_bad {y1 y0 u u1 q r : Nat} (h : DgH y1 y0 u u1) (l : DgL y1 y0 u u1 q r) (b : dgBad y0 u1 q r) : dgQ y1 y0 u u1 < q := by
  rcases b with b | b
  · exact Nat.lt_of_lt_of_le (dg_small h) b
  · unfold dgQ
    rw [Nat.div_lt_iff_lt_mul (y_pos h), mul_y]
    have h1 := l.e
    generalize q * y1 = P at *
    generalize q * y0 = R at *
    omega
theorem dg_good {y1 y0 u u1 q r : Nat} (h : DgH y1 y0 u u1) (l : DgL y1 y0 u u1 q r) (b : ¬ dgBad y0 u1 q r) : q = dgQ y1 y0 u u1 := by
  refine Nat.le_antisymm ?_ l.le
  unfold dgQ
  rw [Nat.le_div_iff_mul_le (y_pos h), mul_y]
  have h1 := l.e
  have b2 : q * y0 ≤ 4294967296 * r + u1 := by
    rcases Nat.lt_or_ge (4294967296 * r + u1) (q * y0) with g | g
    · exact absurd (.inr g) b
    · exact g
  generalize q * y1 = P at *
  generalize q * y0 = R at *
  omega
theorem pred_mul {q y1 : Nat} (hq : 0 < q) : (q - 1) * y1 + y1 = q * y1 := by
  obtain ⟨k, rfl⟩ : ∃ k, q = k + 1 := ⟨q - 1, by omega⟩
  rw [Nat.add_sub_cancel, Nat.add_mul, Nat.one_mul]
theorem dg_next {y1 y0 u u1 q r : Nat} (h : DgH y1 y0 u u1) (l : DgL y1 y0 u u1 q r) (b : dgBad y0 u1 q r) (hr : r + y1 < 4294967296) : DgL y1 y0 u u1 (q - 1) (r + y1) := by
  have h1 := dg_bad h l b
  have h2 := l.e
  have h3 : (q - 1) * y1 + y1 = q * y1 := pred_mul (by omega)
  refine ⟨?_, by omega, hr⟩
  omega
theorem dg_break {y1 y0 u u1 q r : Nat} (h : DgH y1 y0 u u1) (l : DgL y1 y0 u u1 q r) (b : dgBad y0 u1 q r) (hr : 4294967296 ≤ r + y1) : q - 1 = dgQ y1 y0 u u1 := by
  have h1 := dg_bad h l b
  have h2 := l.e
  have h3 : (q - 1) * y1 + y1 = q * y1 := pred_mul (by omega)
  have h4 := h.bl
  have h5 := h.b0
  have h6 : q - 1 < 4294967296 := by
    rcases Nat.lt_or_ge (q - 1) 4294967296 with g | g
    · exact g
    · exfalso
      have g2 : 4294967296 * y1 ≤ (q - 1) * y1 := Nat.mul_le_mul_right y1 g
      generalize (q - 1) * y1 = P at *
      omega
  have h7 : (q - 1) * y0 ≤ 4294967296 * 4294967296 := Nat.mul_le_mul (by omega) (by omega)
  refine Nat.le_antisymm ?_ (by omega)
  unfold dgQ
  rw [Nat.le_div_iff_mul_le (y_pos h), mul_y]
  generalize (q - 1) * y1 = P at *
  generalize (q - 1) * y0 = R at *
  omega
/-- Two digits are the quotient. -/
theorem dg_two {y N u0 : Nat} (hy : 0 < y) :
    (N * 4294967296 + u0) / y = N / y * 4294967296 + (N % y * 4294967296 + u0) / y ∧ (N * 4294967296 + u0) % y = (N % y * 4294967296 + u0) % y := by
  have e : N * 4294967296 + u0 = (N % y * 4294967296 + u0) + y * (N / y * 4294967296) := by
    have h := Nat.div_add_mod N y
    have h2 : y * (N / y * 4294967296) = y * (N / y) * 4294967296 := by rw [Nat.mul_assoc]
    rw [h2]
    generalize y * (N / y) = P at *
    omega
  rw [e]
  refine ⟨?_, ?_⟩
  · rw [Nat.add_mul_div_left _ _ hy, Nat.add_comm]
  · rw [Nat.add_mul_mod_self_left]
end Go.Proofs.YtppankimieopiaaDoor
