/-
  Chapter 04: rows of instructions that grow, or are filled; what Decode comes to: plain definitions and facts. Conditions: as each says.
-/
import Derived.Test.YthkgakelgdncjaaDoorNm
namespace Go.Proofs.YthkgakelgdncjaaDoor
open Go.Ep Go.RowKit
set_option linter.unusedVariables false
set_option linter.unusedSimpArgs false
theorem joinF_in (k : Nat) (y : IT) (v : IN) : joinF k (inF y) (fun _ => inP v) = inF (fun j => if k ≤ j then v else y j) := by
  funext j
  by_cases h : k ≤ j <;> simp [joinF, mergeP, pickP, inF, inP, h]
theorem updF_in (k : Nat) (y : IT) (v : IN) : updF (inF y) k 0 (inP v) = inF (fun j => if j = k then v else y j) := by
  funext j
  by_cases h : j = k <;> simp [updF, mergeP, pickP, inF, inP, h]
def zIN : IN := ⟨0#8, 0#8, 0#8, 0#16, 0#32⟩
/-- A row that grows. -/
def upT (g : IT) : Nat → IT
  | 0 => fun _ => zIN
  | 1 => fun _ => g 0
  | k + 2 => fun j => if k + 1 ≤ j then g (k + 1) else upT g (k + 1) j
theorem upT_lt (g : IT) : ∀ {k j : Nat}, j < k → upT g k j = g j
  | 0, _, h => absurd h (by omega)
  | 1, j, h => by obtain rfl : j = 0 := by omega
                  rfl
  | k + 2, j, h => by
    show (if k + 1 ≤ j then g (k + 1) else upT g (k + 1) j) = g j
    by_cases hj : k + 1 ≤ j
    · obtain rfl : j = k + 1 := by omega
      rw [if_pos hj]
    · rw [if_neg hj, upT_lt g (by omega)]
theorem upT_go (g : IT) {k : Nat} (h : 1 ≤ k) (v : IN) (hv : v = g k) : joinF k (inF (upT g k)) (fun _ => inP v) = inF (upT g (k + 1)) := by
  obtain ⟨j, rfl⟩ : ∃ j, k = j + 1 := ⟨k - 1, by omega⟩
  subst hv
  exact joinF_in _ _ _
/-- A row that is filled. -/
def fillT (g : IT) : Nat → IT
  | 0 => fun _ => zIN
  | k + 1 => fun j => if j = k then g k else fillT g k j
theorem fillT_lt (g : IT) : ∀ {k j : Nat}, j < k → fillT g k j = g j
  | 0, _, h => absurd h (by omega)
  | k + 1, j, h => by
    show (if j = k then g k else fillT g k j) = g j
    by_cases hj : j = k
    · rw [if_pos hj, hj]
    · rw [if_neg hj, fillT_lt g (by omega)]
theorem fillT_go (g : IT) (k k' : Nat) (v : IN) (hk : k' = k) (hv : v = g k) : updF (inF (fillT g k)) k' 0 (inP v) = inF (fillT g (k + 1)) := by
  subst hk hv
  exact updF_in _ _ _
/-- The instruction at a place of a text. -/
def dec (s : ByteArray) (k : Nat) : IN :=
  ⟨dcO (exB s (8 * k) (8 * k + 8)), dcD (exB s (8 * k) (8 * k + 8)), dcS (exB s (8 * k) (8 * k + 8)), dcF (exB s (8 * k) (8 * k + 8)), dcI (exB s (8 * k) (8 * k + 8))⟩
theorem dec_eq (s : ByteArray) {k a b : Nat} (ha : a = 8 * k) (hb : b = 8 * k + 8) : (⟨dcO (exB s a b), dcD (exB s a b), dcS (exB s a b), dcF (exB s a b), dcI (exB s a b)⟩ : IN) = dec s k := by
  subst ha hb; rfl
theorem at8 {k : Nat} (h : k ≤ 64) : (BitVec.ofNat 64 (8 * k)).toNat = 8 * k := nat_ofNat (by omega)
theorem at8p {k : Nat} (h : k ≤ 64) : (BitVec.ofNat 64 (8 * k) + 8#64).toNat = 8 * k + 8 := by
  rw [BitVec.toNat_add, at8 h]; show (8 * k + 8) % _ = _; rw [Nat.mod_eq_of_lt (by omega)]
theorem at8n {k : Nat} : BitVec.ofNat 64 (8 * k) + 8#64 = BitVec.ofNat 64 (8 * (k + 1)) := by
  apply BitVec.eq_of_toNat_eq
  rw [BitVec.toNat_add]; simp only [BitVec.toNat_ofNat]; omega
theorem mul8 {k : Nat} : 8#64 * BitVec.ofNat 64 k = BitVec.ofNat 64 (8 * k) := by
  apply BitVec.eq_of_toNat_eq
  rw [BitVec.toNat_mul, BitVec.toNat_ofNat, BitVec.toNat_ofNat, BitVec.toNat_ofNat]
  omega
theorem srem8 {a : Nat} (h : a < 9223372036854775808) : (BitVec.ofNat 64 a).srem 8#64 = BitVec.ofNat 64 (a % 8) := by
  have hm : (BitVec.ofNat 64 a).msb = false := by rw [BitVec.msb_eq_false_iff_two_mul_lt]; rw [nat_ofNat h]; omega
  rw [BitVec.srem_eq, hm, show (8#64).msb = false from rfl]
  apply BitVec.eq_of_toNat_eq
  show ((BitVec.ofNat 64 a) % 8#64).toNat = _
  rw [BitVec.toNat_umod, nat_ofNat h, nat_ofNat (a := a % 8) (by omega)]; rfl
theorem sdiv8 {a : Nat} (h : a < 9223372036854775808) : (BitVec.ofNat 64 a).sdiv 8#64 = BitVec.ofNat 64 (a / 8) := by
  have hm : (BitVec.ofNat 64 a).msb = false := by rw [BitVec.msb_eq_false_iff_two_mul_lt]; rw [nat_ofNat h]; omega
  rw [BitVec.sdiv_eq, hm, show (8#64).msb = false from rfl]
  apply BitVec.eq_of_toNat_eq
  show ((BitVec.ofNat 64 a) / 8#64).toNat = _
  rw [BitVec.toNat_udiv, nat_ofNat h, nat_ofNat (a := a / 8) (by omega)]; rfl
theorem ne0 {a : Nat} (h : a < 9223372036854775808) : (BitVec.ofNat 64 a != 0#64) = decide (a ≠ 0) := by
  by_cases e : a = 0
  · subst e; rfl
  · have : BitVec.ofNat 64 a ≠ 0#64 := fun e' => e (by have := congrArg BitVec.toNat e'; rwa [nat_ofNat h] at this)
    simp [this, e]
theorem eq_self (x : IN) : ((x.o == x.o) && ((x.d == x.d) && ((x.s == x.s) && ((x.f == x.f) && (x.i == x.i))))) = true := by simp
end Go.Proofs.YthkgakelgdncjaaDoor
