/-
  math/bits.LeadingZeros64: its contract, off the shelf. Conditions: none.
-/
import Derived.Test.YtppankimieopiaaDoorEd
import Derived.Test.YtppankimieopiaaDoorShelf
namespace Go.Proofs.YtppankimieopiaaDoor
open Go.Ep Go.RowKit
set_option linter.unusedVariables false
set_option linter.unusedSimpArgs false
/-- A number's length in bits: what it is between. -/
theorem bitLen_in : ∀ (x : Nat), x ≠ 0 → x < 2 ^ 64 → 2 ^ (Lib.bitLen x - 1) ≤ x ∧ x < 2 ^ Lib.bitLen x ∧ 1 ≤ Lib.bitLen x := by
  intro x
  induction x using Nat.strongRecOn with
  | ind x ih =>
    intro h0 hx
    rw [Lib.bitLen_half x h0 hx]
    by_cases h1 : x / 2 = 0
    · obtain rfl : x = 1 := by omega
      decide
    · obtain ⟨a, b, c⟩ := ih (x / 2) (by omega) h1 (by omega)
      generalize Lib.bitLen (x / 2) = n at *
      obtain ⟨k, rfl⟩ : ∃ k, n = k + 1 := ⟨n - 1, by omega⟩
      rw [show 1 + (k + 1) - 1 = k + 1 by omega, show 1 + (k + 1) = (k + 1) + 1 by omega, Nat.pow_succ 2 (k + 1), Nat.pow_succ 2 k]
      rw [Nat.add_sub_cancel] at a
      rw [Nat.pow_succ] at b
      omega
theorem bitLen_64 (x : BitVec 64) : Lib.bitLen x.toNat ≤ 64 := by
  have hx := x.isLt
  by_cases h0 : x.toNat = 0
  · rw [h0]; decide
  · obtain ⟨a, b, c⟩ := bitLen_in x.toNat h0 hx
    rcases Nat.lt_or_ge 64 (Lib.bitLen x.toNat) with g | g
    · exfalso
      have : 2 ^ 64 ≤ 2 ^ (Lib.bitLen x.toNat - 1) := Nat.pow_le_pow_right (by decide) (by omega)
      omega
    · exact g
/-- By how many bits a number is below the highest ones. -/
def lzB (y : BitVec 64) : BitVec 64 := BitVec.ofNat 64 (64 - Lib.bitLen y.toNat)
def sp_LZ : Sp
  | [.one (.b64 false x)] => some (Cond.t, .one (.b64 true (lzB x)))
  | _ => none
theorem e_LZ (G2 : World → Prop) (D2 : VData) (k2 : DataOK Tryd.prog G2 D2) (m : Nat → Nat) : EntryOK Tryd.prog (and2 (GB m) (and2 (GP m) G2)) 94 sp_LZ := by
  refine ⟨⟨_, Tryd.func94, by kernel_rfl, by kernel_rfl⟩, fun args c v h hc => ?_⟩
  unfold sp_LZ at h
  split at h
  · rename_i x; cases h
    refine ⟨rfl, fun us ρ hr w _ => ?_⟩
    obtain ⟨u, rfl, h1⟩ : ∃ u, us = [u] ∧ RelL ρ (.b64 false x) u := by
      match us, hr with
      | [u], ⟨h1, _⟩ => exact ⟨u, rfl, h1⟩
    obtain rfl := h1 (by simp)
    have h2 := x.isLt
    refine (Tryd.bits_LeadingZeros64 (vI false x) w (by simp [vI]) (by simp only [vI]; omega)).mono ?_
    rintro e w' ⟨rfl, rfl⟩
    refine ⟨_, rfl, ?_, Below.refl _ _⟩
    intro _
    have := bitLen_64 x
    unfold lzB
    simp only [gL, k64, vI_len (show 64 - Lib.bitLen x.toNat < 9223372036854775808 by omega)]
    simp [vI]
    omega
  · cases h
end Go.Proofs.YtppankimieopiaaDoor
