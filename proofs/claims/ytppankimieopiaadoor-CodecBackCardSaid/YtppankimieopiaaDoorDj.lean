/-
  Chapter 11: lemmas of cut, that makes instructions that may be. Conditions: as typed.
-/
import Derived.Test.YtppankimieopiaaDoorDq
import Derived.Test.YtppankimieopiaaDoorPv
namespace Go.Proofs.YtppankimieopiaaDoor
open Go.Ep Go.RowKit
set_option linter.unusedVariables false
set_option linter.unusedSimpArgs false
theorem rg15 (x : BitVec 64) : ((0#64).sle (x &&& 15#64) && (x &&& 15#64).slt 16#64) = true := by
  have h1 : (x &&& 15#64).toNat ≤ 15 := by rw [BitVec.toNat_and]; exact Nat.and_le_right
  have h2 : x &&& 15#64 = BitVec.ofNat 64 (x &&& 15#64).toNat := by rw [BitVec.ofNat_toNat, BitVec.setWidth_eq]
  rw [h2]
  generalize (x &&& 15#64).toNat = n at h1
  have : n = 0 ∨ n = 1 ∨ n = 2 ∨ n = 3 ∨ n = 4 ∨ n = 5 ∨ n = 6 ∨ n = 7 ∨ n = 8 ∨ n = 9 ∨ n = 10 ∨ n = 11 ∨ n = 12 ∨ n = 13 ∨ n = 14 ∨ n = 15 := by omega
  rcases this with rfl | rfl | rfl | rfl | rfl | rfl | rfl | rfl | rfl | rfl | rfl | rfl | rfl | rfl | rfl | rfl <;> decide
theorem rg0 : ((0#64).sle 0#64 && (0#64).slt 16#64) = true := by decide
theorem nil_s0 : decide (s0 = { data := #[] }) = true := by decide
/-- The rest of a number, made positive. -/
theorem srem_in (x : BitVec 64) (n : Nat) (h0 : 0 < n) (hn : n < 1000) : ∃ i, i < n ∧ (x.srem (BitVec.ofNat 64 n) + BitVec.ofNat 64 n).srem (BitVec.ofNat 64 n) = BitVec.ofNat 64 i := by
  have e0 : (BitVec.ofNat 64 n).toInt = n := toInt_ofNat (by omega)
  have e1 : (x.srem (BitVec.ofNat 64 n)).toInt = x.toInt.tmod n := by rw [BitVec.toInt_srem, e0]
  have h1 : (x.toInt.tmod n).natAbs < n := by rw [Int.natAbs_tmod]; exact Nat.mod_lt _ h0
  have e2 : (x.srem (BitVec.ofNat 64 n) + BitVec.ofNat 64 n).toInt = x.toInt.tmod n + n := by
    rw [BitVec.toInt_add, e0, e1]
    exact Int.bmod_eq_of_le (by omega) (by omega)
  have e3 : ((x.srem (BitVec.ofNat 64 n) + BitVec.ofNat 64 n).srem (BitVec.ofNat 64 n)).toInt = (x.toInt.tmod n + n).tmod n := by rw [BitVec.toInt_srem, e0, e2]
  have h2 : 0 ≤ (x.toInt.tmod n + n).tmod n := Int.tmod_nonneg _ (by omega)
  have h3 : (x.toInt.tmod n + n).tmod n < n := Int.tmod_lt_of_pos _ (by omega)
  refine ⟨((x.toInt.tmod n + n).tmod n).toNat, by omega, BitVec.eq_of_toInt_eq ?_⟩
  rw [e3, toInt_ofNat (by omega)]
  omega
theorem sz3 (x : BitVec 64) : ∃ i, i < 4 ∧ x &&& 3#64 = BitVec.ofNat 64 i := by
  have h1 : (x &&& 3#64).toNat ≤ 3 := by rw [BitVec.toNat_and]; exact Nat.and_le_right
  exact ⟨(x &&& 3#64).toNat, by omega, by rw [BitVec.ofNat_toNat, BitVec.setWidth_eq]⟩
theorem sh0 : (1#64 : BitVec 64) <<< (0#64).toNat = 1#64 := by decide
theorem sh1 : (1#64 : BitVec 64) <<< (1#64).toNat = 2#64 := by decide
theorem sh2 : (1#64 : BitVec 64) <<< (2#64).toNat = 4#64 := by decide
theorem sh3 : (1#64 : BitVec 64) <<< (3#64).toNat = 8#64 := by decide
theorem al6 (al : BitVec 64) : aluB (nthW [0#64, 1#64, 4#64, 5#64, 6#64, 7#64] ((al.srem 6#64 + 6#64).srem 6#64).toNat) = true := by
  obtain ⟨i, hi, e⟩ := srem_in al 6 (by decide) (by decide)
  have e' : (al.srem 6#64 + 6#64).srem 6#64 = BitVec.ofNat 64 i := e
  rw [e']
  exact (by decide : ∀ i : Fin 6, aluB (nthW [0#64, 1#64, 4#64, 5#64, 6#64, 7#64] (BitVec.ofNat 64 i).toNat) = true) ⟨i, hi⟩
theorem al3 (al : BitVec 64) : shiftB (nthW [4#64, 5#64, 7#64] ((al.srem 3#64 + 3#64).srem 3#64).toNat) = true := by
  obtain ⟨i, hi, e⟩ := srem_in al 3 (by decide) (by decide)
  have e' : (al.srem 3#64 + 3#64).srem 3#64 = BitVec.ofNat 64 i := e
  rw [e']
  exact (by decide : ∀ i : Fin 3, shiftB (nthW [4#64, 5#64, 7#64] (BitVec.ofNat 64 i).toNat) = true) ⟨i, hi⟩
theorem cc10 (cc : BitVec 64) : condB (nthW [2#64, 3#64, 4#64, 5#64, 6#64, 7#64, 12#64, 13#64, 14#64, 15#64] ((cc.srem 10#64 + 10#64).srem 10#64).toNat) = true := by
  obtain ⟨i, hi, e⟩ := srem_in cc 10 (by decide) (by decide)
  have e' : (cc.srem 10#64 + 10#64).srem 10#64 = BitVec.ofNat 64 i := e
  rw [e']
  exact (by decide : ∀ i : Fin 10, condB (nthW [2#64, 3#64, 4#64, 5#64, 6#64, 7#64, 12#64, 13#64, 14#64, 15#64] (BitVec.ofNat 64 i).toNat) = true) ⟨i, hi⟩
theorem ixn (x : BitVec 64) (n : Nat) (h0 : 0 < n) (hn : n < 1000) : (0 ≤ ((x.srem (BitVec.ofNat 64 n) + BitVec.ofNat 64 n).srem (BitVec.ofNat 64 n)).toInt ∧ ((x.srem (BitVec.ofNat 64 n) + BitVec.ofNat 64 n).srem (BitVec.ofNat 64 n)).toNat < n) ∧ ((x.srem (BitVec.ofNat 64 n) + BitVec.ofNat 64 n).srem (BitVec.ofNat 64 n)).toNat < n := by
  obtain ⟨i, hi, e⟩ := srem_in x n h0 hn
  have e2 : (BitVec.ofNat 64 i).toNat = i := by rw [BitVec.toNat_ofNat]; exact Nat.mod_eq_of_lt (by omega)
  rw [e, toInt_ofNat (by omega), e2]
  omega
theorem sh31 (w : Bool) (im : BitVec 64) : shB w (im &&& 31#64) = true := by
  have h1 : (im &&& 31#64).toNat ≤ 31 := by rw [BitVec.toNat_and]; exact Nat.and_le_right
  have h2 : im &&& 31#64 = BitVec.ofNat 64 (im &&& 31#64).toNat := by rw [BitVec.ofNat_toNat, BitVec.setWidth_eq]
  rw [h2]
  have h3 := (by decide : ∀ i : Fin 32, ((0#64).sle (BitVec.ofNat 64 i) && (BitVec.ofNat 64 i).slt 32#64) = true) ⟨_, Nat.lt_succ_of_le h1⟩
  simp only [Bool.and_eq_true] at h3
  unfold shB
  rw [h3.1, h3.2]
  rfl
theorem wd32 (y : BitVec 32) : wordB (y.signExtend 64) = true := by
  have h1 := BitVec.le_toInt y
  have h2 := BitVec.toInt_lt (x := y)
  unfold wordB
  rw [Bool.and_eq_true, BitVec.sle_iff_toInt_le, BitVec.sle_iff_toInt_le, BitVec.toInt_signExtend_of_le (by decide)]
  have e1 : mWord.toInt = -2147483648 := by decide
  have e2 : (2147483647#64).toInt = 2147483647 := by decide
  rw [e1, e2]
  simp at h1 h2
  omega
theorem rl8 (y : BitVec 8) : relB (y.signExtend 32) = true := by
  have h1 := BitVec.le_toInt y
  have h2 := BitVec.toInt_lt (x := y)
  unfold relB
  rw [Bool.and_eq_true, BitVec.sle_iff_toInt_le, BitVec.sle_iff_toInt_le, BitVec.toInt_signExtend_of_le (by decide)]
  have e1 : mByte.toInt = -128 := by decide
  have e2 : (127#32).toInt = 127 := by decide
  rw [e1, e2]
  simp at h1 h2
  omega
theorem x48 (x : BitVec 64) : ((x == 4#64 || x == 8#64) && false == (x == 8#64)) = (x == 4#64) := by
  by_cases h8 : x = 8#64
  · subst h8; decide
  · have : (x == 8#64) = false := by simpa using h8
    rw [this]; simp
theorem x8 (b : Bool) : (b && false == b) = false := by cases b <;> rfl
theorem tf : (true == false) = false := rfl
theorem rlU (x : BitVec 32) : relB x = ((BitVec.ofInt 32 (Int.negSucc 127)).sle x && x.sle 127#32) := rfl
theorem ccU (x : BitVec 64) : condB x = ((2#64).sle x && x.sle 7#64 || (12#64).sle x && x.sle 15#64) := by
  rw [Bool.eq_iff_iff]
  simp only [condB, Bool.or_eq_true, Bool.and_eq_true, beq_iff_eq, BitVec.sle_iff_toInt_le, or_assoc]
  have key : ∀ k : BitVec 64, (x.toInt = k.toInt) ↔ (x = k) := fun k => ⟨BitVec.eq_of_toInt_eq, fun h => by rw [h]⟩
  have e2 : (2#64).toInt = 2 := rfl
  have e3 : (3#64).toInt = 3 := rfl
  have e4 : (4#64).toInt = 4 := rfl
  have e5 : (5#64).toInt = 5 := rfl
  have e6 : (6#64).toInt = 6 := rfl
  have e7 : (7#64).toInt = 7 := rfl
  have e12 : (12#64).toInt = 12 := rfl
  have e13 : (13#64).toInt = 13 := rfl
  have e14 : (14#64).toInt = 14 := rfl
  have e15 : (15#64).toInt = 15 := rfl
  rw [← key 2#64, ← key 3#64, ← key 4#64, ← key 5#64, ← key 6#64, ← key 7#64, ← key 12#64, ← key 13#64, ← key 14#64, ← key 15#64, e2, e3, e4, e5, e6, e7, e12, e13, e14, e15]
  omega
theorem vK1 (al cc sz : BitVec 64) (w sh : Bool) (d s : BitVec 64) (dp rl : BitVec 32) (im : BitVec 64) : vld 1#64 al cc sz w sh d s dp rl im = v1 al cc sz w sh d s dp rl im := rfl
theorem vK2 (al cc sz : BitVec 64) (w sh : Bool) (d s : BitVec 64) (dp rl : BitVec 32) (im : BitVec 64) : vld 2#64 al cc sz w sh d s dp rl im = v2 al cc sz w sh d s dp rl im := rfl
theorem vK3 (al cc sz : BitVec 64) (w sh : Bool) (d s : BitVec 64) (dp rl : BitVec 32) (im : BitVec 64) : vld 3#64 al cc sz w sh d s dp rl im = v3 al cc sz w sh d s dp rl im := rfl
theorem vK4 (al cc sz : BitVec 64) (w sh : Bool) (d s : BitVec 64) (dp rl : BitVec 32) (im : BitVec 64) : vld 4#64 al cc sz w sh d s dp rl im = v4 al cc sz w sh d s dp rl im := rfl
theorem vK5 (al cc sz : BitVec 64) (w sh : Bool) (d s : BitVec 64) (dp rl : BitVec 32) (im : BitVec 64) : vld 5#64 al cc sz w sh d s dp rl im = v5 al cc sz w sh d s dp rl im := rfl
theorem vK6 (al cc sz : BitVec 64) (w sh : Bool) (d s : BitVec 64) (dp rl : BitVec 32) (im : BitVec 64) : vld 6#64 al cc sz w sh d s dp rl im = v6 al cc sz w sh d s dp rl im := rfl
theorem vK7 (al cc sz : BitVec 64) (w sh : Bool) (d s : BitVec 64) (dp rl : BitVec 32) (im : BitVec 64) : vld 7#64 al cc sz w sh d s dp rl im = v7 al cc sz w sh d s dp rl im := rfl
theorem vK8 (al cc sz : BitVec 64) (w sh : Bool) (d s : BitVec 64) (dp rl : BitVec 32) (im : BitVec 64) : vld 8#64 al cc sz w sh d s dp rl im = v8 al cc sz w sh d s dp rl im := rfl
theorem vK9 (al cc sz : BitVec 64) (w sh : Bool) (d s : BitVec 64) (dp rl : BitVec 32) (im : BitVec 64) : vld 9#64 al cc sz w sh d s dp rl im = v9 al cc sz w sh d s dp rl im := rfl
theorem vK10 (al cc sz : BitVec 64) (w sh : Bool) (d s : BitVec 64) (dp rl : BitVec 32) (im : BitVec 64) : vld 10#64 al cc sz w sh d s dp rl im = v10 al cc sz w sh d s dp rl im := rfl
theorem vK11 (al cc sz : BitVec 64) (w sh : Bool) (d s : BitVec 64) (dp rl : BitVec 32) (im : BitVec 64) : vld 11#64 al cc sz w sh d s dp rl im = v11 al cc sz w sh d s dp rl im := rfl
theorem vK12 (al cc sz : BitVec 64) (w sh : Bool) (d s : BitVec 64) (dp rl : BitVec 32) (im : BitVec 64) : vld 12#64 al cc sz w sh d s dp rl im = v12 al cc sz w sh d s dp rl im := rfl
theorem vK13 (al cc sz : BitVec 64) (w sh : Bool) (d s : BitVec 64) (dp rl : BitVec 32) (im : BitVec 64) : vld 13#64 al cc sz w sh d s dp rl im = v13 al cc sz w sh d s dp rl im := rfl
theorem vK14 (al cc sz : BitVec 64) (w sh : Bool) (d s : BitVec 64) (dp rl : BitVec 32) (im : BitVec 64) : vld 14#64 al cc sz w sh d s dp rl im = v14 al cc sz w sh d s dp rl im := rfl
theorem vK15 (al cc sz : BitVec 64) (w sh : Bool) (d s : BitVec 64) (dp rl : BitVec 32) (im : BitVec 64) : vld 15#64 al cc sz w sh d s dp rl im = v15 al cc sz w sh d s dp rl im := rfl
theorem vK16 (al cc sz : BitVec 64) (w sh : Bool) (d s : BitVec 64) (dp rl : BitVec 32) (im : BitVec 64) : vld 16#64 al cc sz w sh d s dp rl im = v16 al cc sz w sh d s dp rl im := rfl
theorem vK17 (al cc sz : BitVec 64) (w sh : Bool) (d s : BitVec 64) (dp rl : BitVec 32) (im : BitVec 64) : vld 17#64 al cc sz w sh d s dp rl im = v17 al cc sz w sh d s dp rl im := rfl
theorem vK18 (al cc sz : BitVec 64) (w sh : Bool) (d s : BitVec 64) (dp rl : BitVec 32) (im : BitVec 64) : vld 18#64 al cc sz w sh d s dp rl im = v18 al cc sz w sh d s dp rl im := rfl
theorem vK19 (al cc sz : BitVec 64) (w sh : Bool) (d s : BitVec 64) (dp rl : BitVec 32) (im : BitVec 64) : vld 19#64 al cc sz w sh d s dp rl im = v19 al cc sz w sh d s dp rl im := rfl
theorem vK20 (al cc sz : BitVec 64) (w sh : Bool) (d s : BitVec 64) (dp rl : BitVec 32) (im : BitVec 64) : vld 20#64 al cc sz w sh d s dp rl im = v20 al cc sz w sh d s dp rl im := rfl
theorem vK21 (al cc sz : BitVec 64) (w sh : Bool) (d s : BitVec 64) (dp rl : BitVec 32) (im : BitVec 64) : vld 21#64 al cc sz w sh d s dp rl im = v21 al cc sz w sh d s dp rl im := rfl
end Go.Proofs.YtppankimieopiaaDoor
