/-
  Conditions of jumps: one against another, signed against plain, bit by bit. Plain mathematics. Conditions: none.
-/
import Derived.Test.YtikhekbdliblnaaDoorCdN
namespace Go.Proofs.YtikhekbdliblnaaDoor
set_option linter.unusedVariables false
set_option linter.unusedSimpArgs false

theorem beq_not (x : Bool) : (x == !x) = false := by cases x <;> rfl
theorem not_beq (x : Bool) : ((!x) == x) = false := by cases x <;> rfl
theorem ot0 (w : Bool) (a b : BitVec 64) : (cHolds 16#8 w a b == cHolds 80#8 w a b) = false := by rw [cH16, cH80]; exact beq_not _
theorem ot1 (w : Bool) (a b : BitVec 64) : (cHolds 32#8 w a b == cHolds 176#8 w a b) = false := by rw [cH32, cH176]; exact beq_not _
theorem ot2 (w : Bool) (a b : BitVec 64) : (cHolds 160#8 w a b == cHolds 48#8 w a b) = false := by rw [cH160, cH48]; exact beq_not _
theorem ot3 (w : Bool) (a b : BitVec 64) : (cHolds 96#8 w a b == cHolds 208#8 w a b) = false := by rw [cH96, cH208]; exact beq_not _
theorem ot4 (w : Bool) (a b : BitVec 64) : (cHolds 192#8 w a b == cHolds 112#8 w a b) = false := by rw [cH192, cH112]; exact beq_not _
theorem ult_self (x : BitVec 64) : x.ult x = false := by rw [ult_f]; exact Nat.le_refl _
theorem slt_self (x : BitVec 64) : x.slt x = false := by rw [Bool.eq_false_iff, ne_eq, BitVec.slt_iff_toInt_lt]; omega
theorem sm0 (w : Bool) (a : BitVec 64) : cHolds 80#8 w a a = false := by rw [cH80]; simp
theorem sm1 (w : Bool) (a : BitVec 64) : cHolds 176#8 w a a = true := by rw [cH176, ult_self]; rfl
theorem sm2 (w : Bool) (a : BitVec 64) : cHolds 48#8 w a a = true := by rw [cH48, ult_self]; rfl
theorem sm3 (w : Bool) (a : BitVec 64) : cHolds 208#8 w a a = true := by rw [cH208, slt_self]; rfl
theorem sm4 (w : Bool) (a : BitVec 64) : cHolds 112#8 w a a = true := by rw [cH112, slt_self]; rfl
theorem sn0 (w : Bool) (a : BitVec 64) : cHolds 16#8 w a a = true := by rw [cH16]; simp
theorem sn1 (w : Bool) (a : BitVec 64) : cHolds 32#8 w a a = false := by rw [cH32, ult_self]
theorem sn2 (w : Bool) (a : BitVec 64) : cHolds 160#8 w a a = false := by rw [cH160, ult_self]
theorem sn3 (w : Bool) (a : BitVec 64) : cHolds 96#8 w a a = false := by rw [cH96, slt_self]
theorem sn4 (w : Bool) (a : BitVec 64) : cHolds 192#8 w a a = false := by rw [cH192, slt_self]
theorem tu1 (w : Bool) (a b : BitVec 64) : (cHolds 32#8 w a b == cHolds 160#8 w b a) = true := by rw [cH32, cH160]; simp
theorem tu2 (w : Bool) (a b : BitVec 64) : (cHolds 96#8 w a b == cHolds 192#8 w b a) = true := by rw [cH96, cH192]; simp

/-! ### Signed and plain -/
theorem turn_nat (A B H : Nat) (hA : A < 2 * H) (hB : B < 2 * H) :
    (decide (A < B) == decide ((if A < H then A + H else A - H) < (if B < H then B + H else B - H))) = (decide (A < H) == decide (B < H)) := by
  by_cases h1 : A < H <;> by_cases h2 : B < H
  · rw [if_pos h1, if_pos h2, decide_eq_true h1, decide_eq_true h2]
    rw [show decide (A + H < B + H) = decide (A < B) by exact decide_eq_decide.2 (by omega)]; simp
  · rw [if_pos h1, if_neg h2, decide_eq_true h1, decide_eq_false h2, decide_eq_true (show A < B by omega), decide_eq_false (show ¬ (A + H < B - H) by omega)]
  · rw [if_neg h1, if_pos h2, decide_eq_false h1, decide_eq_true h2, decide_eq_false (show ¬ (A < B) by omega), decide_eq_true (show A - H < B + H by omega)]
  · rw [if_neg h1, if_neg h2, decide_eq_false h1, decide_eq_false h2]
    rw [show decide (A - H < B - H) = decide (A < B) by exact decide_eq_decide.2 (by omega)]; simp
theorem ult_d (x y : BitVec 64) : x.ult y = decide (x.toNat < y.toNat) := rfl
theorem slt_d (x y : BitVec 64) : x.slt y = decide (x.toInt < y.toInt) := rfl
abbrev hiB (w : Bool) : BitVec 64 := if w then 9223372036854775808#64 else 2147483648#64
theorem lo_nat (w : Bool) (a : BitVec 64) : (lo w a).toNat < 2 * (hiB w).toNat := by
  have := a.isLt
  cases w
  · show (a % 4294967296#64).toNat < 2 * 2147483648
    rw [BitVec.toNat_umod]; simp only [BitVec.toNat_ofNat, Nat.reducePow, Nat.reduceMod]; omega
  · show a.toNat < 2 * 9223372036854775808
    omega
theorem turn_eq (w : Bool) (a b : BitVec 64) : ((lo w a).ult (lo w b) == (sn w a).slt (sn w b)) = (decide ((lo w a).toNat < (hiB w).toNat) == decide ((lo w b).toNat < (hiB w).toNat)) := by
  rw [← turn_nat _ _ _ (lo_nat w a) (lo_nat w b), ult_d, slt_d]
  congr 1
  have hh : (hiB w).toNat = 9223372036854775808 ∨ (hiB w).toNat ≤ 4611686018427387904 := by cases w <;> decide
  have h0 : 0 < (hiB w).toNat := by cases w <;> decide
  have e1 := flip_nat (lo w a) (hiB w) h0 (lo_nat w a) hh
  have e2 := flip_nat (lo w b) (hiB w) h0 (lo_nat w b) hh
  rw [← e1, ← e2]
  refine decide_eq_decide.2 ?_
  cases w
  · have h1 := flip32 a; have h2 := flip32 b
    show (pSign a 32#64).toInt < (pSign b 32#64).toInt ↔ (flip (a % 4294967296#64) 2147483648#64).toNat < (flip (b % 4294967296#64) 2147483648#64).toNat
    omega
  · have h1 := flip64 a; have h2 := flip64 b
    show (pSign a 64#64).toInt < (pSign b 64#64).toInt ↔ (flip a 9223372036854775808#64).toNat < (flip b 9223372036854775808#64).toNat
    rw [sign64, sign64]
    omega
theorem and_pow (a : BitVec 64) (k : Nat) : a &&& BitVec.twoPow 64 k = if a.getLsbD k then BitVec.twoPow 64 k else 0#64 := by
  rw [BitVec.and_twoPow]
theorem alike_eq (w : Bool) (a b : BitVec 64) : (a &&& hiB w == b &&& hiB w) = (decide ((lo w a).toNat < (hiB w).toNat) == decide ((lo w b).toNat < (hiB w).toNat)) := by
  have key : ∀ x : BitVec 64, (x &&& hiB w) = if decide ((lo w x).toNat < (hiB w).toNat) then 0#64 else hiB w := by
    intro x
    have hx := x.isLt
    cases w
    · have e : hiB false = BitVec.twoPow 64 31 := rfl
      rw [e, and_pow]
      have hb : x.getLsbD 31 = !decide ((lo false x).toNat < (BitVec.twoPow 64 31).toNat) := by
        show x.toNat.testBit 31 = !decide ((x % 4294967296#64).toNat < 2147483648)
        rw [Nat.testBit_eq_decide_div_mod_eq, BitVec.toNat_umod]
        simp only [BitVec.toNat_ofNat, Nat.reducePow, Nat.reduceMod]
        rw [← decide_not]
        exact decide_eq_decide.2 (by omega)
      rw [hb]
      cases decide ((lo false x).toNat < (BitVec.twoPow 64 31).toNat) <;> rfl
    · have e : hiB true = BitVec.twoPow 64 63 := rfl
      rw [e, and_pow]
      have hb : x.getLsbD 63 = !decide ((lo true x).toNat < (BitVec.twoPow 64 63).toNat) := by
        show x.toNat.testBit 63 = !decide (x.toNat < 9223372036854775808)
        rw [Nat.testBit_eq_decide_div_mod_eq, ← decide_not]
        exact decide_eq_decide.2 (by omega)
      rw [hb]
      cases decide ((lo true x).toNat < (BitVec.twoPow 64 63).toNat) <;> rfl
  rw [key a, key b]
  cases decide ((lo w a).toNat < (hiB w).toNat) <;> cases decide ((lo w b).toNat < (hiB w).toNat) <;> cases w <;> rfl
theorem alike_symm (w : Bool) (a b : BitVec 64) : (a &&& hiB w == b &&& hiB w) = (b &&& hiB w == a &&& hiB w) := by
  rw [Bool.eq_iff_iff]; simp only [beq_iff_eq]; exact eq_comm
theorem not_not_beq (x y : Bool) : ((!x) == (!y)) = (x == y) := by cases x <;> cases y <;> rfl
theorem sg1 (w : Bool) (a b : BitVec 64) : ((cHolds 32#8 w a b == cHolds 96#8 w a b) == (a &&& hiB w == b &&& hiB w)) = true := by
  rw [cH32, cH96, turn_eq, alike_symm, alike_eq]; simp
theorem sg2 (w : Bool) (a b : BitVec 64) : ((cHolds 48#8 w a b == cHolds 112#8 w a b) == (a &&& hiB w == b &&& hiB w)) = true := by
  rw [cH48, cH112, not_not_beq, turn_eq, alike_eq]; simp
theorem sg3 (w : Bool) (a b : BitVec 64) : ((cHolds 160#8 w a b == cHolds 192#8 w a b) == (a &&& hiB w == b &&& hiB w)) = true := by
  rw [cH160, cH192, turn_eq, alike_eq]; simp
theorem sg4 (w : Bool) (a b : BitVec 64) : ((cHolds 176#8 w a b == cHolds 208#8 w a b) == (a &&& hiB w == b &&& hiB w)) = true := by
  rw [cH176, cH208, not_not_beq, turn_eq, alike_symm, alike_eq]; simp

/-! ### Bits -/
def anyB (a b : BitVec 64) (k : Nat) : Bool := (List.range k).any fun i => a.getLsbD i && b.getLsbD i
theorem anyB_succ (a b : BitVec 64) (k : Nat) : anyB a b (k + 1) = (anyB a b k || (a.getLsbD k && b.getLsbD k)) := by
  simp [anyB, List.range_succ]
theorem bit_eq (a : BitVec 64) (k : Nat) : (a >>> k % 2#64 == 1#64) = a.getLsbD k := by
  rw [Bool.eq_iff_iff, beq_iff_eq, ← BitVec.toNat_inj, BitVec.toNat_umod, BitVec.toNat_ushiftRight, Nat.shiftRight_eq_div_pow]
  show a.toNat / 2 ^ k % 2 = 1 ↔ a.toNat.testBit k = true
  rw [Nat.testBit_eq_decide_div_mod_eq, decide_eq_true_iff]
theorem set64 (a b : BitVec 64) : cHolds 64#8 true a b = anyB a b 64 := by
  rw [cH64]
  show (a &&& b != 0#64) = _
  rw [Bool.eq_iff_iff, bne_iff_ne, ne_eq, anyB, List.any_eq_true]
  constructor
  · intro h
    by_cases hc : ∃ i, i < 64 ∧ (a.getLsbD i && b.getLsbD i) = true
    · obtain ⟨i, hi, hb⟩ := hc; exact ⟨i, List.mem_range.2 hi, hb⟩
    · exfalso
      apply h
      apply BitVec.eq_of_getLsbD_eq
      intro i hi
      rw [BitVec.getLsbD_and, BitVec.getLsbD_zero]
      cases hb : (a.getLsbD i && b.getLsbD i) with
      | false => rfl
      | true => exact absurd ⟨i, hi, hb⟩ hc
  · rintro ⟨i, hi, hb⟩ e
    have := congrArg (fun x => x.getLsbD i) e
    simp only [BitVec.getLsbD_and, hb, BitVec.getLsbD_zero] at this
    cases this
theorem lo_bit (a : BitVec 64) (i : Nat) : (lo false a).getLsbD i = (decide (i < 32) && a.getLsbD i) := by
  show (a % 4294967296#64).getLsbD i = _
  rw [← and32, BitVec.getLsbD_and]
  have : (4294967295#64).getLsbD i = decide (i < 32) := by
    show Nat.testBit 4294967295 i = _
    rw [show 4294967295 = 2 ^ 32 - 1 by decide, Nat.testBit_two_pow_sub_one]
  rw [this, Bool.and_comm]
theorem set32 (a b : BitVec 64) : cHolds 64#8 false a b = anyB a b 32 := by
  rw [cH64, Bool.eq_iff_iff, bne_iff_ne, ne_eq, anyB, List.any_eq_true]
  constructor
  · intro h
    by_cases hc : ∃ i, i < 32 ∧ (a.getLsbD i && b.getLsbD i) = true
    · obtain ⟨i, hi, hb⟩ := hc; exact ⟨i, List.mem_range.2 hi, hb⟩
    · exfalso
      apply h
      apply BitVec.eq_of_getLsbD_eq
      intro i hi
      rw [BitVec.getLsbD_and, lo_bit, lo_bit, BitVec.getLsbD_zero]
      by_cases h3 : i < 32
      · cases hb : (a.getLsbD i && b.getLsbD i) with
        | false => rw [decide_eq_true h3, Bool.true_and, Bool.true_and, hb]
        | true => exact absurd ⟨i, h3, hb⟩ hc
      · rw [decide_eq_false h3]; rfl
  · rintro ⟨i, hi, hb⟩ e
    have hi := List.mem_range.1 hi
    have := congrArg (fun x => x.getLsbD i) e
    simp only [BitVec.getLsbD_and, lo_bit, decide_eq_true hi, Bool.true_and, hb, BitVec.getLsbD_zero] at this
    cases this
theorem one_bit (k i : Nat) (hk : k < 64) : (1#64 <<< k).getLsbD i = decide (i = k) := by
  rw [BitVec.getLsbD_shiftLeft]
  by_cases h : i = k
  · subst h; simp [hk]
  · rw [decide_eq_false h]
    rcases Nat.lt_or_ge i k with h1 | h1
    · simp [h1]
    · rcases Nat.lt_or_ge i 64 with h2 | h2
      · have : (1#64).getLsbD (i - k) = false := by
          rw [BitVec.getLsbD_one]; simp; omega
        simp [this]
      · simp [show ¬ i < 64 by omega]
theorem any_one (a : BitVec 64) (k n : Nat) (hk : k < 64) : anyB a (1#64 <<< k) n = (a.getLsbD k && decide (k < n)) := by
  rw [Bool.eq_iff_iff, anyB, List.any_eq_true, Bool.and_eq_true, decide_eq_true_iff]
  constructor
  · rintro ⟨i, hi, hb⟩
    rw [one_bit _ _ hk, Bool.and_eq_true, decide_eq_true_iff] at hb
    obtain ⟨hb, rfl⟩ := hb
    exact ⟨hb, List.mem_range.1 hi⟩
  · rintro ⟨hb, hn⟩
    exact ⟨k, List.mem_range.2 hn, by rw [one_bit _ _ hk, hb]; simp⟩
theorem div_one (a : BitVec 64) (k : Nat) (hk : k < 64) : a / 1#64 <<< k = a >>> k := by
  apply BitVec.eq_of_toNat_eq
  have hp : 2 ^ k < 2 ^ 64 := Nat.pow_lt_pow_right (by decide) hk
  have h1 : (1#64 <<< k).toNat = 2 ^ k := by
    rw [BitVec.toNat_shiftLeft, Nat.shiftLeft_eq]
    simp only [BitVec.toNat_ofNat, Nat.one_mod, Nat.one_mul]
    exact Nat.mod_eq_of_lt (by simpa using hp)
  rw [BitVec.toNat_udiv, h1, BitVec.toNat_ushiftRight, Nat.shiftRight_eq_div_pow]
theorem b8_lt (t : BitVec 8) : (t % 64#8).toNat < 64 := by rw [BitVec.toNat_umod]; exact Nat.mod_lt _ (by decide)
theorem bt1 (a : BitVec 64) (t : BitVec 8) : (cHolds 64#8 true a (1#64 <<< (t % 64#8).toNat) == (a / 1#64 <<< (t % 64#8).toNat % 2#64 == 1#64)) = true := by
  have h := b8_lt t
  rw [set64, any_one _ _ _ h, div_one _ _ h, bit_eq, decide_eq_true h]; simp
theorem bt2 (a : BitVec 64) (t : BitVec 8) : cHolds 64#8 false a (1#64 <<< (t % 64#8).toNat) = ((a / 1#64 <<< (t % 64#8).toNat % 2#64 == 1#64) && (t % 64#8).ult 32#8) := by
  have h := b8_lt t
  rw [set32, any_one _ _ _ h, div_one _ _ h, bit_eq]
  rfl
end Go.Proofs.YtikhekbdliblnaaDoor
