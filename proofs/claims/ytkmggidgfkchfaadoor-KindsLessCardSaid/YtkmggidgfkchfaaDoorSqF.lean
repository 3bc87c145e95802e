/-
  Spans as numbers: what comes of two numbers is in what comes of their spans; what the document makes of them. Conditions: none.
-/
import Derived.Test.YtkmggidgfkchfaaDoorSqR
namespace Go.Proofs.YtkmggidgfkchfaaDoor
set_option linter.unusedVariables false
set_option linter.unusedSimpArgs false

theorem sMin_le (v : BitVec 64) : sg sMin ≤ sg v := by
  have : sg sMin = 0 := rfl
  omega
theorem le_sMax (v : BitVec 64) : sg v ≤ sg sMax := by
  have : sg sMax = 18446744073709551615 := rfl
  have := sg_lt v
  omega
theorem from_has {lo hi v : BitVec 64} (h1 : lo.toNat ≤ v.toNat) (h2 : v.toNat ≤ hi.toNat) : (sFrom lo hi).has v = true :=
  tt_has ((shas_iff _ _).2 ⟨h1, h2, sMin_le v, le_sMax v⟩)
theorem any_has (v : BitVec 64) : sAny.has v = true := by
  rw [shas_iff]
  refine ⟨?_, ?_, sMin_le v, le_sMax v⟩
  · simp [sAny]
  · have := v.isLt
    simp only [sAny, BitVec.toNat_not, BitVec.toNat_ofNat]; omega
theorem zero_le (v : BitVec 64) : (0#64).toNat ≤ v.toNat := by simp
theorem le_ones (v : BitVec 64) : v.toNat ≤ (~~~0#64).toNat := by
  have := v.isLt
  simp only [BitVec.toNat_not, BitVec.toNat_ofNat]; omega
theorem sg_add' (x y : BitVec 64) : sg (x + y) = (sg x + sg y + 9223372036854775808) % 18446744073709551616 := by
  have := x.isLt; have := y.isLt
  unfold sg
  rw [BitVec.toNat_add]
  omega
theorem sg_sub' (x y : BitVec 64) : sg (x - y) = (sg x + 18446744073709551616 - sg y + 9223372036854775808) % 18446744073709551616 := by
  have := x.isLt; have := y.isLt
  unfold sg
  rw [BitVec.toNat_sub]
  omega
theorem beq_iff' (p q : Bool) : (p == q) = true ↔ (p = true ↔ q = true) := by cases p <;> cases q <;> simp
theorem carry0 (x y : BitVec 64) : (BitVec.ofNat 64 ((x.toNat + y.toNat + (0#64).toNat) / 18446744073709551616) == 0#64) = true ↔ x.toNat + y.toNat < 18446744073709551616 := by
  have := x.isLt; have := y.isLt
  rw [beq_iff_eq, ← BitVec.toNat_inj]
  simp only [BitVec.toNat_ofNat]
  omega
theorem sAdd_has {a b : SS} {x y : BitVec 64} (h : a.has x = true) (h' : b.has y = true) : (sAdd a b).has (x + y) = true := by
  rw [shas_iff] at h h'
  apply tt_has
  rw [shas_iff]
  obtain ⟨h1, h2, h3, h4⟩ := h
  obtain ⟨k1, k2, k3, k4⟩ := h'
  have hu : (if BitVec.ofNat 64 ((a.hi.toNat + b.hi.toNat + (0#64).toNat) / 18446744073709551616) == 0#64 then a.lo + b.lo else 0#64).toNat ≤ (x + y).toNat ∧
      (x + y).toNat ≤ (if BitVec.ofNat 64 ((a.hi.toNat + b.hi.toNat + (0#64).toNat) / 18446744073709551616) == 0#64 then a.hi + b.hi + 0#64 else ~~~0#64).toNat := by
    by_cases hc : (BitVec.ofNat 64 ((a.hi.toNat + b.hi.toNat + (0#64).toNat) / 18446744073709551616) == 0#64) = true
    · rw [if_pos hc, if_pos hc]
      rw [carry0] at hc
      simp only [BitVec.toNat_add, BitVec.toNat_ofNat]
      omega
    · rw [if_neg hc, if_neg hc]
      exact ⟨zero_le _, le_ones _⟩
  have hs : sg (if (a.slo + b.slo).slt a.slo == b.slo.slt 0#64 && (a.shi + b.shi).slt a.shi == b.shi.slt 0#64 then a.slo + b.slo else sMin) ≤ sg (x + y) ∧
      sg (x + y) ≤ sg (if (a.slo + b.slo).slt a.slo == b.slo.slt 0#64 && (a.shi + b.shi).slt a.shi == b.shi.slt 0#64 then a.shi + b.shi else sMax) := by
    by_cases hc : ((a.slo + b.slo).slt a.slo == b.slo.slt 0#64 && (a.shi + b.shi).slt a.shi == b.shi.slt 0#64) = true
    · rw [if_pos hc, if_pos hc]
      rw [Bool.and_eq_true, beq_iff', beq_iff', slt_nat, slt_nat, slt_nat, slt_nat, sg_zero, sg_add', sg_add'] at hc
      have := sg_lt a.slo; have := sg_lt a.shi; have := sg_lt b.slo; have := sg_lt b.shi; have := sg_lt x; have := sg_lt y
      rw [sg_add', sg_add', sg_add']
      clear h1 h2 k1 k2 hu
      generalize sg a.slo = A at *; generalize sg a.shi = B at *; generalize sg b.slo = C at *; generalize sg b.shi = D at *; generalize sg x = X at *; generalize sg y = Y at *
      have e1 : 9223372036854775808 ≤ A + C ∧ A + C < 27670116110564327424 := by obtain ⟨hc, -⟩ := hc; omega
      have e2 : 9223372036854775808 ≤ B + D ∧ B + D < 27670116110564327424 := by obtain ⟨-, hc⟩ := hc; omega
      clear hc
      omega
    · rw [if_neg hc, if_neg hc]
      exact ⟨sMin_le _, le_sMax _⟩
  exact ⟨hu.1, hu.2, hs.1, hs.2⟩
theorem sSub_has {a b : SS} {x y : BitVec 64} (h : a.has x = true) (h' : b.has y = true) : (sSub a b).has (x - y) = true := by
  rw [shas_iff] at h h'
  apply tt_has
  rw [shas_iff]
  obtain ⟨h1, h2, h3, h4⟩ := h
  obtain ⟨k1, k2, k3, k4⟩ := h'
  have hu : (if b.hi.ule a.lo then a.lo - b.hi else 0#64).toNat ≤ (x - y).toNat ∧ (x - y).toNat ≤ (if b.hi.ule a.lo then a.hi - b.lo else ~~~0#64).toNat := by
    by_cases hc : b.hi.ule a.lo = true
    · rw [if_pos hc, if_pos hc]
      rw [ule_nat] at hc
      have := a.lo.isLt; have := a.hi.isLt; have := b.lo.isLt; have := b.hi.isLt; have := x.isLt; have := y.isLt
      simp only [BitVec.toNat_sub]
      omega
    · rw [if_neg hc, if_neg hc]
      exact ⟨zero_le _, le_ones _⟩
  have hs : sg (if a.slo.slt (a.slo - b.shi) == b.shi.slt 0#64 && a.shi.slt (a.shi - b.slo) == b.slo.slt 0#64 then a.slo - b.shi else sMin) ≤ sg (x - y) ∧
      sg (x - y) ≤ sg (if a.slo.slt (a.slo - b.shi) == b.shi.slt 0#64 && a.shi.slt (a.shi - b.slo) == b.slo.slt 0#64 then a.shi - b.slo else sMax) := by
    by_cases hc : (a.slo.slt (a.slo - b.shi) == b.shi.slt 0#64 && a.shi.slt (a.shi - b.slo) == b.slo.slt 0#64) = true
    · rw [if_pos hc, if_pos hc]
      rw [Bool.and_eq_true, beq_iff', beq_iff', slt_nat, slt_nat, slt_nat, slt_nat, sg_zero, sg_sub', sg_sub'] at hc
      have := sg_lt a.slo; have := sg_lt a.shi; have := sg_lt b.slo; have := sg_lt b.shi; have := sg_lt x; have := sg_lt y
      rw [sg_sub', sg_sub', sg_sub']
      clear h1 h2 k1 k2 hu
      generalize sg a.slo = A at *; generalize sg a.shi = B at *; generalize sg b.slo = C at *; generalize sg b.shi = D at *; generalize sg x = X at *; generalize sg y = Y at *
      have e1 : D ≤ A + 9223372036854775808 ∧ A < D + 9223372036854775808 := by obtain ⟨hc, -⟩ := hc; omega
      have e2 : C ≤ B + 9223372036854775808 ∧ B < C + 9223372036854775808 := by obtain ⟨-, hc⟩ := hc; omega
      clear hc
      omega
    · rw [if_neg hc, if_neg hc]
      exact ⟨sMin_le _, le_sMax _⟩
  exact ⟨hu.1, hu.2, hs.1, hs.2⟩
theorem mul0 (x y : BitVec 64) : (BitVec.ofNat 64 (x.toNat * y.toNat / 18446744073709551616) == 0#64) = true ↔ x.toNat * y.toNat < 18446744073709551616 := by
  have h1 := x.isLt; have h2 := y.isLt
  have h3 : x.toNat * y.toNat < 18446744073709551616 * 18446744073709551616 := Nat.mul_lt_mul'' h1 h2
  rw [beq_iff_eq, ← BitVec.toNat_inj]
  simp only [BitVec.toNat_ofNat]
  generalize x.toNat * y.toNat = p at *
  omega
theorem sMul_has {a b : SS} {x y : BitVec 64} (h : a.has x = true) (h' : b.has y = true) : (sMul a b).has (x * y) = true := by
  rw [shas_iff] at h h'
  unfold sMul
  by_cases hc : (BitVec.ofNat 64 (a.hi.toNat * b.hi.toNat / 18446744073709551616) == 0#64) = true
  · rw [if_pos hc]
    rw [mul0] at hc
    have e1 := Nat.mul_le_mul h.1 h'.1
    have e2 := Nat.mul_le_mul h.2.1 h'.2.1
    apply from_has
    · simp only [BitVec.toNat_mul]
      rw [Nat.mod_eq_of_lt (by omega), Nat.mod_eq_of_lt (by omega)]; exact e1
    · simp only [BitVec.toNat_mul]
      rw [Nat.mod_eq_of_lt (by omega), Nat.mod_eq_of_lt (by omega)]; exact e2
  · rw [if_neg hc]; exact any_has _
theorem sAnd_has {a b : SS} {x y : BitVec 64} (h : a.has x = true) (h' : b.has y = true) : (sFrom 0#64 (umin a.hi b.hi)).has (x &&& y) = true := by
  rw [shas_iff] at h h'
  apply from_has (zero_le _)
  have e1 : (x &&& y).toNat ≤ x.toNat := by rw [BitVec.toNat_and]; exact Nat.and_le_left
  have e2 : (x &&& y).toNat ≤ y.toNat := by rw [BitVec.toNat_and]; exact Nat.and_le_right
  rw [umin_nat]
  omega
theorem belowB_nat (v : BitVec 64) : (belowB v).toNat = 2 ^ Lib.bitLen v.toNat - 1 := by
  have hl := bitLen_le64 v.toNat
  unfold belowB
  have h1 : (1#64 <<< Lib.bitLen v.toNat).toNat = 2 ^ Lib.bitLen v.toNat % 18446744073709551616 := by
    rw [BitVec.toNat_shiftLeft, Nat.shiftLeft_eq]; simp
  rw [BitVec.toNat_sub, h1]
  simp only [BitVec.toNat_ofNat]
  rcases Nat.lt_or_ge (Lib.bitLen v.toNat) 64 with h | h
  · have : 2 ^ Lib.bitLen v.toNat ≤ 2 ^ 63 := Nat.pow_le_pow_right (by decide) (by omega)
    have := Nat.two_pow_pos (Lib.bitLen v.toNat)
    omega
  · have : Lib.bitLen v.toNat = 64 := by omega
    rw [this]
theorem below_le {x y b f : BitVec 64} (h : x.toNat ≤ b.toNat) (h' : y.toNat ≤ f.toNat) : (x ||| y).toNat ≤ (belowB (b ||| f)).toNat := by
  have h1 := lt_bitLen (b ||| f)
  have e1 : b.toNat ≤ (b ||| f).toNat := by rw [BitVec.toNat_or]; exact Nat.left_le_or
  have e2 : f.toNat ≤ (b ||| f).toNat := by rw [BitVec.toNat_or]; exact Nat.right_le_or
  rw [belowB_nat]
  have : (x ||| y).toNat < 2 ^ Lib.bitLen (b ||| f).toNat := by
    rw [BitVec.toNat_or]
    exact Nat.or_lt_two_pow (by omega) (by omega)
  omega
theorem xor_le_or (x y : BitVec 64) : (x ^^^ y).toNat ≤ (x ||| y).toNat := by
  have e : (x ||| y) = (x ^^^ y) ||| (x &&& y) := by
    ext i
    simp only [BitVec.getElem_or, BitVec.getElem_xor, BitVec.getElem_and]
    cases x[i] <;> cases y[i] <;> rfl
  rw [e, BitVec.toNat_or (x ^^^ y)]
  exact Nat.left_le_or
theorem sOr_has {a b : SS} {x y : BitVec 64} (h : a.has x = true) (h' : b.has y = true) : (sFrom (umax a.lo b.lo) (belowB (a.hi ||| b.hi))).has (x ||| y) = true := by
  rw [shas_iff] at h h'
  apply from_has
  · have e1 : x.toNat ≤ (x ||| y).toNat := by rw [BitVec.toNat_or]; exact Nat.left_le_or
    have e2 : y.toNat ≤ (x ||| y).toNat := by rw [BitVec.toNat_or]; exact Nat.right_le_or
    rw [umax_nat]
    omega
  · exact below_le h.2.1 h'.2.1
theorem sXor_has {a b : SS} {x y : BitVec 64} (h : a.has x = true) (h' : b.has y = true) : (sFrom 0#64 (belowB (a.hi ||| b.hi))).has (x ^^^ y) = true := by
  rw [shas_iff] at h h'
  exact from_has (zero_le _) (Nat.le_trans (xor_le_or x y) (below_le h.2.1 h'.2.1))
theorem nz (b : BitVec 64) (h : ¬ ((b == 0#64) = true)) : 0 < b.toNat := by
  rw [beq_iff_eq, ← BitVec.toNat_inj] at h
  simp only [BitVec.toNat_ofNat] at h
  omega
/-- A quotient; by 0 it is 0. -/
theorem sDiv_has {a b : SS} {x y : BitVec 64} (h : a.has x = true) (h' : b.has y = true) : (sDiv a b).has (x / y) = true := by
  rw [shas_iff] at h h'
  unfold sDiv
  have e := BitVec.toNat_udiv (x := x) (y := y)
  by_cases hc : (b.lo == 0#64 || b.hi == 0#64) = true
  · rw [if_pos hc]
    refine from_has (zero_le _) ?_
    rw [e]
    exact Nat.le_trans (Nat.div_le_self _ _) h.2.1
  · rw [if_neg hc]
    rw [Bool.or_eq_true, not_or] at hc
    have h1 := nz _ hc.1; have h2 := nz _ hc.2
    apply from_has
    · rw [e, BitVec.toNat_udiv]
      exact Nat.div_le_div h.1 h'.2.1 (by omega)
    · rw [e, BitVec.toNat_udiv]
      exact Nat.div_le_div h.2.1 h'.1 (by omega)
theorem sMod_has {a b : SS} {x y : BitVec 64} (h : a.has x = true) (h' : b.has y = true) : (sMod a b).has (x % y) = true := by
  rw [shas_iff] at h h'
  unfold sMod
  have e := BitVec.toNat_umod (x := x) (y := y)
  have e2 : x.toNat % y.toNat ≤ x.toNat := Nat.mod_le _ _
  by_cases hc : (b.lo == 0#64) = true
  · rw [if_pos hc]
    refine from_has (zero_le _) ?_
    omega
  · rw [if_neg hc]
    have h1 := nz _ hc
    have h3 := Nat.mod_lt x.toNat (show y.toNat > 0 by omega)
    refine from_has (zero_le _) ?_
    have := b.hi.isLt
    rw [umin_nat, BitVec.toNat_sub, e]
    simp only [BitVec.toNat_ofNat]
    omega
theorem and63 (n : BitVec 64) : (n &&& 63#64).toNat < 64 := by
  rw [BitVec.toNat_and]
  exact Nat.lt_of_le_of_lt Nat.and_le_right (by decide)
theorem shl_nat (x : BitVec 64) (k : Nat) (h : x.toNat * 2 ^ k < 18446744073709551616) : (x <<< k).toNat = x.toNat * 2 ^ k := by
  rw [BitVec.toNat_shiftLeft, Nat.shiftLeft_eq, Nat.mod_eq_of_lt (by simpa using h)]
theorem shr_nat (x : BitVec 64) (k : Nat) : (x >>> k).toNat = x.toNat / 2 ^ k := by
  rw [BitVec.toNat_ushiftRight, Nat.shiftRight_eq_div_pow]
theorem sLsh_has {a : SS} {x : BitVec 64} (n : BitVec 64) (h : a.has x = true) : (sLsh a n).has (x <<< (n &&& 63#64).toNat) = true := by
  rw [shas_iff] at h
  have hk := and63 n
  unfold sLsh
  generalize (n &&& 63#64).toNat = k at *
  by_cases hc : a.hi.ule (~~~0#64 >>> k) = true
  · rw [if_pos hc]
    rw [ule_nat, shr_nat] at hc
    have e : (~~~0#64).toNat = 18446744073709551615 := rfl
    rw [e] at hc
    have hp := Nat.two_pow_pos k
    have e1 : a.hi.toNat * 2 ^ k ≤ 18446744073709551615 := Nat.le_trans (Nat.mul_le_mul_right _ hc) (Nat.div_mul_le_self _ _)
    have e2 := Nat.mul_le_mul_right (2 ^ k) h.2.1
    have e3 := Nat.mul_le_mul_right (2 ^ k) h.1
    apply from_has
    · rw [shl_nat _ _ (by omega), shl_nat _ _ (by omega)]; exact e3
    · rw [shl_nat _ _ (by omega), shl_nat _ _ (by omega)]; exact e2
  · rw [if_neg hc]; exact any_has _
theorem sRsh_has {a : SS} {x : BitVec 64} (k : Nat) (h : a.has x = true) : (sFrom (a.lo >>> k) (a.hi >>> k)).has (x >>> k) = true := by
  rw [shas_iff] at h
  apply from_has
  · rw [shr_nat, shr_nat]; exact Nat.div_le_div_right h.1
  · rw [shr_nat, shr_nat]; exact Nat.div_le_div_right h.2.1
theorem sg_le_int (x y : BitVec 64) : sg x ≤ sg y ↔ x.toInt ≤ y.toInt := by
  have := sg_int x; have := sg_int y
  omega
theorem sshr_mono (x y : BitVec 64) (k : Nat) (h : sg x ≤ sg y) : sg (x.sshiftRight k) ≤ sg (y.sshiftRight k) := by
  rw [sg_le_int] at h ⊢
  rw [BitVec.toInt_sshiftRight, BitVec.toInt_sshiftRight, Int.shiftRight_eq_div_pow, Int.shiftRight_eq_div_pow]
  exact Int.ediv_le_ediv (by exact_mod_cast Nat.two_pow_pos k) h
theorem sArsh_has {a : SS} {x : BitVec 64} (k : Nat) (h : a.has x = true) : (sTt ⟨0#64, ~~~0#64, a.slo.sshiftRight k, a.shi.sshiftRight k⟩).has (x.sshiftRight k) = true := by
  rw [shas_iff] at h
  apply tt_has
  rw [shas_iff]
  exact ⟨zero_le _, le_ones _, sshr_mono _ _ _ h.2.2.1, sshr_mono _ _ _ h.2.2.2⟩
theorem and32 (x : BitVec 64) : (x &&& 4294967295#64).toNat = x.toNat % 4294967296 := by
  rw [BitVec.toNat_and]
  exact Nat.and_two_pow_sub_one_eq_mod x.toNat 32
theorem sLow_has {a : SS} {x : BitVec 64} (h : a.has x = true) : (sLow a).has (x &&& 4294967295#64) = true := by
  have hx := (shas_iff _ _).1 h
  unfold sLow
  by_cases hc : a.hi.ule 4294967295#64 = true
  · rw [if_pos hc]
    rw [ule_nat] at hc
    have e : (4294967295#64).toNat = 4294967295 := rfl
    rw [e] at hc
    have : x &&& 4294967295#64 = x := by
      apply BitVec.eq_of_toNat_eq
      rw [and32]
      omega
    rw [this]
    exact tt_has h
  · rw [if_neg hc]
    refine from_has (zero_le _) ?_
    rw [and32]
    have e : (4294967295#64).toNat = 4294967295 := rfl
    omega
/-! ### What the document makes of them -/
theorem rDo_div (a b : BitVec 64) : rDo 48#8 a b = a / b := by
  unfold rDo
  by_cases h : (0#64).ult b = true
  · rw [if_neg (by decide), if_neg (by decide), if_neg (by decide), if_pos (by rw [h]; rfl)]
  · have hb : b = 0#64 := by
      rw [ult_nat] at h
      apply BitVec.eq_of_toNat_eq
      simp only [BitVec.toNat_ofNat] at h ⊢; omega
    subst hb
    simp
theorem rDo_mod (a b : BitVec 64) : rDo 144#8 a b = a % b := by
  unfold rDo
  rw [if_neg (by decide), if_neg (by decide), if_neg (by decide), if_neg (by simp), if_pos (by decide)]
  by_cases h : (0#64).ult b = true
  · rw [if_pos h]
  · rw [if_neg h]
    have hb : b = 0#64 := by
      rw [ult_nat] at h
      apply BitVec.eq_of_toNat_eq
      simp only [BitVec.toNat_ofNat] at h ⊢; omega
    subst hb
    simp
theorem k64 (n : BitVec 64) : (n &&& 63#64) % 64#64 = n &&& 63#64 := by
  apply BitVec.eq_of_toNat_eq
  rw [BitVec.toNat_umod]
  exact Nat.mod_eq_of_lt (and63 n)
theorem rDo_lsh (a n : BitVec 64) : rDo 96#8 a (n &&& 63#64) = a <<< (n &&& 63#64).toNat := by
  have : rDo 96#8 a (n &&& 63#64) = a * 1#64 <<< ((n &&& 63#64) % 64#64).toNat := by simp [rDo]
  rw [this, k64]
  have hk := and63 n
  generalize (n &&& 63#64).toNat = k at *
  rw [BitVec.shiftLeft_eq_mul_twoPow a k, BitVec.shiftLeft_eq_mul_twoPow 1#64 k, BitVec.one_mul]
theorem div_pow (a : BitVec 64) (k : Nat) (hk : k < 64) : a / 1#64 <<< k = a >>> k := by
  apply BitVec.eq_of_toNat_eq
  have hp : 2 ^ k < 2 ^ 64 := Nat.pow_lt_pow_right (by decide) hk
  have h1 : (1#64 <<< k).toNat = 2 ^ k := by
    rw [BitVec.toNat_shiftLeft, Nat.shiftLeft_eq]
    simp only [BitVec.toNat_ofNat, Nat.one_mod, Nat.one_mul]
    exact Nat.mod_eq_of_lt (by simpa using hp)
  rw [BitVec.toNat_udiv, h1, shr_nat]
theorem rDo_rsh (a n : BitVec 64) : rDo 112#8 a (n &&& 63#64) = a >>> (n &&& 63#64).toNat := by
  have : rDo 112#8 a (n &&& 63#64) = a / 1#64 <<< ((n &&& 63#64) % 64#64).toNat := by simp [rDo]
  rw [this, k64, div_pow _ _ (and63 n)]
theorem pow_nat (k : Nat) (hk : k < 64) : (1#64 <<< k).toNat = 2 ^ k := by
  have hp : 2 ^ k < 2 ^ 64 := Nat.pow_lt_pow_right (by decide) hk
  rw [BitVec.toNat_shiftLeft, Nat.shiftLeft_eq]
  simp only [BitVec.toNat_ofNat, Nat.one_mod, Nat.one_mul]
  exact Nat.mod_eq_of_lt (by simpa using hp)
theorem sub_mul_div (A Q P : Nat) (h : 0 < Q) : ((A : Int) - ((Q * P : Nat) : Int)) / (Q : Int) = (A : Int) / (Q : Int) - (P : Int) := by
  rw [Int.natCast_mul, Int.mul_comm, Int.sub_mul_ediv_right _ _ (by omega)]
/-- A number of w bits, its sign told on. -/
theorem rSign_shr (a : BitVec 64) (k : BitVec 64) (hk : k.toNat < 64) : rSign (a >>> k.toNat) (64#64 - k) = a.sshiftRight k.toNat := by
  have ha := a.isLt
  have e1 : (64#64 - k).toNat = 64 - k.toNat := by
    rw [BitVec.toNat_sub]; simp only [BitVec.toNat_ofNat]; omega
  have hs : sg (64#64 - k) = 64 - k.toNat + 9223372036854775808 := by
    have := sg_cases (64#64 - k); omega
  by_cases h0 : k.toNat = 0
  · have hk0 : k = 0#64 := by apply BitVec.eq_of_toNat_eq; simpa using h0
    subst hk0
    simp [rSign, rLow]
  have hn1 : (64#64 - k).sle 0#64 = false := by
    rw [Bool.eq_false_iff]; intro h; rw [sle_nat, hs, sg_zero] at h; omega
  have hn2 : (64#64).sle (64#64 - k) = false := by
    rw [Bool.eq_false_iff]; intro h; rw [sle_nat, hs, show sg 64#64 = 9223372036854775872 from rfl] at h; omega
  have hm1 : (64#64 - k - 1#64).toNat = 63 - k.toNat := by
    rw [BitVec.toNat_sub, e1]; simp only [BitVec.toNat_ofNat]; omega
  have hp : 2 ^ k.toNat * 2 ^ (64 - k.toNat) = 2 ^ 64 := by rw [← Nat.pow_add, show k.toNat + (64 - k.toNat) = 64 by omega]
  have hp1 : 2 ^ (64 - k.toNat) = 2 * 2 ^ (63 - k.toNat) := by rw [← Nat.pow_succ', show (63 - k.toNat).succ = 64 - k.toNat by omega]
  have hlt : a.toNat / 2 ^ k.toNat < 2 ^ (64 - k.toNat) := by
    apply Nat.div_lt_of_lt_mul; rw [hp]; exact ha
  have hlow : rLow (a >>> k.toNat) (64#64 - k) = a >>> k.toNat := by
    unfold rLow
    rw [if_neg (by rw [hn2]; decide), if_neg (by rw [hn1]; decide), e1]
    apply BitVec.eq_of_toNat_eq
    rw [BitVec.toNat_umod, pow_nat _ (by omega), shr_nat, Nat.mod_eq_of_lt hlt]
  unfold rSign
  rw [hn1, hn2, hlow, Bool.false_or, Bool.false_or, hm1, e1]
  have hsi := BitVec.toInt_sshiftRight (x := a) (n := k.toNat)
  rw [Int.shiftRight_eq_div_pow] at hsi
  have hpk := Nat.two_pow_pos k.toNat
  have hp63 := Nat.two_pow_pos (63 - k.toNat)
  have hpe : 2 ^ k.toNat * 2 ^ (63 - k.toNat) = 9223372036854775808 := by
    rw [← Nat.pow_add, show k.toNat + (63 - k.toNat) = 63 by omega]
  have hq : a.toNat / 2 ^ k.toNat < 2 ^ (63 - k.toNat) ↔ a.toNat < 9223372036854775808 := by
    rw [Nat.div_lt_iff_lt_mul hpk, Nat.mul_comm, hpe]
  have hle : 2 ^ (64 - k.toNat) ≤ 9223372036854775808 := by
    have : 2 ^ (64 - k.toNat) ≤ 2 ^ 63 := Nat.pow_le_pow_right (by decide) (by omega)
    simpa using this
  apply BitVec.eq_of_toInt_eq
  rw [hsi]
  have hI := BitVec.toInt_eq_toNat_cond a
  by_cases hc : (a >>> k.toNat).ult (1#64 <<< (63 - k.toNat)) = true
  · rw [if_pos hc]
    rw [ult_nat, shr_nat, pow_nat _ (by omega), hq] at hc
    rw [if_pos (by omega)] at hI
    rw [BitVec.toInt_eq_toNat_cond, shr_nat, if_pos (by omega), hI]
    simp
  · rw [if_neg hc]
    rw [ult_nat, shr_nat, pow_nat _ (by omega), hq] at hc
    rw [if_neg (by omega)] at hI
    have hd : (a >>> k.toNat - 1#64 <<< (64 - k.toNat)).toNat = 18446744073709551616 - 2 ^ (64 - k.toNat) + a.toNat / 2 ^ k.toNat := by
      rw [BitVec.toNat_sub, shr_nat, pow_nat _ (by omega)]
      have : 2 ^ (64 - k.toNat) * 1 ≤ 2 ^ (64 - k.toNat) * 2 := by omega
      generalize 2 ^ (64 - k.toNat) = p at *
      generalize a.toNat / 2 ^ k.toNat = q at *
      simp only [Nat.reducePow]
      omega
    rw [BitVec.toInt_eq_toNat_cond, hd]
    have hI' : a.toInt = (a.toNat : Int) - ((2 ^ k.toNat * 2 ^ (64 - k.toNat) : Nat) : Int) := by rw [hI, hp]
    rw [hI', sub_mul_div _ _ _ hpk]
    have e6 : ((a.toNat / 2 ^ k.toNat : Nat) : Int) = (a.toNat : Int) / ((2 ^ k.toNat : Nat) : Int) := Int.natCast_ediv _ _
    rw [← e6]
    have hge : 2 ^ (63 - k.toNat) ≤ a.toNat / 2 ^ k.toNat := by
      rw [Nat.le_div_iff_mul_le hpk, Nat.mul_comm, hpe]; omega
    generalize a.toNat / 2 ^ k.toNat = q at *
    generalize 2 ^ (64 - k.toNat) = p at *
    generalize 2 ^ (63 - k.toNat) = r at *
    simp only [Nat.reducePow]
    rw [if_neg (by omega)]
    omega
theorem rDo_arsh (a n : BitVec 64) : rDo 192#8 a (n &&& 63#64) = a.sshiftRight (n &&& 63#64).toNat := by
  have : rDo 192#8 a (n &&& 63#64) = rSign (a / 1#64 <<< ((n &&& 63#64) % 64#64).toNat) (64#64 - (n &&& 63#64) % 64#64) := by simp [rDo]
  rw [this, k64, div_pow _ _ (and63 n), rSign_shr _ _ (and63 n)]
end Go.Proofs.YtkmggidgfkchfaaDoor
