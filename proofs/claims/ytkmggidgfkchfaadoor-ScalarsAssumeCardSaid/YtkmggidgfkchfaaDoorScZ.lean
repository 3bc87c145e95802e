/-
  What is left of two where a condition holds has them. Conditions: as typed.
-/
import Derived.Test.YtkmggidgfkchfaaDoorScY
namespace Go.Proofs.YtkmggidgfkchfaaDoor
set_option linter.unusedVariables false
set_option linter.unusedSimpArgs false

def P3.good (p : P3) (x y : BitVec 64) : Prop := p.ok = true ∧ p.x.has x = true ∧ p.y.has y = true
theorem good_swap {p : P3} {x y : BitVec 64} (h : p.good x y) : p.swap.good y x := ⟨h.1, h.2.2, h.2.1⟩
theorem good_self {a b : NN} {x y : BitVec 64} (h : a.has x = true) (h' : b.has y = true) : P3.good ⟨a, b, true⟩ x y := ⟨rfl, h, h'⟩
theorem pBoth_good {a b : NN} {x y : BitVec 64} (h : a.has x = true) (h' : b.has y = true) : (pBoth a b).good x y := by
  obtain ⟨h1, h2⟩ := nTight_ok h
  obtain ⟨h3, h4⟩ := nTight_ok h'
  have e : pBoth a b = ⟨nTight a, nTight b, true⟩ := by rw [pBoth, h1, h3]; rfl
  rw [e]
  exact ⟨rfl, h2, h4⟩
theorem pEqual_good {a b : NN} {x : BitVec 64} (h : a.has x = true) (h' : b.has x = true) : (pEqual a b).good x x := by
  rw [nhas_iff] at h h'
  have hm := meet_has h.2 h'.2
  have e : pEqual a b = pBoth (nMeet a b) (nMeet a b) := by rw [pEqual, both_ok h.1 h'.1, ok_has hm]; rfl
  have hn : (nMeet a b).has x = true := (nhas_iff _ _).2 ⟨both_has h.1 h'.1, tight_has hm⟩
  rw [e]
  exact pBoth_good hn hn
theorem has_parts {n : NN} {v : BitVec 64} (h : n.has v = true) : tHas n.tv n.tm v = true ∧ n.lo.toNat ≤ v.toNat ∧ v.toNat ≤ n.hi.toNat ∧ sg n.slo ≤ sg v ∧ sg v ≤ sg n.shi := by
  rw [nhas_iff, shas_iff] at h
  exact ⟨h.1, h.2.1, h.2.2.1, h.2.2.2.1, h.2.2.2.2⟩
theorem has_of {n : NN} {v : BitVec 64} (h1 : tHas n.tv n.tm v = true) (h2 : n.lo.toNat ≤ v.toNat) (h3 : v.toNat ≤ n.hi.toNat) (h4 : sg n.slo ≤ sg v) (h5 : sg v ≤ sg n.shi) : n.has v = true := by
  rw [nhas_iff, shas_iff]
  exact ⟨h1, h2, h3, h4, h5⟩
theorem wLo_le {a : NN} {x v : BitVec 64} (h : a.lo.toNat ≤ x.toNat) (hn : x ≠ v) : (wLo a v).toNat ≤ x.toNat := by
  unfold wLo
  split
  · rename_i hc
    rw [Bool.and_eq_true, ult_nat] at hc
    have e := eq_of_beq hc.1
    have h2 : x.toNat ≠ v.toNat := fun e => hn (BitVec.eq_of_toNat_eq e)
    rw [e] at h ⊢
    have := x.isLt
    rw [BitVec.toNat_add]
    simp only [BitVec.toNat_ofNat]
    omega
  · exact h
theorem le_wHi {a : NN} {x v : BitVec 64} (h : x.toNat ≤ a.hi.toNat) (hn : x ≠ v) : x.toNat ≤ (wHi a v).toNat := by
  unfold wHi
  split
  · rename_i hc
    rw [Bool.and_eq_true, ult_nat] at hc
    have e := eq_of_beq hc.1
    have h2 : x.toNat ≠ v.toNat := fun e => hn (BitVec.eq_of_toNat_eq e)
    rw [e] at h ⊢
    have := v.isLt
    rw [BitVec.toNat_sub]
    simp only [BitVec.toNat_ofNat]
    omega
  · exact h
theorem without_has {a : NN} {x v : BitVec 64} (h : a.has x = true) (hn : x ≠ v) : (nWithout a v).has x = true := by
  obtain ⟨h1, h2, h3, h4, h5⟩ := has_parts h
  exact has_of h1 (wLo_le h2 hn) (le_wHi h3 hn) h4 h5
theorem only_one' {n : NN} {v : BitVec 64} (h : n.has v = true) (hm : n.tm = 0#64) : n.tv = v := (const_only ((nhas_iff _ _).1 h).1 hm).1
theorem pUnlike_good {a b : NN} {x y : BitVec 64} (h : a.has x = true) (h' : b.has y = true) (hn : x ≠ y) : (pUnlike a b).good x y := by
  unfold pUnlike
  split
  · rename_i hc
    rw [Bool.and_eq_true, Bool.and_eq_true] at hc
    obtain ⟨⟨h1, h2⟩, h3⟩ := hc
    have e1 := only_one' h (eq_of_beq h1)
    have e2 := only_one' h' (eq_of_beq h2)
    exact absurd (by rw [← e1, ← e2]; exact eq_of_beq h3) hn
  · refine pBoth_good ?_ ?_
    · split
      · rename_i hc
        rw [only_one' h' (eq_of_beq hc)]
        exact without_has h hn
      · exact h
    · split
      · rename_i hc
        rw [only_one' h (eq_of_beq hc)]
        exact without_has h' (Ne.symm hn)
      · exact h'
theorem pLess_good {a b : NN} {x y : BitVec 64} (same : Bool) (h : a.has x = true) (h' : b.has y = true) (hl : x.toNat + (byB same).toNat ≤ y.toNat) : (pLess a b same).good x y := by
  obtain ⟨h1, h2, h3, h4, h5⟩ := has_parts h
  obtain ⟨k1, k2, k3, k4, k5⟩ := has_parts h'
  have hx := x.isLt
  have hy := y.isLt
  have hb := b.hi.isLt
  have c1 : b.hi.ult (byB same) = false := by
    rw [Bool.eq_false_iff, ne_eq, ult_nat]; omega
  have hby : (byB same).toNat ≤ 1 := by cases same <;> decide
  have em : (18446744073709551615#64 - byB same).toNat = 18446744073709551615 - (byB same).toNat := by cases same <;> rfl
  have c2 : (18446744073709551615#64 - byB same).ult a.lo = false := by
    rw [Bool.eq_false_iff, ne_eq, ult_nat, em]; omega
  rw [pLess_3 c1 c2]
  refine pBoth_good (has_of h1 h2 ?_ h4 h5) (has_of k1 ?_ k3 k4 k5)
  · rw [umin_nat, BitVec.toNat_sub]; omega
  · rw [umax_nat, BitVec.toNat_add]; omega
theorem pLessS_good {a b : NN} {x y : BitVec 64} (same : Bool) (h : a.has x = true) (h' : b.has y = true) (hl : sg x + (byB same).toNat ≤ sg y) : (pLessS a b same).good x y := by
  obtain ⟨h1, h2, h3, h4, h5⟩ := has_parts h
  obtain ⟨k1, k2, k3, k4, k5⟩ := has_parts h'
  have hx := sg_lt x
  have hy := sg_lt y
  have hby : (byB same).toNat ≤ 1 := by cases same <;> decide
  have e1 : sg (sMin + byB same) = (byB same).toNat := by cases same <;> simp [sg, sMin, byB]
  have e2 : sg (sMax - byB same) = 18446744073709551615 - (byB same).toNat := by cases same <;> simp [sg, sMax, byB]
  have c1 : b.shi.slt (sMin + byB same) = false := by
    rw [Bool.eq_false_iff, ne_eq, slt_nat, e1]; omega
  have c2 : (sMax - byB same).slt a.slo = false := by
    rw [Bool.eq_false_iff, ne_eq, slt_nat, e2]; omega
  rw [pLessS_3 c1 c2]
  refine pBoth_good (has_of h1 h2 h3 h4 ?_) (has_of k1 k2 k3 ?_ k5)
  · show sg x ≤ sg (smin a.shi (b.shi - byB same))
    rw [smin_nat, sg_sub _ _ (Nat.le_trans (Nat.le_trans (Nat.le_add_left _ _) hl) k5)]
    exact Nat.le_min.2 ⟨h5, Nat.le_sub_of_add_le (Nat.le_trans hl k5)⟩
  · show sg (smax b.slo (a.slo + byB same)) ≤ sg y
    rw [smax_nat, sg_add _ _ (Nat.lt_of_le_of_lt (Nat.le_trans (Nat.add_le_add_right h4 _) hl) hy)]
    exact Nat.max_le.2 ⟨k4, Nat.le_trans (Nat.add_le_add_right h4 _) hl⟩

/-! ### What holds, of 64 bits and of 32 -/
abbrev hR (o : BitVec 8) (w : Bool) (x y : BitVec 64) : Bool := Cd.rHolds o w x y
theorem lo64 (x : BitVec 64) : Cd.lo true x = x := rfl
theorem sn64 (x : BitVec 64) : Cd.sn true x = x := Cd.sign64 x
theorem lo32 {x : BitVec 64} (h : x.toNat ≤ 4294967295) : Cd.lo false x = x := by
  show x % 4294967296#64 = x
  apply BitVec.eq_of_toNat_eq
  rw [BitVec.toNat_umod]
  exact Nat.mod_eq_of_lt (show x.toNat < 4294967296 by omega)
theorem sn32 {x : BitVec 64} (h : x.toNat ≤ 2147483647) : Cd.sn false x = x := by
  show Cd.pSign x 32#64 = x
  rw [Cd.sign32]
  apply BitVec.eq_of_toInt_eq
  rw [BitVec.toInt_sshiftRight, Int.shiftRight_eq_div_pow, BitVec.toInt_eq_toNat_cond, BitVec.toInt_eq_toNat_cond, BitVec.toNat_shiftLeft, Nat.shiftLeft_eq]
  have e3 : x.toNat * 2 ^ 32 % 2 ^ 64 = x.toNat * 4294967296 := by omega
  rw [e3]
  generalize x.toNat = r at *
  split <;> split <;> omega
theorem hR_def (o : BitVec 8) (w : Bool) (x y : BitVec 64) : hR o w x y = Cd.cHolds o w x y := (Cd.same06 o w x y).symm
/-- The condition, by names. -/
theorem op_some (o : BitVec 8) : o = 0#8 ∨ o = 16#8 ∨ o = 80#8 ∨ o = 32#8 ∨ o = 48#8 ∨ o = 160#8 ∨ o = 176#8 ∨ o = 96#8 ∨ o = 112#8 ∨ o = 192#8 ∨ o = 208#8 ∨ o = 64#8 ∨
    ((Cd.signH o = false ∧ Cd.ordH o = false ∧ turnH o = false) ∧ o ≠ 0#8 ∧ o ≠ 64#8) := by
  by_cases h0 : o = 0#8; · exact .inl h0
  by_cases h16 : o = 16#8; · exact .inr (.inl h16)
  by_cases h80 : o = 80#8; · exact .inr (.inr (.inl h80))
  by_cases h32 : o = 32#8; · exact .inr (.inr (.inr (.inl h32)))
  by_cases h48 : o = 48#8; · exact .inr (.inr (.inr (.inr (.inl h48))))
  by_cases h160 : o = 160#8; · exact .inr (.inr (.inr (.inr (.inr (.inl h160)))))
  by_cases h176 : o = 176#8; · exact .inr (.inr (.inr (.inr (.inr (.inr (.inl h176))))))
  by_cases h96 : o = 96#8; · exact .inr (.inr (.inr (.inr (.inr (.inr (.inr (.inl h96)))))))
  by_cases h112 : o = 112#8; · exact .inr (.inr (.inr (.inr (.inr (.inr (.inr (.inr (.inl h112))))))))
  by_cases h192 : o = 192#8; · exact .inr (.inr (.inr (.inr (.inr (.inr (.inr (.inr (.inr (.inl h192)))))))))
  by_cases h208 : o = 208#8; · exact .inr (.inr (.inr (.inr (.inr (.inr (.inr (.inr (.inr (.inr (.inl h208))))))))))
  by_cases h64 : o = 64#8; · exact .inr (.inr (.inr (.inr (.inr (.inr (.inr (.inr (.inr (.inr (.inr (.inl h64)))))))))))
  refine .inr (.inr (.inr (.inr (.inr (.inr (.inr (.inr (.inr (.inr (.inr (.inr ⟨⟨?_, ?_, ?_⟩, h0, h64⟩)))))))))))
  · simp [Cd.signH, h0, h16, h80, h32, h48, h160, h176, h96, h112, h192, h208, h64]
  · simp [Cd.ordH, h0, h16, h80, h32, h48, h160, h176, h96, h112, h192, h208, h64]
  · simp [turnH, h0, h16, h80, h32, h48, h160, h176, h96, h112, h192, h208, h64]
theorem hR_none {o : BitVec 8} (h : (Cd.signH o = false ∧ Cd.ordH o = false ∧ turnH o = false) ∧ o ≠ 0#8 ∧ o ≠ 64#8) (w : Bool) (x y : BitVec 64) : hR o w x y = false := by
  obtain ⟨⟨h1, h2, h3⟩, h4, h5⟩ := h
  rw [hR_def]
  simp [Cd.cHolds, h1, h2, h4, h5]
theorem most16 : (most 16#8).toNat = 4294967295 := by simp [most]
theorem most80 : (most 80#8).toNat = 4294967295 := by simp [most]
theorem most32 : (most 32#8).toNat = 4294967295 := by simp [most]
theorem most48 : (most 48#8).toNat = 4294967295 := by simp [most]
theorem most160 : (most 160#8).toNat = 4294967295 := by simp [most]
theorem most176 : (most 176#8).toNat = 4294967295 := by simp [most]
theorem most64 : (most 64#8).toNat = 4294967295 := by simp [most]
theorem most96 : (most 96#8).toNat = 2147483647 := by simp [most]
theorem most112 : (most 112#8).toNat = 2147483647 := by simp [most]
theorem most192 : (most 192#8).toNat = 2147483647 := by simp [most]
theorem most208 : (most 208#8).toNat = 2147483647 := by simp [most]
set_option maxHeartbeats 4000000 in
/-- Of small numbers a condition of 32 bits says what one of 64 says. -/
theorem hR_small (o : BitVec 8) {x y : BitVec 64} (hx : x.toNat ≤ (most o).toNat) (hy : y.toNat ≤ (most o).toNat) : hR o false x y = hR o true x y := by
  rw [hR_def, hR_def]
  rcases op_some o with rfl | rfl | rfl | rfl | rfl | rfl | rfl | rfl | rfl | rfl | rfl | rfl | h
  · rw [Cd.cH0, Cd.cH0]
  · rw [most16] at hx hy
    rw [Cd.cH16, Cd.cH16, lo64, lo64, lo32 hx, lo32 hy]
  · rw [most80] at hx hy
    rw [Cd.cH80, Cd.cH80, lo64, lo64, lo32 hx, lo32 hy]
  · rw [most32] at hx hy
    rw [Cd.cH32, Cd.cH32, lo64, lo64, lo32 hx, lo32 hy]
  · rw [most48] at hx hy
    rw [Cd.cH48, Cd.cH48, lo64, lo64, lo32 hx, lo32 hy]
  · rw [most160] at hx hy
    rw [Cd.cH160, Cd.cH160, lo64, lo64, lo32 hx, lo32 hy]
  · rw [most176] at hx hy
    rw [Cd.cH176, Cd.cH176, lo64, lo64, lo32 hx, lo32 hy]
  · rw [most96] at hx hy
    rw [Cd.cH96, Cd.cH96, sn64, sn64, sn32 hx, sn32 hy]
  · rw [most112] at hx hy
    rw [Cd.cH112, Cd.cH112, sn64, sn64, sn32 hx, sn32 hy]
  · rw [most192] at hx hy
    rw [Cd.cH192, Cd.cH192, sn64, sn64, sn32 hx, sn32 hy]
  · rw [most208] at hx hy
    rw [Cd.cH208, Cd.cH208, sn64, sn64, sn32 hx, sn32 hy]
  · rw [most64] at hx hy
    rw [Cd.cH64, Cd.cH64, lo64, lo64, lo32 hx, lo32 hy]
  · rw [← hR_def, ← hR_def, hR_none h, hR_none h]
theorem bits_apart {a b : NN} {x y : BitVec 64} (h : a.has x = true) (h' : b.has y = true) (hn : x &&& y = 0#64) : (pApart a b).good x y := by
  obtain ⟨h1, h2, h3, h4, h5⟩ := has_parts h
  obtain ⟨k1, k2, k3, k4, k5⟩ := has_parts h'
  rw [has_iff] at h1 k1
  have hb : ∀ j, j < 64 → (x.getLsbD j && y.getLsbD j) = false := by
    intro j hj
    have := congrArg (fun v => v.getLsbD j) hn
    simpa using this
  have e : (a.tv &&& b.tv == 0#64) = true := by
    rw [beq_iff_eq]
    apply BitVec.eq_of_getLsbD_eq
    intro j hj
    rw [BitVec.getLsbD_and, h1 j hj, k1 j hj, BitVec.getLsbD_zero]
    have := hb j hj
    revert this
    cases x.getLsbD j <;> cases y.getLsbD j <;> simp
  rw [pApart, if_pos e]
  refine pBoth_good (has_of ?_ h2 h3 h4 h5) (has_of ?_ k2 k3 k4 k5)
  · rw [has_iff]
    intro j hj
    have q := hb j hj
    simp only [BitVec.getLsbD_and, BitVec.getLsbD_not, hj, decide_true, Bool.true_and, h1 j hj, k1 j hj]
    revert q
    cases x.getLsbD j <;> cases y.getLsbD j <;> cases a.tm.getLsbD j <;> cases b.tm.getLsbD j <;> simp
  · rw [has_iff]
    intro j hj
    have q := hb j hj
    simp only [BitVec.getLsbD_and, BitVec.getLsbD_not, hj, decide_true, Bool.true_and, h1 j hj, k1 j hj]
    revert q
    cases x.getLsbD j <;> cases y.getLsbD j <;> cases a.tm.getLsbD j <;> cases b.tm.getLsbD j <;> simp
theorem bits_meet {a b : NN} {x y : BitVec 64} (h : a.has x = true) (h' : b.has y = true) (hn : (x &&& y != 0#64) = true) : ((a.tv ||| a.tm) &&& (b.tv ||| b.tm) == 0#64) = false := by
  obtain ⟨h1, -⟩ := has_parts h
  obtain ⟨k1, -⟩ := has_parts h'
  rw [has_iff] at h1 k1
  cases hc : ((a.tv ||| a.tm) &&& (b.tv ||| b.tm) == 0#64) with
  | false => rfl
  | true =>
    exfalso
    rw [bne_iff_ne] at hn
    apply hn
    apply BitVec.eq_of_getLsbD_eq
    intro j hj
    have := congrArg (fun v => v.getLsbD j) (eq_of_beq hc)
    simp only [BitVec.getLsbD_and, BitVec.getLsbD_or, BitVec.getLsbD_zero, h1 j hj, k1 j hj] at this ⊢
    revert this
    cases x.getLsbD j <;> cases y.getLsbD j <;> cases a.tm.getLsbD j <;> cases b.tm.getLsbD j <;> simp
theorem ult_le {x y : BitVec 64} (h : x.ult y = true) : x.toNat + (byB false).toNat ≤ y.toNat := by
  rw [ult_nat] at h; show x.toNat + 1 ≤ y.toNat; omega
theorem nult_le {x y : BitVec 64} (h : (!(y.ult x)) = true) : x.toNat + (byB true).toNat ≤ y.toNat := by
  rw [Bool.not_eq_true', Bool.eq_false_iff, ne_eq, ult_nat] at h; show x.toNat + 0 ≤ y.toNat; omega
theorem slt_le {x y : BitVec 64} (h : x.slt y = true) : sg x + (byB false).toNat ≤ sg y := by
  rw [slt_nat] at h; show sg x + 1 ≤ sg y; omega
theorem nslt_le {x y : BitVec 64} (h : (!(y.slt x)) = true) : sg x + (byB true).toNat ≤ sg y := by
  rw [Bool.not_eq_true', Bool.eq_false_iff, ne_eq, slt_nat] at h; show sg x + 0 ≤ sg y; omega
/-- **Where a condition holds of two numbers they are left.** -/
theorem pHold_good (o : BitVec 8) {a b : NN} {x y : BitVec 64} (h : a.has x = true) (h' : b.has y = true) (hh : hR o true x y = true) : (pHold o a b).good x y := by
  rw [hR_def] at hh
  rcases op_some o with rfl | rfl | rfl | rfl | rfl | rfl | rfl | rfl | rfl | rfl | rfl | rfl | hn
  · exact good_self h h'
  · rw [Cd.cH16, lo64, lo64, beq_iff_eq] at hh
    subst hh
    exact pEqual_good h h'
  · rw [Cd.cH80, lo64, lo64, bne_iff_ne] at hh
    exact pUnlike_good h h' hh
  · rw [Cd.cH32, lo64, lo64] at hh
    exact good_swap (pLess_good false h' h (ult_le hh))
  · rw [Cd.cH48, lo64, lo64] at hh
    exact good_swap (pLess_good true h' h (nult_le hh))
  · rw [Cd.cH160, lo64, lo64] at hh
    exact pLess_good false h h' (ult_le hh)
  · rw [Cd.cH176, lo64, lo64] at hh
    exact pLess_good true h h' (nult_le hh)
  · rw [Cd.cH96, sn64, sn64] at hh
    exact good_swap (pLessS_good false h' h (slt_le hh))
  · rw [Cd.cH112, sn64, sn64] at hh
    exact good_swap (pLessS_good true h' h (nslt_le hh))
  · rw [Cd.cH192, sn64, sn64] at hh
    exact pLessS_good false h h' (slt_le hh)
  · rw [Cd.cH208, sn64, sn64] at hh
    exact pLessS_good true h h' (nslt_le hh)
  · rw [Cd.cH64, lo64, lo64] at hh
    have e : pHold 64#8 a b = if ((a.tv ||| a.tm) &&& (b.tv ||| b.tm) == 0#64) = true then pNo else ⟨a, b, true⟩ := rfl
    rw [e, bits_meet h h' hh]
    exact good_self h h'
  · rw [← hR_def, hR_none hn] at hh
    cases hh
theorem not_swap {p q : Bool} (h : p = false) (e : q = !p) : q = true := by rw [e, h]; rfl
theorem hR_turn (o : BitVec 8) (ht : turnH o = true) {x y : BitVec 64} (h : hR o true x y = false) : hR (turnV o) true x y = true := by
  rw [hR_def] at h ⊢
  rcases op_some o with rfl | rfl | rfl | rfl | rfl | rfl | rfl | rfl | rfl | rfl | rfl | rfl | hn
  · exact absurd ht (by decide)
  · rw [Cd.cH16] at h; exact (Cd.cH80 true x y).trans (by rw [bne, h]; rfl)
  · rw [Cd.cH80] at h; refine (Cd.cH16 true x y).trans ?_; rw [bne] at h; revert h; cases (Cd.lo true x == Cd.lo true y) <;> decide
  · rw [Cd.cH32] at h; exact (Cd.cH176 true x y).trans (by rw [h]; rfl)
  · rw [Cd.cH48] at h; refine (Cd.cH160 true x y).trans ?_; revert h; cases (Cd.lo true x).ult (Cd.lo true y) <;> decide
  · rw [Cd.cH160] at h; exact (Cd.cH48 true x y).trans (by rw [h]; rfl)
  · rw [Cd.cH176] at h; refine (Cd.cH32 true x y).trans ?_; revert h; cases (Cd.lo true y).ult (Cd.lo true x) <;> decide
  · rw [Cd.cH96] at h; exact (Cd.cH208 true x y).trans (by rw [h]; rfl)
  · rw [Cd.cH112] at h; refine (Cd.cH192 true x y).trans ?_; revert h; cases (Cd.sn true x).slt (Cd.sn true y) <;> decide
  · rw [Cd.cH192] at h; exact (Cd.cH112 true x y).trans (by rw [h]; rfl)
  · rw [Cd.cH208] at h; refine (Cd.cH96 true x y).trans ?_; revert h; cases (Cd.sn true y).slt (Cd.sn true x) <;> decide
  · exact absurd ht (by decide)
  · rw [hn.1.2.2] at ht; cases ht
/-- **Two numbers are left where a condition that holds, or does not, is assumed.** -/
theorem pAssume_good (o : BitVec 8) (w : Bool) {a b : NN} {x y : BitVec 64} (h : a.has x = true) (h' : b.has y = true) : (pAssume o w (Cd.rHolds o w x y) a b).good x y := by
  unfold pAssume
  by_cases hs : (!w && !(nSmall o a b)) = true
  · rw [if_pos hs]; exact good_self h h'
  rw [if_neg hs]
  have ew : Cd.rHolds o w x y = hR o true x y := by
    cases w with
    | true => rfl
    | false =>
      have hn : nSmall o a b = true := by simpa using hs
      rw [nSmall, Bool.and_eq_true] at hn
      obtain ⟨p, q⟩ := hn
      have p' : a.hi.toNat ≤ (most o).toNat := by simpa [BitVec.ule] using p
      have q' : b.hi.toNat ≤ (most o).toNat := by simpa [BitVec.ule] using q
      exact hR_small o (Nat.le_trans (has_parts h).2.2.1 p') (Nat.le_trans (has_parts h').2.2.1 q')
  rw [ew]
  cases hh : hR o true x y with
  | true => exact pHold_good o h h' hh
  | false =>
    rw [if_neg (by decide)]
    by_cases h6 : o = 64#8
    · subst h6
      rw [hR_def, Cd.cH64, lo64, lo64] at hh
      exact bits_apart h h' (by revert hh; rw [bne]; cases hc : (x &&& y == 0#64); · intro e; cases e
                                · intro _; exact eq_of_beq hc)
    rw [if_neg (by simpa using h6)]
    by_cases ht : turnH o = true
    · rw [if_pos ht]
      exact pHold_good _ h h' (hR_turn o ht hh)
    rw [if_neg ht]
    refine ⟨?_, h, h'⟩
    show (!(o == 0#8)) = true
    by_cases h0 : o = 0#8
    · subst h0; rw [hR_def, Cd.cH0] at hh; cases hh
    · simpa using h0
end Go.Proofs.YtkmggidgfkchfaaDoor
