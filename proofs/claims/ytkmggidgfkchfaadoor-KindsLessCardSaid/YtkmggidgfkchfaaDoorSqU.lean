/-
  Sums, differences, products of numbers of which some bits are known: plain facts, no program in sight. Conditions: as each says.
-/
import Derived.Test.YtkmggidgfkchfaaDoorSqT
namespace Go.Proofs.YtkmggidgfkchfaaDoor
set_option linter.unusedVariables false

/-- The bits of x are among those of X. -/
def sub (x X : BitVec 64) : Prop := ∀ j, j < 64 → x.getLsbD j = true → X.getLsbD j = true
theorem mod_le_of_sub {x X : BitVec 64} (h : sub x X) (i : Nat) : x.toNat % 2 ^ i ≤ X.toNat % 2 ^ i := by
  have e : (x.toNat % 2 ^ i) &&& (X.toNat % 2 ^ i) = x.toNat % 2 ^ i := by
    apply Nat.eq_of_testBit_eq
    intro j
    rw [Nat.testBit_and, Nat.testBit_mod_two_pow, Nat.testBit_mod_two_pow]
    by_cases hj : j < 64
    · have := h j hj
      unfold BitVec.getLsbD at this
      cases hx : x.toNat.testBit j
      · simp
      · simp [this hx]
    · have : x.toNat.testBit j = false := Nat.testBit_lt_two_pow (Nat.lt_of_lt_of_le x.isLt (Nat.pow_le_pow_right (by decide) (by omega)))
      simp [this]
  rw [← e]; exact Nat.and_le_right
theorem carry_mono {x X y Y : BitVec 64} {c C : Bool} (hx : sub x X) (hy : sub y Y) (hc : c = true → C = true) (i : Nat) (h : BitVec.carry i x y c = true) : BitVec.carry i X Y C = true := by
  unfold BitVec.carry at *
  have h1 := mod_le_of_sub hx i
  have h2 := mod_le_of_sub hy i
  have h3 : c.toNat ≤ C.toNat := by cases c <;> cases C <;> simp_all
  simp only [decide_eq_true_eq] at *
  omega
theorem has_sub1 {a b x : BitVec 64} (h : tHas a b x = true) : sub a x := by
  rw [has_iff] at h
  intro j hj ha
  have := h j hj
  rw [ha] at this
  cases hx : x.getLsbD j
  · rw [hx] at this; simp at this
  · rfl
theorem has_sub2 {a b x : BitVec 64} (h : tHas a b x = true) : sub x (a ||| b) := by
  rw [has_iff] at h
  intro j hj hx
  have := h j hj
  rw [hx] at this
  rw [BitVec.getLsbD_or, this]
  cases b.getLsbD j <;> rfl
theorem add_parts {a b x : BitVec 64} (h : tHas a b x = true) : a ||| b = a + b := by
  have hv := valid_of_has h
  rw [valid_iff] at hv
  symm
  apply BitVec.add_eq_or_of_and_eq_zero
  apply BitVec.eq_of_getLsbD_eq
  intro j hj
  rw [BitVec.getLsbD_and, hv j hj, BitVec.getLsbD_zero]
theorem add_bits : ∀ a b c d x y k1 k2 k3 : Bool, a = (x && !b) → c = (y && !d) → (k1 = true → k2 = true) → (k2 = true → k3 = true) →
    ((a ^^ (c ^^ k1)) && !((((a || b) ^^ ((c || d) ^^ k3)) ^^ (a ^^ (c ^^ k1))) || b || d)) = ((x ^^ (y ^^ k2)) && !((((a || b) ^^ ((c || d) ^^ k3)) ^^ (a ^^ (c ^^ k1))) || b || d)) := by decide
theorem sub_bits : ∀ a b c d x y k0 k1 k2 k3 : Bool, a = (x && !b) → c = (y && !d) → (k1 = true → k2 = true) → (k2 = true → k3 = true) → (k1 = true → k0 = true) → (k0 = true → k3 = true) →
    ((a ^^ ((!c) ^^ k0)) && !((((a || b) ^^ ((!c) ^^ k3)) ^^ (a ^^ ((!(c || d)) ^^ k1))) || b || d)) = ((x ^^ ((!y) ^^ k2)) && !((((a || b) ^^ ((!c) ^^ k3)) ^^ (a ^^ ((!(c || d)) ^^ k1))) || b || d)) := by decide
theorem add_has {a b c d x y : BitVec 64} (h : tHas a b x = true) (h' : tHas c d y = true) : tHas (tAddV a b c d) (tAddM a b c d) (x + y) = true := by
  rw [has_iff]
  intro j hj
  have e1 := add_parts h
  have e2 := add_parts h'
  have em : a + c + b + d = (a ||| b) + (c ||| d) := by rw [e1, e2]; ac_rfl
  unfold tAddV tAddM
  rw [em]
  simp only [BitVec.getLsbD_and, BitVec.getLsbD_or, BitVec.getLsbD_xor, BitVec.getLsbD_not, hj, decide_true, Bool.true_and]
  rw [BitVec.getLsbD_add hj, BitVec.getLsbD_add hj, BitVec.getLsbD_add hj]
  have c1 := carry_mono (c := false) (C := false) (has_sub1 h) (has_sub1 h') (by simp) j
  have c2 := carry_mono (c := false) (C := false) (has_sub2 h) (has_sub2 h') (by simp) j
  rw [has_iff] at h h'
  have hx := h j hj
  have hy := h' j hj
  simp only [BitVec.getLsbD_or]
  generalize BitVec.carry j a c false = k1 at *
  generalize BitVec.carry j x y false = k2 at *
  generalize BitVec.carry j (a ||| b) (c ||| d) false = k3 at *
  exact add_bits _ _ _ _ _ _ k1 k2 k3 hx hy c1 c2
/-- A difference, bit by bit. -/
theorem sub_bit (x y : BitVec 64) (j : Nat) (hj : j < 64) : (x - y).getLsbD j = (x.getLsbD j ^^ ((!y.getLsbD j) ^^ BitVec.carry j x (~~~y) true)) := by
  have e : x - y = x + ~~~y + BitVec.setWidth 64 (BitVec.ofBool true) := by
    rw [BitVec.sub_eq_add_neg, BitVec.neg_eq_not_add, BitVec.add_assoc]; rfl
  rw [e, BitVec.getLsbD_add_add_bool hj, BitVec.getLsbD_not, decide_eq_true hj, Bool.true_and]
theorem sub_not {x X : BitVec 64} (h : sub x X) : sub (~~~X) (~~~x) := by
  intro j hj hx
  rw [BitVec.getLsbD_not, decide_eq_true hj, Bool.true_and] at *
  cases hh : x.getLsbD j
  · rfl
  · rw [h j hj hh] at hx; simp at hx
theorem sub_has {a b c d x y : BitVec 64} (h : tHas a b x = true) (h' : tHas c d y = true) : tHas (tSubV a b c d) (tSubM a b c d) (x - y) = true := by
  rw [has_iff]
  intro j hj
  have e1 := add_parts h
  have e2 := add_parts h'
  have em1 : a - c + b = (a ||| b) - c := by rw [e1, BitVec.sub_eq_add_neg, BitVec.sub_eq_add_neg]; ac_rfl
  have em2 : a - c - d = a - (c ||| d) := by rw [e2]; simp only [BitVec.sub_eq_add_neg, BitVec.neg_add]; ac_rfl
  unfold tSubV tSubM
  rw [em1, em2]
  simp only [BitVec.getLsbD_and, BitVec.getLsbD_or, BitVec.getLsbD_xor, BitVec.getLsbD_not, hj, decide_true, Bool.true_and]
  rw [sub_bit _ _ j hj, sub_bit _ _ j hj, sub_bit _ _ j hj, sub_bit _ _ j hj]
  have c1 := carry_mono (c := true) (C := true) (has_sub1 h) (sub_not (has_sub2 h')) (by simp) j
  have c2 := carry_mono (c := true) (C := true) (has_sub2 h) (sub_not (has_sub1 h')) (by simp) j
  have c3 := carry_mono (c := true) (C := true) (x := a) (X := a) (fun _ _ h => h) (sub_not (has_sub2 h')) (by simp) j
  have c4 := carry_mono (c := true) (C := true) (x := a) (X := x) (y := ~~~c) (Y := ~~~c) (has_sub1 h) (fun _ _ h => h) (by simp) j
  have c5 : BitVec.carry j a (~~~(c ||| d)) true = true → BitVec.carry j a (~~~c) true = true :=
    carry_mono (c := true) (C := true) (fun _ _ h => h) (sub_not (fun i hi hc => by rw [BitVec.getLsbD_or, hc]; rfl)) (by simp) j
  have c6 : BitVec.carry j a (~~~c) true = true → BitVec.carry j (a ||| b) (~~~c) true = true :=
    carry_mono (c := true) (C := true) (fun i hi hc => by rw [BitVec.getLsbD_or, hc]; rfl) (fun _ _ h => h) (by simp) j
  rw [has_iff] at h h'
  have hx := h j hj
  have hy := h' j hj
  clear c3 c4
  simp only [BitVec.getLsbD_or]
  generalize BitVec.carry j a (~~~c) true = k0 at *
  generalize BitVec.carry j a (~~~(c ||| d)) true = k1 at *
  generalize BitVec.carry j x (~~~y) true = k2 at *
  generalize BitVec.carry j (a ||| b) (~~~c) true = k3 at *
  exact sub_bits _ _ _ _ _ _ k0 k1 k2 k3 hx hy c1 c2 c5 c6
theorem andT_has {a b c d x y : BitVec 64} (h : tHas a b x = true) (h' : tHas c d y = true) : tHas (tAndV a b c d) (tAndM a b c d) (x &&& y) = true := by
  rw [has_iff] at h h' ⊢
  intro j hj
  have hx := h j hj
  have hy := h' j hj
  unfold tAndV tAndM
  simp only [BitVec.getLsbD_and, BitVec.getLsbD_or, BitVec.getLsbD_not, hj, decide_true, Bool.true_and, hx, hy]
  cases x.getLsbD j <;> cases b.getLsbD j <;> cases y.getLsbD j <;> cases d.getLsbD j <;> rfl
theorem orT_has {a b c d x y : BitVec 64} (h : tHas a b x = true) (h' : tHas c d y = true) : tHas (tOrV a b c d) (tOrM a b c d) (x ||| y) = true := by
  rw [has_iff] at h h' ⊢
  intro j hj
  have hx := h j hj
  have hy := h' j hj
  unfold tOrV tOrM
  simp only [BitVec.getLsbD_and, BitVec.getLsbD_or, BitVec.getLsbD_not, hj, decide_true, Bool.true_and, hx, hy]
  cases x.getLsbD j <;> cases b.getLsbD j <;> cases y.getLsbD j <;> cases d.getLsbD j <;> rfl
theorem xorT_has {a b c d x y : BitVec 64} (h : tHas a b x = true) (h' : tHas c d y = true) : tHas (tXorV a b c d) (tXorM a b c d) (x ^^^ y) = true := by
  rw [has_iff] at h h' ⊢
  intro j hj
  have hx := h j hj
  have hy := h' j hj
  unfold tXorV tXorM
  simp only [BitVec.getLsbD_and, BitVec.getLsbD_or, BitVec.getLsbD_xor, BitVec.getLsbD_not, hj, decide_true, Bool.true_and, hx, hy]
  cases x.getLsbD j <;> cases b.getLsbD j <;> cases y.getLsbD j <;> cases d.getLsbD j <;> rfl

theorem cnt_nat (n : Nat) (h : n < 64) : (BitVec.ofNat 64 n &&& 63#64).toNat = n := by
  rw [BitVec.toNat_and, BitVec.toNat_ofNat, Nat.mod_eq_of_lt (by omega)]
  show n &&& 63 = n
  rw [show (63 : Nat) = 2 ^ 6 - 1 from rfl, Nat.and_two_pow_sub_one_eq_mod]
  omega
theorem low_succ (x y : BitVec 64) (n : Nat) : BitVec.ofNat 64 (x.toNat % 2 ^ (n + 1)) * y = BitVec.ofNat 64 (x.toNat % 2 ^ n) * y + (if x.getLsbD n then y <<< n else 0#64) := by
  rw [Nat.mod_pow_succ, BitVec.ofNat_add, BitVec.add_mul]
  congr 1
  unfold BitVec.getLsbD
  rw [Nat.testBit_eq_decide_div_mod_eq]
  rcases Nat.mod_two_eq_zero_or_one (x.toNat / 2 ^ n) with e | e
  · simp [e]
  · rw [e, if_pos (by simp), Nat.mul_one]
    apply BitVec.eq_of_toNat_eq
    rw [BitVec.toNat_mul, BitVec.toNat_ofNat, BitVec.toNat_shiftLeft, Nat.shiftLeft_eq, Nat.mod_mul_mod, Nat.mul_comm]
theorem mul_steps {a b c d x y : BitVec 64} (h : tHas a b x = true) (h' : tHas c d y = true) : ∀ n, n ≤ 64 → tHas (tMul a b c d n).1 (tMul a b c d n).2 (BitVec.ofNat 64 (x.toNat % 2 ^ n) * y) = true
  | 0, _ => by simp [tMul, Nat.mod_one]; exact const_has 0#64
  | n + 1, hn => by
    have ih := mul_steps h h' n (by omega)
    have hb := (has_iff a b x).1 h n (by omega)
    have hs : tHas (c <<< (BitVec.ofNat 64 n &&& 63#64).toNat) (d <<< (BitVec.ofNat 64 n &&& 63#64).toNat) (y <<< n) = true := by
      rw [cnt_nat n (by omega)]; exact shl_has n h'
    rw [low_succ]
    cases ha : a.getLsbD n with
    | true =>
      have hx : x.getLsbD n = true := by rw [ha] at hb; cases hx : x.getLsbD n; rw [hx] at hb; simp at hb; rfl
      rw [tMul_a _ _ _ _ _ ha, if_pos hx]
      exact add_has ih hs
    | false =>
      cases hbn : b.getLsbD n with
      | true =>
        rw [tMul_b _ _ _ _ _ ha hbn]
        cases hx : x.getLsbD n
        · rw [if_neg (by decide)]
          exact add_has ih (eitherL _ _ (const_has 0#64))
        · rw [if_pos rfl]
          exact add_has ih (eitherR _ _ hs)
      | false =>
        have hx : x.getLsbD n = false := by rw [ha, hbn] at hb; cases hx : x.getLsbD n; rfl; rw [hx] at hb; simp at hb
        rw [tMul_n _ _ _ _ _ ha hbn, hx, if_neg (by decide), BitVec.add_zero]
        exact ih
theorem mul_has {a b c d x y : BitVec 64} (h : tHas a b x = true) (h' : tHas c d y = true) : tHas (tMul a b c d 64).1 (tMul a b c d 64).2 (x * y) = true := by
  have := mul_steps h h' 64 (Nat.le_refl _)
  rw [Nat.mod_eq_of_lt x.isLt, BitVec.ofNat_toNat, BitVec.setWidth_eq] at this
  exact this
/-- A T without open bits has one number. -/
theorem const_only {v m x : BitVec 64} (h : tHas v m x = true) (hm : m = 0#64) : v = x ∧ m = 0#64 := by
  refine ⟨?_, hm⟩
  subst hm
  rw [tHas, beq_iff_eq] at h
  rw [← h]
  have e : ~~~0#64 = BitVec.allOnes 64 := by simp
  rw [e, BitVec.and_allOnes]
theorem mulC_mask (x y : BitVec 64) : ∀ n, (tMul x 0#64 y 0#64 n).2 = 0#64
  | 0 => rfl
  | n + 1 => by
    have ih := mulC_mask x y n
    have ihv : tHas (tMul x 0#64 y 0#64 n).1 (tMul x 0#64 y 0#64 n).2 (tMul x 0#64 y 0#64 n).1 = true := by rw [ih]; exact const_has _
    cases ha : x.getLsbD n
    · rw [tMul_n _ _ _ _ _ ha (by simp)]; exact ih
    · rw [tMul_a _ _ _ _ _ ha]
      show tAddM _ _ _ _ = 0#64
      unfold tAddM
      rw [ih]
      simp

end Go.Proofs.YtkmggidgfkchfaaDoor
