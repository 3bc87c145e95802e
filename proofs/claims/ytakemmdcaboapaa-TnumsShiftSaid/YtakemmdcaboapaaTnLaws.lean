/-
  The laws of chapter 15, as the evaluator leaves them. Conditions: none.
-/
import Derived.Test.YtakemmdcaboapaaTnD
import Derived.Test.YtakemmdcaboapaaTnN
namespace Go.Proofs.Ytakemmdcaboapaa
open Go.Ev Go.RowKit
set_option linter.unusedVariables false
set_option linter.unusedSimpArgs false

theorem no {b : Bool} (h : (!b) = true) (h' : b = true) : False := by rw [h'] at h; cases h
theorem no' {b : Bool} (h : b = false) (h' : b = true) : False := by rw [h'] at h; cases h
theorem range_has' {lo hi v : BitVec 64} (h1 : lo.toNat ≤ v.toNat) (h2 : v.toNat ≤ hi.toNat) :
    tHas (if hi.ult lo then 0#64 else lo &&& ~~~belowB (lo ^^^ hi)) (if hi.ult lo then ~~~0#64 else belowB (lo ^^^ hi)) v = true := by
  have : hi.ult lo = false := by rw [BitVec.ult]; simp; omega
  rw [if_neg (by rw [this]; decide), if_neg (by rw [this]; decide)]
  exact range_has lo hi v h1 h2
theorem mid1 (p q r : BitVec 64) : (if q.ult p then q else p).toNat ≤ (if (if p.ult q then q else p).ult (if r.ult (if q.ult p then q else p) then (if q.ult p then q else p) else r) then (if p.ult q then q else p) else (if r.ult (if q.ult p then q else p) then (if q.ult p then q else p) else r)).toNat := by
  simp only [BitVec.ult]
  repeat' split
  all_goals simp_all
  all_goals omega
theorem mid2 (p q r : BitVec 64) : (if (if p.ult q then q else p).ult (if r.ult (if q.ult p then q else p) then (if q.ult p then q else p) else r) then (if p.ult q then q else p) else (if r.ult (if q.ult p then q else p) then (if q.ult p then q else p) else r)).toNat ≤ (if p.ult q then q else p).toNat := by
  simp only [BitVec.ult]
  repeat' split
  all_goals simp_all
  all_goals omega
theorem mid3 (p q : BitVec 64) : (if q.ult p then q else p).toNat ≤ (if p.ult q then q else p).toNat := by
  simp only [BitVec.ult]
  repeat' split
  all_goals simp_all
  all_goals omega
theorem both_has' {a b c d x : BitVec 64} (h : tHas a b x = true) (h' : tHas c d x = true) : tHas (if tBothOk a b c d then tBothV a b c d else 0#64) (if tBothOk a b c d then tBothM a b c d else 0#64) x = true := by
  rw [both_ok h h']; exact both_has h h'
theorem both_valid' (a b c d : BitVec 64) : tValid (if tBothOk a b c d then tBothV a b c d else 0#64) (if tBothOk a b c d then tBothM a b c d else 0#64) = true := by
  split
  · exact both_valid a b c d
  · rfl

/-- What 'does' asks. -/
def doesB (a b c d x y : BitVec 64) : Bool :=
  tValid (tAddV a b c d) (tAddM a b c d) && tHas (tAddV a b c d) (tAddM a b c d) (x + y) &&
  (tValid (tSubV a b c d) (tSubM a b c d) && tHas (tSubV a b c d) (tSubM a b c d) (x - y)) &&
  (tValid (tAndV a b c d) (tAndM a b c d) && tHas (tAndV a b c d) (tAndM a b c d) (x &&& y)) &&
  (tValid (tOrV a b c d) (tOrM a b c d) && tHas (tOrV a b c d) (tOrM a b c d) (x ||| y)) &&
  (tValid (tXorV a b c d) (tXorM a b c d) && tHas (tXorV a b c d) (tXorM a b c d) (x ^^^ y)) &&
  (tValid (tMul a b c d 64).1 (tMul a b c d 64).2 && tHas (tMul a b c d 64).1 (tMul a b c d 64).2 (x * y))

set_option maxRecDepth 100000 in
set_option maxHeartbeats 4000000 in
theorem TnumsJoin_main (a0 a1 b0 b1 p q r : BitVec 64) : F Try.prog (tab tb_firewalllaw15_bits) Try.f3 [.agg [.b64 false a0, .b64 false a1], .agg [.b64 false b0, .b64 false b1], .agg [.b64 false p, .b64 false q, .b64 false r]] (fun r => r = .one (.bool true)) := by
  have hX := made_has a0 a1 p
  have hY := made_has b0 b1 q
  have hE1 := eitherL (b0 &&& ~~~b1) b1 hX
  have hE2 := eitherR (a0 &&& ~~~a1) a1 hY
  have f1 := valid_of_has (range_has' (mid1 p q r) (mid2 p q r))
  have f2 := range_has' (mid1 p q r) (mid2 p q r)
  have f3 := range_has' (Nat.le_refl _) (mid3 p q)
  have f4 := range_has' (mid3 p q) (Nat.le_refl _)
  have f5 := valid_of_has hE1
  have f6 := both_ok hX hE1
  have f7 := both_has hX hE1
  have f8 := both_valid' (a0 &&& ~~~a1) a1 (b0 &&& ~~~b1) b1
  have f8' := both_valid (a0 &&& ~~~a1) a1 (b0 &&& ~~~b1) b1
  have f9 : tHas (b0 &&& ~~~b1) b1 ((a0 &&& ~~~a1) ||| (a1 &&& p)) = false ∨ (tHas (b0 &&& ~~~b1) b1 ((a0 &&& ~~~a1) ||| (a1 &&& p)) = true ∧ tBothOk (a0 &&& ~~~a1) a1 (b0 &&& ~~~b1) b1 = true ∧
      tHas (tBothV (a0 &&& ~~~a1) a1 (b0 &&& ~~~b1) b1) (tBothM (a0 &&& ~~~a1) a1 (b0 &&& ~~~b1) b1) ((a0 &&& ~~~a1) ||| (a1 &&& p)) = true) := by
    cases h : tHas (b0 &&& ~~~b1) b1 ((a0 &&& ~~~a1) ||| (a1 &&& p))
    · exact .inl rfl
    · exact .inr ⟨rfl, both_ok hX h, both_has hX h⟩
  rcases f9 with f9 | ⟨f9, f10, f11⟩
  · repeat' (first
      | (with_reducible apply Given.mk; intro h; (try simp only [f1, f2, f3, f4, f5, f6, f7, f8, f8', f9, hE1, hE2, if_true, if_false, Bool.not_true, Bool.not_false, Bool.false_eq_true, reduceCtorEq] at h))
      | ((conv => whnf); with_reducible apply Both.mk))
    all_goals first
      | (with_reducible apply Ob.mk; kernel_rfl)
      | ((conv => whnf); exact ⟨rfl⟩)
  · repeat' (first
      | (with_reducible apply Given.mk; intro h; (try simp only [f1, f2, f3, f4, f5, f6, f7, f8, f8', f9, f10, f11, hE1, hE2, if_true, if_false, Bool.not_true, Bool.not_false, Bool.false_eq_true, reduceCtorEq] at h))
      | ((conv => whnf); with_reducible apply Both.mk))
    all_goals first
      | (with_reducible apply Ob.mk; kernel_rfl)
      | ((conv => whnf); exact ⟨rfl⟩)

def sp_firewalllaw15_does : Sp
  | [.agg [.b64 false a, .b64 false b], .agg [.b64 false c, .b64 false d], .one (.b64 false x), .one (.b64 false y)] => some (Cond.t, .one (.bool (doesB a b c d x y)))
  | _ => none
set_option maxRecDepth 100000 in
set_option maxHeartbeats 4000000 in
theorem e_firewalllaw15_does : EntryOK Try.prog anyWorld 30 sp_firewalllaw15_does := by
  refine .of_F C_firewalllaw15_bits (by kernel_rfl) Try.func30 (by kernel_rfl) (by kernel_rfl) (fun args c v h hc => ?_)
  unfold sp_firewalllaw15_does at h
  split at h
  · rename_i a b c d x y; cases h
    refine ⟨rfl, rfl, ?_⟩
    repeat' (first | (with_reducible apply Given.mk; intro h) | ((conv => whnf); with_reducible apply Both.mk))
    · with_reducible apply Ob.mk; kernel_rfl
    conv => whnf
    refine LoopP.times 7 ?_
    repeat' (first
      | (with_reducible apply Given.mk; intro h; (try simp only [Bool.not_eq_true', Bool.not_eq_false', BitVec.reduceSLT, BitVec.reduceAdd, Bool.false_eq_true, Bool.true_eq_false, reduceCtorEq] at h))
      | ((conv => whnf); with_reducible apply Both.mk))
    all_goals first
      | (with_reducible apply Ob.mk; kernel_rfl)
      | (with_reducible apply Ob.mk; decide)
      | ((conv => whnf); refine ⟨?_⟩; simp only [doesB, *, Bool.true_and, Bool.and_true, Bool.false_and, Bool.and_false])
  · cases h
abbrev tb_firewalllaw15_does : List (Nat × Sp) := (30, sp_firewalllaw15_does) :: tb_firewalllaw15_bits
theorem C_firewalllaw15_does : CSound Try.prog anyWorld (tab tb_firewalllaw15_does) := C_firewalllaw15_bits.cons e_firewalllaw15_does

theorem cnt_nat (n : Nat) (h : n < 64) : (BitVec.ofNat 64 n &&& 63#64).toNat = n := by
  rw [BitVec.toNat_and, BitVec.toNat_ofNat, Nat.mod_eq_of_lt (by omega)]
  show n &&& 63 = n
  rw [show (63 : Nat) = 2 ^ 6 - 1 from rfl, Nat.and_two_pow_sub_one_eq_mod]
  omega
theorem low_succ (x y : BitVec 64) (n : Nat) : BitVec.ofNat 64 (x.toNat % 2 ^ (n + 1)) * y = BitVec.ofNat 64 (x.toNat % 2 ^ n) * y + (if x.getLsbD n then y <<< n else 0#64) := by
  rw [Nat.mod_pow_succ, BitVec.ofNat_add, BitVec.add_mul]
  congr 1
  unfold BitVec.getLsbD
  rw [Nat.testBit_eq_decide_div_mod_eq]
  rcases Nat.mod_two_eq_zero_or_one (x.toNat / 2 ^ n) with e | e
  · simp [e]
  · rw [e, if_pos (by simp), Nat.mul_one]
    apply BitVec.eq_of_toNat_eq
    rw [BitVec.toNat_mul, BitVec.toNat_ofNat, BitVec.toNat_shiftLeft, Nat.shiftLeft_eq, Nat.mod_mul_mod, Nat.mul_comm]
theorem mul_steps {a b c d x y : BitVec 64} (h : tHas a b x = true) (h' : tHas c d y = true) : ∀ n, n ≤ 64 → tHas (tMul a b c d n).1 (tMul a b c d n).2 (BitVec.ofNat 64 (x.toNat % 2 ^ n) * y) = true
  | 0, _ => by simp [tMul, Nat.mod_one]; exact const_has 0#64
  | n + 1, hn => by
    have ih := mul_steps h h' n (by omega)
    have hb := (has_iff a b x).1 h n (by omega)
    have hs : tHas (c <<< (BitVec.ofNat 64 n &&& 63#64).toNat) (d <<< (BitVec.ofNat 64 n &&& 63#64).toNat) (y <<< n) = true := by
      rw [cnt_nat n (by omega)]; exact shl_has n h'
    rw [low_succ]
    cases ha : a.getLsbD n with
    | true =>
      have hx : x.getLsbD n = true := by rw [ha] at hb; cases hx : x.getLsbD n; rw [hx] at hb; simp at hb; rfl
      rw [tMul_a _ _ _ _ _ ha, if_pos hx]
      exact add_has ih hs
    | false =>
      cases hbn : b.getLsbD n with
      | true =>
        rw [tMul_b _ _ _ _ _ ha hbn]
        cases hx : x.getLsbD n
        · rw [if_neg (by decide)]
          exact add_has ih (eitherL _ _ (const_has 0#64))
        · rw [if_pos rfl]
          exact add_has ih (eitherR _ _ hs)
      | false =>
        have hx : x.getLsbD n = false := by rw [ha, hbn] at hb; cases hx : x.getLsbD n; rfl; rw [hx] at hb; simp at hb
        rw [tMul_n _ _ _ _ _ ha hbn, hx, if_neg (by decide), BitVec.add_zero]
        exact ih
theorem mul_has {a b c d x y : BitVec 64} (h : tHas a b x = true) (h' : tHas c d y = true) : tHas (tMul a b c d 64).1 (tMul a b c d 64).2 (x * y) = true := by
  have := mul_steps h h' 64 (Nat.le_refl _)
  rw [Nat.mod_eq_of_lt x.isLt, BitVec.ofNat_toNat, BitVec.setWidth_eq] at this
  exact this
theorem does_yes {a b c d x y : BitVec 64} (h : tHas a b x = true) (h' : tHas c d y = true) : doesB a b c d x y = true := by
  simp only [doesB, add_has h h', sub_has h h', andT_has h h', orT_has h h', xorT_has h h', mul_has h h', valid_of_has (add_has h h'), valid_of_has (sub_has h h'), valid_of_has (andT_has h h'),
    valid_of_has (orT_has h h'), valid_of_has (xorT_has h h'), valid_of_has (mul_has h h'), Bool.and_self]
/-- A T without open bits has one number. -/
theorem const_only {v m x : BitVec 64} (h : tHas v m x = true) (hm : m = 0#64) : v = x ∧ m = 0#64 := by
  refine ⟨?_, hm⟩
  subst hm
  rw [tHas, beq_iff_eq] at h
  rw [← h]
  have e : ~~~0#64 = BitVec.allOnes 64 := by simp
  rw [e, BitVec.and_allOnes]
theorem mulC_mask (x y : BitVec 64) : ∀ n, (tMul x 0#64 y 0#64 n).2 = 0#64
  | 0 => rfl
  | n + 1 => by
    have ih := mulC_mask x y n
    have ihv : tHas (tMul x 0#64 y 0#64 n).1 (tMul x 0#64 y 0#64 n).2 (tMul x 0#64 y 0#64 n).1 = true := by rw [ih]; exact const_has _
    cases ha : x.getLsbD n
    · rw [tMul_n _ _ _ _ _ ha (by simp)]; exact ih
    · rw [tMul_a _ _ _ _ _ ha]
      show tAddM _ _ _ _ = 0#64
      unfold tAddM
      rw [ih]
      simp

set_option maxRecDepth 100000 in
set_option maxHeartbeats 4000000 in
theorem TnumsDo_main (a0 a1 b0 b1 p q : BitVec 64) : F Try.prog (tab tb_firewalllaw15_does) Try.f6 [.agg [.b64 false a0, .b64 false a1], .agg [.b64 false b0, .b64 false b1], .agg [.b64 false p, .b64 false q]] (fun r => r = .one (.bool true)) := by
  have hX := made_has a0 a1 p
  have hY := made_has b0 b1 q
  generalize hx : (a0 &&& ~~~a1) ||| (a1 &&& p) = x at *
  generalize hy : (b0 &&& ~~~b1) ||| (b1 &&& q) = y at *
  have g1 := does_yes hX hY
  have g2 := does_yes (const_has x) (const_has y)
  have g3 : tAddM x 0#64 y 0#64 = 0#64 := by simp [tAddM]
  have g4 := (const_only (add_has (const_has x) (const_has y)) g3).1
  have g5 : tSubM x 0#64 y 0#64 = 0#64 := by simp [tSubM]
  have g6 := (const_only (sub_has (const_has x) (const_has y)) g5).1
  have g7 := mulC_mask x y 64
  have g8 := (const_only (mul_has (const_has x) (const_has y)) g7).1
  have g9 : tAndM x 0#64 y 0#64 = 0#64 := by simp [tAndM]
  have g10 := (const_only (andT_has (const_has x) (const_has y)) g9).1
  have g11 : tOrM x 0#64 y 0#64 = 0#64 := by simp [tOrM]
  have g12 := (const_only (orT_has (const_has x) (const_has y)) g11).1
  have g13 : tXorM x 0#64 y 0#64 = 0#64 := by simp [tXorM]
  have g14 := (const_only (xorT_has (const_has x) (const_has y)) g13).1
  repeat' (first
    | (with_reducible apply Given.mk; intro h; (try simp only [hx, hy, g1, g2, g3, g4, g5, g6, g7, g8, g9, g10, g11, g12, g13, g14, BEq.rfl, Bool.and_self, Bool.not_true, Bool.not_false, Bool.false_eq_true, Bool.true_eq_false, reduceCtorEq] at h))
    | ((conv => whnf); with_reducible apply Both.mk))
  all_goals first
    | (with_reducible apply Ob.mk; kernel_rfl)
    | ((conv => whnf); exact ⟨rfl⟩)

set_option maxRecDepth 100000 in
set_option maxHeartbeats 4000000 in
theorem TnumsShift_main (a0 a1 p n : BitVec 64) : F Try.prog (tab tb_firewalllaw15_does) Try.f4 [.agg [.b64 false a0, .b64 false a1], .one (.b64 false p), .one (.b64 true n)] (fun r => r = .one (.bool true)) := by
  have hX := made_has a0 a1 p
  generalize hx : (a0 &&& ~~~a1) ||| (a1 &&& p) = x at *
  have g1 := shl_has (n &&& 63#64).toNat hX
  have g2 := shr_has (n &&& 63#64).toNat hX
  have g3 := sshr_has (n &&& 63#64).toNat hX
  have v1 := valid_of_has g1
  have v2 := valid_of_has g2
  have v3 := valid_of_has g3
  have z1 : 0#64 <<< (n &&& 63#64).toNat = 0#64 := BitVec.zero_shiftLeft _
  have z2 : 0#64 >>> (n &&& 63#64).toNat = 0#64 := BitVec.zero_ushiftRight
  have z3 : (0#64).sshiftRight (n &&& 63#64).toNat = 0#64 := BitVec.zero_sshiftRight
  have z4 : ∀ m : BitVec 64, 0#64 &&& m = 0#64 := fun m => BitVec.zero_and
  have key : (64#64).sle n = !(n.slt 64#64) := by
    rw [BitVec.sle, BitVec.slt, Bool.eq_iff_iff]
    simp
  cases h64 : n.slt 64#64
  · have e1 : lowM n = ~~~0#64 := by unfold lowM; rw [key, h64]; rfl
    have e : ~~~0#64 = BitVec.allOnes 64 := by simp
    have g4 : tHas ((a0 &&& ~~~a1) &&& lowM n) (a1 &&& lowM n) x = true := by rw [e1, e, BitVec.and_allOnes, BitVec.and_allOnes]; exact hX
    have v4 := valid_of_has g4
    have z5 : x &&& lowM n = x := by rw [e1, e, BitVec.and_allOnes]
    repeat' (first
      | (with_reducible apply Given.mk; intro h; (try simp only [hx, h64, g1, g2, g3, g4, v1, v2, v3, v4, z1, z2, z3, z4, z5, BEq.rfl, BitVec.reduceSLT, BitVec.reduceAdd, Bool.and_self, Bool.not_true, Bool.not_false, Bool.false_eq_true, Bool.true_eq_false, reduceCtorEq] at h))
      | ((conv => whnf); first | with_reducible apply Both.mk | refine LoopP.times 5 ?_))
    all_goals first
      | (with_reducible apply Ob.mk; kernel_rfl)
      | (with_reducible apply Ob.mk; first | decide | exact cnt_pos n)
      | ((conv => whnf); exact ⟨rfl⟩)
  · have e1 : lowM n = (1#64 <<< (if n.slt 0#64 then 0#64 else n).toNat) - 1#64 := by unfold lowM; rw [key, h64]; rfl
    have g4 := and_has (lowM n) hX
    have g5 := g4
    rw [e1] at g5
    have v4 := valid_of_has g4
    have pos : 0 ≤ (if n.slt 0#64 then 0#64 else n).toInt := by
      split
      · decide
      · rename_i h2
        rw [BitVec.slt] at h2
        simpa using h2
    rw [e1] at g4 v4
    repeat' (first
      | (with_reducible apply Given.mk; intro h; (try simp only [hx, h64, e1, g1, g2, g3, g4, v1, v2, v3, v4, z1, z2, z3, z4, BEq.rfl, BitVec.reduceSLT, BitVec.reduceAdd, Bool.and_self, Bool.not_true, Bool.not_false, Bool.false_eq_true, Bool.true_eq_false, reduceCtorEq] at h))
      | ((conv => whnf); first | with_reducible apply Both.mk | refine LoopP.times 5 ?_))
    all_goals first
      | (with_reducible apply Ob.mk; kernel_rfl)
      | (with_reducible apply Ob.mk; first | decide | exact cnt_pos n | exact pos)
      | ((conv => whnf); exact ⟨rfl⟩)
end Go.Proofs.Ytakemmdcaboapaa

