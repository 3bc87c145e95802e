/-
  The law AluShifts, as the evaluator leaves it. Conditions: none.
-/
import Derived.Test.YtaifibnpbkgaiaaAlC
import Derived.Test.YtaifibnpbkgaiaaAlM
namespace Go.Proofs.Ytaifibnpbkgaiaa
open Go.Ev Go.RowKit
set_option linter.unusedVariables false
set_option linter.unusedSimpArgs false

theorem D_mov (a b : BitVec 64) : aluD 176#8 true a b = b := rfl
theorem D_lsh (a b : BitVec 64) : aluD 96#8 true a b = a <<< (b % 64#64).toNat := rfl
theorem D_rsh (a b : BitVec 64) : aluD 112#8 true a b = a >>> (b % 64#64).toNat := rfl
theorem D_arsh (a b : BitVec 64) : aluD 192#8 true a b = a.sshiftRight (b % 64#64).toNat := rfl
theorem D_sub (a b : BitVec 64) : aluD 16#8 true a b = a - b := rfl
theorem D_neg (a b : BitVec 64) : aluD 128#8 true a b = -a := rfl
theorem E_mov (a b : BitVec 64) : aluD 176#8 false a b = (b.setWidth 32).setWidth 64 := rfl
theorem E_lsh (a b : BitVec 64) : aluD 96#8 false a b = ((a.setWidth 32) <<< (b % 32#64).toNat).setWidth 64 := rfl
theorem E_rsh (a b : BitVec 64) : aluD 112#8 false a b = ((a.setWidth 32) >>> (b % 32#64).toNat).setWidth 64 := rfl
theorem E_arsh (a b : BitVec 64) : aluD 192#8 false a b = ((a.setWidth 32).sshiftRight (b % 32#64).toNat).setWidth 64 := rfl
theorem E_sub (a b : BitVec 64) : aluD 16#8 false a b = (a.setWidth 32 - b.setWidth 32).setWidth 64 := rfl
theorem E_neg (a b : BitVec 64) : aluD 128#8 false a b = (-(a.setWidth 32)).setWidth 64 := rfl

set_option maxRecDepth 100000 in
set_option maxHeartbeats 4000000 in
theorem AluShifts_main (a : BitVec 64) (b : BitVec 8) : F Try.prog (tab tb_firewalllaw05_reckoned) Try.f11 [.one (.b64 false a), .one (.b8 false b)] (fun r => r = .one (.bool true)) := by
  have o1 : BitVec.setWidth 32 1#64 = 1#32 := rfl
  have o2 : BitVec.setWidth 32 0#64 = 0#32 := rfl
  have t0 : (0#64).toNat = 0 := rfl
  have sl0 : (BitVec.ofNat 64 0).slt 2#64 = true := rfl
  have sl1 : (BitVec.ofNat 64 1).slt 2#64 = true := rfl
  have m63 : (64#64 - 1#64).toNat = 63 := rfl
  have m31 : (32#64 - 1#64).toNat = 31 := rfl
  have z1 : ∀ x : BitVec 64, x.sshiftRight 0 = x := fun x => BitVec.sshiftRight_zero
  have z2 : ∀ x : BitVec 32, x.sshiftRight 0 = x := fun x => BitVec.sshiftRight_zero
  conv => whnf
  refine LoopP.mk Nat (fun k => k ≤ 2) (fun k => mkS 146 [(0, .one (.b64 false a)), (1, .one (.b8 false b)), (4, .one (.bool false)), (14, .agg [.bool true, .bool false]), (15, iN k)] []) (fun k => 2 - k) ⟨0, by omega, ?_, trivial, rfl, rfl⟩ (fun k hk => ?_)
  · repeat' ((conv => whnf); first | exact trivial | refine Both.mk (by with_reducible rfl) ?_)
  rcases (show k = 0 ∨ k = 1 ∨ k = 2 by omega) with rfl | rfl | rfl
  · obtain ⟨p1, p2, p3⟩ := red64 (b.setWidth 64)
    have p4 := w2 a _ p3
    generalize hn : b.setWidth 64 % 64#64 = n at *
    have key : ∀ m : Bool, (a >>> 63 == 1#64) = m → a.sshiftRight n.toNat = if m then ~~~((~~~a) >>> n.toNat) else a >>> n.toNat := by
      intro m hm
      cases m
      · exact w3 a n hm
      · exact w4 a n hm
    cases hm : (a >>> 63 == 1#64) <;> have k1 := key _ hm <;> simp only [if_true, if_false, Bool.false_eq_true] at k1 <;> clear key <;> cases hu : (0#64).ult n
    · have e := zero_of _ hu
      subst e
      clear k1
      repeat' (first
        | (with_reducible apply Given.mk; intro h; (try simp only [D_mov, D_lsh, D_rsh, D_arsh, D_sub, D_neg, E_mov, E_lsh, E_rsh, E_arsh, E_sub, E_neg, neg_one, zero_sub_succ, back32, sub32, add32, o1, o2, bne_self_eq_false, BEq.rfl, BitVec.shiftLeft_zero, BitVec.ushiftRight_zero, BitVec.umod_one, BitVec.sub_zero, BitVec.not_not, sl0, sl1, p1, p2, p4, hn, hm, hu, t0, z1, z2, m63, m31, Bool.not_true, Bool.not_false, Bool.false_eq_true, Bool.true_eq_false, reduceCtorEq] at h))
        | ((conv => whnf); with_reducible apply Both.mk))
      all_goals first
        | (with_reducible apply Ob.mk; kernel_rfl)
        | (with_reducible apply Ob.mk; decide)
        | (with_reducible apply Ob.mk; simp only [hn]; exact shl_ne (by omega))
        | (with_reducible apply Ob.mk; simp only [hn]; decide)
        | ((conv => whnf); refine ⟨1, by omega, by omega, ?_, trivial, rfl, rfl⟩; repeat' ((conv => whnf); first | exact trivial | refine Both.mk (by first | with_reducible rfl | exact iN_succ _) ?_))
    · have e := pos_of _ hu
      have p5 : (64#64 - n).toNat < 64 := by
        have h0 : 0 < n.toNat := by simpa [BitVec.ult] using hu
        rw [BitVec.toNat_sub]; simp; omega
      have e1 := w1 a n (by simpa [BitVec.ult] using hu) p3
      repeat' (first
        | (with_reducible apply Given.mk; intro h; (try simp only [D_mov, D_lsh, D_rsh, D_arsh, D_sub, D_neg, E_mov, E_lsh, E_rsh, E_arsh, E_sub, E_neg, neg_one, zero_sub_succ, back32, sub32, add32, o1, o2, bne_self_eq_false, BEq.rfl, BitVec.shiftLeft_zero, BitVec.ushiftRight_zero, BitVec.umod_one, BitVec.sub_zero, BitVec.not_not, sl0, sl1, p1, p2, p4, hn, hm, hu, e, e1, k1, m63, m31, Bool.not_true, Bool.not_false, Bool.false_eq_true, Bool.true_eq_false, reduceCtorEq] at h))
        | ((conv => whnf); with_reducible apply Both.mk))
      all_goals first
        | (with_reducible apply Ob.mk; kernel_rfl)
        | (with_reducible apply Ob.mk; decide)
        | (with_reducible apply Ob.mk; simp only [hn]; exact shl_ne (by omega))
        | (with_reducible apply Ob.mk; simp only [hn]; decide)
        | ((conv => whnf); refine ⟨1, by omega, by omega, ?_, trivial, rfl, rfl⟩; repeat' ((conv => whnf); first | exact trivial | refine Both.mk (by first | with_reducible rfl | exact iN_succ _) ?_))
    · have e := zero_of _ hu
      subst e
      clear k1
      repeat' (first
        | (with_reducible apply Given.mk; intro h; (try simp only [D_mov, D_lsh, D_rsh, D_arsh, D_sub, D_neg, E_mov, E_lsh, E_rsh, E_arsh, E_sub, E_neg, neg_one, zero_sub_succ, back32, sub32, add32, o1, o2, bne_self_eq_false, BEq.rfl, BitVec.shiftLeft_zero, BitVec.ushiftRight_zero, BitVec.umod_one, BitVec.sub_zero, BitVec.not_not, sl0, sl1, p1, p2, p4, hn, hm, hu, t0, z1, z2, m63, m31, Bool.not_true, Bool.not_false, Bool.false_eq_true, Bool.true_eq_false, reduceCtorEq] at h))
        | ((conv => whnf); with_reducible apply Both.mk))
      all_goals first
        | (with_reducible apply Ob.mk; kernel_rfl)
        | (with_reducible apply Ob.mk; decide)
        | (with_reducible apply Ob.mk; simp only [hn]; exact shl_ne (by omega))
        | (with_reducible apply Ob.mk; simp only [hn]; decide)
        | ((conv => whnf); refine ⟨1, by omega, by omega, ?_, trivial, rfl, rfl⟩; repeat' ((conv => whnf); first | exact trivial | refine Both.mk (by first | with_reducible rfl | exact iN_succ _) ?_))
    · have e := pos_of _ hu
      have p5 : (64#64 - n).toNat < 64 := by
        have h0 : 0 < n.toNat := by simpa [BitVec.ult] using hu
        rw [BitVec.toNat_sub]; simp; omega
      have e1 := w1 a n (by simpa [BitVec.ult] using hu) p3
      repeat' (first
        | (with_reducible apply Given.mk; intro h; (try simp only [D_mov, D_lsh, D_rsh, D_arsh, D_sub, D_neg, E_mov, E_lsh, E_rsh, E_arsh, E_sub, E_neg, neg_one, zero_sub_succ, back32, sub32, add32, o1, o2, bne_self_eq_false, BEq.rfl, BitVec.shiftLeft_zero, BitVec.ushiftRight_zero, BitVec.umod_one, BitVec.sub_zero, BitVec.not_not, sl0, sl1, p1, p2, p4, hn, hm, hu, e, e1, k1, m63, m31, Bool.not_true, Bool.not_false, Bool.false_eq_true, Bool.true_eq_false, reduceCtorEq] at h))
        | ((conv => whnf); with_reducible apply Both.mk))
      all_goals first
        | (with_reducible apply Ob.mk; kernel_rfl)
        | (with_reducible apply Ob.mk; decide)
        | (with_reducible apply Ob.mk; simp only [hn]; exact shl_ne (by omega))
        | (with_reducible apply Ob.mk; simp only [hn]; decide)
        | ((conv => whnf); refine ⟨1, by omega, by omega, ?_, trivial, rfl, rfl⟩; repeat' ((conv => whnf); first | exact trivial | refine Both.mk (by first | with_reducible rfl | exact iN_succ _) ?_))
  · obtain ⟨q1, q2, q3⟩ := red32 (b.setWidth 64)
    have q4 := s2 (a.setWidth 32) _ q3
    generalize hn : b.setWidth 64 % 32#64 = n at *
    have key : ∀ m : Bool, ((a.setWidth 32).setWidth 64 >>> 31 == 1#64) = m → (a.setWidth 32).sshiftRight n.toNat = if m then ~~~((~~~(a.setWidth 32)) >>> n.toNat) else (a.setWidth 32) >>> n.toNat := by
      intro m hm
      cases m
      · exact s3 (a.setWidth 32) n hm
      · exact s4 (a.setWidth 32) n hm
    cases hm : ((a.setWidth 32).setWidth 64 >>> 31 == 1#64) <;> have k1 := key _ hm <;> simp only [if_true, if_false, Bool.false_eq_true] at k1 <;> clear key <;> cases hu : (0#64).ult n
    · have e := zero_of _ hu
      subst e
      clear k1
      repeat' (first
        | (with_reducible apply Given.mk; intro h; (try simp only [D_mov, D_lsh, D_rsh, D_arsh, D_sub, D_neg, E_mov, E_lsh, E_rsh, E_arsh, E_sub, E_neg, neg_one, zero_sub_succ, back32, sub32, add32, o1, o2, bne_self_eq_false, BEq.rfl, BitVec.shiftLeft_zero, BitVec.ushiftRight_zero, BitVec.umod_one, BitVec.sub_zero, BitVec.not_not, sl0, sl1, q1, q2, q4, hn, hm, hu, t0, z1, z2, m63, m31, Bool.not_true, Bool.not_false, Bool.false_eq_true, Bool.true_eq_false, reduceCtorEq] at h))
        | ((conv => whnf); with_reducible apply Both.mk))
      all_goals first
        | (with_reducible apply Ob.mk; kernel_rfl)
        | (with_reducible apply Ob.mk; decide)
        | (with_reducible apply Ob.mk; simp only [hn]; exact shl_ne (by omega))
        | (with_reducible apply Ob.mk; simp only [hn]; decide)
        | ((conv => whnf); refine ⟨2, by omega, by omega, ?_, trivial, rfl, rfl⟩; repeat' ((conv => whnf); first | exact trivial | refine Both.mk (by first | with_reducible rfl | exact iN_succ _) ?_))
    · have e := pos_of _ hu
      have p5 : (32#64 - n).toNat < 64 := by
        have h0 : 0 < n.toNat := by simpa [BitVec.ult] using hu
        rw [BitVec.toNat_sub]; simp; omega
      have e1 := s1 (a.setWidth 32) n (by simpa [BitVec.ult] using hu) q3
      repeat' (first
        | (with_reducible apply Given.mk; intro h; (try simp only [D_mov, D_lsh, D_rsh, D_arsh, D_sub, D_neg, E_mov, E_lsh, E_rsh, E_arsh, E_sub, E_neg, neg_one, zero_sub_succ, back32, sub32, add32, o1, o2, bne_self_eq_false, BEq.rfl, BitVec.shiftLeft_zero, BitVec.ushiftRight_zero, BitVec.umod_one, BitVec.sub_zero, BitVec.not_not, sl0, sl1, q1, q2, q4, hn, hm, hu, e, e1, k1, m63, m31, Bool.not_true, Bool.not_false, Bool.false_eq_true, Bool.true_eq_false, reduceCtorEq] at h))
        | ((conv => whnf); with_reducible apply Both.mk))
      all_goals first
        | (with_reducible apply Ob.mk; kernel_rfl)
        | (with_reducible apply Ob.mk; decide)
        | (with_reducible apply Ob.mk; simp only [hn]; exact shl_ne (by omega))
        | (with_reducible apply Ob.mk; simp only [hn]; decide)
        | ((conv => whnf); refine ⟨2, by omega, by omega, ?_, trivial, rfl, rfl⟩; repeat' ((conv => whnf); first | exact trivial | refine Both.mk (by first | with_reducible rfl | exact iN_succ _) ?_))
    · have e := zero_of _ hu
      subst e
      clear k1
      repeat' (first
        | (with_reducible apply Given.mk; intro h; (try simp only [D_mov, D_lsh, D_rsh, D_arsh, D_sub, D_neg, E_mov, E_lsh, E_rsh, E_arsh, E_sub, E_neg, neg_one, zero_sub_succ, back32, sub32, add32, o1, o2, bne_self_eq_false, BEq.rfl, BitVec.shiftLeft_zero, BitVec.ushiftRight_zero, BitVec.umod_one, BitVec.sub_zero, BitVec.not_not, sl0, sl1, q1, q2, q4, hn, hm, hu, t0, z1, z2, m63, m31, Bool.not_true, Bool.not_false, Bool.false_eq_true, Bool.true_eq_false, reduceCtorEq] at h))
        | ((conv => whnf); with_reducible apply Both.mk))
      all_goals first
        | (with_reducible apply Ob.mk; kernel_rfl)
        | (with_reducible apply Ob.mk; decide)
        | (with_reducible apply Ob.mk; simp only [hn]; exact shl_ne (by omega))
        | (with_reducible apply Ob.mk; simp only [hn]; decide)
        | ((conv => whnf); refine ⟨2, by omega, by omega, ?_, trivial, rfl, rfl⟩; repeat' ((conv => whnf); first | exact trivial | refine Both.mk (by first | with_reducible rfl | exact iN_succ _) ?_))
    · have e := pos_of _ hu
      have p5 : (32#64 - n).toNat < 64 := by
        have h0 : 0 < n.toNat := by simpa [BitVec.ult] using hu
        rw [BitVec.toNat_sub]; simp; omega
      have e1 := s1 (a.setWidth 32) n (by simpa [BitVec.ult] using hu) q3
      repeat' (first
        | (with_reducible apply Given.mk; intro h; (try simp only [D_mov, D_lsh, D_rsh, D_arsh, D_sub, D_neg, E_mov, E_lsh, E_rsh, E_arsh, E_sub, E_neg, neg_one, zero_sub_succ, back32, sub32, add32, o1, o2, bne_self_eq_false, BEq.rfl, BitVec.shiftLeft_zero, BitVec.ushiftRight_zero, BitVec.umod_one, BitVec.sub_zero, BitVec.not_not, sl0, sl1, q1, q2, q4, hn, hm, hu, e, e1, k1, m63, m31, Bool.not_true, Bool.not_false, Bool.false_eq_true, Bool.true_eq_false, reduceCtorEq] at h))
        | ((conv => whnf); with_reducible apply Both.mk))
      all_goals first
        | (with_reducible apply Ob.mk; kernel_rfl)
        | (with_reducible apply Ob.mk; decide)
        | (with_reducible apply Ob.mk; simp only [hn]; exact shl_ne (by omega))
        | (with_reducible apply Ob.mk; simp only [hn]; decide)
        | ((conv => whnf); refine ⟨2, by omega, by omega, ?_, trivial, rfl, rfl⟩; repeat' ((conv => whnf); first | exact trivial | refine Both.mk (by first | with_reducible rfl | exact iN_succ _) ?_))
  · repeat' (first
      | (with_reducible apply Given.mk; intro h; (try exact absurd h (by decide)))
      | ((conv => whnf); with_reducible apply Both.mk))
    all_goals first
      | (with_reducible apply Ob.mk; kernel_rfl)
      | ((conv => whnf); exact ⟨rfl⟩)

end Go.Proofs.Ytaifibnpbkgaiaa

