/-
  SpansDo, as the evaluator leaves it. Conditions: none.
-/
import Derived.Test.YtakemmdcaboapaaSpF
namespace Go.Proofs.Ytakemmdcaboapaa
open Go.Ev Go.RowKit
set_option linter.unusedVariables false
set_option linter.unusedSimpArgs false

/-- The loop's state. -/
def sh16 (x y z : BitVec 64) (S0 S1 S2 S3 S4 S5 S6 S7 S8 S9 S10 S11 : SS) (k : Nat) : S := mkS 124 [(9, .one (.b64 false x)), (10, .one (.b64 false y)), (11, .one (.b64 false z)), (12, .one (.slc 88 0 12 12)), (13, .one (.slc 89 0 12 12)), (14, iN k)]
  [(88, .cells 45 [.b64 false S0.lo, .b64 false S0.hi, .b64 true S0.slo, .b64 true S0.shi, .b64 false S1.lo, .b64 false S1.hi, .b64 true S1.slo, .b64 true S1.shi, .b64 false S2.lo, .b64 false S2.hi, .b64 true S2.slo, .b64 true S2.shi, .b64 false S3.lo, .b64 false S3.hi, .b64 true S3.slo, .b64 true S3.shi, .b64 false S4.lo, .b64 false S4.hi, .b64 true S4.slo, .b64 true S4.shi, .b64 false S5.lo, .b64 false S5.hi, .b64 true S5.slo, .b64 true S5.shi, .b64 false S6.lo, .b64 false S6.hi, .b64 true S6.slo, .b64 true S6.shi, .b64 false S7.lo, .b64 false S7.hi, .b64 true S7.slo, .b64 true S7.shi, .b64 false S8.lo, .b64 false S8.hi, .b64 true S8.slo, .b64 true S8.shi, .b64 false S9.lo, .b64 false S9.hi, .b64 true S9.slo, .b64 true S9.shi, .b64 false S10.lo, .b64 false S10.hi, .b64 true S10.slo, .b64 true S10.shi, .b64 false S11.lo, .b64 false S11.hi, .b64 true S11.slo, .b64 true S11.shi]), (89, .cells 5 [.b8 false 0#8, .b8 false 16#8, .b8 false 32#8, .b8 false 80#8, .b8 false 64#8, .b8 false 160#8, .b8 false 48#8, .b8 false 144#8, .b8 false 96#8, .b8 false 112#8, .b8 false 192#8, .b8 false 80#8])]
theorem and32' (a : BitVec 64) : rDo 80#8 a 4294967295#64 = a &&& 4294967295#64 := rfl
set_option maxRecDepth 100000 in
set_option maxHeartbeats 4000000 in
theorem SpansDo_main (x y p0 p1 p2 p3 q0 q1 q2 q3 n : BitVec 64) : F Try.prog (tab tb_firewallref05_Do) Try.f8 [.agg [.b64 false x, .b64 false y], .agg [.b64 false p0, .b64 false p1, .b64 false p2, .b64 false p3, .b64 false q0, .b64 false q1, .b64 false q2, .b64 false q3], .one (.b64 true n)] (fun r => r = .one (.bool true)) := by
  have hA := smade_has x p0 p1 p2 p3
  have hB := smade_has y q0 q1 q2 q3
  repeat' ((conv => whnf); with_reducible apply Both.mk)
  all_goals
    generalize sMade x p0 p1 p2 p3 = A at *
    generalize sMade y q0 q1 q2 q3 = B at *
    have vA := shas_valid hA
    have vB := shas_valid hB
    have g0 : _ = true := sAdd_has hA hB
    have g1 : _ = true := sSub_has hA hB
    have g2 : _ = true := sMul_has hA hB
    have g3 : _ = true := sAnd_has hA hB
    have g4 : _ = true := sOr_has hA hB
    have g5 : _ = true := sXor_has hA hB
    have g6 : _ = true := sDiv_has hA hB
    have g7 : _ = true := sMod_has hA hB
    have g8 : _ = true := sLsh_has n hA
    have g9 : _ = true := sRsh_has (n &&& 63#64).toNat hA
    have g10 : _ = true := sArsh_has (n &&& 63#64).toNat hA
    have g11 : _ = true := sLow_has hA
    have w0 := shas_valid g0
    have w1 := shas_valid g1
    have w2 := shas_valid g2
    have w3 := shas_valid g3
    have w4 := shas_valid g4
    have w5 := shas_valid g5
    have w6 := shas_valid g6
    have w7 := shas_valid g7
    have w8 := shas_valid g8
    have w9 := shas_valid g9
    have w10 := shas_valid g10
    have w11 := shas_valid g11
    have d0 : rDo 0#8 x y = x + y := rfl
    have d1 : rDo 16#8 x y = x - y := rfl
    have d2 : rDo 32#8 x y = x * y := rfl
    have d3 : rDo 80#8 x y = x &&& y := rfl
    have d4 : rDo 64#8 x y = x ||| y := rfl
    have d5 : rDo 160#8 x y = x ^^^ y := rfl
    rw [← d0] at g0; rw [← d1] at g1; rw [← d2] at g2; rw [← d3] at g3; rw [← d4] at g4; rw [← d5] at g5
    rw [← rDo_div x y] at g6; rw [← rDo_mod x y] at g7; rw [← rDo_lsh x n] at g8; rw [← rDo_rsh x n] at g9; rw [← rDo_arsh x n] at g10; rw [← and32' x] at g11
    repeat' (first
      | (with_reducible apply Given.mk; intro h; (try simp only [ss_eta, hA, hB, vA, vB, Bool.not_true, Bool.not_false, Bool.false_eq_true, Bool.true_eq_false, reduceCtorEq] at h); (try exact absurd h (by decide)))
      | ((conv => whnf); with_reducible apply Both.mk))
    all_goals try first
      | (with_reducible apply Ob.mk; kernel_rfl)
      | (with_reducible apply Ob.mk; decide)
    all_goals
      conv => whnf
      refine LoopP.mk Nat (fun k => k ≤ 12) (sh16 x y (n &&& 63#64) (sAdd A B) (sSub A B) (sMul A B) (sFrom 0#64 (umin A.hi B.hi)) (sFrom (umax A.lo B.lo) (belowB (A.hi ||| B.hi))) (sFrom 0#64 (belowB (A.hi ||| B.hi))) (sDiv A B) (sMod A B) (sLsh A n) (sFrom (A.lo >>> (n &&& 63#64).toNat) (A.hi >>> (n &&& 63#64).toNat)) (sTt ⟨0#64, ~~~0#64, A.slo.sshiftRight (n &&& 63#64).toNat, A.shi.sshiftRight (n &&& 63#64).toNat⟩) (sLow A)) (fun k => 12 - k) ⟨0, by omega, ?_⟩ ?_
      · refine ⟨?_, ?_, rfl, rfl⟩
        all_goals repeat' ((conv => whnf); first | exact trivial | refine Both.mk (by first | with_reducible rfl | rfl) ?_)
      · clear hA hB vA vB
        generalize (sAdd A B) = S0 at *
        generalize (sSub A B) = S1 at *
        generalize (sMul A B) = S2 at *
        generalize (sFrom 0#64 (umin A.hi B.hi)) = S3 at *
        generalize (sFrom (umax A.lo B.lo) (belowB (A.hi ||| B.hi))) = S4 at *
        generalize (sFrom 0#64 (belowB (A.hi ||| B.hi))) = S5 at *
        generalize (sDiv A B) = S6 at *
        generalize (sMod A B) = S7 at *
        generalize (sLsh A n) = S8 at *
        generalize (sFrom (A.lo >>> (n &&& 63#64).toNat) (A.hi >>> (n &&& 63#64).toNat)) = S9 at *
        generalize (sTt ⟨0#64, ~~~0#64, A.slo.sshiftRight (n &&& 63#64).toNat, A.shi.sshiftRight (n &&& 63#64).toNat⟩) = S10 at *
        generalize (sLow A) = S11 at *
        clear d0 d1 d2 d3 d4 d5
        intro k hk
        rcases k with _ | _ | _ | _ | _ | _ | _ | _ | _ | _ | _ | _ | _ | k
        · as_aux_lemma =>
            repeat' (first
              | (with_reducible apply Given.mk; intro h; (try simp only [ss_eta, g0, w0, Bool.not_true, Bool.not_false, Bool.false_eq_true, Bool.true_eq_false, reduceCtorEq] at h); (try exact absurd h (by decide)))
              | ((conv => whnf); with_reducible apply Both.mk))
            all_goals first
              | (with_reducible apply Ob.mk; kernel_rfl)
              | (with_reducible apply Ob.mk; decide)
              | ((conv => whnf)
                 refine ⟨0 + 1, by omega, by omega, ?_, ?_, rfl, rfl⟩
                 all_goals repeat' ((conv => whnf); first | exact trivial | refine Both.mk (by first | with_reducible rfl | rfl) ?_))
        · as_aux_lemma =>
            repeat' (first
              | (with_reducible apply Given.mk; intro h; (try simp only [ss_eta, g1, w1, Bool.not_true, Bool.not_false, Bool.false_eq_true, Bool.true_eq_false, reduceCtorEq] at h); (try exact absurd h (by decide)))
              | ((conv => whnf); with_reducible apply Both.mk))
            all_goals first
              | (with_reducible apply Ob.mk; kernel_rfl)
              | (with_reducible apply Ob.mk; decide)
              | ((conv => whnf)
                 refine ⟨1 + 1, by omega, by omega, ?_, ?_, rfl, rfl⟩
                 all_goals repeat' ((conv => whnf); first | exact trivial | refine Both.mk (by first | with_reducible rfl | rfl) ?_))
        · as_aux_lemma =>
            repeat' (first
              | (with_reducible apply Given.mk; intro h; (try simp only [ss_eta, g2, w2, Bool.not_true, Bool.not_false, Bool.false_eq_true, Bool.true_eq_false, reduceCtorEq] at h); (try exact absurd h (by decide)))
              | ((conv => whnf); with_reducible apply Both.mk))
            all_goals first
              | (with_reducible apply Ob.mk; kernel_rfl)
              | (with_reducible apply Ob.mk; decide)
              | ((conv => whnf)
                 refine ⟨2 + 1, by omega, by omega, ?_, ?_, rfl, rfl⟩
                 all_goals repeat' ((conv => whnf); first | exact trivial | refine Both.mk (by first | with_reducible rfl | rfl) ?_))
        · as_aux_lemma =>
            repeat' (first
              | (with_reducible apply Given.mk; intro h; (try simp only [ss_eta, g3, w3, Bool.not_true, Bool.not_false, Bool.false_eq_true, Bool.true_eq_false, reduceCtorEq] at h); (try exact absurd h (by decide)))
              | ((conv => whnf); with_reducible apply Both.mk))
            all_goals first
              | (with_reducible apply Ob.mk; kernel_rfl)
              | (with_reducible apply Ob.mk; decide)
              | ((conv => whnf)
                 refine ⟨3 + 1, by omega, by omega, ?_, ?_, rfl, rfl⟩
                 all_goals repeat' ((conv => whnf); first | exact trivial | refine Both.mk (by first | with_reducible rfl | rfl) ?_))
        · as_aux_lemma =>
            repeat' (first
              | (with_reducible apply Given.mk; intro h; (try simp only [ss_eta, g4, w4, Bool.not_true, Bool.not_false, Bool.false_eq_true, Bool.true_eq_false, reduceCtorEq] at h); (try exact absurd h (by decide)))
              | ((conv => whnf); with_reducible apply Both.mk))
            all_goals first
              | (with_reducible apply Ob.mk; kernel_rfl)
              | (with_reducible apply Ob.mk; decide)
              | ((conv => whnf)
                 refine ⟨4 + 1, by omega, by omega, ?_, ?_, rfl, rfl⟩
                 all_goals repeat' ((conv => whnf); first | exact trivial | refine Both.mk (by first | with_reducible rfl | rfl) ?_))
        · as_aux_lemma =>
            repeat' (first
              | (with_reducible apply Given.mk; intro h; (try simp only [ss_eta, g5, w5, Bool.not_true, Bool.not_false, Bool.false_eq_true, Bool.true_eq_false, reduceCtorEq] at h); (try exact absurd h (by decide)))
              | ((conv => whnf); with_reducible apply Both.mk))
            all_goals first
              | (with_reducible apply Ob.mk; kernel_rfl)
              | (with_reducible apply Ob.mk; decide)
              | ((conv => whnf)
                 refine ⟨5 + 1, by omega, by omega, ?_, ?_, rfl, rfl⟩
                 all_goals repeat' ((conv => whnf); first | exact trivial | refine Both.mk (by first | with_reducible rfl | rfl) ?_))
        · as_aux_lemma =>
            repeat' (first
              | (with_reducible apply Given.mk; intro h; (try simp only [ss_eta, g6, w6, Bool.not_true, Bool.not_false, Bool.false_eq_true, Bool.true_eq_false, reduceCtorEq] at h); (try exact absurd h (by decide)))
              | ((conv => whnf); with_reducible apply Both.mk))
            all_goals first
              | (with_reducible apply Ob.mk; kernel_rfl)
              | (with_reducible apply Ob.mk; decide)
              | ((conv => whnf)
                 refine ⟨6 + 1, by omega, by omega, ?_, ?_, rfl, rfl⟩
                 all_goals repeat' ((conv => whnf); first | exact trivial | refine Both.mk (by first | with_reducible rfl | rfl) ?_))
        · as_aux_lemma =>
            repeat' (first
              | (with_reducible apply Given.mk; intro h; (try simp only [ss_eta, g7, w7, Bool.not_true, Bool.not_false, Bool.false_eq_true, Bool.true_eq_false, reduceCtorEq] at h); (try exact absurd h (by decide)))
              | ((conv => whnf); with_reducible apply Both.mk))
            all_goals first
              | (with_reducible apply Ob.mk; kernel_rfl)
              | (with_reducible apply Ob.mk; decide)
              | ((conv => whnf)
                 refine ⟨7 + 1, by omega, by omega, ?_, ?_, rfl, rfl⟩
                 all_goals repeat' ((conv => whnf); first | exact trivial | refine Both.mk (by first | with_reducible rfl | rfl) ?_))
        · as_aux_lemma =>
            repeat' (first
              | (with_reducible apply Given.mk; intro h; (try simp only [ss_eta, g8, w8, Bool.not_true, Bool.not_false, Bool.false_eq_true, Bool.true_eq_false, reduceCtorEq] at h); (try exact absurd h (by decide)))
              | ((conv => whnf); with_reducible apply Both.mk))
            all_goals first
              | (with_reducible apply Ob.mk; kernel_rfl)
              | (with_reducible apply Ob.mk; decide)
              | ((conv => whnf)
                 refine ⟨8 + 1, by omega, by omega, ?_, ?_, rfl, rfl⟩
                 all_goals repeat' ((conv => whnf); first | exact trivial | refine Both.mk (by first | with_reducible rfl | rfl) ?_))
        · as_aux_lemma =>
            repeat' (first
              | (with_reducible apply Given.mk; intro h; (try simp only [ss_eta, g9, w9, Bool.not_true, Bool.not_false, Bool.false_eq_true, Bool.true_eq_false, reduceCtorEq] at h); (try exact absurd h (by decide)))
              | ((conv => whnf); with_reducible apply Both.mk))
            all_goals first
              | (with_reducible apply Ob.mk; kernel_rfl)
              | (with_reducible apply Ob.mk; decide)
              | ((conv => whnf)
                 refine ⟨9 + 1, by omega, by omega, ?_, ?_, rfl, rfl⟩
                 all_goals repeat' ((conv => whnf); first | exact trivial | refine Both.mk (by first | with_reducible rfl | rfl) ?_))
        · as_aux_lemma =>
            repeat' (first
              | (with_reducible apply Given.mk; intro h; (try simp only [ss_eta, g10, w10, Bool.not_true, Bool.not_false, Bool.false_eq_true, Bool.true_eq_false, reduceCtorEq] at h); (try exact absurd h (by decide)))
              | ((conv => whnf); with_reducible apply Both.mk))
            all_goals first
              | (with_reducible apply Ob.mk; kernel_rfl)
              | (with_reducible apply Ob.mk; decide)
              | ((conv => whnf)
                 refine ⟨10 + 1, by omega, by omega, ?_, ?_, rfl, rfl⟩
                 all_goals repeat' ((conv => whnf); first | exact trivial | refine Both.mk (by first | with_reducible rfl | rfl) ?_))
        · as_aux_lemma =>
            repeat' (first
              | (with_reducible apply Given.mk; intro h; (try simp only [ss_eta, g11, w11, Bool.not_true, Bool.not_false, Bool.false_eq_true, Bool.true_eq_false, reduceCtorEq] at h); (try exact absurd h (by decide)))
              | ((conv => whnf); with_reducible apply Both.mk))
            all_goals first
              | (with_reducible apply Ob.mk; kernel_rfl)
              | (with_reducible apply Ob.mk; decide)
              | ((conv => whnf)
                 refine ⟨11 + 1, by omega, by omega, ?_, ?_, rfl, rfl⟩
                 all_goals repeat' ((conv => whnf); first | exact trivial | refine Both.mk (by first | with_reducible rfl | rfl) ?_))
        · as_aux_lemma =>
            repeat' (first
              | (with_reducible apply Given.mk; intro h; (try exact absurd h (by decide)))
              | ((conv => whnf); with_reducible apply Both.mk))
            all_goals first
              | (with_reducible apply Ob.mk; kernel_rfl)
              | (with_reducible apply Ob.mk; decide)
              | ((conv => whnf); exact ⟨rfl⟩)
        · omega
end Go.Proofs.Ytakemmdcaboapaa
