/-
  CpuStays: the law. Conditions: as typed.
-/
import Derived.Test.YtppankimieopiaaDoorEn
import Derived.Test.YtppankimieopiaaDoorRows
namespace Go.Proofs.YtppankimieopiaaDoor
open Go.Ep Go.RowKit
set_option linter.unusedVariables false
set_option linter.unusedSimpArgs false

def mkT (U : MS) : MS := ⟨fun j => nthW [U.R 0, U.R 1, U.R 2, U.R 3, U.R 4, U.R 5, U.R 6, U.R 7, U.R 8, U.R 9, U.R 10, U.R 11, U.R 12, U.R 13, U.R 14, U.R 15] j, U.z, U.s, U.c, U.o, U.pc⟩
theorem LS_mkT (U : MS) : LS U = LS (mkT U) := rfl
theorem nth16 (f : Nat → BitVec 64) {j : Nat} (h : j < 16) : nthW [f 0, f 1, f 2, f 3, f 4, f 5, f 6, f 7, f 8, f 9, f 10, f 11, f 12, f 13, f 14, f 15] (BitVec.ofNat 64 j).toNat = f j := by
  rw [BitVec.toNat_ofNat, Nat.mod_eq_of_lt (by omega)]
  have : j = 0 ∨ j = 1 ∨ j = 2 ∨ j = 3 ∨ j = 4 ∨ j = 5 ∨ j = 6 ∨ j = 7 ∨ j = 8 ∨ j = 9 ∨ j = 10 ∨ j = 11 ∨ j = 12 ∨ j = 13 ∨ j = 14 ∨ j = 15 := by omega
  rcases this with rfl | rfl | rfl | rfl | rfl | rfl | rfl | rfl | rfl | rfl | rfl | rfl | rfl | rfl | rfl | rfl <;> rfl
theorem nat16 {j : Nat} (h : j < 16) : (BitVec.ofNat 64 j).toNat = j := by rw [BitVec.toNat_ofNat, Nat.mod_eq_of_lt (by omega)]
theorem st_put {S : MS} {d v : BitVec 64} {j : Nat} (h : j < 16) (hn : (BitVec.ofNat 64 j == d) = false) : (put S d v).R j = S.R j := by
  unfold put setR
  refine if_neg ?_
  rintro rfl
  rw [beq_eq_false_iff_ne] at hn
  exact hn (BitVec.eq_of_toNat_eq (nat16 h))
theorem st_two {S : MS} {a c : BitVec 64} {j : Nat} (h : j < 16) (h0 : (BitVec.ofNat 64 j == 0#64) = false) (h2 : (BitVec.ofNat 64 j == 2#64) = false) : (two S a c).R j = S.R j := by
  unfold two
  rw [beq_eq_false_iff_ne] at h0 h2
  show (if j = 0 then a else if j = 2 then c else S.R j) = _
  rw [if_neg (by rintro rfl; exact h0 rfl), if_neg (by rintro rfl; exact h2 rfl)]
theorem low_lt (x : BitVec 32) : (x.setWidth 64).ult 4294967296#64 = true := by
  rw [BitVec.ult_iff_toNat_lt, BitVec.toNat_setWidth]
  have := x.isLt
  show _ % 2 ^ 64 < 4294967296
  omega
theorem mv_lt (v : BitVec 64) : (mvA false v).ult 4294967296#64 = true := low_lt _
theorem d15 (d : BitVec 64) : ∃ j, j < 16 ∧ d &&& 15#64 = BitVec.ofNat 64 j ∧ (d &&& 15#64).toNat = j ∧ (d &&& 15#64) &&& 15#64 = BitVec.ofNat 64 j := by
  have e := (ix15 d).2
  have g : d &&& 15#64 = BitVec.ofNat 64 (d &&& 15#64).toNat := BitVec.eq_of_toNat_eq (nat16 e).symm
  refine ⟨_, e, g, rfl, ?_⟩
  rw [BitVec.and_assoc, show (15#64 : BitVec 64) &&& 15#64 = 15#64 from rfl]
  exact g
theorem put_at {S : MS} {d v : BitVec 64} (U : MS) (h : ∀ j, U.R j = (put S (d &&& 15#64) v).R j) : nthW [U.R 0, U.R 1, U.R 2, U.R 3, U.R 4, U.R 5, U.R 6, U.R 7, U.R 8, U.R 9, U.R 10, U.R 11, U.R 12, U.R 13, U.R 14, U.R 15] ((d &&& 15#64) &&& 15#64).toNat = v := by
  obtain ⟨j, hj, e1, e2, e3⟩ := d15 d
  rw [e3, nth16 U.R hj, h j]
  unfold put setR
  exact if_pos e2
theorem exS_ok {x : MX} {S : MS} (h : (exE x S == 0#64) = true) : exS x S = exD x S := by unfold exS; rw [h]; rfl
theorem tm_lt (a b : BitVec 64) : (tmL false a b).ult 4294967296#64 = true ∧ (tmH false a b).ult 4294967296#64 = true := by
  refine ⟨?_, ?_⟩
  · unfold tmL
    rw [BitVec.ult_iff_toNat_lt]
    show ((_ : BitVec 64) &&& 4294967295#64).toNat < 4294967296
    rw [BitVec.toNat_and]
    exact Nat.lt_of_le_of_lt Nat.and_le_right (by decide)
  · unfold tmH
    rw [BitVec.ult_iff_toNat_lt]
    show ((_ : BitVec 64) >>> 32).toNat < 4294967296
    rw [BitVec.toNat_ushiftRight, Nat.shiftRight_eq_div_pow]
    exact Nat.div_lt_of_lt_mul (BitVec.isLt _)
set_option maxRecDepth 100000 in
set_option maxHeartbeats 4000000 in
theorem CpuStays_main (m : Nat → Nat) (k al cc sz : BitVec 64) (w sh : Bool) (d s : BitVec 64) (dp rl : BitVec 32) (im : BitVec 64) (r0 r1 r2 r3 r4 r5 r6 r7 r8 r9 r10 r11 r12 r13 r14 r15 : BitVec 64) (fz fs fc fo : Bool) (pc : BitVec 64) : ∃ C, CSound Tryd.prog (GU m) C ∧ F Tryd.prog C Tryd.f5 [.agg [.b64 true k, .b64 true al, .b64 true cc, .b64 true sz, .bool w, .bool sh, .b64 true d, .b64 true s, .b32 true dp, .b32 true rl, .b64 true im], .agg [.b64 false r0, .b64 false r1, .b64 false r2, .b64 false r3, .b64 false r4, .b64 false r5, .b64 false r6, .b64 false r7, .b64 false r8, .b64 false r9, .b64 false r10, .b64 false r11, .b64 false r12, .b64 false r13, .b64 false r14, .b64 false r15, .bool fz, .bool fs, .bool fc, .bool fo, .b64 false pc]] (fun r => r = .one (.bool true)) := by
  cases hE : exE (setX ⟨k, al, cc, sz, w, sh, d, s, dp, rl, im⟩) ⟨fun j => nthW [r0, r1, r2, r3, r4, r5, r6, r7, r8, r9, r10, r11, r12, r13, r14, r15] j, fz, fs, fc, fo, pc⟩ == 0#64 with
  | false =>
    obtain ⟨hS, h2⟩ := exE_S0 hE
    exact ⟨_, C_S m rfl (congrArg LS hS) rfl, stays_bad m (setX ⟨k, al, cc, sz, w, sh, d, s, dp, rl, im⟩) S0 (exE (setX ⟨k, al, cc, sz, w, sh, d, s, dp, rl, im⟩) ⟨fun j => nthW [r0, r1, r2, r3, r4, r5, r6, r7, r8, r9, r10, r11, r12, r13, r14, r15] j, fz, fs, fc, fo, pc⟩) k al cc sz w sh d s dp rl im r0 r1 r2 r3 r4 r5 r6 r7 r8 r9 r10 r11 r12 r13 r14 r15 fz fs fc fo pc hE h2⟩
  | true =>
  have hE' : exE (setX ⟨k, al, cc, sz, w, sh, d, s, dp, rl, im⟩) ⟨fun j => nthW [r0, r1, r2, r3, r4, r5, r6, r7, r8, r9, r10, r11, r12, r13, r14, r15] j, fz, fs, fc, fo, pc⟩ = 0#64 := by simpa using hE
  have hT : LS (exS (setX ⟨k, al, cc, sz, w, sh, d, s, dp, rl, im⟩) ⟨fun j => nthW [r0, r1, r2, r3, r4, r5, r6, r7, r8, r9, r10, r11, r12, r13, r14, r15] j, fz, fs, fc, fo, pc⟩) = LS (mkT (exD (setX ⟨k, al, cc, sz, w, sh, d, s, dp, rl, im⟩) ⟨fun j => nthW [r0, r1, r2, r3, r4, r5, r6, r7, r8, r9, r10, r11, r12, r13, r14, r15] j, fz, fs, fc, fo, pc⟩)) := by rw [exS_ok hE]; exact LS_mkT _
  by_cases hd : doB k = true
  · have hk : k = 1#64 ∨ k = 2#64 ∨ k = 3#64 ∨ k = 4#64 ∨ k = 5#64 ∨ k = 6#64 ∨ k = 7#64 ∨ k = 8#64 ∨ k = 9#64 ∨ k = 10#64 ∨ k = 11#64 ∨ k = 12#64 ∨ k = 21#64 := by
      have g : k.toNat = 1 ∨ k.toNat = 2 ∨ k.toNat = 3 ∨ k.toNat = 4 ∨ k.toNat = 5 ∨ k.toNat = 6 ∨ k.toNat = 7 ∨ k.toNat = 8 ∨ k.toNat = 9 ∨ k.toNat = 10 ∨ k.toNat = 11 ∨ k.toNat = 12 ∨ k.toNat = 21 := by
        unfold doB at hd
        simp only [Bool.or_eq_true, Bool.and_eq_true, decide_eq_true_eq, Bool.not_eq_true', beq_eq_false_iff_ne, beq_iff_eq] at hd
        omega
      have f : ∀ n : Nat, n < 22 → k.toNat = n → k = BitVec.ofNat 64 n := fun n hn e => BitVec.eq_of_toNat_eq (by rw [e, BitVec.toNat_ofNat, Nat.mod_eq_of_lt (by omega)])
      rcases g with g | g | g | g | g | g | g | g | g | g | g | g | g
      · exact .inl (f 1 (by decide) g)
      · exact .inr (.inl (f 2 (by decide) g))
      · exact .inr (.inr (.inl (f 3 (by decide) g)))
      · exact .inr (.inr (.inr (.inl (f 4 (by decide) g))))
      · exact .inr (.inr (.inr (.inr (.inl (f 5 (by decide) g)))))
      · exact .inr (.inr (.inr (.inr (.inr (.inl (f 6 (by decide) g))))))
      · exact .inr (.inr (.inr (.inr (.inr (.inr (.inl (f 7 (by decide) g)))))))
      · exact .inr (.inr (.inr (.inr (.inr (.inr (.inr (.inl (f 8 (by decide) g))))))))
      · exact .inr (.inr (.inr (.inr (.inr (.inr (.inr (.inr (.inl (f 9 (by decide) g)))))))))
      · exact .inr (.inr (.inr (.inr (.inr (.inr (.inr (.inr (.inr (.inl (f 10 (by decide) g))))))))))
      · exact .inr (.inr (.inr (.inr (.inr (.inr (.inr (.inr (.inr (.inr (.inl (f 11 (by decide) g)))))))))))
      · exact .inr (.inr (.inr (.inr (.inr (.inr (.inr (.inr (.inr (.inr (.inr (.inl (f 12 (by decide) g))))))))))))
      · exact .inr (.inr (.inr (.inr (.inr (.inr (.inr (.inr (.inr (.inr (.inr (.inr (f 21 (by decide) g))))))))))))
    rcases hk with rfl | rfl | rfl | rfl | rfl | rfl | rfl | rfl | rfl | rfl | rfl | rfl | rfl
    · exact ⟨_, C_S m rfl hT hE', stays_1 m 1#64 al cc sz w sh d s dp rl im r0 r1 r2 r3 r4 r5 r6 r7 r8 r9 r10 r11 r12 r13 r14 r15 fz fs fc fo pc _ _ _ _ _ _ _ _ _ _ _ _ _ _ _ _ _ _ _ _ _ _ _ _ _ _ (fun j hj hn => (nth16 (exD (setX ⟨1#64, al, cc, sz, w, sh, d, s, dp, rl, im⟩) ⟨fun j => nthW [r0, r1, r2, r3, r4, r5, r6, r7, r8, r9, r10, r11, r12, r13, r14, r15] j, fz, fs, fc, fo, pc⟩).R hj).trans ((st_put hj hn).trans (nth16 _ hj).symm)) (fun e => by have e : w = false := e; subst e; refine (congrArg (fun v => BitVec.ult v 4294967296#64) (put_at (exD (setX ⟨1#64, al, cc, sz, false, sh, d, s, dp, rl, im⟩) ⟨fun j => nthW [r0, r1, r2, r3, r4, r5, r6, r7, r8, r9, r10, r11, r12, r13, r14, r15] j, fz, fs, fc, fo, pc⟩) (fun _ => rfl))).trans (mv_lt _))⟩
    · exact ⟨_, C_S m rfl hT hE', stays_2 m 2#64 al cc sz w sh d s dp rl im r0 r1 r2 r3 r4 r5 r6 r7 r8 r9 r10 r11 r12 r13 r14 r15 fz fs fc fo pc _ _ _ _ _ _ _ _ _ _ _ _ _ _ _ _ _ _ _ _ _ _ _ _ _ _ (fun j hj hn => (nth16 (exD (setX ⟨2#64, al, cc, sz, w, sh, d, s, dp, rl, im⟩) ⟨fun j => nthW [r0, r1, r2, r3, r4, r5, r6, r7, r8, r9, r10, r11, r12, r13, r14, r15] j, fz, fs, fc, fo, pc⟩).R hj).trans ((st_put hj hn).trans (nth16 _ hj).symm)) (fun e => by cases e)⟩
    · exact ⟨_, C_S m rfl hT hE', stays_3 m 3#64 al cc sz w sh d s dp rl im r0 r1 r2 r3 r4 r5 r6 r7 r8 r9 r10 r11 r12 r13 r14 r15 fz fs fc fo pc _ _ _ _ _ _ _ _ _ _ _ _ _ _ _ _ _ _ _ _ _ _ _ _ _ _ (fun j hj hn => (nth16 (exD (setX ⟨3#64, al, cc, sz, w, sh, d, s, dp, rl, im⟩) ⟨fun j => nthW [r0, r1, r2, r3, r4, r5, r6, r7, r8, r9, r10, r11, r12, r13, r14, r15] j, fz, fs, fc, fo, pc⟩).R hj).trans ((st_put hj hn).trans (nth16 _ hj).symm)) (fun e => by cases e)⟩
    · cases ha : (tb6 al == 7#64) with
      | true =>
        have hU : (exD (setX ⟨4#64, al, cc, sz, w, sh, d, s, dp, rl, im⟩) ⟨fun j => nthW [r0, r1, r2, r3, r4, r5, r6, r7, r8, r9, r10, r11, r12, r13, r14, r15] j, fz, fs, fc, fo, pc⟩) = arF w (tb6 al) (nthW [r0, r1, r2, r3, r4, r5, r6, r7, r8, r9, r10, r11, r12, r13, r14, r15] (d &&& 15#64).toNat) (nthW [r0, r1, r2, r3, r4, r5, r6, r7, r8, r9, r10, r11, r12, r13, r14, r15] (s &&& 15#64).toNat) ⟨fun j => nthW [r0, r1, r2, r3, r4, r5, r6, r7, r8, r9, r10, r11, r12, r13, r14, r15] j, fz, fs, fc, fo, pc⟩ := by
          show arP _ _ _ = _
          unfold arP
          exact if_pos ha
        rw [hU] at hT
        have ha' : tb6 al = 7#64 := by simpa using ha
        exact ⟨_, C_S m (Y := ⟨4#64, 7#64, 0#64, 0#64, w, false, d &&& 15#64, s &&& 15#64, 0#32, 0#32, 0#64⟩) (by show MX.mk _ (tb6 al) _ _ _ _ _ _ _ _ _ = _; rw [ha']) (by rw [← ha']; exact hT) (by rw [← ha']; exact hE'), stays_4c m 4#64 al cc sz w sh d s dp rl im r0 r1 r2 r3 r4 r5 r6 r7 r8 r9 r10 r11 r12 r13 r14 r15 fz fs fc fo pc 0#64 _ _ _ _ _ _ _ _ _ _ _ _ _⟩
      | false =>
        have hU : (exD (setX ⟨4#64, al, cc, sz, w, sh, d, s, dp, rl, im⟩) ⟨fun j => nthW [r0, r1, r2, r3, r4, r5, r6, r7, r8, r9, r10, r11, r12, r13, r14, r15] j, fz, fs, fc, fo, pc⟩) = put (arF w (tb6 al) (nthW [r0, r1, r2, r3, r4, r5, r6, r7, r8, r9, r10, r11, r12, r13, r14, r15] (d &&& 15#64).toNat) (nthW [r0, r1, r2, r3, r4, r5, r6, r7, r8, r9, r10, r11, r12, r13, r14, r15] (s &&& 15#64).toNat) ⟨fun j => nthW [r0, r1, r2, r3, r4, r5, r6, r7, r8, r9, r10, r11, r12, r13, r14, r15] j, fz, fs, fc, fo, pc⟩) (d &&& 15#64) (mvA w (arR w (tb6 al) (nthW [r0, r1, r2, r3, r4, r5, r6, r7, r8, r9, r10, r11, r12, r13, r14, r15] (d &&& 15#64).toNat) (nthW [r0, r1, r2, r3, r4, r5, r6, r7, r8, r9, r10, r11, r12, r13, r14, r15] (s &&& 15#64).toNat))) := by
          show arP _ _ _ = _
          unfold arP
          exact if_neg (fun hc => absurd (ha.symm.trans hc) (by decide))
        rw [hU] at hT
        exact ⟨_, C_S m rfl hT hE', stays_4 m 4#64 al cc sz w sh d s dp rl im r0 r1 r2 r3 r4 r5 r6 r7 r8 r9 r10 r11 r12 r13 r14 r15 fz fs fc fo pc _ _ _ _ _ _ _ _ _ _ _ _ _ _ _ _ _ _ _ _ _ _ _ _ _ _ _ _ _ _ ha (fun j hj hn => (nth16 (put (arF w (tb6 al) (nthW [r0, r1, r2, r3, r4, r5, r6, r7, r8, r9, r10, r11, r12, r13, r14, r15] (d &&& 15#64).toNat) (nthW [r0, r1, r2, r3, r4, r5, r6, r7, r8, r9, r10, r11, r12, r13, r14, r15] (s &&& 15#64).toNat) ⟨fun j => nthW [r0, r1, r2, r3, r4, r5, r6, r7, r8, r9, r10, r11, r12, r13, r14, r15] j, fz, fs, fc, fo, pc⟩) (d &&& 15#64) (mvA w (arR w (tb6 al) (nthW [r0, r1, r2, r3, r4, r5, r6, r7, r8, r9, r10, r11, r12, r13, r14, r15] (d &&& 15#64).toNat) (nthW [r0, r1, r2, r3, r4, r5, r6, r7, r8, r9, r10, r11, r12, r13, r14, r15] (s &&& 15#64).toNat)))).R hj).trans ((st_put hj hn).trans (nth16 _ hj).symm)) (fun e => by have e : w = false := e; subst e; refine (congrArg (fun v => BitVec.ult v 4294967296#64) (put_at (put (arF false (tb6 al) (nthW [r0, r1, r2, r3, r4, r5, r6, r7, r8, r9, r10, r11, r12, r13, r14, r15] (d &&& 15#64).toNat) (nthW [r0, r1, r2, r3, r4, r5, r6, r7, r8, r9, r10, r11, r12, r13, r14, r15] (s &&& 15#64).toNat) ⟨fun j => nthW [r0, r1, r2, r3, r4, r5, r6, r7, r8, r9, r10, r11, r12, r13, r14, r15] j, fz, fs, fc, fo, pc⟩) (d &&& 15#64) (mvA false (arR false (tb6 al) (nthW [r0, r1, r2, r3, r4, r5, r6, r7, r8, r9, r10, r11, r12, r13, r14, r15] (d &&& 15#64).toNat) (nthW [r0, r1, r2, r3, r4, r5, r6, r7, r8, r9, r10, r11, r12, r13, r14, r15] (s &&& 15#64).toNat)))) (fun _ => rfl))).trans (mv_lt _))⟩
    · cases ha : (tb6 al == 7#64) with
      | true =>
        have hU : (exD (setX ⟨5#64, al, cc, sz, w, sh, d, s, dp, rl, im⟩) ⟨fun j => nthW [r0, r1, r2, r3, r4, r5, r6, r7, r8, r9, r10, r11, r12, r13, r14, r15] j, fz, fs, fc, fo, pc⟩) = arF w (tb6 al) (nthW [r0, r1, r2, r3, r4, r5, r6, r7, r8, r9, r10, r11, r12, r13, r14, r15] (d &&& 15#64).toNat) (sx32 im) ⟨fun j => nthW [r0, r1, r2, r3, r4, r5, r6, r7, r8, r9, r10, r11, r12, r13, r14, r15] j, fz, fs, fc, fo, pc⟩ := by
          show arP _ _ _ = _
          unfold arP
          exact if_pos ha
        rw [hU] at hT
        have ha' : tb6 al = 7#64 := by simpa using ha
        exact ⟨_, C_S m (Y := ⟨5#64, 7#64, 0#64, 0#64, w, false, d &&& 15#64, 0#64, 0#32, 0#32, sx32 im⟩) (by show MX.mk _ (tb6 al) _ _ _ _ _ _ _ _ _ = _; rw [ha']) (by rw [← ha']; exact hT) (by rw [← ha']; exact hE'), stays_5c m 5#64 al cc sz w sh d s dp rl im r0 r1 r2 r3 r4 r5 r6 r7 r8 r9 r10 r11 r12 r13 r14 r15 fz fs fc fo pc 0#64 _ _ _ _ _ _ _ _ _ _ _ _ _⟩
      | false =>
        have hU : (exD (setX ⟨5#64, al, cc, sz, w, sh, d, s, dp, rl, im⟩) ⟨fun j => nthW [r0, r1, r2, r3, r4, r5, r6, r7, r8, r9, r10, r11, r12, r13, r14, r15] j, fz, fs, fc, fo, pc⟩) = put (arF w (tb6 al) (nthW [r0, r1, r2, r3, r4, r5, r6, r7, r8, r9, r10, r11, r12, r13, r14, r15] (d &&& 15#64).toNat) (sx32 im) ⟨fun j => nthW [r0, r1, r2, r3, r4, r5, r6, r7, r8, r9, r10, r11, r12, r13, r14, r15] j, fz, fs, fc, fo, pc⟩) (d &&& 15#64) (mvA w (arR w (tb6 al) (nthW [r0, r1, r2, r3, r4, r5, r6, r7, r8, r9, r10, r11, r12, r13, r14, r15] (d &&& 15#64).toNat) (sx32 im))) := by
          show arP _ _ _ = _
          unfold arP
          exact if_neg (fun hc => absurd (ha.symm.trans hc) (by decide))
        rw [hU] at hT
        exact ⟨_, C_S m rfl hT hE', stays_5 m 5#64 al cc sz w sh d s dp rl im r0 r1 r2 r3 r4 r5 r6 r7 r8 r9 r10 r11 r12 r13 r14 r15 fz fs fc fo pc _ _ _ _ _ _ _ _ _ _ _ _ _ _ _ _ _ _ _ _ _ _ _ _ _ _ _ _ _ _ ha (fun j hj hn => (nth16 (put (arF w (tb6 al) (nthW [r0, r1, r2, r3, r4, r5, r6, r7, r8, r9, r10, r11, r12, r13, r14, r15] (d &&& 15#64).toNat) (sx32 im) ⟨fun j => nthW [r0, r1, r2, r3, r4, r5, r6, r7, r8, r9, r10, r11, r12, r13, r14, r15] j, fz, fs, fc, fo, pc⟩) (d &&& 15#64) (mvA w (arR w (tb6 al) (nthW [r0, r1, r2, r3, r4, r5, r6, r7, r8, r9, r10, r11, r12, r13, r14, r15] (d &&& 15#64).toNat) (sx32 im)))).R hj).trans ((st_put hj hn).trans (nth16 _ hj).symm)) (fun e => by have e : w = false := e; subst e; refine (congrArg (fun v => BitVec.ult v 4294967296#64) (put_at (put (arF false (tb6 al) (nthW [r0, r1, r2, r3, r4, r5, r6, r7, r8, r9, r10, r11, r12, r13, r14, r15] (d &&& 15#64).toNat) (sx32 im) ⟨fun j => nthW [r0, r1, r2, r3, r4, r5, r6, r7, r8, r9, r10, r11, r12, r13, r14, r15] j, fz, fs, fc, fo, pc⟩) (d &&& 15#64) (mvA false (arR false (tb6 al) (nthW [r0, r1, r2, r3, r4, r5, r6, r7, r8, r9, r10, r11, r12, r13, r14, r15] (d &&& 15#64).toNat) (sx32 im)))) (fun _ => rfl))).trans (mv_lt _))⟩
    · exact ⟨_, C_S m rfl hT hE', stays_6 m 6#64 al cc sz w sh d s dp rl im r0 r1 r2 r3 r4 r5 r6 r7 r8 r9 r10 r11 r12 r13 r14 r15 fz fs fc fo pc _ _ _ _ _ _ _ _ _ _ _ _ _ _⟩
    · exact ⟨_, C_S m rfl hT hE', stays_7 m 7#64 al cc sz w sh d s dp rl im r0 r1 r2 r3 r4 r5 r6 r7 r8 r9 r10 r11 r12 r13 r14 r15 fz fs fc fo pc _ _ _ _ _ _ _ _ _ _ _ _ _ _ _ _ _ _ _ _ _ _ _ _ _ _ _ _ _ _ (fun j hj hn => (nth16 (exD (setX ⟨7#64, al, cc, sz, w, sh, d, s, dp, rl, im⟩) ⟨fun j => nthW [r0, r1, r2, r3, r4, r5, r6, r7, r8, r9, r10, r11, r12, r13, r14, r15] j, fz, fs, fc, fo, pc⟩).R hj).trans ((st_put hj hn).trans (nth16 _ hj).symm)) (fun e => by have e : w = false := e; subst e; refine (congrArg (fun v => BitVec.ult v 4294967296#64) (put_at (exD (setX ⟨7#64, al, cc, sz, false, sh, d, s, dp, rl, im⟩) ⟨fun j => nthW [r0, r1, r2, r3, r4, r5, r6, r7, r8, r9, r10, r11, r12, r13, r14, r15] j, fz, fs, fc, fo, pc⟩) (fun _ => rfl))).trans (mv_lt _))⟩
    · exact ⟨_, C_S m rfl hT hE', stays_8 m 8#64 al cc sz w sh d s dp rl im r0 r1 r2 r3 r4 r5 r6 r7 r8 r9 r10 r11 r12 r13 r14 r15 fz fs fc fo pc _ _ _ _ _ _ _ _ _ _ _ _ _ _ _ _ _ _ _ _ _ _ _ _ _ _ (fun j hj h0 h2 => (nth16 (exD (setX ⟨8#64, al, cc, sz, w, sh, d, s, dp, rl, im⟩) ⟨fun j => nthW [r0, r1, r2, r3, r4, r5, r6, r7, r8, r9, r10, r11, r12, r13, r14, r15] j, fz, fs, fc, fo, pc⟩).R hj).trans ((st_two hj h0 h2).trans (nth16 _ hj).symm)) (fun e => by have e : w = false := e; subst e; exact (tm_lt _ _).1) (fun e => by have e : w = false := e; subst e; exact (tm_lt _ _).2)⟩
    · exact ⟨_, C_S m rfl hT hE', stays_9 m 9#64 al cc sz w sh d s dp rl im r0 r1 r2 r3 r4 r5 r6 r7 r8 r9 r10 r11 r12 r13 r14 r15 fz fs fc fo pc _ _ _ _ _ _ _ _ _ _ _ _ _ _ _ _ _ _ _ _ _ _ _ _ _ _ (fun j hj h0 h2 => (nth16 (exD (setX ⟨9#64, al, cc, sz, w, sh, d, s, dp, rl, im⟩) ⟨fun j => nthW [r0, r1, r2, r3, r4, r5, r6, r7, r8, r9, r10, r11, r12, r13, r14, r15] j, fz, fs, fc, fo, pc⟩).R hj).trans ((st_two hj h0 h2).trans (nth16 _ hj).symm)) (fun e => by have e : w = false := e; subst e; exact low_lt _) (fun e => by have e : w = false := e; subst e; exact low_lt _)⟩
    · exact ⟨_, C_S m rfl hT hE', stays_10 m 10#64 al cc sz w sh d s dp rl im r0 r1 r2 r3 r4 r5 r6 r7 r8 r9 r10 r11 r12 r13 r14 r15 fz fs fc fo pc _ _ _ _ _ _ _ _ _ _ _ _ _ _ _ _ _ _ _ _ _ _ _ _ _ _ (fun j hj hn => (nth16 (exD (setX ⟨10#64, al, cc, sz, w, sh, d, s, dp, rl, im⟩) ⟨fun j => nthW [r0, r1, r2, r3, r4, r5, r6, r7, r8, r9, r10, r11, r12, r13, r14, r15] j, fz, fs, fc, fo, pc⟩).R hj).trans ((st_put hj hn).trans (nth16 _ hj).symm)) (fun e => by have e : w = false := e; subst e; refine (congrArg (fun v => BitVec.ult v 4294967296#64) (put_at (exD (setX ⟨10#64, al, cc, sz, false, sh, d, s, dp, rl, im⟩) ⟨fun j => nthW [r0, r1, r2, r3, r4, r5, r6, r7, r8, r9, r10, r11, r12, r13, r14, r15] j, fz, fs, fc, fo, pc⟩) (fun _ => rfl))).trans (mv_lt _))⟩
    · exact ⟨_, C_S m rfl hT hE', stays_11 m 11#64 al cc sz w sh d s dp rl im r0 r1 r2 r3 r4 r5 r6 r7 r8 r9 r10 r11 r12 r13 r14 r15 fz fs fc fo pc _ _ _ _ _ _ _ _ _ _ _ _ _ _ _ _ _ _ _ _ _ _ _ _ _ _ (fun j hj hn => (nth16 (exD (setX ⟨11#64, al, cc, sz, w, sh, d, s, dp, rl, im⟩) ⟨fun j => nthW [r0, r1, r2, r3, r4, r5, r6, r7, r8, r9, r10, r11, r12, r13, r14, r15] j, fz, fs, fc, fo, pc⟩).R hj).trans ((st_put hj hn).trans (nth16 _ hj).symm)) (fun e => by have e : w = false := e; subst e; refine (congrArg (fun v => BitVec.ult v 4294967296#64) (put_at (exD (setX ⟨11#64, al, cc, sz, false, sh, d, s, dp, rl, im⟩) ⟨fun j => nthW [r0, r1, r2, r3, r4, r5, r6, r7, r8, r9, r10, r11, r12, r13, r14, r15] j, fz, fs, fc, fo, pc⟩) (fun _ => rfl))).trans (mv_lt _))⟩
    · exact ⟨_, C_S m rfl hT hE', stays_12 m 12#64 al cc sz w sh d s dp rl im r0 r1 r2 r3 r4 r5 r6 r7 r8 r9 r10 r11 r12 r13 r14 r15 fz fs fc fo pc _ _ _ _ _ _ _ _ _ _ _ _ _ _ _ _ _ _ _ _ _ _ _ _ _ _ (fun j hj hn => (nth16 (exD (setX ⟨12#64, al, cc, sz, w, sh, d, s, dp, rl, im⟩) ⟨fun j => nthW [r0, r1, r2, r3, r4, r5, r6, r7, r8, r9, r10, r11, r12, r13, r14, r15] j, fz, fs, fc, fo, pc⟩).R hj).trans ((st_put hj hn).trans (nth16 _ hj).symm)) (fun e => by have e : w = false := e; subst e; refine (congrArg (fun v => BitVec.ult v 4294967296#64) (put_at (exD (setX ⟨12#64, al, cc, sz, false, sh, d, s, dp, rl, im⟩) ⟨fun j => nthW [r0, r1, r2, r3, r4, r5, r6, r7, r8, r9, r10, r11, r12, r13, r14, r15] j, fz, fs, fc, fo, pc⟩) (fun _ => rfl))).trans (mv_lt _))⟩
    · exact ⟨_, C_S m rfl hT hE', stays_21 m 21#64 al cc sz w sh d s dp rl im r0 r1 r2 r3 r4 r5 r6 r7 r8 r9 r10 r11 r12 r13 r14 r15 fz fs fc fo pc _ _ _ _ _ _ _ _ _ _⟩
  · exfalso
    have e : setX ⟨k, al, cc, sz, w, sh, d, s, dp, rl, im⟩ = ⟨k, al, cc, sz, w, sh, d, s, dp, rl, im⟩ := setX_no (by simpa using hd)
    rw [e] at hE'
    unfold exE at hE'
    rw [show doB k = false by simpa using hd, Bool.and_false, if_neg Bool.false_ne_true] at hE'
    exact absurd hE' (by decide)
end Go.Proofs.YtppankimieopiaaDoor
