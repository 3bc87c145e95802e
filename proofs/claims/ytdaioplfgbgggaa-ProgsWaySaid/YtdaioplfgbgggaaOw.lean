/-
  Chapter 04: ProgsWay, as the evaluator leaves it. Conditions: as typed.
-/
import Derived.Test.YtdaioplfgbgggaaOf
import Derived.Test.YtdaioplfgbgggaaOl

namespace Go.Proofs.Ytdaioplfgbgggaa
open Go.Ep Go.RowKit
set_option linter.unusedVariables false
set_option linter.unusedSimpArgs false
set_option maxRecDepth 100000 in
theorem CheckL_true (T : TypeId) (len cap : Nat) (g : Nat → List PL) (m : BitVec 64) (hl : len < 9223372036854775808) (f0 : (BitVec.ofNat 64 len == 0#64) = false) (f1 : (64#64 * 3#64).slt (BitVec.ofNat 64 len) = true) :
    FI Try.prog C_k Try.f11 1 [.one (.slc 0 0 len cap), .one (.b64 true m), .one (.bool true)] [(0, .ro T [.seg 5 len g])] (fun r _ => r = .tup [(false, [.b64 true 0#64]), (false, [.b64 true 3#64])]) := by
  repeat' (first
    | (with_reducible apply Given.mk; intro h; (try simp only [f0, f1, BitVec.reduceBNe, BitVec.reduceBEq, reduceCtorEq, Bool.true_eq_false, Bool.false_eq_true] at h); (try exact absurd h (by decide)))
    | ((conv => whnf); with_reducible apply Both.mk))
  all_goals first
    | (with_reducible apply Ob.mk; kernel_rfl)
    | ((with_reducible apply Ob.mk); with_reducible exact hl)
    | ((with_reducible apply Ob.mk); first | decide | (show len < 9223372036854775808; omega))
    | ((conv => whnf); (try exact rfl))
/-- Check's contract, of any length, inside. -/
noncomputable def sq_chkL (len : Nat) (g : Nat → List PL) (rest : List AV) : Option (Cond × AV) := match rest with
  | [.one (.b64 true m), .one (.bool true)] => some (Cond.p ((len ≤ 192 ∧ g = inF (inOf g)) ∨ (192 < len ∧ len < 9223372036854775808) ∨ len = 0), ansC (inOf g) len m true)
  | _ => none
set_option maxRecDepth 100000 in
theorem e_CheckL : EntryM Try.prog anyWorld 11 (spS 5 sq_chkL) := by
  refine .of_slice CI_k (by kernel_rfl) Try.func11 (by kernel_rfl) (by kernel_rfl) (fun len g rest c v h hc => ?_) (fun rest c v h hc ad cap => ?_)
  · unfold sq_chkL at h
    split at h
    · rename_i m
      cases h
      refine ⟨rfl, rfl, fun T cap => ?_⟩
      by_cases e : len = 0
      · subst e
        rw [← ans_L (x := inOf g) (m := m) (w := true) (.inl rfl)]
        exact CheckZ_true T cap g m
      · rcases hc with ⟨h1, h2⟩ | ⟨h1, h2⟩ | h
        · generalize inOf g = x at h2
          subst h2
          have f0 : (BitVec.ofNat 64 len == 0#64) = false := len_zero (by omega) e
          exact Check_true T len cap x m (by omega) h1 (by omega) (fun h => h.elim e (by simp [mostN]; omega)) f0 ((slt_nat (a := 192) (by decide) (by omega)).trans (decide_eq_false (by omega)))
        · rw [← ans_L (x := inOf g) (m := m) (w := true) (.inr h1)]
          have f0 : (BitVec.ofNat 64 len == 0#64) = false := by
            rw [beq_eq_false_iff_ne]
            intro e2
            have := congrArg BitVec.toNat e2
            rw [nat_ofNat h2] at this
            exact e this
          exact CheckL_true T len cap g m h2 f0 ((slt_nat (a := 192) (by decide) h2).trans (decide_eq_true h1))
        · exact absurd h e
    · cases h
  · unfold sq_chkL at h
    split at h
    · rename_i m
      cases h
      rw [← ans_L (x := inOf fun _ => []) (m := m) (w := true) (.inl rfl)]
      exact CheckN_true ad cap m
    · cases h
noncomputable abbrev ms_w (eb : BitVec 8 → Bool) : List (Nat × SpM) := [(15, spS 5 (sq_nextE' eb)), (11, spS 5 sq_chkL)]
theorem CM_w : CSound Try.prog anyWorld (tabM noData tb_p (ms_w endB)) := ((CSound.startM C_p).consM e_CheckL).consM e_NextE
noncomputable abbrev C_w (eb ab jb : BitVec 8 → Bool) : Table := withMk (tabM noData tb_p (ms_w eb)) [(15, spKS 5 (sq_nextK' eb ab jb))]
theorem CI_w : CSound Try.prog anyWorld (C_w endB alwB jmpB) := CM_w.withMk (.cons e_NextK .nil)
set_option maxRecDepth 100000 in
set_option maxHeartbeats 16000000 in
theorem Way_N (eb ab jb : BitVec 8 → Bool) (ad : Option Addr) (cap : Nat) (m : BitVec 64) (hA : chk4 (inOf fun _ => []) 0 m true = (0#64, 3#64)) :
    FI Try.prog (C_w eb ab jb) Try.f5 1 [.one (.raw (.slice ad 0 cap)), .one (.b64 true m)] [] (fun r _ => r = .one (.bool true)) := by
  repeat' (first
    | (with_reducible apply Given.mk; intro h; (try simp only [inOf_inF, hA, BitVec.reduceBNe, BitVec.reduceBEq, beq_self_eq_true, bne_self_eq_false, Bool.or_false, Bool.false_or, Bool.and_true, Bool.true_and, decide_true, reduceCtorEq, Bool.true_eq_false, Bool.false_eq_true, Bool.not_true, Bool.not_false] at h); (try ((fail_if_success (have _q := q1)); exact absurd h (by decide))))
    | ((conv => whnf); first
      | with_reducible apply Both.mk
      | (conv => arg 2; whnf; arg 2; whnf; arg 2; change eb (inOf (inF x) (BitVec.ofNat 64 k).toNat).o; rw [he'])
      | (conv => arg 2; whnf; arg 2; whnf; arg 2; change ab (inOf (inF x) (BitVec.ofNat 64 k).toNat).o; rw [ha'])
      | (conv => arg 2; whnf; arg 2; whnf; arg 2; change jb (inOf (inF x) (BitVec.ofNat 64 k).toNat).o; rw [hj'])
      | (conv => arg 2; whnf; arg 2; whnf; arg 2; change eb (inOf (inF x) (BitVec.ofNat 64 k5).toNat).o; rw [he'])
      | (conv => arg 2; whnf; arg 2; whnf; arg 2; change ab (inOf (inF x) (BitVec.ofNat 64 k5).toNat).o; rw [ha'])
      | (conv => arg 2; whnf; arg 2; whnf; arg 2; change jb (inOf (inF x) (BitVec.ofNat 64 k5).toNat).o; rw [hj'])
      | (refine LoopP.times 1 ?_)))
  all_goals first
    | ((with_reducible apply Ob.mk); with_reducible assumption)
    | (with_reducible apply Ob.mk; kernel_rfl)
    | ((with_reducible apply Ob.mk); with_reducible exact hc)
    | ((with_reducible apply Ob.mk); exact ⟨Nat.le_refl _, hc⟩)
    | ((with_reducible apply Ob.mk); exact .inr (.inr rfl))
    | ((with_reducible apply Ob.mk); with_reducible exact hl)
    | ((with_reducible apply Ob.mk); show len < 9223372036854775808; omega)
    | ((with_reducible apply Ob.mk); exact fun _ => rfl)
    | ((with_reducible apply Ob.mk); exact ⟨rfl, fun _ => rfl, fun _ => rfl⟩)
    | ((fail_if_success (have _q := q1)); with_reducible apply Ob.mk; decide)
    | ((conv => whnf); exact rfl)
    | (with_reducible apply Ob.mk; skip)
    | ((conv => whnf); skip)
set_option maxRecDepth 100000 in
set_option maxHeartbeats 16000000 in
theorem Way_A (eb ab jb : BitVec 8 → Bool) (T : TypeId) (len cap : Nat) (x : IT) (m : BitVec 64) (hl : len < 9223372036854775808) (hc : (len ≤ 192 ∧ inF x = inF (inOf (inF x))) ∨ (192 < len ∧ len < 9223372036854775808) ∨ len = 0) (a e : BitVec 64) (hA : chk4 x len m true = (a, e)) (e0 : (e != 0#64) = true) (p0 : (a == 0#64) = true) :
    FI Try.prog (C_w eb ab jb) Try.f5 1 [.one (.slc 0 0 len cap), .one (.b64 true m)] [(0, .ro T [.seg 5 len (inF x)])] (fun r _ => r = .one (.bool true)) := by
  repeat' (first
    | (with_reducible apply Given.mk; intro h; (try simp only [inOf_inF, hA, e0, p0, BitVec.reduceBNe, BitVec.reduceBEq, beq_self_eq_true, bne_self_eq_false, Bool.or_false, Bool.false_or, Bool.and_true, Bool.true_and, decide_true, reduceCtorEq, Bool.true_eq_false, Bool.false_eq_true, Bool.not_true, Bool.not_false] at h); (try ((fail_if_success (have _q := q1)); exact absurd h (by decide))))
    | ((conv => whnf); first
      | with_reducible apply Both.mk
      | (conv => arg 2; whnf; arg 2; whnf; arg 2; change eb (inOf (inF x) (BitVec.ofNat 64 k).toNat).o; rw [he'])
      | (conv => arg 2; whnf; arg 2; whnf; arg 2; change ab (inOf (inF x) (BitVec.ofNat 64 k).toNat).o; rw [ha'])
      | (conv => arg 2; whnf; arg 2; whnf; arg 2; change jb (inOf (inF x) (BitVec.ofNat 64 k).toNat).o; rw [hj'])
      | (conv => arg 2; whnf; arg 2; whnf; arg 2; change eb (inOf (inF x) (BitVec.ofNat 64 k5).toNat).o; rw [he'])
      | (conv => arg 2; whnf; arg 2; whnf; arg 2; change ab (inOf (inF x) (BitVec.ofNat 64 k5).toNat).o; rw [ha'])
      | (conv => arg 2; whnf; arg 2; whnf; arg 2; change jb (inOf (inF x) (BitVec.ofNat 64 k5).toNat).o; rw [hj'])
      | (refine LoopP.times 1 ?_)))
  all_goals first
    | ((with_reducible apply Ob.mk); with_reducible assumption)
    | (with_reducible apply Ob.mk; kernel_rfl)
    | ((with_reducible apply Ob.mk); with_reducible exact hc)
    | ((with_reducible apply Ob.mk); exact ⟨Nat.le_refl _, hc⟩)
    | ((with_reducible apply Ob.mk); exact .inr (.inr rfl))
    | ((with_reducible apply Ob.mk); with_reducible exact hl)
    | ((with_reducible apply Ob.mk); show len < 9223372036854775808; omega)
    | ((with_reducible apply Ob.mk); exact fun _ => rfl)
    | ((with_reducible apply Ob.mk); exact ⟨rfl, fun _ => rfl, fun _ => rfl⟩)
    | ((fail_if_success (have _q := q1)); with_reducible apply Ob.mk; decide)
    | ((conv => whnf); exact rfl)
    | (with_reducible apply Ob.mk; skip)
    | ((conv => whnf); skip)
set_option maxRecDepth 100000 in
set_option maxHeartbeats 16000000 in
theorem Way_B (eb ab jb : BitVec 8 → Bool) (T : TypeId) (len cap : Nat) (x : IT) (m : BitVec 64) (hl : len < 9223372036854775808) (hc : (len ≤ 192 ∧ inF x = inF (inOf (inF x))) ∨ (192 < len ∧ len < 9223372036854775808) ∨ len = 0) (a e : BitVec 64) (hA : chk4 x len m true = (a, e)) (e0 : (e != 0#64) = true) (p0 : (a == 0#64) = false) (p1 : (0#64).slt a = true) (p2 : a.slt (BitVec.ofNat 64 len) = true) :
    FI Try.prog (C_w eb ab jb) Try.f5 1 [.one (.slc 0 0 len cap), .one (.b64 true m)] [(0, .ro T [.seg 5 len (inF x)])] (fun r _ => r = .one (.bool true)) := by
  repeat' (first
    | (with_reducible apply Given.mk; intro h; (try simp only [inOf_inF, hA, e0, p0, p1, p2, BitVec.reduceBNe, BitVec.reduceBEq, beq_self_eq_true, bne_self_eq_false, Bool.or_false, Bool.false_or, Bool.and_true, Bool.true_and, decide_true, reduceCtorEq, Bool.true_eq_false, Bool.false_eq_true, Bool.not_true, Bool.not_false] at h); (try ((fail_if_success (have _q := q1)); exact absurd h (by decide))))
    | ((conv => whnf); first
      | with_reducible apply Both.mk
      | (conv => arg 2; whnf; arg 2; whnf; arg 2; change eb (inOf (inF x) (BitVec.ofNat 64 k).toNat).o; rw [he'])
      | (conv => arg 2; whnf; arg 2; whnf; arg 2; change ab (inOf (inF x) (BitVec.ofNat 64 k).toNat).o; rw [ha'])
      | (conv => arg 2; whnf; arg 2; whnf; arg 2; change jb (inOf (inF x) (BitVec.ofNat 64 k).toNat).o; rw [hj'])
      | (conv => arg 2; whnf; arg 2; whnf; arg 2; change eb (inOf (inF x) (BitVec.ofNat 64 k5).toNat).o; rw [he'])
      | (conv => arg 2; whnf; arg 2; whnf; arg 2; change ab (inOf (inF x) (BitVec.ofNat 64 k5).toNat).o; rw [ha'])
      | (conv => arg 2; whnf; arg 2; whnf; arg 2; change jb (inOf (inF x) (BitVec.ofNat 64 k5).toNat).o; rw [hj'])
      | (refine LoopP.times 1 ?_)))
  all_goals first
    | ((with_reducible apply Ob.mk); with_reducible assumption)
    | (with_reducible apply Ob.mk; kernel_rfl)
    | ((with_reducible apply Ob.mk); with_reducible exact hc)
    | ((with_reducible apply Ob.mk); exact ⟨Nat.le_refl _, hc⟩)
    | ((with_reducible apply Ob.mk); exact .inr (.inr rfl))
    | ((with_reducible apply Ob.mk); with_reducible exact hl)
    | ((with_reducible apply Ob.mk); show len < 9223372036854775808; omega)
    | ((with_reducible apply Ob.mk); exact fun _ => rfl)
    | ((with_reducible apply Ob.mk); exact ⟨rfl, fun _ => rfl, fun _ => rfl⟩)
    | ((fail_if_success (have _q := q1)); with_reducible apply Ob.mk; decide)
    | ((conv => whnf); exact rfl)
    | (with_reducible apply Ob.mk; skip)
    | ((conv => whnf); skip)
theorem eqB8 {a b : BitVec 8 → Bool} (H : a = b) {v : BitVec 8} {r : Bool} (h : b v = r) : a v = r := by rw [H]; exact h
theorem ixw0 {n : Nat} (h : 0 < n) : 0 ≤ (0#64).toInt ∧ (0#64).toNat < n := ⟨by decide, h⟩
theorem add8k (k : Nat) : BitVec.ofNat 64 k + 1#64 = BitVec.ofNat 64 (k + 1) := (BitVec.ofNat_add _ _).symm
theorem sec_o {x : IT} {n k : Nat} {b : Bool} (hn : n ≤ 8000) (hk : k ≤ n) (h : ((x (BitVec.ofNat 64 k).toNat).o == 24#8) = b) : ((x k).o == 24#8) = b := by rwa [nat8 hn hk] at h
theorem sec_s {x : IT} {n k : Nat} (hn : n ≤ 8000) (hk : k ≤ n) (h : (!secB x k (BitVec.ofNat 64 k).toNat) = false) : secB x k k = true := by
  rw [nat8 hn hk] at h; simpa using h
theorem sec_f {x : IT} {n k : Nat} (hn : n ≤ 8000) (hk : k ≤ n) (h : (!secB x k (BitVec.ofNat 64 k).toNat) = true) : secB x k k = false := by
  rw [nat8 hn hk] at h; simpa using h
theorem sec_up {x : IT} {n k : Nat} (hn : n ≤ 8000) (hk : k < n) (ho : ((x (BitVec.ofNat 64 k).toNat).o == 24#8) = true) (h : (!secB x k (BitVec.ofNat 64 k).toNat) = true) : updF (bF (secB x k)) (BitVec.ofNat 64 k + 1#64).toNat 0 [.bool true] = bF (secB x (k + 1)) := by
  rw [add8k, nat8 hn hk, bF_upd]
  exact congrArg bF (sec_yes (sec_o hn (by omega) ho) (sec_f hn (by omega) h))
theorem sec_lt {x : IT} {n k : Nat} {m : BitVec 64} (G : Good x n m true) (hk : k < n) (ho : ((x (BitVec.ofNat 64 k).toNat).o == 24#8) = true) (h : (!secB x k (BitVec.ofNat 64 k).toNat) = true) : k + 1 < n := by
  have hn := G.ways.small
  have ho := sec_o hn (by omega) ho
  have hs := sec_f hn (by omega) h
  rw [beq_iff_eq] at ho
  rw [sec_at (Nat.le_refl _)] at hs
  have := fall_lt G.ways hk hs (by rw [ho]; decide) (by rw [ho]; decide)
  have hz : szN (x k).o = 2 := by rw [ho]; decide
  omega
theorem sec_ix {x : IT} {n k : Nat} {m : BitVec 64} (G : Good x n m true) (hk : k < n) (ho : ((x (BitVec.ofNat 64 k).toNat).o == 24#8) = true) (h : (!secB x k (BitVec.ofNat 64 k).toNat) = true) : 0 ≤ (BitVec.ofNat 64 k + 1#64).toInt ∧ (BitVec.ofNat 64 k + 1#64).toNat < n := by
  have hn := G.ways.small
  rw [add8k]; exact ix_ofNat (by omega) (sec_lt G hk ho h)
theorem sec_dead {x : IT} {n k : Nat} {m : BitVec 64} (G : Good x n m true) (hk : k < n) (ho : ((x (BitVec.ofNat 64 k).toNat).o == 24#8) = true) (h : (!secB x k (BitVec.ofNat 64 k).toNat) = true) (h2 : (BitVec.ofNat 64 n).sle (BitVec.ofNat 64 k + 1#64) = true) : False := by
  have hn := G.ways.small
  have := sec_lt G hk ho h
  rw [add8k, sle_nat (by omega) (by omega)] at h2
  have := of_decide_eq_true h2
  omega
theorem cap8 {a : Nat} (h : a < 65535) : a + 1 < 65536 := by omega
theorem big8 {a : Nat} (h : a < 65536) : a < 9223372036854775808 := by omega
theorem tf8 : (true == false) = false := rfl
theorem ft8 : (false == true) = false := rfl
theorem kneg8 {n k : Nat} (hn : n ≤ 8000) (hk : k ≤ n) : (BitVec.ofNat 64 k).slt 0#64 = false := (slt_nat (b := 0) (by omega) (by decide)).trans (decide_eq_false (by omega))
theorem kin8 {n k : Nat} (hn : n ≤ 8000) (hk : k ≤ n) (h : (BitVec.ofNat 64 k).slt (BitVec.ofNat 64 n) = true) : (BitVec.ofNat 64 n).sle (BitVec.ofNat 64 k) = false := by
  have := lt8k hn hk h
  exact (sle_nat (by omega) (by omega)).trans (decide_eq_false (by omega))
theorem atk8 {n k : Nat} {g : Nat → Bool} {b : Bool} (hn : n ≤ 8000) (hk : k ≤ n) (h : g (BitVec.ofNat 64 k).toNat = b) : g k = b := by rwa [nat8 hn hk] at h
theorem sec1N {x : IT} {n k : Nat} {g : Nat → Bool} (W : WaysOK x n) (h0 : 0 < n) (h : LedOK x g) (c : g (BitVec.ofNat 64 k).toNat = true) (hk : k ≤ n) (hs : succ x k = [(BitVec.ofNat 64 k + szV (x (BitVec.ofNat 64 k).toNat).o).toNat]) : secB x n (BitVec.ofNat 64 k + szV (x (BitVec.ofNat 64 k).toNat).o).toNat = false := next_first W h0 h (atk8 W.small hk c) (by rw [hs]; simp)
theorem sec1T {x : IT} {n k : Nat} {g : Nat → Bool} (W : WaysOK x n) (h0 : 0 < n) (h : LedOK x g) (c : g (BitVec.ofNat 64 k).toNat = true) (hk : k ≤ n) (hs : succ x k = [(toK x k).toNat]) : secB x n (toK x k).toNat = false := next_first W h0 h (atk8 W.small hk c) (by rw [hs]; simp)
theorem sec2a {x : IT} {n k q r : Nat} {g : Nat → Bool} (W : WaysOK x n) (h0 : 0 < n) (h : LedOK x g) (c : g (BitVec.ofNat 64 k).toNat = true) (hk : k ≤ n) (hs : succ x k = [q, r]) : secB x n q = false := next_first W h0 h (atk8 W.small hk c) (by rw [hs]; simp)
theorem sec2b {x : IT} {n k q r : Nat} {g : Nat → Bool} (W : WaysOK x n) (h0 : 0 < n) (h : LedOK x g) (c : g (BitVec.ofNat 64 k).toNat = true) (hk : k ≤ n) (hs : succ x k = [q, r]) : secB x n r = false := next_first W h0 h (atk8 W.small hk c) (by rw [hs]; simp)
inductive Fin5 (x : IT) (n k : Nat) : Prop
  | stop (h : n = k)
  | half (hl : (BitVec.ofNat 64 k).slt (BitVec.ofNat 64 n) = true) (r : reachB x (BitVec.ofNat 64 k).toNat = false) (s : secB x n (BitVec.ofNat 64 k).toNat = true)
  | first (hl : (BitVec.ofNat 64 k).slt (BitVec.ofNat 64 n) = true) (r : reachB x (BitVec.ofNat 64 k).toNat = true) (s : secB x n (BitVec.ofNat 64 k).toNat = false)
      (i : iCheck (x (BitVec.ofNat 64 k).toNat).o (x (BitVec.ofNat 64 k).toNat).d (x (BitVec.ofNat 64 k).toNat).s (x (BitVec.ofNat 64 k).toNat).f (x (BitVec.ofNat 64 k).toNat).i true = 0#64) (e : ((x (BitVec.ofNat 64 k).toNat).o == 149#8) = endB (x (BitVec.ofNat 64 k).toNat).o)
theorem fin_of {x : IT} {n k : Nat} {m : BitVec 64} (G : Good x n m true) (hk : k ≤ n) : Fin5 x n k := by
  have W := G.ways
  have hn := W.small
  rcases Nat.lt_or_ge k n with hlt | hge
  case inr => exact .stop (by omega)
  have ek : (BitVec.ofNat 64 k).toNat = k := nat8 hn hk
  have hl : (BitVec.ofNat 64 k).slt (BitVec.ofNat 64 n) = true := (slt_nat (by omega) (by omega)).trans (decide_eq_true hlt)
  cases hh : hf x k with
  | true =>
    refine .half hl ?_ ?_ <;> rw [ek]
    · rw [← Bool.not_eq_true, reachB_iff]
      intro hr
      rw [(reach_lt W G.pos hr).2] at hh; cases hh
    · rw [sec_at hk, hh]
  | false =>
    have hi := alone_i (by omega) (G.alone k hlt hh)
    refine .first hl ?_ ?_ ?_ ?_ <;> rw [ek]
    · exact G.led k hlt hh
    · rw [sec_at hk, hh]
    · exact hi
    · cases he : endB (x k).o with
      | true => exact exit_o hi he
      | false => exact exit_no he
set_option maxRecDepth 100000 in
set_option maxHeartbeats 16000000 in
theorem Way_G (eb ab jb : BitVec 8 → Bool) (T : TypeId) (len cap : Nat) (x : IT) (m : BitVec 64) (hl : len < 9223372036854775808) (hc : (len ≤ 192 ∧ inF x = inF (inOf (inF x))) ∨ (192 < len ∧ len < 9223372036854775808) ∨ len = 0) (Heb : eb = endB) (Hab : ab = alwB) (Hjb : jb = jmpB) (h192 : len ≤ 192) (hl8 : len ≤ 8000) (G : Good x len m true) (hA : chk4 x len m true = (0#64, 0#64)) (f0 : (BitVec.ofNat 64 len == 0#64) = false) (f1 : (64#64 * 3#64).slt (BitVec.ofNat 64 len) = false) (f1' : (192#64).slt (BitVec.ofNat 64 len) = false) (fl : (BitVec.ofNat 64 len).slt (BitVec.ofNat 64 len) = false) :
    FI Try.prog (C_w eb ab jb) Try.f5 1 [.one (.slc 0 0 len cap), .one (.b64 true m)] [(0, .ro T [.seg 5 len (inF x)])] (fun r _ => r = .one (.bool true)) := by
  repeat' (first
    | (with_reducible apply Given.mk; intro h; (try (have e1 : len = k1 := ge8k hl8 q1 h; subst e1)); (try (have e2 : len = t := ge8k hl8 q2.le h; subst e2)); (try simp only [k0, inOf_inF, if0, if1, ite_self, bne_self_eq_false, beq_self_eq_true, Bool.not_true, Bool.not_false, Bool.or_false, Bool.false_or, Bool.or_self, Bool.true_eq_false, Bool.false_eq_true, tf8, ft8, BitVec.reduceBEq, reduceCtorEq] at h); (try simp only [kl, inOf_inF, if0, if1, ite_self, bne_self_eq_false, beq_self_eq_true, Bool.not_true, Bool.not_false, Bool.or_false, Bool.false_or, Bool.or_self, Bool.true_eq_false, Bool.false_eq_true, tf8, ft8, BitVec.reduceBEq, reduceCtorEq] at h); (try simp only [kg, inOf_inF, if0, if1, ite_self, bne_self_eq_false, beq_self_eq_true, Bool.not_true, Bool.not_false, Bool.or_false, Bool.false_or, Bool.or_self, Bool.true_eq_false, Bool.false_eq_true, tf8, ft8, BitVec.reduceBEq, reduceCtorEq] at h); (try simp only [c, inOf_inF, if0, if1, ite_self, bne_self_eq_false, beq_self_eq_true, Bool.not_true, Bool.not_false, Bool.or_false, Bool.false_or, Bool.or_self, Bool.true_eq_false, Bool.false_eq_true, tf8, ft8, BitVec.reduceBEq, reduceCtorEq] at h); (try simp only [he, inOf_inF, if0, if1, ite_self, bne_self_eq_false, beq_self_eq_true, Bool.not_true, Bool.not_false, Bool.or_false, Bool.false_or, Bool.or_self, Bool.true_eq_false, Bool.false_eq_true, tf8, ft8, BitVec.reduceBEq, reduceCtorEq] at h); (try simp only [ha, inOf_inF, if0, if1, ite_self, bne_self_eq_false, beq_self_eq_true, Bool.not_true, Bool.not_false, Bool.or_false, Bool.false_or, Bool.or_self, Bool.true_eq_false, Bool.false_eq_true, tf8, ft8, BitVec.reduceBEq, reduceCtorEq] at h); (try simp only [hj, inOf_inF, if0, if1, ite_self, bne_self_eq_false, beq_self_eq_true, Bool.not_true, Bool.not_false, Bool.or_false, Bool.false_or, Bool.or_self, Bool.true_eq_false, Bool.false_eq_true, tf8, ft8, BitVec.reduceBEq, reduceCtorEq] at h); (try simp only [n0, inOf_inF, if0, if1, ite_self, bne_self_eq_false, beq_self_eq_true, Bool.not_true, Bool.not_false, Bool.or_false, Bool.false_or, Bool.or_self, Bool.true_eq_false, Bool.false_eq_true, tf8, ft8, BitVec.reduceBEq, reduceCtorEq] at h); (try simp only [n1, inOf_inF, if0, if1, ite_self, bne_self_eq_false, beq_self_eq_true, Bool.not_true, Bool.not_false, Bool.or_false, Bool.false_or, Bool.or_self, Bool.true_eq_false, Bool.false_eq_true, tf8, ft8, BitVec.reduceBEq, reduceCtorEq] at h); (try simp only [t0, inOf_inF, if0, if1, ite_self, bne_self_eq_false, beq_self_eq_true, Bool.not_true, Bool.not_false, Bool.or_false, Bool.false_or, Bool.or_self, Bool.true_eq_false, Bool.false_eq_true, tf8, ft8, BitVec.reduceBEq, reduceCtorEq] at h); (try simp only [t1, inOf_inF, if0, if1, ite_self, bne_self_eq_false, beq_self_eq_true, Bool.not_true, Bool.not_false, Bool.or_false, Bool.false_or, Bool.or_self, Bool.true_eq_false, Bool.false_eq_true, tf8, ft8, BitVec.reduceBEq, reduceCtorEq] at h); (try simp only [sN, inOf_inF, if0, if1, ite_self, bne_self_eq_false, beq_self_eq_true, Bool.not_true, Bool.not_false, Bool.or_false, Bool.false_or, Bool.or_self, Bool.true_eq_false, Bool.false_eq_true, tf8, ft8, BitVec.reduceBEq, reduceCtorEq] at h); (try simp only [sT, inOf_inF, if0, if1, ite_self, bne_self_eq_false, beq_self_eq_true, Bool.not_true, Bool.not_false, Bool.or_false, Bool.false_or, Bool.or_self, Bool.true_eq_false, Bool.false_eq_true, tf8, ft8, BitVec.reduceBEq, reduceCtorEq] at h); (try simp only [r5, inOf_inF, if0, if1, ite_self, bne_self_eq_false, beq_self_eq_true, Bool.not_true, Bool.not_false, Bool.or_false, Bool.false_or, Bool.or_self, Bool.true_eq_false, Bool.false_eq_true, tf8, ft8, BitVec.reduceBEq, reduceCtorEq] at h); (try simp only [s5, inOf_inF, if0, if1, ite_self, bne_self_eq_false, beq_self_eq_true, Bool.not_true, Bool.not_false, Bool.or_false, Bool.false_or, Bool.or_self, Bool.true_eq_false, Bool.false_eq_true, tf8, ft8, BitVec.reduceBEq, reduceCtorEq] at h); (try simp only [i5, inOf_inF, if0, if1, ite_self, bne_self_eq_false, beq_self_eq_true, Bool.not_true, Bool.not_false, Bool.or_false, Bool.false_or, Bool.or_self, Bool.true_eq_false, Bool.false_eq_true, tf8, ft8, BitVec.reduceBEq, reduceCtorEq] at h); (try simp only [x5, inOf_inF, if0, if1, ite_self, bne_self_eq_false, beq_self_eq_true, Bool.not_true, Bool.not_false, Bool.or_false, Bool.false_or, Bool.or_self, Bool.true_eq_false, Bool.false_eq_true, tf8, ft8, BitVec.reduceBEq, reduceCtorEq] at h); (try ((first | (have _q := q3) | (have _q := q5)); (first | exact absurd (show (0#64).slt 0#64 = true from h) (by decide) | exact absurd (show (0#64).slt 1#64 = false from h) (by decide) | exact absurd (show (0#64).slt 2#64 = false from h) (by decide) | exact absurd (show (0#64).slt (BitVec.ofNat 64 (1 + 1)) = false from h) (by decide) | exact absurd (show (0#64 + 1#64).slt 0#64 = true from h) (by decide) | exact absurd (show (0#64 + 1#64).slt 1#64 = true from h) (by decide) | exact absurd (show (0#64 + 1#64).slt 2#64 = false from h) (by decide) | exact absurd (show (0#64 + 1#64).slt (BitVec.ofNat 64 (1 + 1)) = false from h) (by decide) | exact absurd (show (0#64 + 1#64 + 1#64).slt 0#64 = true from h) (by decide) | exact absurd (show (0#64 + 1#64 + 1#64).slt 1#64 = true from h) (by decide) | exact absurd (show (0#64 + 1#64 + 1#64).slt 2#64 = true from h) (by decide) | exact absurd (show (0#64 + 1#64 + 1#64).slt (BitVec.ofNat 64 (1 + 1)) = true from h) (by decide) |  skip))); (try simp only [inOf_inF, hA, f0, f1, f1', fl, BitVec.reduceBNe, BitVec.reduceBEq, beq_self_eq_true, bne_self_eq_false, Bool.or_false, Bool.false_or, Bool.and_true, Bool.true_and, decide_true, reduceCtorEq, Bool.true_eq_false, Bool.false_eq_true, Bool.not_true, Bool.not_false] at h); (try ((fail_if_success (have _q := q1)); exact absurd h (by decide))))
    | ((conv => whnf); first
      | with_reducible apply Both.mk
      | (conv => arg 2; whnf; arg 2; whnf; arg 2; change eb (inOf (inF x) (BitVec.ofNat 64 k).toNat).o; rw [he'])
      | (conv => arg 2; whnf; arg 2; whnf; arg 2; change ab (inOf (inF x) (BitVec.ofNat 64 k).toNat).o; rw [ha'])
      | (conv => arg 2; whnf; arg 2; whnf; arg 2; change jb (inOf (inF x) (BitVec.ofNat 64 k).toNat).o; rw [hj'])
      | (conv => arg 2; whnf; arg 2; whnf; arg 2; change eb (inOf (inF x) (BitVec.ofNat 64 k5).toNat).o; rw [he'])
      | (conv => arg 2; whnf; arg 2; whnf; arg 2; change ab (inOf (inF x) (BitVec.ofNat 64 k5).toNat).o; rw [ha'])
      | (conv => arg 2; whnf; arg 2; whnf; arg 2; change jb (inOf (inF x) (BitVec.ofNat 64 k5).toNat).o; rw [hj'])
      | ((fail_if_success (have _q := q1)); refine LoopP.mk (Nat) (fun k => k ≤ len) ((fun k => mkS (Try.f5).ntmps [(0, .one (.slc 0 0 len cap)), (7, .one (.rsl 53 len)), (8, .one (.rsl 56 len)), (9, iN k)] [(56, .row 4 1 len (bF (secB x k))), (53, .row 4 1 len (bF (mark (fun _ => false) 0))), (0, .ro T [.seg 5 len (inF x)])])) (fun k => len - k) ⟨0, Nat.zero_le _, ⟨?_, ?_, ?_, ?_, ?_⟩⟩ ?_; (focus ((repeat' ((conv => whnf); first | exact trivial | refine Both.mk (by first | with_reducible rfl | exact iN_succ _ | (rw [nat8 hl8 (Nat.le_refl _)]; exact congrArg (Blk.row 4 1 len) (bF_upd (fun _ => false) 0 true)) | (rw [nat8 hl8 (Nat.le_refl _)]; exact congrArg (fun g => Blk.row 4 1 len (bF g)) (sec_start x).symm) | (rw [nat8 hl8 (Nat.le_refl _)]; done) | rfl) ?_)); done)); (focus ((repeat' ((conv => whnf); first | exact trivial | refine Both.mk (by first | with_reducible rfl | exact iN_succ _ | (rw [nat8 hl8 (Nat.le_refl _)]; exact congrArg (Blk.row 4 1 len) (bF_upd (fun _ => false) 0 true)) | (rw [nat8 hl8 (Nat.le_refl _)]; exact congrArg (fun g => Blk.row 4 1 len (bF g)) (sec_start x).symm) | (rw [nat8 hl8 (Nat.le_refl _)]; done) | rfl) ?_)); done)); (focus exact rfl); (focus exact rfl); (focus exact rfl); (rintro k1 q1))
      | ((have _q := q1); (fail_if_success (have _q := q2)); refine LoopP.mk ((Nat → Bool) × Nat) (fun y => Turn x len y.1 y.2) ((fun y => mkS (Try.f5).ntmps [(0, .one (.slc 0 0 len cap)), (7, .one (.rsl 53 len)), (8, .one (.rsl 56 len)), (10, iN y.2)] [(56, .row 4 1 len (bF (secB x len))), (53, .row 4 1 len (bF y.1)), (0, .ro T [.seg 5 len (inF x)])])) (fun y => len - y.2) ⟨(mark (fun _ => false) 0, 0), Turn.start G.pos, ⟨?_, ?_, ?_, ?_, ?_⟩⟩ ?_; (focus ((repeat' ((conv => whnf); first | exact trivial | refine Both.mk (by first | with_reducible rfl | exact iN_succ _ | rfl) ?_)); done)); (focus ((repeat' ((conv => whnf); first | exact trivial | refine Both.mk (by first | with_reducible rfl | exact iN_succ _ | rfl) ?_)); done)); (focus exact rfl); (focus exact rfl); (focus exact rfl); (rintro ⟨g, t⟩ q2 <;> dsimp only at q2))
      | ((have _q := q2); (fail_if_success (have _q := q3)); (fail_if_success (have _q := q5)); (with_reducible have _o : (BitVec.ofNat 64 t).slt (BitVec.ofNat 64 len) = true := by assumption); refine LoopP.mk ((Nat → Bool) × Bool × Nat) (fun y => Inner x len g y.1 y.2.1 y.2.2) ((fun y => mkS (Try.f5).ntmps [(0, .one (.slc 0 0 len cap)), (7, .one (.rsl 53 len)), (8, .one (.rsl 56 len)), (10, iN t), (11, iN y.2.2)] [(56, .row 4 1 len (bF (secB x len))), (53, .row 4 1 len (bF y.1)), (0, .ro T [.seg 5 len (inF x)])])) (fun y => len - y.2.2) ⟨(g, false, 0), Inner.start q2.led, ⟨?_, ?_, ?_, ?_, ?_⟩⟩ ?_; (focus ((repeat' ((conv => whnf); first | exact trivial | refine Both.mk (by first | with_reducible rfl | exact iN_succ _ | rfl) ?_)); done)); (focus ((repeat' ((conv => whnf); first | exact trivial | refine Both.mk (by first | with_reducible rfl | exact iN_succ _ | rfl) ?_)); done)); (focus exact rfl); (focus exact rfl); (focus exact rfl); (rintro ⟨g', mo, k⟩ q3 <;> dsimp only at q3 <;> rcases kind_of G q3.le with e | ⟨kl, he, hs⟩ | ⟨kl, he, ha, hj, t0, t1, t2, hs⟩ | ⟨kl, he, ha, hj, n0, n1, n2, t0, t1, t2, hs⟩ | ⟨kl, he, ha, hj, n0, n1, n2, hs⟩ <;> first | subst e | ((have he' : eb (inOf (inF x) (BitVec.ofNat 64 k).toNat).o = _ := eqB8 Heb he); (try have ha' : ab (inOf (inF x) (BitVec.ofNat 64 k).toNat).o = _ := eqB8 Hab ha); (try have hj' : jb (inOf (inF x) (BitVec.ofNat 64 k).toNat).o = _ := eqB8 Hjb hj); have k0 := kneg8 hl8 q3.le; have kg := kin8 hl8 q3.le kl; cases c : g' (BitVec.ofNat 64 k).toNat <;> (try have sT := sec2b G.ways G.pos q3.led c q3.le hs) <;> (try have sN := sec2a G.ways G.pos q3.led c q3.le hs) <;> (try have sT := sec1T G.ways G.pos q3.led c q3.le hs) <;> (try have sN := sec1N G.ways G.pos q3.led c q3.le hs))))
      | ((have _q := q3); refine LoopP.times 4 ?_)
      | ((have _q := q5); refine LoopP.times 4 ?_)
      | ((have _q := q2); (fail_if_success (have _q := q3)); (fail_if_success (have _q := q5)); (fail_if_success (with_reducible have _o : (BitVec.ofNat 64 t).slt (BitVec.ofNat 64 len) = true := by assumption)); refine LoopP.mk (Nat) (fun k => k ≤ len) ((fun k => mkS (Try.f5).ntmps [(0, .one (.slc 0 0 len cap)), (7, .one (.rsl 53 len)), (8, .one (.rsl 56 len)), (14, iN k)] [(56, .row 4 1 len (bF (secB x len))), (53, .row 4 1 len (bF (reachB x))), (0, .ro T [.seg 5 len (inF x)])])) (fun k => len - k) ⟨0, Nat.zero_le _, ⟨?_, ?_, ?_, ?_, ?_⟩⟩ ?_; (focus ((repeat' ((conv => whnf); first | exact trivial | refine Both.mk (by first | with_reducible rfl | exact iN_succ _ | exact congrArg (fun g => Blk.row 4 1 len (bF g)) (Turn.done G.ways G.pos q2) | rfl) ?_)); done)); (focus ((repeat' ((conv => whnf); first | exact trivial | refine Both.mk (by first | with_reducible rfl | exact iN_succ _ | exact congrArg (fun g => Blk.row 4 1 len (bF g)) (Turn.done G.ways G.pos q2) | rfl) ?_)); done)); (focus exact rfl); (focus exact rfl); (focus exact rfl); (rintro k5 q5; rcases fin_of G q5 with e | ⟨kl, r5, s5⟩ | ⟨kl, r5, s5, i5, x5⟩ <;> first | subst e | (have k0 := kneg8 hl8 q5; have kg := kin8 hl8 q5 kl; (fail_if_success (have _i := i5)); skip) | (have k0 := kneg8 hl8 q5; have kg := kin8 hl8 q5 kl; rcases kind_of G q5 with e | ⟨kl', he, hs⟩ | ⟨kl', he, ha, hj, t0, t1, t2, hs⟩ | ⟨kl', he, ha, hj, n0, n1, n2, t0, t1, t2, hs⟩ | ⟨kl', he, ha, hj, n0, n1, n2, hs⟩ <;> first | (subst e; rw [fl] at kl; cases kl) | ((have he' : eb (inOf (inF x) (BitVec.ofNat 64 k5).toNat).o = _ := eqB8 Heb he); (try have ha' : ab (inOf (inF x) (BitVec.ofNat 64 k5).toNat).o = _ := eqB8 Hab ha); (try have hj' : jb (inOf (inF x) (BitVec.ofNat 64 k5).toNat).o = _ := eqB8 Hjb hj); rw [he] at x5))))))
  all_goals first
    | ((with_reducible apply Ob.mk); with_reducible assumption)
    | (with_reducible apply Ob.mk; kernel_rfl)
    | ((with_reducible apply Ob.mk); with_reducible exact hc)
    | ((with_reducible apply Ob.mk); exact ⟨Nat.le_refl _, hc⟩)
    | ((with_reducible apply Ob.mk); exact .inr (.inr rfl))
    | ((with_reducible apply Ob.mk); with_reducible exact hl)
    | ((with_reducible apply Ob.mk); show len < 9223372036854775808; omega)
    | ((with_reducible apply Ob.mk); exact fun _ => rfl)
    | ((with_reducible apply Ob.mk); exact ⟨rfl, fun _ => rfl, fun _ => rfl⟩)
    | ((fail_if_success (have _q := q1)); with_reducible apply Ob.mk; decide)
    | ((conv => whnf); exact rfl)
    | ((with_reducible apply Ob.mk); exact ⟨rfl, (by rw [nat8 hl8 (Nat.le_refl _)]; omega)⟩)
    | ((with_reducible apply Ob.mk); rw [nat8 hl8 (Nat.le_refl _)]; exact ixw0 G.pos)
    | ((with_reducible apply Ob.mk); rw [nat8 hl8 (Nat.le_refl _)]; exact (ixw0 G.pos).2)
    | ((have _q := q1); (fail_if_success (have _q := q2)); first
      | ((with_reducible apply Ob.mk); exact ix8k hl8 q1 (by with_reducible assumption))
      | ((with_reducible apply Ob.mk); exact (ix8k hl8 q1 (by with_reducible assumption)).2)
      | ((with_reducible apply Ob.mk); exact sec_ix G (lt8k hl8 q1 (by with_reducible assumption)) (by with_reducible assumption) (by with_reducible assumption))
      | ((with_reducible apply Ob.mk); exact (sec_ix G (lt8k hl8 q1 (by with_reducible assumption)) (by with_reducible assumption) (by with_reducible assumption)).2)
      | (exfalso; exact sec_dead G (lt8k hl8 q1 (by with_reducible assumption)) (by with_reducible assumption) (by with_reducible assumption) (by with_reducible assumption))
      | ((conv => whnf); refine ⟨k1 + 1, (lt8k hl8 q1 (by with_reducible assumption)), (by have := (lt8k hl8 q1 (by with_reducible assumption)); show len - (k1 + 1) < len - k1; omega), ⟨?_, ?_, ?_, ?_, ?_⟩⟩; (focus ((repeat' ((conv => whnf); first | exact trivial | refine Both.mk (by first | with_reducible rfl | exact iN_succ _ | exact congrArg (Blk.row 4 1 len) (sec_up hl8 (lt8k hl8 q1 (by with_reducible assumption)) (by with_reducible assumption) (by with_reducible assumption)) | exact congrArg (fun g => Blk.row 4 1 len (bF g)) (sec_no (.inl (sec_o hl8 q1 (by with_reducible assumption)))) | exact congrArg (fun g => Blk.row 4 1 len (bF g)) (sec_no (.inr (sec_s hl8 q1 (by with_reducible assumption)))) | rfl) ?_)); done)); (focus ((repeat' ((conv => whnf); first | exact trivial | refine Both.mk (by first | with_reducible rfl | exact iN_succ _ | exact congrArg (Blk.row 4 1 len) (sec_up hl8 (lt8k hl8 q1 (by with_reducible assumption)) (by with_reducible assumption) (by with_reducible assumption)) | exact congrArg (fun g => Blk.row 4 1 len (bF g)) (sec_no (.inl (sec_o hl8 q1 (by with_reducible assumption)))) | exact congrArg (fun g => Blk.row 4 1 len (bF g)) (sec_no (.inr (sec_s hl8 q1 (by with_reducible assumption)))) | rfl) ?_)); done)); (focus exact rfl); (focus exact rfl); (focus exact rfl)))
    | ((have _q := q3); (fail_if_success (have _q := q5)); first
      | ((conv => whnf); refine ⟨(mark (mark g' (BitVec.ofNat 64 k + szV (x (BitVec.ofNat 64 k).toNat).o).toNat) (toK x k).toNat, ((mo || !g' (BitVec.ofNat 64 k + szV (x (BitVec.ofNat 64 k).toNat).o).toNat) || !mark g' (BitVec.ofNat 64 k + szV (x (BitVec.ofNat 64 k).toNat).o).toNat (toK x k).toNat), k + 1), Inner.next2 G.ways G.pos q3 (lt8k hl8 q3.le kl) (atk8 hl8 q3.le c) hs, (by have := (lt8k hl8 q3.le kl); show len - (k + 1) < len - k; omega), ⟨?_, ?_, ?_, ?_, ?_⟩⟩; (focus ((repeat' ((conv => whnf); first | exact trivial | refine Both.mk (by first | with_reducible rfl | exact iN_succ _ | exact congrArg (Blk.row 4 1 len) (bF_upd _ _ _) | (simp only [if0, if1]; rw [bF_upd]; done) | (simp only [if0, if1]; rw [bF_upd, bF_upd]; rfl) | rfl) ?_)); done)); (focus ((repeat' ((conv => whnf); first | exact trivial | refine Both.mk (by first | with_reducible rfl | exact iN_succ _ | exact congrArg (Blk.row 4 1 len) (bF_upd _ _ _) | (simp only [if0, if1]; rw [bF_upd]; done) | (simp only [if0, if1]; rw [bF_upd, bF_upd]; rfl) | rfl) ?_)); done)); (focus exact rfl); (focus exact rfl); (focus exact rfl))
      | ((conv => whnf); refine ⟨(mark g' (toK x k).toNat, (mo || !g' (toK x k).toNat), k + 1), Inner.next1 G.ways G.pos q3 (lt8k hl8 q3.le kl) (atk8 hl8 q3.le c) hs, (by have := (lt8k hl8 q3.le kl); show len - (k + 1) < len - k; omega), ⟨?_, ?_, ?_, ?_, ?_⟩⟩; (focus ((repeat' ((conv => whnf); first | exact trivial | refine Both.mk (by first | with_reducible rfl | exact iN_succ _ | exact congrArg (Blk.row 4 1 len) (bF_upd _ _ _) | (simp only [if0, if1]; rw [bF_upd]; done) | (simp only [if0, if1]; rw [bF_upd, bF_upd]; rfl) | rfl) ?_)); done)); (focus ((repeat' ((conv => whnf); first | exact trivial | refine Both.mk (by first | with_reducible rfl | exact iN_succ _ | exact congrArg (Blk.row 4 1 len) (bF_upd _ _ _) | (simp only [if0, if1]; rw [bF_upd]; done) | (simp only [if0, if1]; rw [bF_upd, bF_upd]; rfl) | rfl) ?_)); done)); (focus exact rfl); (focus exact rfl); (focus exact rfl))
      | ((conv => whnf); refine ⟨(mark g' (BitVec.ofNat 64 k + szV (x (BitVec.ofNat 64 k).toNat).o).toNat, (mo || !g' (BitVec.ofNat 64 k + szV (x (BitVec.ofNat 64 k).toNat).o).toNat), k + 1), Inner.next1 G.ways G.pos q3 (lt8k hl8 q3.le kl) (atk8 hl8 q3.le c) hs, (by have := (lt8k hl8 q3.le kl); show len - (k + 1) < len - k; omega), ⟨?_, ?_, ?_, ?_, ?_⟩⟩; (focus ((repeat' ((conv => whnf); first | exact trivial | refine Both.mk (by first | with_reducible rfl | exact iN_succ _ | exact congrArg (Blk.row 4 1 len) (bF_upd _ _ _) | (simp only [if0, if1]; rw [bF_upd]; done) | (simp only [if0, if1]; rw [bF_upd, bF_upd]; rfl) | rfl) ?_)); done)); (focus ((repeat' ((conv => whnf); first | exact trivial | refine Both.mk (by first | with_reducible rfl | exact iN_succ _ | exact congrArg (Blk.row 4 1 len) (bF_upd _ _ _) | (simp only [if0, if1]; rw [bF_upd]; done) | (simp only [if0, if1]; rw [bF_upd, bF_upd]; rfl) | rfl) ?_)); done)); (focus exact rfl); (focus exact rfl); (focus exact rfl))
      | ((conv => whnf); refine ⟨(g', mo, k + 1), Inner.next0 q3 (lt8k hl8 q3.le kl) (.inr hs), (by have := (lt8k hl8 q3.le kl); show len - (k + 1) < len - k; omega), ⟨?_, ?_, ?_, ?_, ?_⟩⟩; (focus ((repeat' ((conv => whnf); first | exact trivial | refine Both.mk (by first | with_reducible rfl | exact iN_succ _ | exact congrArg (Blk.row 4 1 len) (bF_upd _ _ _) | (simp only [if0, if1]; rw [bF_upd]; done) | (simp only [if0, if1]; rw [bF_upd, bF_upd]; rfl) | rfl) ?_)); done)); (focus ((repeat' ((conv => whnf); first | exact trivial | refine Both.mk (by first | with_reducible rfl | exact iN_succ _ | exact congrArg (Blk.row 4 1 len) (bF_upd _ _ _) | (simp only [if0, if1]; rw [bF_upd]; done) | (simp only [if0, if1]; rw [bF_upd, bF_upd]; rfl) | rfl) ?_)); done)); (focus exact rfl); (focus exact rfl); (focus exact rfl))
      | ((conv => whnf); refine ⟨(g', mo, k + 1), Inner.next0 q3 (lt8k hl8 q3.le kl) (.inl (atk8 hl8 q3.le c)), (by have := (lt8k hl8 q3.le kl); show len - (k + 1) < len - k; omega), ⟨?_, ?_, ?_, ?_, ?_⟩⟩; (focus ((repeat' ((conv => whnf); first | exact trivial | refine Both.mk (by first | with_reducible rfl | exact iN_succ _ | exact congrArg (Blk.row 4 1 len) (bF_upd _ _ _) | (simp only [if0, if1]; rw [bF_upd]; done) | (simp only [if0, if1]; rw [bF_upd, bF_upd]; rfl) | rfl) ?_)); done)); (focus ((repeat' ((conv => whnf); first | exact trivial | refine Both.mk (by first | with_reducible rfl | exact iN_succ _ | exact congrArg (Blk.row 4 1 len) (bF_upd _ _ _) | (simp only [if0, if1]; rw [bF_upd]; done) | (simp only [if0, if1]; rw [bF_upd, bF_upd]; rfl) | rfl) ?_)); done)); (focus exact rfl); (focus exact rfl); (focus exact rfl))
      | ((conv => whnf); refine ⟨(g', t + 1), Turn.next G.ways G.pos q2 (lt8k hl8 q2.le (by with_reducible assumption)) q3, (by have := (lt8k hl8 q2.le (by with_reducible assumption)); show len - (t + 1) < len - t; omega), ⟨?_, ?_, ?_, ?_, ?_⟩⟩; (focus ((repeat' ((conv => whnf); first | exact trivial | refine Both.mk (by first | with_reducible rfl | exact iN_succ _ | rfl) ?_)); done)); (focus ((repeat' ((conv => whnf); first | exact trivial | refine Both.mk (by first | with_reducible rfl | exact iN_succ _ | rfl) ?_)); done)); (focus exact rfl); (focus exact rfl); (focus exact rfl))
      | ((with_reducible apply Ob.mk); with_reducible exact (show 0 ≤ (0#64).toInt ∧ (0#64).toNat < 1 by decide))
      | ((with_reducible apply Ob.mk); with_reducible exact (show (0#64).toNat < 1 by decide))
      | ((with_reducible apply Ob.mk); with_reducible exact (show 0 ≤ (0#64).toInt ∧ (0#64).toNat < 1 + 1 by decide))
      | ((with_reducible apply Ob.mk); with_reducible exact (show (0#64).toNat < 1 + 1 by decide))
      | ((with_reducible apply Ob.mk); with_reducible exact (show 0 ≤ (0#64).toInt ∧ (0#64).toNat < 2 by decide))
      | ((with_reducible apply Ob.mk); with_reducible exact (show (0#64).toNat < 2 by decide))
      | ((with_reducible apply Ob.mk); with_reducible exact (show 0 ≤ (0#64 + 1#64).toInt ∧ (0#64 + 1#64).toNat < 1 + 1 by decide))
      | ((with_reducible apply Ob.mk); with_reducible exact (show (0#64 + 1#64).toNat < 1 + 1 by decide))
      | ((with_reducible apply Ob.mk); with_reducible exact (show 0 ≤ (0#64 + 1#64).toInt ∧ (0#64 + 1#64).toNat < 2 by decide))
      | ((with_reducible apply Ob.mk); with_reducible exact (show (0#64 + 1#64).toNat < 2 by decide))
      | ((with_reducible apply Ob.mk); exact ⟨Nat.le_refl _, hl8, rfl, (ix8k hl8 q3.le kl).2⟩)
      | ((with_reducible apply Ob.mk); exact ⟨Nat.le_refl _, ⟨hl8, rfl, (ix8k hl8 q3.le kl).2⟩, hj, t0, t1⟩)
      | ((with_reducible apply Ob.mk); exact ⟨Nat.le_refl _, ⟨hl8, rfl, (ix8k hl8 q3.le kl).2⟩, ⟨n0, n1⟩, t0, t1⟩)
      | ((with_reducible apply Ob.mk); exact ⟨Nat.le_refl _, ⟨hl8, rfl, (ix8k hl8 q3.le kl).2⟩, n0, n1⟩)
      | ((with_reducible apply Ob.mk); exact ix8k hl8 q3.le kl)
      | ((with_reducible apply Ob.mk); exact (ix8k hl8 q3.le kl).2)
      | ((with_reducible apply Ob.mk); (try simp only [if0, if1]); first | exact t2 | exact n2 | exact t2.2 | exact n2.2)
      | ((with_reducible apply Ob.mk); (with_reducible apply cap8); decide)
      | ((with_reducible apply Ob.mk); (with_reducible apply big8); decide))
    | ((have _q := q5); first
      | ((conv => whnf); refine ⟨k5 + 1, (lt8k hl8 q5 kl), (by have := (lt8k hl8 q5 kl); show len - (k5 + 1) < len - k5; omega), ⟨?_, ?_, ?_, ?_, ?_⟩⟩; (focus ((repeat' ((conv => whnf); first | exact trivial | refine Both.mk (by first | with_reducible rfl | exact iN_succ _ | rfl) ?_)); done)); (focus ((repeat' ((conv => whnf); first | exact trivial | refine Both.mk (by first | with_reducible rfl | exact iN_succ _ | rfl) ?_)); done)); (focus exact rfl); (focus exact rfl); (focus exact rfl))
      | ((with_reducible apply Ob.mk); with_reducible exact (show 0 ≤ (0#64).toInt ∧ (0#64).toNat < 1 by decide))
      | ((with_reducible apply Ob.mk); with_reducible exact (show (0#64).toNat < 1 by decide))
      | ((with_reducible apply Ob.mk); with_reducible exact (show 0 ≤ (0#64).toInt ∧ (0#64).toNat < 1 + 1 by decide))
      | ((with_reducible apply Ob.mk); with_reducible exact (show (0#64).toNat < 1 + 1 by decide))
      | ((with_reducible apply Ob.mk); with_reducible exact (show 0 ≤ (0#64).toInt ∧ (0#64).toNat < 2 by decide))
      | ((with_reducible apply Ob.mk); with_reducible exact (show (0#64).toNat < 2 by decide))
      | ((with_reducible apply Ob.mk); with_reducible exact (show 0 ≤ (0#64 + 1#64).toInt ∧ (0#64 + 1#64).toNat < 1 + 1 by decide))
      | ((with_reducible apply Ob.mk); with_reducible exact (show (0#64 + 1#64).toNat < 1 + 1 by decide))
      | ((with_reducible apply Ob.mk); with_reducible exact (show 0 ≤ (0#64 + 1#64).toInt ∧ (0#64 + 1#64).toNat < 2 by decide))
      | ((with_reducible apply Ob.mk); with_reducible exact (show (0#64 + 1#64).toNat < 2 by decide))
      | ((with_reducible apply Ob.mk); exact ⟨Nat.le_refl _, hl8, rfl, (ix8k hl8 q5 kl).2⟩)
      | ((with_reducible apply Ob.mk); exact ⟨Nat.le_refl _, ⟨hl8, rfl, (ix8k hl8 q5 kl).2⟩, hj, t0, t1⟩)
      | ((with_reducible apply Ob.mk); exact ⟨Nat.le_refl _, ⟨hl8, rfl, (ix8k hl8 q5 kl).2⟩, ⟨n0, n1⟩, t0, t1⟩)
      | ((with_reducible apply Ob.mk); exact ⟨Nat.le_refl _, ⟨hl8, rfl, (ix8k hl8 q5 kl).2⟩, n0, n1⟩)
      | ((with_reducible apply Ob.mk); exact ix8k hl8 q5 kl)
      | ((with_reducible apply Ob.mk); exact (ix8k hl8 q5 kl).2)
      | ((with_reducible apply Ob.mk); (with_reducible apply cap8); decide)
      | ((with_reducible apply Ob.mk); (with_reducible apply big8); decide))
    | (with_reducible apply Ob.mk; skip)
    | ((conv => whnf); skip)
set_option maxRecDepth 100000 in
theorem ProgsWay_main0 (ad : Option Addr) (cap : Nat) (m : BitVec 64) :
    FI Try.prog (C_w endB alwB jmpB) Try.f5 1 [.one (.raw (.slice ad 0 cap)), .one (.b64 true m)] [] (fun r _ => r = .one (.bool true)) := Way_N endB alwB jmpB ad cap m (chk_L (.inl rfl))
set_option maxRecDepth 100000 in
theorem ProgsWay_main1 (T : TypeId) (len cap : Nat) (x : IT) (m : BitVec 64) (hl : len < 9223372036854775808) (h0 : 0 < len) :
    FI Try.prog (C_w endB alwB jmpB) Try.f5 1 [.one (.slc 0 0 len cap), .one (.b64 true m)] [(0, .ro T [.seg 5 len (inF x)])] (fun r _ => r = .one (.bool true)) := by
  by_cases hb : 192 < len
  · exact Way_A endB alwB jmpB T len cap x m hl (.inr (.inl ⟨hb, hl⟩)) 0#64 3#64 (chk_L (.inr hb)) (by decide) (by decide)
  have h192 : len ≤ 192 := by omega
  have hc : (len ≤ 192 ∧ inF x = inF (inOf (inF x))) ∨ (192 < len ∧ len < 9223372036854775808) ∨ len = 0 := .inl ⟨h192, rfl⟩
  obtain ⟨⟨a, e⟩, hA⟩ : ∃ p, chk4 x len m true = p := ⟨_, rfl⟩
  have K1 := chk_ok (x := x) (n := len) (m := m) (w := true)
  have K2 := good_of (x := x) (n := len) (m := m) (w := true)
  have K3 := chk_at x len m true
  rw [hA] at K1 K2 K3
  dsimp only at K1 K2 K3
  by_cases e0 : e = 0#64
  · subst e0
    obtain rfl := K1 rfl
    have g1 := slt_nat (a := 192) (b := len) (by decide) (by omega)
    rw [decide_eq_false hb] at g1
    have g2 := slt_nat (a := len) (b := len) (by omega) (by omega)
    rw [decide_eq_false (Nat.lt_irrefl _)] at g2
    exact Way_G endB alwB jmpB T len cap x m hl hc rfl rfl rfl h192 (by omega) (K2 rfl) hA (len_zero (by omega) (by omega)) g1 g1 g2
  · have e0' : (e != 0#64) = true := bne_iff_ne.2 e0
    have zero : a = 0#64 → FI Try.prog (C_w endB alwB jmpB) Try.f5 1 [.one (.slc 0 0 len cap), .one (.b64 true m)] [(0, .ro T [.seg 5 len (inF x)])] (fun r _ => r = .one (.bool true)) := fun ha =>
      Way_A endB alwB jmpB T len cap x m hl hc a e hA e0' (by rw [ha]; rfl)
    rcases K3 with ha | ⟨k, hk, -, ha⟩
    · exact zero ha
    · by_cases hk0 : k = 0
      · exact zero (by rw [ha, hk0])
      · have p0 : (a == 0#64) = false := by rw [ha]; exact len_zero (by omega) hk0
        have p1 : (0#64).slt a = true := by rw [ha]; exact (slt_nat (a := 0) (b := k) (by decide) (by omega)).trans (decide_eq_true (by omega))
        have p2 : a.slt (BitVec.ofNat 64 len) = true := by rw [ha]; exact (slt_nat (by omega) (by omega)).trans (decide_eq_true hk)
        exact Way_B endB alwB jmpB T len cap x m hl hc a e hA e0' p0 p1 p2
end Go.Proofs.Ytdaioplfgbgggaa
