/-
  Chapter 04: ProgsCheck, as the evaluator leaves it. Conditions: as typed.
-/
import Derived.Test.YtdaioplfgbgggaaOz
import Derived.Test.YtdaioplfgbgggaaOf
namespace Go.Proofs.Ytdaioplfgbgggaa
open Go.Ep Go.RowKit
set_option linter.unusedVariables false
set_option linter.unusedSimpArgs false
abbrev tb_q : List (Nat × Sp) := tb_p
noncomputable abbrev ms_q : List (Nat × SpM) := [(12, spS 5 sq_chk), (11, spS 5 sq_chk)]
noncomputable abbrev FSq : List (Nat × Func) := [(13, Try.f13)]
noncomputable abbrev C_q : Table := tabMI Try.prog noData tb_q ms_q FSq 3
theorem CM_q : CSound Try.prog anyWorld (tabM noData tb_q ms_q) := ((CSound.startM C_p).consM e_Check).consM e_RefCheck
theorem fs_q : FsOK Try.prog FSq := FsOK.cons Try.func13 (by kernel_rfl) (by kernel_rfl) FsOK.nil
theorem CI_q : CSound Try.prog anyWorld C_q := CSound.tabMI CM_q (by kernel_rfl) fs_q 3
theorem same_no {y : IN} (h : (!(y.o == y.o && (y.d == y.d && (y.s == y.s && (y.f == y.f && y.i == y.i))))) = true) : False := by simp at h
set_option maxRecDepth 100000 in
set_option maxHeartbeats 8000000 in
theorem PCheck_A1 (T : TypeId) (len cap : Nat) (x : IT) (m : BitVec 64) (hl : len < 9223372036854775808) (f0 : (200#64).slt (BitVec.ofNat 64 len) = true) :
    FI Try.prog C_q Try.f3 1 [.one (.slc 0 0 len cap), .one (.b64 true m)] [(0, .ro T [.seg 5 len (inF x)])] (fun r _ => r = .one (.bool true)) := by
  repeat' (first
    | (with_reducible apply Given.mk; intro h; (try simp only [inOf_inF, f0, BitVec.reduceBNe, BitVec.reduceBEq, beq_self_eq_true, bne_self_eq_false, Bool.or_self, Bool.and_self, decide_true, reduceCtorEq, Bool.true_eq_false, Bool.false_eq_true, Bool.not_true, Bool.not_false] at h); (try ((fail_if_success (have _q := q1)); exact absurd h (by decide))))
    | ((conv => whnf); first
      | with_reducible apply Both.mk

      | refine LoopP.times 4 ?_))
  all_goals first
    | (with_reducible apply Ob.mk; kernel_rfl)
    | ((with_reducible apply Ob.mk); exact ⟨Nat.le_refl _, by omega, .inr rfl⟩)
    | ((with_reducible apply Ob.mk); exact ⟨by decide, .inl rfl⟩)
    | ((with_reducible apply Ob.mk); exact ⟨Nat.le_refl _, by decide, .inl rfl⟩)
    | ((with_reducible apply Ob.mk); show 0 + len < 65536; omega)
    | ((with_reducible apply Ob.mk); exact Nat.le_refl _)
    | ((with_reducible apply Ob.mk); show len < 9223372036854775808; omega)
    | ((with_reducible apply Ob.mk); exact fun _ => rfl)
    | ((with_reducible apply Ob.mk); exact ⟨rfl, fun _ => rfl, fun _ => rfl⟩)
    | (with_reducible apply Ob.mk; decide)
    | ((conv => whnf); exact rfl)
    | (with_reducible apply Ob.mk; skip)
    | ((conv => whnf); skip)
set_option maxRecDepth 100000 in
set_option maxHeartbeats 8000000 in
theorem PCheck_B1 (T : TypeId) (len cap : Nat) (x : IT) (m : BitVec 64) (hl : len ≤ 8000) (fb : Nat.beq len 0 = false) (f0 : (200#64).slt (BitVec.ofNat 64 len) = false) :
    FI Try.prog C_q Try.f3 1 [.one (.slc 0 0 len cap), .one (.b64 true m)] [(0, .ro T [.seg 5 len (inF x)])] (fun r _ => r = .one (.bool true)) := by
  repeat' (first
    | (with_reducible apply Given.mk; intro h; (try simp only [inOf_inF, f0, fb, BitVec.reduceBNe, BitVec.reduceBEq, beq_self_eq_true, bne_self_eq_false, Bool.or_self, Bool.and_self, decide_true, reduceCtorEq, Bool.true_eq_false, Bool.false_eq_true, Bool.not_true, Bool.not_false] at h); (try ((fail_if_success (have _q := q1)); exact absurd h (by decide))))
    | ((conv => whnf); first
      | with_reducible apply Both.mk
      | ((fail_if_success (have _q := q1)); refine LoopP.mk (Nat) (fun k => k ≤ len) ((fun k => mkS (Try.f13).ntmps [(0, .one (.rsl 20 len)), (1, .one (.slc 0 0 len cap)), (5, iN k)] [(20, .row 37 5 len (inF x)), (0, .ro T [.seg 5 len (inF x)])])) (fun k => len - k) ⟨0, Nat.zero_le _, ⟨?_, ?_, ?_, ?_, ?_⟩⟩ ?_; (focus ((repeat' ((conv => whnf); first | exact trivial | refine Both.mk (by first | with_reducible rfl | exact iN_succ _ | rfl) ?_)); done)); (focus ((repeat' ((conv => whnf); first | exact trivial | refine Both.mk (by first | with_reducible rfl | exact iN_succ _ | rfl) ?_)); done)); (focus exact rfl); (focus exact rfl); (focus exact rfl); (rintro k q1))
      | refine LoopP.times 4 ?_))
  all_goals first
    | (with_reducible apply Ob.mk; kernel_rfl)
    | ((with_reducible apply Ob.mk); exact ⟨Nat.le_refl _, by omega, .inr rfl⟩)
    | ((with_reducible apply Ob.mk); exact ⟨by decide, .inl rfl⟩)
    | ((with_reducible apply Ob.mk); exact ⟨Nat.le_refl _, by decide, .inl rfl⟩)
    | ((with_reducible apply Ob.mk); show 0 + len < 65536; omega)
    | ((with_reducible apply Ob.mk); exact Nat.le_refl _)
    | ((with_reducible apply Ob.mk); show len < 9223372036854775808; omega)
    | ((with_reducible apply Ob.mk); exact fun _ => rfl)
    | ((with_reducible apply Ob.mk); exact ⟨rfl, fun _ => rfl, fun _ => rfl⟩)
    | (with_reducible apply Ob.mk; decide)
    | ((conv => whnf); exact rfl)
    | ((with_reducible apply Ob.mk); exact ix8k hl q1 (by with_reducible assumption))
    | ((with_reducible apply Ob.mk); exact (ix8k hl q1 (by with_reducible assumption)).2)
    | (exfalso; exact same_no (by with_reducible assumption))
    | ((conv => whnf); refine ⟨k + 1, (lt8k hl q1 (by with_reducible assumption)), (by have := (lt8k hl q1 (by with_reducible assumption)); show len - (k + 1) < len - k; omega), ⟨?_, ?_, ?_, ?_, ?_⟩⟩; (focus ((repeat' ((conv => whnf); first | exact trivial | refine Both.mk (by first | with_reducible rfl | exact iN_succ _ | rfl) ?_)); done)); (focus ((repeat' ((conv => whnf); first | exact trivial | refine Both.mk (by first | with_reducible rfl | exact iN_succ _ | rfl) ?_)); done)); (focus exact rfl); (focus exact rfl); (focus exact rfl))
    | (with_reducible apply Ob.mk; skip)
    | ((conv => whnf); skip)
set_option maxRecDepth 100000 in
set_option maxHeartbeats 8000000 in
theorem PCheck_B0 (ad : Option Addr) (cap : Nat) (m : BitVec 64) (f0 : (200#64).slt 0#64 = false) :
    FI Try.prog C_q Try.f3 1 [.one (.raw (.slice ad 0 cap)), .one (.b64 true m)] [] (fun r _ => r = .one (.bool true)) := by
  repeat' (first
    | (with_reducible apply Given.mk; intro h; (try simp only [inOf_inF, f0, BitVec.reduceBNe, BitVec.reduceBEq, beq_self_eq_true, bne_self_eq_false, Bool.or_self, Bool.and_self, decide_true, reduceCtorEq, Bool.true_eq_false, Bool.false_eq_true, Bool.not_true, Bool.not_false] at h); (try ((fail_if_success (have _q := q1)); exact absurd h (by decide))))
    | ((conv => whnf); first
      | with_reducible apply Both.mk

      | refine LoopP.times 4 ?_))
  all_goals first
    | (with_reducible apply Ob.mk; kernel_rfl)
    | ((with_reducible apply Ob.mk); exact ⟨Nat.le_refl _, by omega, .inr rfl⟩)
    | ((with_reducible apply Ob.mk); exact ⟨by decide, .inl rfl⟩)
    | ((with_reducible apply Ob.mk); exact ⟨Nat.le_refl _, by decide, .inl rfl⟩)
    | ((with_reducible apply Ob.mk); show 0 + len < 65536; omega)
    | ((with_reducible apply Ob.mk); exact Nat.le_refl _)
    | ((with_reducible apply Ob.mk); show len < 9223372036854775808; omega)
    | ((with_reducible apply Ob.mk); exact fun _ => rfl)
    | ((with_reducible apply Ob.mk); exact ⟨rfl, fun _ => rfl, fun _ => rfl⟩)
    | (with_reducible apply Ob.mk; decide)
    | ((conv => whnf); exact rfl)
    | (with_reducible apply Ob.mk; skip)
    | ((conv => whnf); skip)
set_option maxRecDepth 100000 in
theorem ProgsCheck_main1 (T : TypeId) (len cap : Nat) (x : IT) (m : BitVec 64) (hl : len < 9223372036854775808) (h0 : 0 < len) :
    FI Try.prog C_q Try.f3 1 [.one (.slc 0 0 len cap), .one (.b64 true m)] [(0, .ro T [.seg 5 len (inF x)])] (fun r _ => r = .one (.bool true)) := by
  have g0 := slt_nat (a := 200) (b := len) (by decide) hl
  by_cases h200 : 200 < len
  · exact PCheck_A1 T len cap x m hl (g0.trans (decide_eq_true h200))
  · exact PCheck_B1 T len cap x m (by omega) (by cases len with | zero => omega | succ n => rfl) (g0.trans (decide_eq_false h200))
set_option maxRecDepth 100000 in
theorem ProgsCheck_main0 (ad : Option Addr) (cap : Nat) (m : BitVec 64) :
    FI Try.prog C_q Try.f3 1 [.one (.raw (.slice ad 0 cap)), .one (.b64 true m)] [] (fun r _ => r = .one (.bool true)) := PCheck_B0 ad cap m (by decide)
end Go.Proofs.Ytdaioplfgbgggaa
