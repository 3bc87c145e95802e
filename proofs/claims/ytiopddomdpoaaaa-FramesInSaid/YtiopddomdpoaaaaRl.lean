/-
  Chapter 20: the law FramesIn, as the evaluator leaves it. Conditions: as typed.
-/
import Derived.Test.YtiopddomdpoaaaaRj
namespace Go.Proofs.Ytiopddomdpoaaaa
open Go.Ep Go.RowKit
set_option linter.unusedVariables false
set_option linter.unusedSimpArgs false
theorem n_self {r : RG} {g : PG} (hr : ∀ j, okS (r.v j)) (hg : ∀ j, okS (g.v j)) : (!inF (rOf (rgF r)) (rOf (rgF r)) (gOf (plF g)) (gOf (plF g))) = false := by rw [rOf_rgF, gOf_plF, inF_self hr hg]; rfl
theorem n_drop {r : RG} {g : PG} (hr : ∀ j, okS (r.v j)) (hg : ∀ j, okS (g.v j)) (q : Nat) : (!inF (rOf (rgF ((rOf (rgF r)).put q vZ))) (rOf (rgF r)) (gOf (plF (gOf (plF g)))) (gOf (plF g))) = false := by rw [rOf_rgF, rOf_rgF, gOf_plF, gOf_plF, inF_drop hr hg]; rfl
theorem n_back {r : RG} {g : PG} (hr : ∀ j, okS (r.v j)) (hg : ∀ j, okS (g.v j)) {q : Nat} (hq : q < 11) : (!inF (rOf (rgF r)) (rOf (rgF ((rOf (rgF r)).put q vZ))) (gOf (plF g)) (gOf (plF (gOf (plF g)))) == (r.k q == 0#64)) = false := by
  rw [rOf_rgF, rOf_rgF, gOf_plF, gOf_plF, inF_back hr hg hq]; cases (r.k q == 0#64) <;> rfl
theorem ix_q : ∀ a : BitVec 8, (0#64).sle ((BitVec.setWidth 64 a).srem 11#64) = true ∧ ((BitVec.setWidth 64 a).srem 11#64).slt 11#64 = true := by decide +kernel
set_option maxRecDepth 100000 in
set_option maxHeartbeats 8000000 in
theorem In_main (a1 : BitVec 8) (T : TypeId) (len cap : Nat) (hl : len < 9223372036854775808) (x : AT) :
    FI Try.prog (tabM noData tb_21 ms_21) Try.f6 1 [.one (.slc 0 0 len cap), .one (.b8 false a1)] [(0, .ro T [.seg 11 len (atF x)])] (fun r _ => r = .one (.bool true)) := by
  have hr := okS_frR (atOf (atF x)) len
  have hg := okS_frP (atOf (atF x)) len
  repeat' (first
    | (with_reducible apply Given.mk; intro h; (try exact absurd h (by decide)); (try exact absurd (h.symm.trans (n_self hr hg)) (by decide)); (try exact absurd (h.symm.trans (n_drop hr hg _)) (by decide)); skip)
    | ((conv => whnf); first
      | with_reducible apply Both.mk))
  all_goals first
    | (with_reducible apply Ob.mk; kernel_rfl)
    | (with_reducible apply Ob.mk; decide)
    | ((with_reducible apply Ob.mk); exact hl)
    | ((with_reducible apply Ob.mk); exact ⟨Nat.le_refl _, hl, .inr rfl⟩)
    | ((with_reducible apply Ob.mk); exact ⟨rfl, rfl, rfl, ix_q a1⟩)
    | ((with_reducible apply Ob.mk); exact ⟨rfl, rfl, rfl, rfl⟩)
    | (exact absurd (h.symm.trans (n_back hr hg (put_ix (ix_q a1).1 (ix_q a1).2).2)) (by decide))
    | ((with_reducible apply Ob.mk); exact put_ix (ix_q a1).1 (ix_q a1).2)
    | ((with_reducible apply Ob.mk); exact (put_ix (ix_q a1).1 (ix_q a1).2).2)
    | (with_reducible apply Ob.mk; skip)
    | ((conv => whnf); skip)
set_option maxRecDepth 100000 in
set_option maxHeartbeats 8000000 in
theorem In_main0 (a1 : BitVec 8) (ad : Option Addr) (cap : Nat) :
    FI Try.prog (tabM noData tb_21 ms_21) Try.f6 1 [.one (.raw (.slice ad 0 cap)), .one (.b8 false a1)] [] (fun r _ => r = .one (.bool true)) := by
  have hr := okS_frR (atOf (fun _ => [])) 0
  have hg := okS_frP (atOf (fun _ => [])) 0
  repeat' (first
    | (with_reducible apply Given.mk; intro h; (try exact absurd h (by decide)); (try exact absurd (h.symm.trans (n_self hr hg)) (by decide)); (try exact absurd (h.symm.trans (n_drop hr hg _)) (by decide)); skip)
    | ((conv => whnf); first
      | with_reducible apply Both.mk))
  all_goals first
    | (with_reducible apply Ob.mk; kernel_rfl)
    | (with_reducible apply Ob.mk; decide)
    | ((with_reducible apply Ob.mk); exact ⟨by decide, .inl rfl⟩)
    | ((with_reducible apply Ob.mk); exact ⟨rfl, rfl, rfl, ix_q a1⟩)
    | ((with_reducible apply Ob.mk); exact ⟨rfl, rfl, rfl, rfl⟩)
    | (exact absurd (h.symm.trans (n_back hr hg (put_ix (ix_q a1).1 (ix_q a1).2).2)) (by decide))
    | ((with_reducible apply Ob.mk); exact put_ix (ix_q a1).1 (ix_q a1).2)
    | ((with_reducible apply Ob.mk); exact (put_ix (ix_q a1).1 (ix_q a1).2).2)
    | (with_reducible apply Ob.mk; skip)
    | ((conv => whnf); skip)
end Go.Proofs.Ytiopddomdpoaaaa
