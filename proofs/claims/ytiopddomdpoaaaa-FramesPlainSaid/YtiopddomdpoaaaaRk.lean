/-
  Chapter 20: the law FramesPlain, as the evaluator leaves it. Conditions: as typed.
-/
import Derived.Test.YtiopddomdpoaaaaRj
namespace Go.Proofs.Ytiopddomdpoaaaa
open Go.Ep Go.RowKit
set_option linter.unusedVariables false
set_option linter.unusedSimpArgs false
theorem sizeV_0 {mp z : BitVec 64} (h : (mp != 0#64) = true) : sizeV mp z = 0#64 := by
  have : (mp.slt 0#64 || (1#64).sle mp) = true := by
    cases h1 : mp.slt 0#64 with
    | true => rfl
    | false =>
      cases h2 : (1#64).sle mp with
      | true => rfl
      | false => rw [one_ix h1 h2] at h; cases h
  rw [sizeV, if_pos this]
theorem sizeV_1 {mp z : BitVec 64} (h : (mp != 0#64) = false) : sizeV mp z = z := by
  obtain rfl : mp = 0#64 := by simpa using h
  rfl
theorem plain_eq {g : PG} {v : VV} {n z sz s : BitVec 64} {p q : Bool} (hp : p = (v.k == 0#64)) (hq : (v.k != 3#64 && (v.k != 5#64 && v.k != 7#64)) = !q) (hz : (v.mp != 0#64) = true ∧ sz = 0#64 ∨ (v.mp != 0#64) = false ∧ sz = z) (hs : s = if v.k == 3#64 then plR g v.off n else 0#64) :
    (plainV g v n z == refP p q (vReach v 0#64 n sz) s) = true := by
  have e : sizeV v.mp z = sz := by
    rcases hz with ⟨h, rfl⟩ | ⟨h, rfl⟩
    · exact sizeV_0 h
    · exact sizeV_1 h
  rw [plainV, refP, e, hq, hs, hp, beq_iff_eq]
set_option maxRecDepth 100000 in
set_option maxHeartbeats 8000000 in
theorem Plain_main (a1 a2 a3 a4 a5 : BitVec 64) (a6 : BitVec 32) (a7 a8 a9 aa ab : BitVec 64) (h0 h1 : BitVec 16) (T : TypeId) (len cap : Nat) (hl : len < 9223372036854775808) (x : AT) :
    FI Try.prog (tabM noData tb_21 ms_21) Try.f5 1 [.one (.slc 0 0 len cap), .agg [.b64 true a1, .b64 true a2, .b64 true a3, .b64 true a4, .b64 true a5, .b32 false a6, .b64 false a7, .b64 false a8, .b64 false a9, .b64 false aa, .b64 false ab], .agg [.b16 false h0, .b16 false h1]] [(0, .ro T [.seg 11 len (atF x)])] (fun r _ => r = .one (.bool true)) := by
  repeat' (first
    | (with_reducible apply Given.mk; intro h; (try exact absurd h (by decide)))
    | ((conv => whnf); first
      | with_reducible apply Both.mk))
  all_goals first
    | (with_reducible apply Ob.mk; kernel_rfl)
    | (with_reducible apply Ob.mk; decide)
    | ((with_reducible apply Ob.mk); exact hl)
    | ((with_reducible apply Ob.mk); exact ⟨Nat.le_refl _, hl, .inr rfl⟩)
    | ((with_reducible apply Ob.mk); exact ⟨rfl, rfl, rfl⟩)
    | (exfalso; exact absurd ((by assumption : (a1 == 3#64) = true).symm.trans (by assumption : (a1 == 3#64) = false)) (by decide))
    | ((conv => whnf); exfalso; refine absurd (h.symm.trans (plain_eq (by simp only [*]) (by simp only [bne, *, Bool.and_true, Bool.and_false, Bool.true_and, Bool.false_and, Bool.or_true, Bool.true_or, Bool.or_false, Bool.false_or, Bool.not_true, Bool.not_false, Bool.false_eq_true, Bool.true_eq_false, if_true, if_false, reduceCtorEq]) (by first | exact .inl ⟨by assumption, rfl⟩ | exact .inr ⟨by assumption, rfl⟩) (by simp only [*]; rfl))) (by decide))
    | (with_reducible apply Ob.mk; skip)
    | ((conv => whnf); skip)
set_option maxRecDepth 100000 in
set_option maxHeartbeats 8000000 in
theorem Plain_main0 (a1 a2 a3 a4 a5 : BitVec 64) (a6 : BitVec 32) (a7 a8 a9 aa ab : BitVec 64) (h0 h1 : BitVec 16) (ad : Option Addr) (cap : Nat) :
    FI Try.prog (tabM noData tb_21 ms_21) Try.f5 1 [.one (.raw (.slice ad 0 cap)), .agg [.b64 true a1, .b64 true a2, .b64 true a3, .b64 true a4, .b64 true a5, .b32 false a6, .b64 false a7, .b64 false a8, .b64 false a9, .b64 false aa, .b64 false ab], .agg [.b16 false h0, .b16 false h1]] [] (fun r _ => r = .one (.bool true)) := by
  repeat' (first
    | (with_reducible apply Given.mk; intro h; (try exact absurd h (by decide)))
    | ((conv => whnf); first
      | with_reducible apply Both.mk))
  all_goals first
    | (with_reducible apply Ob.mk; kernel_rfl)
    | (with_reducible apply Ob.mk; decide)
    | ((with_reducible apply Ob.mk); exact ⟨by decide, .inl rfl⟩)
    | ((with_reducible apply Ob.mk); exact ⟨rfl, rfl, rfl⟩)
    | (exfalso; exact absurd ((by assumption : (a1 == 3#64) = true).symm.trans (by assumption : (a1 == 3#64) = false)) (by decide))
    | ((conv => whnf); exfalso; refine absurd (h.symm.trans (plain_eq (by simp only [*]) (by simp only [bne, *, Bool.and_true, Bool.and_false, Bool.true_and, Bool.false_and, Bool.or_true, Bool.true_or, Bool.or_false, Bool.false_or, Bool.not_true, Bool.not_false, Bool.false_eq_true, Bool.true_eq_false, if_true, if_false, reduceCtorEq]) (by first | exact .inl ⟨by assumption, rfl⟩ | exact .inr ⟨by assumption, rfl⟩) (by simp only [*]; rfl))) (by decide))
    | (with_reducible apply Ob.mk; skip)
    | ((conv => whnf); skip)
end Go.Proofs.Ytiopddomdpoaaaa
