/-
  Chapter 04: the document's Check, outside, and the lengths that may not be; its contract. Conditions: as typed.
-/
import Derived.Test.YthkgakelgdncjaaDoorOy
import Derived.Test.YthkgakelgdncjaaDoorOx
namespace Go.Proofs.YthkgakelgdncjaaDoor
open Go.Ep Go.RowKit
set_option linter.unusedVariables false
set_option linter.unusedSimpArgs false
set_option maxRecDepth 100000 in
set_option maxHeartbeats 32000000 in
theorem Ref_false (T : TypeId) (len cap : Nat) (x : IT) (m : BitVec 64) (hl : len ≤ 8000) (h0 : 0 < len) (hn : ¬ (len = 0 ∨ mostN false < len)) (f0 : (BitVec.ofNat 64 len).slt 1#64 = false) (f1 : (192#64).slt (BitVec.ofNat 64 len) = false) (f2 : (64#64).slt (BitVec.ofNat 64 len) = false) :
    FI Tryd.prog C_r Tryd.f11 1 [.one (.slc 0 0 len cap), .one (.b64 true m), .one (.bool false)] [(0, .ro T [.seg 5 len (inF x)])] (fun r _ => r = ansC x len m false) := by
  repeat' (first
    | (with_reducible apply Given.mk; intro h; (try (have b1 := first_ge hl q1.1.2 h)); (try (have b2 := first_ge hl q2.1.2 h)); (try (have e4 : len = k := ge8k hl q4.le h; subst e4)); (try (have k0 := k_neg hl q4.le)); (try (have kl := k_in hl q4.le h)); (try (have b5 := first_ge hl q5.1.2 h)); (try simp only [f0, f1, f2, BitVec.reduceBNe, BitVec.reduceBEq, reduceCtorEq, Bool.true_eq_false, Bool.false_eq_true, Bool.not_true, Bool.not_false] at h); (try ((fail_if_success (have _q := q1)); exact absurd h (by decide))); (try simp only [inOf_inF, k0, Bool.not_true, Bool.not_false, Bool.true_eq_false, Bool.false_eq_true, if0', if1', ite_self, reduceCtorEq] at h); (try simp only [inOf_inF, kl, Bool.not_true, Bool.not_false, Bool.true_eq_false, Bool.false_eq_true, if0', if1', ite_self, reduceCtorEq] at h); (try simp only [inOf_inF, c, Bool.not_true, Bool.not_false, Bool.true_eq_false, Bool.false_eq_true, if0', if1', ite_self, reduceCtorEq] at h); (try simp only [inOf_inF, he, Bool.not_true, Bool.not_false, Bool.true_eq_false, Bool.false_eq_true, if0', if1', ite_self, reduceCtorEq] at h); (try simp only [inOf_inF, ha, Bool.not_true, Bool.not_false, Bool.true_eq_false, Bool.false_eq_true, if0', if1', ite_self, reduceCtorEq] at h); (try simp only [inOf_inF, hj, Bool.not_true, Bool.not_false, Bool.true_eq_false, Bool.false_eq_true, if0', if1', ite_self, reduceCtorEq] at h); (try simp only [inOf_inF, n1, Bool.not_true, Bool.not_false, Bool.true_eq_false, Bool.false_eq_true, if0', if1', ite_self, reduceCtorEq] at h); (try simp only [inOf_inF, t0, Bool.not_true, Bool.not_false, Bool.true_eq_false, Bool.false_eq_true, if0', if1', ite_self, reduceCtorEq] at h); (try simp only [inOf_inF, t1, Bool.not_true, Bool.not_false, Bool.true_eq_false, Bool.false_eq_true, if0', if1', ite_self, reduceCtorEq] at h); (try ((have _q := q4); (first | exact absurd (show (0#64).slt 0#64 = true from h) (by decide) | exact absurd (show (0#64).slt 1#64 = false from h) (by decide) | exact absurd (show (0#64).slt 2#64 = false from h) (by decide) | exact absurd (show (0#64 + 1#64).slt 0#64 = true from h) (by decide) | exact absurd (show (0#64 + 1#64).slt 1#64 = true from h) (by decide) | exact absurd (show (0#64 + 1#64).slt 2#64 = false from h) (by decide) | exact absurd (show (0#64 + 1#64 + 1#64).slt 0#64 = true from h) (by decide) | exact absurd (show (0#64 + 1#64 + 1#64).slt 1#64 = true from h) (by decide) | exact absurd (show (0#64 + 1#64 + 1#64).slt 2#64 = true from h) (by decide) |  skip))))
    | ((conv => whnf); first
      | with_reducible apply Both.mk
      | ((fail_if_success (have _q := q1)); refine LoopP.mk (Nat) (fun a => (hf x a = false ∧ a ≤ len + 1) ∧ ∀ j, j < a → badA x len m false j = false) ((fun a => mkS (Tryd.f11).ntmps [(0, .one (.slc 0 0 len cap)), (1, .one (.b64 true m)), (2, .one (.bool false)), (8, iN a)] [(0, .ro T [.seg 5 len (inF x)])])) (fun a => len + 2 - a) ⟨0, ⟨⟨rfl, Nat.zero_le _⟩, fun j hj => absurd hj (by omega)⟩, ⟨?_, ?_, ?_, ?_, ?_⟩⟩ ?_; (focus ((repeat' ((conv => whnf); first | exact trivial | refine Both.mk (by first | with_reducible rfl | exact iN_succ _ | rfl) ?_)); done)); (focus ((repeat' ((conv => whnf); first | exact trivial | refine Both.mk (by first | with_reducible rfl | exact iN_succ _ | rfl) ?_)); done)); (focus exact rfl); (focus exact rfl); (focus exact rfl); (rintro a1 q1))
      | ((have _q := q1); (fail_if_success (have _q := q2)); refine LoopP.mk (Nat) (fun a => (hf x a = false ∧ a ≤ len + 1) ∧ ∀ j, j < a → badW x len j = false) ((fun a => mkS (Tryd.f11).ntmps [(0, .one (.slc 0 0 len cap)), (1, .one (.b64 true m)), (2, .one (.bool false)), (10, iN a)] [(0, .ro T [.seg 5 len (inF x)])])) (fun a => len + 2 - a) ⟨0, ⟨⟨rfl, Nat.zero_le _⟩, fun j hj => absurd hj (by omega)⟩, ⟨?_, ?_, ?_, ?_, ?_⟩⟩ ?_; (focus ((repeat' ((conv => whnf); first | exact trivial | refine Both.mk (by first | with_reducible rfl | exact iN_succ _ | rfl) ?_)); done)); (focus ((repeat' ((conv => whnf); first | exact trivial | refine Both.mk (by first | with_reducible rfl | exact iN_succ _ | rfl) ?_)); done)); (focus exact rfl); (focus exact rfl); (focus exact rfl); (rintro a2 q2))
      | ((have _q := q2); (fail_if_success (have _q := q3)); have Wy := ways_of hl (below q2.2 b2); refine LoopP.mk ((Nat → Bool) × Bool) (fun y => Outer x len y.1 y.2) ((fun y => mkS (Tryd.f11).ntmps [(0, .one (.slc 0 0 len cap)), (1, .one (.b64 true m)), (2, .one (.bool false)), (12, .one (.rsl 68 len)), (13, .one (.bool y.2))] [(68, .row 4 1 len (bF y.1)), (0, .ro T [.seg 5 len (inF x)])])) (fun y => 2 * cnt y.1 len + y.2.toNat) ⟨(mark (fun _ => false) 0, true), ⟨LedOK.start x, fun e => by cases e⟩, ⟨?_, ?_, ?_, ?_, ?_⟩⟩ ?_; (focus ((repeat' ((conv => whnf); first | exact trivial | refine Both.mk (by first | with_reducible rfl | exact iN_succ _ | (rw [nat8 hl (Nat.le_refl _)]; exact congrArg (Blk.row 4 1 len) (bF_upd (fun _ => false) 0 true)) | (rw [nat8 hl (Nat.le_refl _)]) | rfl) ?_)); done)); (focus ((repeat' ((conv => whnf); first | exact trivial | refine Both.mk (by first | with_reducible rfl | exact iN_succ _ | (rw [nat8 hl (Nat.le_refl _)]; exact congrArg (Blk.row 4 1 len) (bF_upd (fun _ => false) 0 true)) | (rw [nat8 hl (Nat.le_refl _)]) | rfl) ?_)); done)); (focus exact rfl); (focus exact rfl); (focus exact rfl); (rintro ⟨g, _ | _⟩ q3 <;> dsimp only at q3))
      | ((have _q := q3); (fail_if_success (have _q := q4)); (fail_if_success (have _q := q5)); (with_reducible have _o : Outer x len _ true := q3); refine LoopP.mk ((Nat → Bool) × Bool × Nat) (fun y => Inner x len g y.1 y.2.1 y.2.2) ((fun y => mkS (Tryd.f11).ntmps [(0, .one (.slc 0 0 len cap)), (1, .one (.b64 true m)), (2, .one (.bool false)), (12, .one (.rsl 68 len)), (13, .one (.bool y.2.1)), (14, iN y.2.2)] [(68, .row 4 1 len (bF y.1)), (0, .ro T [.seg 5 len (inF x)])])) (fun y => len - y.2.2) ⟨(g, false, 0), Inner.start q3.led, ⟨?_, ?_, ?_, ?_, ?_⟩⟩ ?_; (focus ((repeat' ((conv => whnf); first | exact trivial | refine Both.mk (by first | with_reducible rfl | exact iN_succ _ | rfl) ?_)); done)); (focus ((repeat' ((conv => whnf); first | exact trivial | refine Both.mk (by first | with_reducible rfl | exact iN_succ _ | rfl) ?_)); done)); (focus exact rfl); (focus exact rfl); (focus exact rfl); (rintro ⟨g', _ | _, k⟩ q4 <;> dsimp only at q4 <;> rcases cases_of Wy h0 q4.led q4.le with c | ⟨c, he, hs⟩ | ⟨c, he, ha, hj, t0, t1, t2, hs⟩ | ⟨c, he, ha, hj, n1, n2, t0, t1, t2, hs⟩ | ⟨c, he, ha, hj, n1, n2, hs⟩))
      | ((have _q := q4); refine LoopP.times 4 ?_)
      | ((have _q := q3); (fail_if_success (have _q := q4)); (fail_if_success (have _q := q5)); refine LoopP.mk (Nat) (fun a => (hf x a = false ∧ a ≤ len + 1) ∧ ∀ j, j < a → (!hf x j && !reachB x j) = false) ((fun a => mkS (Tryd.f11).ntmps [(0, .one (.slc 0 0 len cap)), (1, .one (.b64 true m)), (2, .one (.bool false)), (12, .one (.rsl 68 len)), (17, iN a)] [(68, .row 4 1 len (bF (reachB x))), (0, .ro T [.seg 5 len (inF x)])])) (fun a => len + 2 - a) ⟨0, ⟨⟨rfl, Nat.zero_le _⟩, fun j hj => absurd hj (by omega)⟩, ⟨?_, ?_, ?_, ?_, ?_⟩⟩ ?_; (focus ((repeat' ((conv => whnf); first | exact trivial | refine Both.mk (by first | with_reducible rfl | exact iN_succ _ | exact congrArg (fun g => Blk.row 4 1 len (bF g)) (Outer.done Wy h0 q3) | rfl) ?_)); done)); (focus ((repeat' ((conv => whnf); first | exact trivial | refine Both.mk (by first | with_reducible rfl | exact iN_succ _ | exact congrArg (fun g => Blk.row 4 1 len (bF g)) (Outer.done Wy h0 q3) | rfl) ?_)); done)); (focus exact rfl); (focus exact rfl); (focus exact rfl); (rintro a5 q5))))
  all_goals first
    | ((with_reducible apply Ob.mk); (with_reducible apply cap_lt); decide)
    | (with_reducible apply Ob.mk; kernel_rfl)
    | ((with_reducible apply Ob.mk); show len < 9223372036854775808; omega)
    | ((have _q := q4); (with_reducible apply Ob.mk); (with_reducible apply big_lt); decide)
    | ((with_reducible apply Ob.mk); exact ⟨rfl, (by rw [nat8 hl (Nat.le_refl _)]; omega)⟩)
    | ((fail_if_success (have _q := q4)); (with_reducible apply Ob.mk); exact ix_ofNat (by have := q5.1.2; omega) (first_lt hl q5.1.2 (by with_reducible assumption)))
    | ((fail_if_success (have _q := q4)); (with_reducible apply Ob.mk); exact (ix_ofNat (by have := q5.1.2; omega) (first_lt hl q5.1.2 (by with_reducible assumption))).2)
    | ((fail_if_success (have _q := q4)); (with_reducible apply Ob.mk); exact ⟨Nat.le_refl _, hl, rfl, (ix_ofNat (by have := q5.1.2; omega) (first_lt hl q5.1.2 (by with_reducible assumption))).2⟩)
    | ((fail_if_success (have _q := q4)); ((conv => whnf); refine ⟨a5 + szN (x a5).o, ⟨first_go hl q5.1 (first_lt hl q5.1.2 (by with_reducible assumption)), to_next q5.2 (by first | exact rr_ok hl (first_lt hl q5.1.2 (by with_reducible assumption)) (by with_reducible assumption)) q5.1.1 (fun j hj => badR_half hj)⟩, (by have := sz_pos (x a5).o; have := (first_lt hl q5.1.2 (by with_reducible assumption)); show len + 2 - (a5 + szN (x a5).o) < len + 2 - a5; omega), ⟨?_, ?_, ?_, ?_, ?_⟩⟩; (focus ((repeat' ((conv => whnf); first | exact trivial | refine Both.mk (by first | with_reducible rfl | exact iN_succ _ | exact next_nx (nat_ofNat (by have := q5.1.2; omega)) | rfl) ?_)); done)); (focus ((repeat' ((conv => whnf); first | exact trivial | refine Both.mk (by first | with_reducible rfl | exact iN_succ _ | exact next_nx (nat_ofNat (by have := q5.1.2; omega)) | rfl) ?_)); done)); (focus exact rfl); (focus exact rfl); (focus exact rfl)))
    | ((fail_if_success (have _q := q4)); (with_reducible apply Ob.mk); exact ix_ofNat (by have := q2.1.2; omega) (first_lt hl q2.1.2 (by with_reducible assumption)))
    | ((fail_if_success (have _q := q4)); (with_reducible apply Ob.mk); exact (ix_ofNat (by have := q2.1.2; omega) (first_lt hl q2.1.2 (by with_reducible assumption))).2)
    | ((fail_if_success (have _q := q4)); (with_reducible apply Ob.mk); exact ⟨Nat.le_refl _, hl, rfl, (ix_ofNat (by have := q2.1.2; omega) (first_lt hl q2.1.2 (by with_reducible assumption))).2⟩)
    | ((fail_if_success (have _q := q4)); ((conv => whnf); refine ⟨a2 + szN (x a2).o, ⟨first_go hl q2.1 (first_lt hl q2.1.2 (by with_reducible assumption)), to_next q2.2 (by exact ok_W q2.1.1 rfl (wz hl (first_lt hl q2.1.2 (by with_reducible assumption)) (by with_reducible assumption))) q2.1.1 (fun j hj => badW_half hj)⟩, (by have := sz_pos (x a2).o; have := (first_lt hl q2.1.2 (by with_reducible assumption)); show len + 2 - (a2 + szN (x a2).o) < len + 2 - a2; omega), ⟨?_, ?_, ?_, ?_, ?_⟩⟩; (focus ((repeat' ((conv => whnf); first | exact trivial | refine Both.mk (by first | with_reducible rfl | exact iN_succ _ | exact next_nx (nat_ofNat (by have := q2.1.2; omega)) | rfl) ?_)); done)); (focus ((repeat' ((conv => whnf); first | exact trivial | refine Both.mk (by first | with_reducible rfl | exact iN_succ _ | exact next_nx (nat_ofNat (by have := q2.1.2; omega)) | rfl) ?_)); done)); (focus exact rfl); (focus exact rfl); (focus exact rfl)))
    | ((fail_if_success (have _q := q4)); (with_reducible apply Ob.mk); exact ix_ofNat (by have := q1.1.2; omega) (first_lt hl q1.1.2 (by with_reducible assumption)))
    | ((fail_if_success (have _q := q4)); (with_reducible apply Ob.mk); exact (ix_ofNat (by have := q1.1.2; omega) (first_lt hl q1.1.2 (by with_reducible assumption))).2)
    | ((fail_if_success (have _q := q4)); (with_reducible apply Ob.mk); exact ⟨Nat.le_refl _, hl, rfl, (ix_ofNat (by have := q1.1.2; omega) (first_lt hl q1.1.2 (by with_reducible assumption))).2⟩)
    | ((fail_if_success (have _q := q4)); ((conv => whnf); refine ⟨a1 + szN (x a1).o, ⟨first_go hl q1.1 (first_lt hl q1.1.2 (by with_reducible assumption)), to_next q1.2 (by exact ok_A' q1.1.1 (by with_reducible assumption)) q1.1.1 (fun j hj => badA_half hj)⟩, (by have := sz_pos (x a1).o; have := (first_lt hl q1.1.2 (by with_reducible assumption)); show len + 2 - (a1 + szN (x a1).o) < len + 2 - a1; omega), ⟨?_, ?_, ?_, ?_, ?_⟩⟩; (focus ((repeat' ((conv => whnf); first | exact trivial | refine Both.mk (by first | with_reducible rfl | exact iN_succ _ | exact next_nx (nat_ofNat (by have := q1.1.2; omega)) | rfl) ?_)); done)); (focus ((repeat' ((conv => whnf); first | exact trivial | refine Both.mk (by first | with_reducible rfl | exact iN_succ _ | exact next_nx (nat_ofNat (by have := q1.1.2; omega)) | rfl) ?_)); done)); (focus exact rfl); (focus exact rfl); (focus exact rfl)))
    | ((fail_if_success (have _q := q4)); (conv => whnf); exact ans_of (chk_A hn (first_lt hl q1.1.2 (by with_reducible assumption)) (ok_A' q1.1.1 (by with_reducible assumption)) q1.2))
    | ((fail_if_success (have _q := q4)); (conv => whnf); exact ansW' hn (below q1.2 b1) (first_lt hl q2.1.2 (by with_reducible assumption)) q2.1.1 (by with_reducible assumption) q2.2)
    | ((conv => whnf); refine ⟨(mark (mark g' (BitVec.ofNat 64 k + szV (x (BitVec.ofNat 64 k).toNat).o).toNat) (toK x k).toNat, ((true || !g' (BitVec.ofNat 64 k + szV (x (BitVec.ofNat 64 k).toNat).o).toNat) || !mark g' (BitVec.ofNat 64 k + szV (x (BitVec.ofNat 64 k).toNat).o).toNat (toK x k).toNat), k + 1), Inner.next2 Wy h0 q4 (lt8k hl q4.le (by with_reducible assumption)) (at_k (x := x) hl q4.le c) hs, (by have := (lt8k hl q4.le (by with_reducible assumption)); show len - (k + 1) < len - k; omega), ⟨?_, ?_, ?_, ?_, ?_⟩⟩; (focus ((repeat' ((conv => whnf); first | exact trivial | refine Both.mk (by first | with_reducible rfl | exact iN_succ _ | exact congrArg (Blk.row 4 1 len) (bF_upd _ _ _) | (simp only [if0', if1']; rw [bF_upd]; done) | (simp only [if0', if1']; rw [bF_upd, bF_upd]; rfl) | exact congrArg (fun b => AV.one (.bool b)) (or2_t (by with_reducible assumption)) | exact congrArg (fun b => AV.one (.bool b)) (or2_f (by with_reducible assumption)) | rfl) ?_)); done)); (focus ((repeat' ((conv => whnf); first | exact trivial | refine Both.mk (by first | with_reducible rfl | exact iN_succ _ | exact congrArg (Blk.row 4 1 len) (bF_upd _ _ _) | (simp only [if0', if1']; rw [bF_upd]; done) | (simp only [if0', if1']; rw [bF_upd, bF_upd]; rfl) | exact congrArg (fun b => AV.one (.bool b)) (or2_t (by with_reducible assumption)) | exact congrArg (fun b => AV.one (.bool b)) (or2_f (by with_reducible assumption)) | rfl) ?_)); done)); (focus exact rfl); (focus exact rfl); (focus exact rfl))
    | ((conv => whnf); refine ⟨(mark g' (toK x k).toNat, (true || !g' (toK x k).toNat), k + 1), Inner.next1 Wy h0 q4 (lt8k hl q4.le (by with_reducible assumption)) (at_k (x := x) hl q4.le c) hs, (by have := (lt8k hl q4.le (by with_reducible assumption)); show len - (k + 1) < len - k; omega), ⟨?_, ?_, ?_, ?_, ?_⟩⟩; (focus ((repeat' ((conv => whnf); first | exact trivial | refine Both.mk (by first | with_reducible rfl | exact iN_succ _ | exact congrArg (Blk.row 4 1 len) (bF_upd _ _ _) | (simp only [if0', if1']; rw [bF_upd]; done) | (simp only [if0', if1']; rw [bF_upd, bF_upd]; rfl) | exact congrArg (fun b => AV.one (.bool b)) (or2_t (by with_reducible assumption)) | exact congrArg (fun b => AV.one (.bool b)) (or2_f (by with_reducible assumption)) | rfl) ?_)); done)); (focus ((repeat' ((conv => whnf); first | exact trivial | refine Both.mk (by first | with_reducible rfl | exact iN_succ _ | exact congrArg (Blk.row 4 1 len) (bF_upd _ _ _) | (simp only [if0', if1']; rw [bF_upd]; done) | (simp only [if0', if1']; rw [bF_upd, bF_upd]; rfl) | exact congrArg (fun b => AV.one (.bool b)) (or2_t (by with_reducible assumption)) | exact congrArg (fun b => AV.one (.bool b)) (or2_f (by with_reducible assumption)) | rfl) ?_)); done)); (focus exact rfl); (focus exact rfl); (focus exact rfl))
    | ((conv => whnf); refine ⟨(mark g' (BitVec.ofNat 64 k + szV (x (BitVec.ofNat 64 k).toNat).o).toNat, (true || !g' (BitVec.ofNat 64 k + szV (x (BitVec.ofNat 64 k).toNat).o).toNat), k + 1), Inner.next1 Wy h0 q4 (lt8k hl q4.le (by with_reducible assumption)) (at_k (x := x) hl q4.le c) hs, (by have := (lt8k hl q4.le (by with_reducible assumption)); show len - (k + 1) < len - k; omega), ⟨?_, ?_, ?_, ?_, ?_⟩⟩; (focus ((repeat' ((conv => whnf); first | exact trivial | refine Both.mk (by first | with_reducible rfl | exact iN_succ _ | exact congrArg (Blk.row 4 1 len) (bF_upd _ _ _) | (simp only [if0', if1']; rw [bF_upd]; done) | (simp only [if0', if1']; rw [bF_upd, bF_upd]; rfl) | exact congrArg (fun b => AV.one (.bool b)) (or2_t (by with_reducible assumption)) | exact congrArg (fun b => AV.one (.bool b)) (or2_f (by with_reducible assumption)) | rfl) ?_)); done)); (focus ((repeat' ((conv => whnf); first | exact trivial | refine Both.mk (by first | with_reducible rfl | exact iN_succ _ | exact congrArg (Blk.row 4 1 len) (bF_upd _ _ _) | (simp only [if0', if1']; rw [bF_upd]; done) | (simp only [if0', if1']; rw [bF_upd, bF_upd]; rfl) | exact congrArg (fun b => AV.one (.bool b)) (or2_t (by with_reducible assumption)) | exact congrArg (fun b => AV.one (.bool b)) (or2_f (by with_reducible assumption)) | rfl) ?_)); done)); (focus exact rfl); (focus exact rfl); (focus exact rfl))
    | ((conv => whnf); refine ⟨(g', true, k + 1), Inner.next0 q4 (lt8k hl q4.le (by with_reducible assumption)) (.inr hs), (by have := (lt8k hl q4.le (by with_reducible assumption)); show len - (k + 1) < len - k; omega), ⟨?_, ?_, ?_, ?_, ?_⟩⟩; (focus ((repeat' ((conv => whnf); first | exact trivial | refine Both.mk (by first | with_reducible rfl | exact iN_succ _ | exact congrArg (Blk.row 4 1 len) (bF_upd _ _ _) | (simp only [if0', if1']; rw [bF_upd]; done) | (simp only [if0', if1']; rw [bF_upd, bF_upd]; rfl) | exact congrArg (fun b => AV.one (.bool b)) (or2_t (by with_reducible assumption)) | exact congrArg (fun b => AV.one (.bool b)) (or2_f (by with_reducible assumption)) | rfl) ?_)); done)); (focus ((repeat' ((conv => whnf); first | exact trivial | refine Both.mk (by first | with_reducible rfl | exact iN_succ _ | exact congrArg (Blk.row 4 1 len) (bF_upd _ _ _) | (simp only [if0', if1']; rw [bF_upd]; done) | (simp only [if0', if1']; rw [bF_upd, bF_upd]; rfl) | exact congrArg (fun b => AV.one (.bool b)) (or2_t (by with_reducible assumption)) | exact congrArg (fun b => AV.one (.bool b)) (or2_f (by with_reducible assumption)) | rfl) ?_)); done)); (focus exact rfl); (focus exact rfl); (focus exact rfl))
    | ((conv => whnf); refine ⟨(g', true, k + 1), Inner.next0 q4 (lt8k hl q4.le (by with_reducible assumption)) (.inl (at_k (x := x) hl q4.le c)), (by have := (lt8k hl q4.le (by with_reducible assumption)); show len - (k + 1) < len - k; omega), ⟨?_, ?_, ?_, ?_, ?_⟩⟩; (focus ((repeat' ((conv => whnf); first | exact trivial | refine Both.mk (by first | with_reducible rfl | exact iN_succ _ | exact congrArg (Blk.row 4 1 len) (bF_upd _ _ _) | (simp only [if0', if1']; rw [bF_upd]; done) | (simp only [if0', if1']; rw [bF_upd, bF_upd]; rfl) | exact congrArg (fun b => AV.one (.bool b)) (or2_t (by with_reducible assumption)) | exact congrArg (fun b => AV.one (.bool b)) (or2_f (by with_reducible assumption)) | rfl) ?_)); done)); (focus ((repeat' ((conv => whnf); first | exact trivial | refine Both.mk (by first | with_reducible rfl | exact iN_succ _ | exact congrArg (Blk.row 4 1 len) (bF_upd _ _ _) | (simp only [if0', if1']; rw [bF_upd]; done) | (simp only [if0', if1']; rw [bF_upd, bF_upd]; rfl) | exact congrArg (fun b => AV.one (.bool b)) (or2_t (by with_reducible assumption)) | exact congrArg (fun b => AV.one (.bool b)) (or2_f (by with_reducible assumption)) | rfl) ?_)); done)); (focus exact rfl); (focus exact rfl); (focus exact rfl))
    | ((conv => whnf); refine ⟨(mark (mark g' (BitVec.ofNat 64 k + szV (x (BitVec.ofNat 64 k).toNat).o).toNat) (toK x k).toNat, ((false || !g' (BitVec.ofNat 64 k + szV (x (BitVec.ofNat 64 k).toNat).o).toNat) || !mark g' (BitVec.ofNat 64 k + szV (x (BitVec.ofNat 64 k).toNat).o).toNat (toK x k).toNat), k + 1), Inner.next2 Wy h0 q4 (lt8k hl q4.le (by with_reducible assumption)) (at_k (x := x) hl q4.le c) hs, (by have := (lt8k hl q4.le (by with_reducible assumption)); show len - (k + 1) < len - k; omega), ⟨?_, ?_, ?_, ?_, ?_⟩⟩; (focus ((repeat' ((conv => whnf); first | exact trivial | refine Both.mk (by first | with_reducible rfl | exact iN_succ _ | exact congrArg (Blk.row 4 1 len) (bF_upd _ _ _) | (simp only [if0', if1']; rw [bF_upd]; done) | (simp only [if0', if1']; rw [bF_upd, bF_upd]; rfl) | exact congrArg (fun b => AV.one (.bool b)) (or2_t (by with_reducible assumption)) | exact congrArg (fun b => AV.one (.bool b)) (or2_f (by with_reducible assumption)) | rfl) ?_)); done)); (focus ((repeat' ((conv => whnf); first | exact trivial | refine Both.mk (by first | with_reducible rfl | exact iN_succ _ | exact congrArg (Blk.row 4 1 len) (bF_upd _ _ _) | (simp only [if0', if1']; rw [bF_upd]; done) | (simp only [if0', if1']; rw [bF_upd, bF_upd]; rfl) | exact congrArg (fun b => AV.one (.bool b)) (or2_t (by with_reducible assumption)) | exact congrArg (fun b => AV.one (.bool b)) (or2_f (by with_reducible assumption)) | rfl) ?_)); done)); (focus exact rfl); (focus exact rfl); (focus exact rfl))
    | ((conv => whnf); refine ⟨(mark g' (toK x k).toNat, (false || !g' (toK x k).toNat), k + 1), Inner.next1 Wy h0 q4 (lt8k hl q4.le (by with_reducible assumption)) (at_k (x := x) hl q4.le c) hs, (by have := (lt8k hl q4.le (by with_reducible assumption)); show len - (k + 1) < len - k; omega), ⟨?_, ?_, ?_, ?_, ?_⟩⟩; (focus ((repeat' ((conv => whnf); first | exact trivial | refine Both.mk (by first | with_reducible rfl | exact iN_succ _ | exact congrArg (Blk.row 4 1 len) (bF_upd _ _ _) | (simp only [if0', if1']; rw [bF_upd]; done) | (simp only [if0', if1']; rw [bF_upd, bF_upd]; rfl) | exact congrArg (fun b => AV.one (.bool b)) (or2_t (by with_reducible assumption)) | exact congrArg (fun b => AV.one (.bool b)) (or2_f (by with_reducible assumption)) | rfl) ?_)); done)); (focus ((repeat' ((conv => whnf); first | exact trivial | refine Both.mk (by first | with_reducible rfl | exact iN_succ _ | exact congrArg (Blk.row 4 1 len) (bF_upd _ _ _) | (simp only [if0', if1']; rw [bF_upd]; done) | (simp only [if0', if1']; rw [bF_upd, bF_upd]; rfl) | exact congrArg (fun b => AV.one (.bool b)) (or2_t (by with_reducible assumption)) | exact congrArg (fun b => AV.one (.bool b)) (or2_f (by with_reducible assumption)) | rfl) ?_)); done)); (focus exact rfl); (focus exact rfl); (focus exact rfl))
    | ((conv => whnf); refine ⟨(mark g' (BitVec.ofNat 64 k + szV (x (BitVec.ofNat 64 k).toNat).o).toNat, (false || !g' (BitVec.ofNat 64 k + szV (x (BitVec.ofNat 64 k).toNat).o).toNat), k + 1), Inner.next1 Wy h0 q4 (lt8k hl q4.le (by with_reducible assumption)) (at_k (x := x) hl q4.le c) hs, (by have := (lt8k hl q4.le (by with_reducible assumption)); show len - (k + 1) < len - k; omega), ⟨?_, ?_, ?_, ?_, ?_⟩⟩; (focus ((repeat' ((conv => whnf); first | exact trivial | refine Both.mk (by first | with_reducible rfl | exact iN_succ _ | exact congrArg (Blk.row 4 1 len) (bF_upd _ _ _) | (simp only [if0', if1']; rw [bF_upd]; done) | (simp only [if0', if1']; rw [bF_upd, bF_upd]; rfl) | exact congrArg (fun b => AV.one (.bool b)) (or2_t (by with_reducible assumption)) | exact congrArg (fun b => AV.one (.bool b)) (or2_f (by with_reducible assumption)) | rfl) ?_)); done)); (focus ((repeat' ((conv => whnf); first | exact trivial | refine Both.mk (by first | with_reducible rfl | exact iN_succ _ | exact congrArg (Blk.row 4 1 len) (bF_upd _ _ _) | (simp only [if0', if1']; rw [bF_upd]; done) | (simp only [if0', if1']; rw [bF_upd, bF_upd]; rfl) | exact congrArg (fun b => AV.one (.bool b)) (or2_t (by with_reducible assumption)) | exact congrArg (fun b => AV.one (.bool b)) (or2_f (by with_reducible assumption)) | rfl) ?_)); done)); (focus exact rfl); (focus exact rfl); (focus exact rfl))
    | ((conv => whnf); refine ⟨(g', false, k + 1), Inner.next0 q4 (lt8k hl q4.le (by with_reducible assumption)) (.inr hs), (by have := (lt8k hl q4.le (by with_reducible assumption)); show len - (k + 1) < len - k; omega), ⟨?_, ?_, ?_, ?_, ?_⟩⟩; (focus ((repeat' ((conv => whnf); first | exact trivial | refine Both.mk (by first | with_reducible rfl | exact iN_succ _ | exact congrArg (Blk.row 4 1 len) (bF_upd _ _ _) | (simp only [if0', if1']; rw [bF_upd]; done) | (simp only [if0', if1']; rw [bF_upd, bF_upd]; rfl) | exact congrArg (fun b => AV.one (.bool b)) (or2_t (by with_reducible assumption)) | exact congrArg (fun b => AV.one (.bool b)) (or2_f (by with_reducible assumption)) | rfl) ?_)); done)); (focus ((repeat' ((conv => whnf); first | exact trivial | refine Both.mk (by first | with_reducible rfl | exact iN_succ _ | exact congrArg (Blk.row 4 1 len) (bF_upd _ _ _) | (simp only [if0', if1']; rw [bF_upd]; done) | (simp only [if0', if1']; rw [bF_upd, bF_upd]; rfl) | exact congrArg (fun b => AV.one (.bool b)) (or2_t (by with_reducible assumption)) | exact congrArg (fun b => AV.one (.bool b)) (or2_f (by with_reducible assumption)) | rfl) ?_)); done)); (focus exact rfl); (focus exact rfl); (focus exact rfl))
    | ((conv => whnf); refine ⟨(g', false, k + 1), Inner.next0 q4 (lt8k hl q4.le (by with_reducible assumption)) (.inl (at_k (x := x) hl q4.le c)), (by have := (lt8k hl q4.le (by with_reducible assumption)); show len - (k + 1) < len - k; omega), ⟨?_, ?_, ?_, ?_, ?_⟩⟩; (focus ((repeat' ((conv => whnf); first | exact trivial | refine Both.mk (by first | with_reducible rfl | exact iN_succ _ | exact congrArg (Blk.row 4 1 len) (bF_upd _ _ _) | (simp only [if0', if1']; rw [bF_upd]; done) | (simp only [if0', if1']; rw [bF_upd, bF_upd]; rfl) | exact congrArg (fun b => AV.one (.bool b)) (or2_t (by with_reducible assumption)) | exact congrArg (fun b => AV.one (.bool b)) (or2_f (by with_reducible assumption)) | rfl) ?_)); done)); (focus ((repeat' ((conv => whnf); first | exact trivial | refine Both.mk (by first | with_reducible rfl | exact iN_succ _ | exact congrArg (Blk.row 4 1 len) (bF_upd _ _ _) | (simp only [if0', if1']; rw [bF_upd]; done) | (simp only [if0', if1']; rw [bF_upd, bF_upd]; rfl) | exact congrArg (fun b => AV.one (.bool b)) (or2_t (by with_reducible assumption)) | exact congrArg (fun b => AV.one (.bool b)) (or2_f (by with_reducible assumption)) | rfl) ?_)); done)); (focus exact rfl); (focus exact rfl); (focus exact rfl))
    | ((conv => whnf); have dn := Inner.done q4; refine ⟨(g', true), dn.1, dn.2, ⟨?_, ?_, ?_, ?_, ?_⟩⟩; (focus ((repeat' ((conv => whnf); first | exact trivial | refine Both.mk (by first | with_reducible rfl | exact iN_succ _ | rfl) ?_)); done)); (focus ((repeat' ((conv => whnf); first | exact trivial | refine Both.mk (by first | with_reducible rfl | exact iN_succ _ | rfl) ?_)); done)); (focus exact rfl); (focus exact rfl); (focus exact rfl))
    | ((conv => whnf); have dn := Inner.done q4; refine ⟨(g', false), dn.1, dn.2, ⟨?_, ?_, ?_, ?_, ?_⟩⟩; (focus ((repeat' ((conv => whnf); first | exact trivial | refine Both.mk (by first | with_reducible rfl | exact iN_succ _ | rfl) ?_)); done)); (focus ((repeat' ((conv => whnf); first | exact trivial | refine Both.mk (by first | with_reducible rfl | exact iN_succ _ | rfl) ?_)); done)); (focus exact rfl); (focus exact rfl); (focus exact rfl))
    | ((have _q := q4); (with_reducible apply Ob.mk); exact ix8k hl q4.le (by with_reducible assumption))
    | ((with_reducible apply Ob.mk); exact (ix8k hl q4.le (by with_reducible assumption)).2)
    | ((with_reducible apply Ob.mk); exact ⟨Nat.le_refl _, hl, rfl, (ix8k hl q4.le (by with_reducible assumption)).2⟩)
    | ((with_reducible apply Ob.mk); (try simp only [if0', if1']); first | exact t2 | exact n2 | exact t2.2 | exact n2.2)
    | ((with_reducible apply Ob.mk); with_reducible exact (show 0 ≤ (0#64).toInt ∧ (0#64).toNat < 1 by decide))
    | ((with_reducible apply Ob.mk); with_reducible exact (show (0#64).toNat < 1 by decide))
    | ((with_reducible apply Ob.mk); with_reducible exact (show 0 ≤ (0#64).toInt ∧ (0#64).toNat < 1 + 1 by decide))
    | ((with_reducible apply Ob.mk); with_reducible exact (show (0#64).toNat < 1 + 1 by decide))
    | ((with_reducible apply Ob.mk); with_reducible exact (show 0 ≤ (0#64 + 1#64).toInt ∧ (0#64 + 1#64).toNat < 1 + 1 by decide))
    | ((with_reducible apply Ob.mk); with_reducible exact (show (0#64 + 1#64).toNat < 1 + 1 by decide))
    | ((with_reducible apply Ob.mk); exact ix00 hl h0)
    | ((with_reducible apply Ob.mk); exact (ix00 hl h0).2)
    | ((with_reducible apply Ob.mk); exact fun _ => rfl)
    | ((with_reducible apply Ob.mk); exact ⟨rfl, fun _ => rfl, fun _ => rfl⟩)
    | ((fail_if_success (have _q := q4)); (conv => whnf); exact ans_of (chk_R hn (below q1.2 b1) (below q2.2 b2) (first_lt hl q5.1.2 (by with_reducible assumption)) (bad_R' hl (first_lt hl q5.1.2 (by with_reducible assumption)) q5.1.1 (by with_reducible assumption)) q5.2))
    | ((fail_if_success (have _q := q4)); (conv => whnf); exact ans_of (chk_0 hn (below q1.2 b1) (below q2.2 b2) (below q5.2 b5)))
    | (with_reducible apply Ob.mk; skip)
    | ((conv => whnf); skip)
set_option maxRecDepth 100000 in
theorem RefZ_true (T : TypeId) (cap : Nat) (g : Nat → List PL) (m : BitVec 64) :
    FI Tryd.prog C_r Tryd.f11 1 [.one (.slc 0 0 0 cap), .one (.b64 true m), .one (.bool true)] [(0, .ro T [.seg 5 0 g])] (fun r _ => r = .tup [(false, [.b64 true 0#64]), (false, [.b64 true 3#64])]) := by
  repeat' (first
    | (with_reducible apply Given.mk; intro h; (try simp only [BitVec.reduceBNe, BitVec.reduceBEq, reduceCtorEq, Bool.true_eq_false, Bool.false_eq_true, Bool.not_true, Bool.not_false] at h); (try exact absurd h (by decide)))
    | ((conv => whnf); with_reducible apply Both.mk))
  all_goals first
    | (with_reducible apply Ob.mk; kernel_rfl)
    | ((with_reducible apply Ob.mk); first | decide | (show len < 9223372036854775808; omega))
    | ((conv => whnf); exact rfl)
    | (with_reducible apply Ob.mk; skip)
    | ((conv => whnf); skip)
set_option maxRecDepth 100000 in
theorem RefZ_false (T : TypeId) (cap : Nat) (g : Nat → List PL) (m : BitVec 64) :
    FI Tryd.prog C_r Tryd.f11 1 [.one (.slc 0 0 0 cap), .one (.b64 true m), .one (.bool false)] [(0, .ro T [.seg 5 0 g])] (fun r _ => r = .tup [(false, [.b64 true 0#64]), (false, [.b64 true 3#64])]) := by
  repeat' (first
    | (with_reducible apply Given.mk; intro h; (try simp only [BitVec.reduceBNe, BitVec.reduceBEq, reduceCtorEq, Bool.true_eq_false, Bool.false_eq_true, Bool.not_true, Bool.not_false] at h); (try exact absurd h (by decide)))
    | ((conv => whnf); with_reducible apply Both.mk))
  all_goals first
    | (with_reducible apply Ob.mk; kernel_rfl)
    | ((with_reducible apply Ob.mk); first | decide | (show len < 9223372036854775808; omega))
    | ((conv => whnf); exact rfl)
    | (with_reducible apply Ob.mk; skip)
    | ((conv => whnf); skip)
set_option maxRecDepth 100000 in
theorem RefN_true (ad : Option Addr) (cap : Nat) (m : BitVec 64) :
    FI Tryd.prog C_r Tryd.f11 1 [.one (.raw (.slice ad 0 cap)), .one (.b64 true m), .one (.bool true)] [] (fun r _ => r = .tup [(false, [.b64 true 0#64]), (false, [.b64 true 3#64])]) := by
  repeat' (first
    | (with_reducible apply Given.mk; intro h; (try simp only [BitVec.reduceBNe, BitVec.reduceBEq, reduceCtorEq, Bool.true_eq_false, Bool.false_eq_true, Bool.not_true, Bool.not_false] at h); (try exact absurd h (by decide)))
    | ((conv => whnf); with_reducible apply Both.mk))
  all_goals first
    | (with_reducible apply Ob.mk; kernel_rfl)
    | ((with_reducible apply Ob.mk); first | decide | (show len < 9223372036854775808; omega))
    | ((conv => whnf); exact rfl)
    | (with_reducible apply Ob.mk; skip)
    | ((conv => whnf); skip)
set_option maxRecDepth 100000 in
theorem RefN_false (ad : Option Addr) (cap : Nat) (m : BitVec 64) :
    FI Tryd.prog C_r Tryd.f11 1 [.one (.raw (.slice ad 0 cap)), .one (.b64 true m), .one (.bool false)] [] (fun r _ => r = .tup [(false, [.b64 true 0#64]), (false, [.b64 true 3#64])]) := by
  repeat' (first
    | (with_reducible apply Given.mk; intro h; (try simp only [BitVec.reduceBNe, BitVec.reduceBEq, reduceCtorEq, Bool.true_eq_false, Bool.false_eq_true, Bool.not_true, Bool.not_false] at h); (try exact absurd h (by decide)))
    | ((conv => whnf); with_reducible apply Both.mk))
  all_goals first
    | (with_reducible apply Ob.mk; kernel_rfl)
    | ((with_reducible apply Ob.mk); first | decide | (show len < 9223372036854775808; omega))
    | ((conv => whnf); exact rfl)
    | (with_reducible apply Ob.mk; skip)
    | ((conv => whnf); skip)
set_option maxRecDepth 100000 in
theorem RefB_true (T : TypeId) (len cap : Nat) (x : IT) (m : BitVec 64) (hl : len ≤ 8000) (f0 : (BitVec.ofNat 64 len).slt 1#64 = false) (f1 : (192#64).slt (BitVec.ofNat 64 len) = true) :
    FI Tryd.prog C_r Tryd.f11 1 [.one (.slc 0 0 len cap), .one (.b64 true m), .one (.bool true)] [(0, .ro T [.seg 5 len (inF x)])] (fun r _ => r = .tup [(false, [.b64 true 0#64]), (false, [.b64 true 3#64])]) := by
  repeat' (first
    | (with_reducible apply Given.mk; intro h; (try simp only [f0, f1, BitVec.reduceBNe, BitVec.reduceBEq, reduceCtorEq, Bool.true_eq_false, Bool.false_eq_true, Bool.not_true, Bool.not_false] at h); (try exact absurd h (by decide)))
    | ((conv => whnf); with_reducible apply Both.mk))
  all_goals first
    | (with_reducible apply Ob.mk; kernel_rfl)
    | ((with_reducible apply Ob.mk); first | decide | (show len < 9223372036854775808; omega))
    | ((conv => whnf); exact rfl)
    | (with_reducible apply Ob.mk; skip)
    | ((conv => whnf); skip)
set_option maxRecDepth 100000 in
theorem RefB_false (T : TypeId) (len cap : Nat) (x : IT) (m : BitVec 64) (hl : len ≤ 8000) (f0 : (BitVec.ofNat 64 len).slt 1#64 = false) (f1 : (192#64).slt (BitVec.ofNat 64 len) = true) :
    FI Tryd.prog C_r Tryd.f11 1 [.one (.slc 0 0 len cap), .one (.b64 true m), .one (.bool false)] [(0, .ro T [.seg 5 len (inF x)])] (fun r _ => r = .tup [(false, [.b64 true 0#64]), (false, [.b64 true 3#64])]) := by
  repeat' (first
    | (with_reducible apply Given.mk; intro h; (try simp only [f0, f1, BitVec.reduceBNe, BitVec.reduceBEq, reduceCtorEq, Bool.true_eq_false, Bool.false_eq_true, Bool.not_true, Bool.not_false] at h); (try exact absurd h (by decide)))
    | ((conv => whnf); with_reducible apply Both.mk))
  all_goals first
    | (with_reducible apply Ob.mk; kernel_rfl)
    | ((with_reducible apply Ob.mk); first | decide | (show len < 9223372036854775808; omega))
    | ((conv => whnf); exact rfl)
    | (with_reducible apply Ob.mk; skip)
    | ((conv => whnf); skip)
set_option maxRecDepth 100000 in
theorem RefC_false (T : TypeId) (len cap : Nat) (x : IT) (m : BitVec 64) (hl : len ≤ 8000) (f0 : (BitVec.ofNat 64 len).slt 1#64 = false) (f1 : (192#64).slt (BitVec.ofNat 64 len) = false) (f2 : (64#64).slt (BitVec.ofNat 64 len) = true) :
    FI Tryd.prog C_r Tryd.f11 1 [.one (.slc 0 0 len cap), .one (.b64 true m), .one (.bool false)] [(0, .ro T [.seg 5 len (inF x)])] (fun r _ => r = .tup [(false, [.b64 true 0#64]), (false, [.b64 true 3#64])]) := by
  repeat' (first
    | (with_reducible apply Given.mk; intro h; (try simp only [f0, f1, f2, BitVec.reduceBNe, BitVec.reduceBEq, reduceCtorEq, Bool.true_eq_false, Bool.false_eq_true, Bool.not_true, Bool.not_false] at h); (try exact absurd h (by decide)))
    | ((conv => whnf); with_reducible apply Both.mk))
  all_goals first
    | (with_reducible apply Ob.mk; kernel_rfl)
    | ((with_reducible apply Ob.mk); first | decide | (show len < 9223372036854775808; omega))
    | ((conv => whnf); exact rfl)
    | (with_reducible apply Ob.mk; skip)
    | ((conv => whnf); skip)
set_option maxRecDepth 100000 in
theorem e_RefCheck : EntryM Tryd.prog anyWorld 11 (spS 5 sq_chk) := by
  refine .of_slice CI_r (by kernel_rfl) Tryd.func11 (by kernel_rfl) (by kernel_rfl) (fun len g rest c v h hc => ?_) (fun rest c v h hc ad cap => ?_)
  · unfold sq_chk at h
    split at h
    · rename_i m w
      cases h
      obtain ⟨h1, h2⟩ := hc
      refine ⟨rfl, rfl, fun T cap => ?_⟩
      by_cases e : len = 0
      · subst e
        rw [← ans_L (x := inOf g) (m := m) (w := w) (.inl rfl)]
        cases w
        · exact RefZ_false T cap g m
        · exact RefZ_true T cap g m
      · replace h2 := h2.resolve_left e
        generalize inOf g = x at h2
        subst h2
        have f0 : (BitVec.ofNat 64 len).slt 1#64 = false := (slt_nat (a := len) (b := 1) (by omega) (by decide)).trans (decide_eq_false (by omega))
        have g1 := slt_nat (a := 192) (b := len) (by decide) (by omega)
        have g2 := slt_nat (a := 64) (b := len) (by decide) (by omega)
        by_cases hb : mostN w < len
        · rw [← ans_L (x := x) (m := m) (w := w) (.inr hb)]
          cases w
          · by_cases h192 : 192 < len
            · exact RefB_false T len cap x m h1 f0 (g1.trans (decide_eq_true h192))
            · exact RefC_false T len cap x m h1 f0 (g1.trans (decide_eq_false h192)) (g2.trans (decide_eq_true hb))
          · exact RefB_true T len cap x m h1 f0 (g1.trans (decide_eq_true hb))
        · have hn : ¬ (len = 0 ∨ mostN w < len) := fun h => h.elim e hb
          cases w
          · have hb : ¬ 64 < len := hb
            exact Ref_false T len cap x m h1 (by omega) hn f0 (g1.trans (decide_eq_false (by omega))) (g2.trans (decide_eq_false hb))
          · exact Ref_true T len cap x m h1 (by omega) hn f0 (g1.trans (decide_eq_false hb))
    · cases h
  · unfold sq_chk at h
    split at h
    · rename_i m w
      cases h
      rw [← ans_L (x := inOf fun _ => []) (m := m) (w := w) (.inl rfl)]
      cases w
      · exact RefN_false ad cap m
      · exact RefN_true ad cap m
    · cases h
end Go.Proofs.YthkgakelgdncjaaDoor
