/-
  The law SlotsIn, as the evaluator leaves it. Conditions: as typed.
-/
import Derived.Test.YtiopddomdpoaaaaQh
namespace Go.Proofs.Ytiopddomdpoaaaa
open Go.Ep Go.RowKit
set_option linter.unusedVariables false
set_option linter.unusedSimpArgs false

abbrev offP (p : BitVec 8) : BitVec 64 := BitVec.ofInt 64 (Int.negSucc 7) - 8#64 * (BitVec.setWidth 64 p).srem 64#64
theorem offP_ok : ∀ p : BitVec 8, (atBad (offP p) 8#64 || !wOk 8#64) = false ∧ ((atI (offP p) 8#64).srem 8#64 == 0#64) = true ∧ atI (offP p) 8#64 = BitVec.ofNat 64 (8 * (63 - p.toNat % 64)) := by decide +kernel
theorem slots_e {g : PG} {v : VV} (p : BitVec 8) (hk : (v.k == 0#64) = false) : stR g (offP p) 8#64 v = ⟨g.put (63 - p.toNat % 64) 255#8 v, 0#64⟩ := by
  rw [stR_8b (offP_ok p).1 hk (offP_ok p).2.1, (offP_ok p).2.2, ixS_eq (by omega), Nat.mul_div_cancel_left _ (by decide)]
theorem plE_101 {g : PG} : ∀ (r a : Nat), a + r ≤ 512 → plE r (BitVec.ofNat 64 a) g = 101#64 → ∃ k, a ≤ k ∧ k < a + r ∧ g.b (k / 8) &&& 1#8 <<< (k % 8) = 0#8
  | 0, _, _, h => by cases h
  | r + 1, a, ha, h => by
    rw [plE, ixS_eq (by omega), bit8_eq (by omega)] at h
    split at h
    · rename_i hb
      exact ⟨a, Nat.le_refl _, by omega, by simpa using hb⟩
    · split at h
      · cases h
      · rw [Go.Ep.succ_ofNat] at h
        obtain ⟨k, h1, h2, h3⟩ := plE_101 r (a + 1) (by omega) h
        exact ⟨k, by omega, by omega, h3⟩
theorem bit_out : ∀ (b : BitVec 8) (j : Nat), j < 8 → b &&& 1#8 <<< j = 0#8 → (255#8 &&& ~~~b != 0#8) = true := by
  have key : ∀ b : BitVec 8, ∀ j : Fin 8, b &&& 1#8 <<< j.val = 0#8 → (255#8 &&& ~~~b != 0#8) = true := by decide +kernel
  exact fun b j hj => key b ⟨j, hj⟩
set_option maxRecDepth 100000 in
theorem slots_no {g : PG} {v : VV} {p : BitVec 8} (hk : (v.k == 0#64) = false) (h : ((ldR g (offP p) 8#64).e != 101#64) = false) : inG (stR g (offP p) 8#64 v).g g = false := by
  have h : (ldR g (offP p) 8#64).e = 101#64 := by simpa [bne] using h
  have hb : (!!atBad (offP p) 8#64) = false := by
    have := (offP_ok p).1
    rw [Bool.or_eq_false_iff] at this
    rw [this.1]; rfl
  rw [ldR_0 hb (by decide)] at h
  split at h
  · cases h
  have he : plR g (offP p) 8#64 = 101#64 := by
    split at h
    · cases h
    · dsimp only at h; exact h
  rw [plR_go hb, (offP_ok p).2.2] at he
  obtain ⟨k, h1, h2, h3⟩ := plE_101 8 _ (by omega) he
  rw [slots_e p hk]
  refine inG_false (63 - p.toNat % 64) (by omega) ?_
  rw [plIn, (put_v _ _ _ _).1, (put_v _ _ _ _).2, plInV, bit_out (g.b (63 - p.toNat % 64)) (k % 8) (by omega) (by rw [show 63 - p.toNat % 64 = k / 8 by omega]; exact h3)]
  rfl

set_option maxRecDepth 100000 in
set_option maxHeartbeats 8000000 in
theorem SlotsIn_main (T : TypeId) (len cap : Nat) (hl : len < 9223372036854775808) (ao an : Nat → BitVec 64) (ak : Nat → BitVec 8) (al : Nat → Bool) (p : BitVec 8) :
    FI Try.prog (tabMI Try.prog noData tb_firewalllaw19_value ms_4 FA 3) Try.f3 1 [.one (.slc 0 0 len cap), .one (.b8 false p)] [(0, .ro T [.seg 4 len (actF ao an ak al)])] (fun r _ => r = .one (.bool true)) := by
  repeat' (first
    | (with_reducible apply Given.mk; intro h; (try exact absurd h (by decide)); (try simp only [gOf_plF, gOf_z, *, inG_Z, bne, beq_self_eq_true, Bool.not_true, Bool.not_false, Bool.false_eq_true, Bool.true_eq_false, reduceCtorEq] at h))
    | ((conv => whnf); first
      | with_reducible apply Both.mk
      | (refine LoopP.mk (Nat × PG) (fun x => x.1 ≤ len ∧ okG x.2) (fun x => mkS (Try.f10).ntmps [(0, .one (.slc 0 0 len cap)), (2, .one (.ptr 71 0)), (3, .one (.ptr 72 0)), (4, iN x.1)] [(72, .cells 36 [.seg 12 64 (plF x.2)]), (71, .cells 36 [.seg 12 64 (plF gZ)]), (0, .ro T [.seg 4 len (actF ao an ak al)])]) (fun x => len - x.1) ⟨(0, gZ), ⟨Nat.zero_le _, okG_Z⟩, ⟨?_, ?_, ?_, ?_, ?_⟩⟩ ?_; (focus ((repeat' ((conv => whnf); first | exact trivial | refine Both.mk (by first | with_reducible rfl | exact iN_succ _ | rfl) ?_)); done)); (focus ((repeat' ((conv => whnf); first | exact trivial | refine Both.mk (by first | with_reducible rfl | exact iN_succ _ | rfl) ?_)); done)); (focus exact rfl); (focus exact rfl); (focus exact rfl); rintro ⟨i, g⟩ ⟨hi, hg⟩; dsimp only at hi hg ⊢; have hSelf := inG_self hg; have hE : (stR g (offP p) 8#64 ⟨1, 0, 0, 0, 0, nAny⟩).e = 0#64 := (by rw [slots_e p rfl]); have hT : inG (stR g (offP p) 8#64 ⟨1, 0, 0, 0, 0, nAny⟩).g (stR g (offP p) 8#64 ⟨1, 0, 0, 0, 0, nAny⟩).g = true := inG_self (okG_st hg okN_any); have hNo : (!((ldR g (offP p) 8#64).e == 101#64)) = false → inG (stR g (offP p) 8#64 ⟨1, 0, 0, 0, 0, nAny⟩).g g = false := slots_no rfl)
      | (have hlt := lt_i hi hl (by with_reducible assumption); refine ⟨(i + 1, (stR g (ao (BitVec.ofNat 64 i).toNat) (an (BitVec.ofNat 64 i).toNat) (valV (ak (BitVec.ofNat 64 i).toNat) (BitVec.ofNat 64 i + 1#64))).g), ?_, ?_, ⟨?_, ?_, ?_, ?_, ?_⟩⟩; (focus (exact ⟨hlt, okG_st hg (okN_val _ _)⟩; done)); (focus (dsimp only; omega; done)); (focus ((repeat' ((conv => whnf); first | exact trivial | refine Both.mk (by first | with_reducible rfl | exact iN_succ _ | rfl) ?_)); done)); (focus ((repeat' ((conv => whnf); first | exact trivial | refine Both.mk (by first | with_reducible rfl | exact iN_succ _ | rfl) ?_)); done)); (focus exact rfl); (focus exact rfl); (focus exact rfl))
      | (have hlt := lt_i hi hl (by with_reducible assumption); refine ⟨(i + 1, g), ?_, ?_, ⟨?_, ?_, ?_, ?_, ?_⟩⟩; (focus (exact ⟨hlt, hg⟩; done)); (focus (dsimp only; omega; done)); (focus ((repeat' ((conv => whnf); first | exact trivial | refine Both.mk (by first | with_reducible rfl | exact iN_succ _ | rfl) ?_)); done)); (focus ((repeat' ((conv => whnf); first | exact trivial | refine Both.mk (by first | with_reducible rfl | exact iN_succ _ | rfl) ?_)); done)); (focus exact rfl); (focus exact rfl); (focus exact rfl))))
  all_goals first
    | (with_reducible apply Ob.mk; kernel_rfl)
    | (with_reducible apply Ob.mk; decide)
    | (with_reducible apply Ob.mk; exact hl)
    | (with_reducible apply Ob.mk; rfl)
    | (with_reducible apply Ob.mk; have hlt := lt_i hi hl (by with_reducible assumption); first | exact ix_i hlt hl | exact (ix_i hlt hl).2)
    | (with_reducible apply Ob.mk; exact ⟨plF_ok _, plF_ok _, by rw [gOf_plF]; exact hg.k⟩)
    | (with_reducible apply Ob.mk; exact ⟨plF_z, plF_ok _, by rw [gOf_z]; exact okK_Z⟩)
    | (with_reducible apply Ob.mk; exact ⟨plF_ok _, plF_ok _, by simp only [gOf_plF]; exact okK_st hg.k ⟨by decide, by decide⟩⟩)
    | ((conv => whnf); done)
    | ((conv => whnf); exfalso; have h3 := hNo (by with_reducible assumption); rename_i h; simp only [gOf_plF, h3, Bool.false_eq_true] at h; done)
    | ((conv => whnf); skip)
set_option maxRecDepth 100000 in
set_option maxHeartbeats 8000000 in
theorem SlotsIn_main0 (ad : Option Addr) (cap : Nat) (p : BitVec 8) :
    FI Try.prog (tabMI Try.prog noData tb_firewalllaw19_value ms_4 FA 3) Try.f3 1 [.one (.raw (.slice ad 0 cap)), .one (.b8 false p)] [] (fun r _ => r = .one (.bool true)) := by
  repeat' (first
    | (with_reducible apply Given.mk; intro h; (try exact absurd h (by decide)); (try simp only [gOf_plF, gOf_z, *, inG_Z, bne, beq_self_eq_true, Bool.not_true, Bool.not_false, Bool.false_eq_true, Bool.true_eq_false, reduceCtorEq] at h))
    | ((conv => whnf); first
      | with_reducible apply Both.mk
      | (refine LoopP.mk (PG) (fun x => x = gZ) (fun x => mkS (Try.f10).ntmps [(0, .one (.raw (.slice ad 0 cap))), (2, .one (.ptr 71 0)), (3, .one (.ptr 72 0)), (4, iN 0)] [(72, .cells 36 [.seg 12 64 (plF x)]), (71, .cells 36 [.seg 12 64 (plF gZ)])]) (fun x => 0) ⟨gZ, rfl, ⟨?_, ?_, ?_, ?_, ?_⟩⟩ ?_; (focus ((repeat' ((conv => whnf); first | exact trivial | refine Both.mk (by first | with_reducible rfl | exact iN_succ _ | rfl) ?_)); done)); (focus ((repeat' ((conv => whnf); first | exact trivial | refine Both.mk (by first | with_reducible rfl | exact iN_succ _ | rfl) ?_)); done)); (focus exact rfl); (focus exact rfl); (focus exact rfl); rintro g hgz; have hg : okG g := (hgz ▸ okG_Z); clear hgz; have hSelf := inG_self hg; have hE : (stR g (offP p) 8#64 ⟨1, 0, 0, 0, 0, nAny⟩).e = 0#64 := (by rw [slots_e p rfl]); have hT : inG (stR g (offP p) 8#64 ⟨1, 0, 0, 0, 0, nAny⟩).g (stR g (offP p) 8#64 ⟨1, 0, 0, 0, 0, nAny⟩).g = true := inG_self (okG_st hg okN_any); have hNo : (!((ldR g (offP p) 8#64).e == 101#64)) = false → inG (stR g (offP p) 8#64 ⟨1, 0, 0, 0, 0, nAny⟩).g g = false := slots_no rfl)))
  all_goals first
    | (with_reducible apply Ob.mk; kernel_rfl)
    | (with_reducible apply Ob.mk; decide)
    | (with_reducible apply Ob.mk; exact hl)
    | (with_reducible apply Ob.mk; rfl)
    | (with_reducible apply Ob.mk; have hlt := lt_i hi hl (by with_reducible assumption); first | exact ix_i hlt hl | exact (ix_i hlt hl).2)
    | (with_reducible apply Ob.mk; exact ⟨plF_ok _, plF_ok _, by rw [gOf_plF]; exact hg.k⟩)
    | (with_reducible apply Ob.mk; exact ⟨plF_z, plF_ok _, by rw [gOf_z]; exact okK_Z⟩)
    | (with_reducible apply Ob.mk; exact ⟨plF_ok _, plF_ok _, by simp only [gOf_plF]; exact okK_st hg.k ⟨by decide, by decide⟩⟩)
    | ((conv => whnf); done)
    | ((conv => whnf); exfalso; have h3 := hNo (by with_reducible assumption); rename_i h; simp only [gOf_plF, h3, Bool.false_eq_true] at h; done)
    | ((conv => whnf); skip)
end Go.Proofs.Ytiopddomdpoaaaa
