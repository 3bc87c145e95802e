/-
  The law SlotsApart, as the evaluator leaves it. Conditions: as typed.
-/
import Derived.Test.YtiopddomdpoaaaaQh
namespace Go.Proofs.Ytiopddomdpoaaaa
open Go.Ep Go.RowKit
set_option linter.unusedVariables false
set_option linter.unusedSimpArgs false

set_option maxRecDepth 100000 in
set_option maxHeartbeats 8000000 in
theorem SlotsApart_main (T : TypeId) (len cap : Nat) (hl : len < 9223372036854775808) (ao an : Nat → BitVec 64) (ak : Nat → BitVec 8) (al : Nat → Bool) (xo xn : BitVec 64) (xk : BitVec 8) (xl : Bool) (p : BitVec 8) :
    FI Try.prog (tabMI Try.prog noData tb_firewalllaw19_value ms_4 FA 3) Try.f4 1 [.one (.slc 0 0 len cap), .agg [.b64 true xo, .b64 true xn, .b8 false xk, .bool xl], .one (.b8 false p)] [(0, .ro T [.seg 4 len (actF ao an ak al)])] (fun r _ => r = .one (.bool true)) := by
  repeat' (first
    | (with_reducible apply Given.mk; intro h; (try exact absurd h (by decide)))
    | ((conv => whnf); first
      | with_reducible apply Both.mk
      | (refine LoopP.mk (Nat × PG) (fun x => x.1 ≤ len) (fun x => mkS (Try.f10).ntmps [(0, .one (.slc 0 0 len cap)), (2, .one (.ptr 70 0)), (3, .one (.ptr 71 0)), (4, iN x.1)] [(71, .cells 36 [.seg 12 64 (plF x.2)]), (70, .cells 36 [.seg 12 64 (plF gZ)]), (5, .cells 49 [.b64 true xo, .b64 true xn, .b8 false xk, .bool xl]), (0, .ro T [.seg 4 len (actF ao an ak al)])]) (fun x => len - x.1) ⟨(0, gZ), Nat.zero_le _, ⟨?_, ?_, ?_, ?_, ?_⟩⟩ ?_; (focus ((repeat' ((conv => whnf); first | exact trivial | refine Both.mk (by first | with_reducible rfl | exact iN_succ _ | rfl) ?_)); done)); (focus ((repeat' ((conv => whnf); first | exact trivial | refine Both.mk (by first | with_reducible rfl | exact iN_succ _ | rfl) ?_)); done)); (focus exact rfl); (focus exact rfl); (focus exact rfl); rintro ⟨i, g⟩ hi; dsimp only at hi ⊢)
      | (have hlt := lt_i hi hl (by with_reducible assumption); refine ⟨(i + 1, (stR g (ao (BitVec.ofNat 64 i).toNat) (an (BitVec.ofNat 64 i).toNat) (valV (ak (BitVec.ofNat 64 i).toNat) (BitVec.ofNat 64 i + 1#64))).g), ?_, ?_, ⟨?_, ?_, ?_, ?_, ?_⟩⟩; (focus (exact hlt; done)); (focus (dsimp only; omega; done)); (focus ((repeat' ((conv => whnf); first | exact trivial | refine Both.mk (by first | with_reducible rfl | exact iN_succ _ | rfl) ?_)); done)); (focus ((repeat' ((conv => whnf); first | exact trivial | refine Both.mk (by first | with_reducible rfl | exact iN_succ _ | rfl) ?_)); done)); (focus exact rfl); (focus exact rfl); (focus exact rfl))
      | (have hlt := lt_i hi hl (by with_reducible assumption); refine ⟨(i + 1, g), ?_, ?_, ⟨?_, ?_, ?_, ?_, ?_⟩⟩; (focus (exact hlt; done)); (focus (dsimp only; omega; done)); (focus ((repeat' ((conv => whnf); first | exact trivial | refine Both.mk (by first | with_reducible rfl | exact iN_succ _ | rfl) ?_)); done)); (focus ((repeat' ((conv => whnf); first | exact trivial | refine Both.mk (by first | with_reducible rfl | exact iN_succ _ | rfl) ?_)); done)); (focus exact rfl); (focus exact rfl); (focus exact rfl))))
  all_goals first
    | (with_reducible apply Ob.mk; kernel_rfl)
    | (with_reducible apply Ob.mk; decide)
    | (with_reducible apply Ob.mk; exact hl)
    | (with_reducible apply Ob.mk; rfl)
    | (with_reducible apply Ob.mk; have hlt := lt_i hi hl (by with_reducible assumption); first | exact ix_i hlt hl | exact (ix_i hlt hl).2)
    | (with_reducible apply Ob.mk; first | exact (q_ok p).1 | exact (q_ok p).1.2)
    | ((conv => whnf); done)
    | ((conv => whnf); exfalso; rename_i h; have he : ((stR g xo xn (valV xk 99#64)).e != 0#64) = false := (by assumption); have h' : eqG g (stR g xo xn (valV xk 99#64)).g ((BitVec.setWidth 64 p).srem 64#64).toNat = false := h; rw [same_at he (q_ok p).2 (Nat.mod_lt _ (by decide)) (.inl (by with_reducible assumption))] at h'; cases h')
    | ((conv => whnf); exfalso; rename_i h; have he : ((stR g xo xn (valV xk 99#64)).e != 0#64) = false := (by assumption); have h' : eqG g (stR g xo xn (valV xk 99#64)).g ((BitVec.setWidth 64 p).srem 64#64).toNat = false := h; rw [same_at he (q_ok p).2 (Nat.mod_lt _ (by decide)) (.inr (by with_reducible assumption))] at h'; cases h')
set_option maxRecDepth 100000 in
set_option maxHeartbeats 8000000 in
theorem SlotsApart_main0 (ad : Option Addr) (cap : Nat) (xo xn : BitVec 64) (xk : BitVec 8) (xl : Bool) (p : BitVec 8) :
    FI Try.prog (tabMI Try.prog noData tb_firewalllaw19_value ms_4 FA 3) Try.f4 1 [.one (.raw (.slice ad 0 cap)), .agg [.b64 true xo, .b64 true xn, .b8 false xk, .bool xl], .one (.b8 false p)] [] (fun r _ => r = .one (.bool true)) := by
  repeat' (first
    | (with_reducible apply Given.mk; intro h; (try exact absurd h (by decide)))
    | ((conv => whnf); first
      | with_reducible apply Both.mk
      | (refine LoopP.mk (PG) (fun x => x = gZ) (fun x => mkS (Try.f10).ntmps [(0, .one (.raw (.slice ad 0 cap))), (2, .one (.ptr 70 0)), (3, .one (.ptr 71 0)), (4, iN 0)] [(71, .cells 36 [.seg 12 64 (plF x)]), (70, .cells 36 [.seg 12 64 (plF gZ)]), (5, .cells 49 [.b64 true xo, .b64 true xn, .b8 false xk, .bool xl])]) (fun x => 0) ⟨gZ, rfl, ⟨?_, ?_, ?_, ?_, ?_⟩⟩ ?_; (focus ((repeat' ((conv => whnf); first | exact trivial | refine Both.mk (by first | with_reducible rfl | exact iN_succ _ | rfl) ?_)); done)); (focus ((repeat' ((conv => whnf); first | exact trivial | refine Both.mk (by first | with_reducible rfl | exact iN_succ _ | rfl) ?_)); done)); (focus exact rfl); (focus exact rfl); (focus exact rfl); rintro g hgz; have hg : okG g := (hgz ▸ okG_Z); clear hgz)))
  all_goals first
    | (with_reducible apply Ob.mk; kernel_rfl)
    | (with_reducible apply Ob.mk; decide)
    | (with_reducible apply Ob.mk; exact hl)
    | (with_reducible apply Ob.mk; rfl)
    | (with_reducible apply Ob.mk; have hlt := lt_i hi hl (by with_reducible assumption); first | exact ix_i hlt hl | exact (ix_i hlt hl).2)
    | (with_reducible apply Ob.mk; first | exact (q_ok p).1 | exact (q_ok p).1.2)
    | ((conv => whnf); done)
    | ((conv => whnf); exfalso; rename_i h; have he : ((stR g xo xn (valV xk 99#64)).e != 0#64) = false := (by assumption); have h' : eqG g (stR g xo xn (valV xk 99#64)).g ((BitVec.setWidth 64 p).srem 64#64).toNat = false := h; rw [same_at he (q_ok p).2 (Nat.mod_lt _ (by decide)) (.inl (by with_reducible assumption))] at h'; cases h')
    | ((conv => whnf); exfalso; rename_i h; have he : ((stR g xo xn (valV xk 99#64)).e != 0#64) = false := (by assumption); have h' : eqG g (stR g xo xn (valV xk 99#64)).g ((BitVec.setWidth 64 p).srem 64#64).toNat = false := h; rw [same_at he (q_ok p).2 (Nat.mod_lt _ (by decide)) (.inr (by with_reducible assumption))] at h'; cases h')
end Go.Proofs.Ytiopddomdpoaaaa
