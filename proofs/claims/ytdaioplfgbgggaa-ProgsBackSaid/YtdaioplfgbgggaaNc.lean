/-
  Chapter 04: ProgsBack, as the evaluator leaves it. Conditions: as typed.
-/
import Derived.Test.YtdaioplfgbgggaaNb
import Derived.Test.YtdaioplfgbgggaaNo

namespace Go.Proofs.Ytdaioplfgbgggaa
open Go.Ep Go.RowKit
set_option linter.unusedVariables false
set_option linter.unusedSimpArgs false
theorem same_no {x : IT} {n i : Nat} (hn : n ≤ 64) (h64 : i ≤ n) (hi : (BitVec.ofNat 64 i).slt (BitVec.ofNat 64 n) = true) (h : (!((upT (dec (encB (inOf (inF x)) n)) n (BitVec.ofNat 64 i).toNat).o == (x (BitVec.ofNat 64 i).toNat).o && ((upT (dec (encB (inOf (inF x)) n)) n (BitVec.ofNat 64 i).toNat).d == (x (BitVec.ofNat 64 i).toNat).d && ((upT (dec (encB (inOf (inF x)) n)) n (BitVec.ofNat 64 i).toNat).s == (x (BitVec.ofNat 64 i).toNat).s && ((upT (dec (encB (inOf (inF x)) n)) n (BitVec.ofNat 64 i).toNat).f == (x (BitVec.ofNat 64 i).toNat).f && (upT (dec (encB (inOf (inF x)) n)) n (BitVec.ofNat 64 i).toNat).i == (x (BitVec.ofNat 64 i).toNat).i))))) = true) : smB x n = false := by
  have hlt := ltn hn (Nat.le_trans h64 hn) hi
  rw [nat_ofNat (by omega)] at h
  exact eqI_no x hlt h
theorem same_yes {x : IT} {n i : Nat} (hn : n ≤ 64) (h64 : i ≤ n) (h : (!((upT (dec (encB (inOf (inF x)) n)) n (BitVec.ofNat 64 i).toNat).o == (x (BitVec.ofNat 64 i).toNat).o && ((upT (dec (encB (inOf (inF x)) n)) n (BitVec.ofNat 64 i).toNat).d == (x (BitVec.ofNat 64 i).toNat).d && ((upT (dec (encB (inOf (inF x)) n)) n (BitVec.ofNat 64 i).toNat).s == (x (BitVec.ofNat 64 i).toNat).s && ((upT (dec (encB (inOf (inF x)) n)) n (BitVec.ofNat 64 i).toNat).f == (x (BitVec.ofNat 64 i).toNat).f && (upT (dec (encB (inOf (inF x)) n)) n (BitVec.ofNat 64 i).toNat).i == (x (BitVec.ofNat 64 i).toNat).i))))) = false) : eqI x n i = true := by
  rw [nat_ofNat (by omega)] at h
  cases e : eqI x n i with
  | true => rfl
  | false => have h : (!(eqI x n i)) = false := h
             rw [e] at h; cases h
theorem same_more {x : IT} {n i : Nat} (h : i ≤ n ∧ ∀ j, j < i → eqI x n j = true) (hlt : i < n) (he : eqI x n i = true) : i + 1 ≤ n ∧ ∀ j, j < i + 1 → eqI x n j = true :=
  ⟨hlt, fun j hj => by by_cases e : j = i; · subst e; exact he
                       · exact h.2 j (by omega)⟩
theorem same_end {x : IT} {n i : Nat} (hn : n ≤ 64) (h : i ≤ n ∧ ∀ j, j < i → eqI x n j = true) (hi : (BitVec.ofNat 64 i).slt (BitVec.ofNat 64 n) = false) : smB x n = true := by
  have : n ≤ i := ge_of_slt (by omega) (by omega) hi
  refine smB_of x fun j hj => ?_
  have := h.2 j (by omega)
  rw [eqI_eq x hj] at this
  simpa using this
theorem no_f {b : Bool} (e : b = false) (h : (!(false == b)) = true) : False := by subst e; cases h
theorem no_t {b : Bool} (e : b = true) (h : (!(true == b)) = true) : False := by subst e; cases h
theorem enc_sz (x : IT) (n : Nat) : (encB (inOf (inF x)) n).size = 8 * n := encB_size _ _
set_option maxRecDepth 100000 in
set_option maxHeartbeats 16000000 in
theorem Back_PB (s : ByteArray) (hs : s.size < 9223372036854775808) (T : TypeId) (len cap : Nat) (l1 : 1 ≤ len) (l70 : len ≤ 70) (x : IT) (l64 : len ≤ 64) (t70 : (70#64).slt (BitVec.ofNat 64 len) = false) (t1 : (BitVec.ofNat 64 len).slt 1#64 = false) (t64 : (64#64).slt (BitVec.ofNat 64 len) = false) (g3 : ((BitVec.ofNat 64 (encB (inOf (inF x)) len).size).srem 8#64 != 0#64) = false) (g5 : decide ((encB (inOf (inF x)) len) = { data := #[] }) = false) (g6 : (512#64).slt (BitVec.ofNat 64 (encB (inOf (inF x)) len).size) = false) (g9 : (0#64).slt (BitVec.ofNat 64 (encB (inOf (inF x)) len).size) = true) (f1 : (1000#64).slt (BitVec.ofNat 64 s.size) = false) (f3 : ((BitVec.ofNat 64 s.size).srem 8#64 != 0#64) = true) (hs1 : (encB (inOf (inF x)) len).size < 9223372036854775808) :
    FI Try.prog (tabMI Try.prog noData tb_b ms_b FSb 3) Try.f9 1 [.one (.slc 0 0 len cap), .one (.str s)] [(0, .ro T [.seg 5 len (inF x)])] (fun r _ => r = .one (.bool true)) := by
  repeat' (first
    | (with_reducible apply Given.mk; intro h; (try (have e0 : len = k0 := Nat.le_antisymm (ge_of_slt (by omega) (by omega) h) q0; subst e0)); (try (have e1 : len = k1 := Nat.le_antisymm (ge8 k64q1 (enc_sz x len) hs1 h) q1.2; subst e1)); (try simp only [t70, t1, t64, g3, g5, g6, g9, f1, f3, reduceCtorEq, decide_true, beq_self_eq_true, bne_self_eq_false, BitVec.reduceBEq, BitVec.reduceBNe] at h); (try ((fail_if_success (have _q := q2)); exact absurd h (by decide))))
    | ((conv => whnf); first
      | with_reducible apply Both.mk
      | ((fail_if_success (have _q := q0)); refine LoopP.mk (Nat) (fun k => k ≤ len) ((fun k => mkS (Try.f9).ntmps [(0, .one (.slc 0 0 len cap)), (1, .one (.str s)), (5, .one (.bool (smB x k))), (6, iN k)] [(0, .ro T [.seg 5 len (inF x)])])) (fun k => len - k) ⟨0, Nat.zero_le _, ⟨?_, ?_, ?_, ?_, ?_⟩⟩ ?_; (focus ((repeat' ((conv => whnf); first | exact trivial | refine Both.mk (by first | with_reducible rfl | exact iN_succ _ | rfl) ?_)); done)); (focus ((repeat' ((conv => whnf); first | exact trivial | refine Both.mk (by first | with_reducible rfl | exact iN_succ _ | rfl) ?_)); done)); (focus exact rfl); (focus exact rfl); (focus exact rfl); (rintro k0 q0; have k70 : k0 ≤ 70 := Nat.le_trans q0 l70))
      | ((have _q := q0); (fail_if_success (have _q := q1)); refine LoopP.mk (Option Nat) (fun q => match q with | none => True | some k => 1 ≤ k ∧ k ≤ len) ((fun q => Option.rec (mkS (Try.f18).ntmps [(0, .one (.str (encB (inOf (inF x)) len))), (2, .one (.raw (.slice none 0 0))), (4, .one (.b64 true 0#64))] [(0, .ro T [.seg 5 len (inF x)])]) (fun k => mkS (Try.f18).ntmps [(0, .one (.str (encB (inOf (inF x)) len))), (2, .one (.rsl 139 k)), (4, .one (.b64 true (BitVec.ofNat 64 (8 * k))))] [(139, .row 37 5 k (inF (upT (dec (encB (inOf (inF x)) len)) k))), (0, .ro T [.seg 5 len (inF x)])]) q)) (fun q => Option.rec (len + 1) (fun k => len - k) q) ⟨none, trivial, ⟨?_, ?_, ?_, ?_, ?_⟩⟩ ?_; (focus ((repeat' ((conv => whnf); first | exact trivial | refine Both.mk (by first | with_reducible rfl | exact iN_succ _ | rfl) ?_)); done)); (focus ((repeat' ((conv => whnf); first | exact trivial | refine Both.mk (by first | with_reducible rfl | exact iN_succ _ | rfl) ?_)); done)); (focus exact rfl); (focus exact rfl); (focus exact rfl); (rintro (_ | k1) q1 <;> (try (replace q1 : 1 ≤ k1 ∧ k1 ≤ len := q1; have k64q1 : k1 ≤ 64 := Nat.le_trans q1.2 l64))))
      | ((have _q := q1); (fail_if_success (have _q := q2)); refine LoopP.mk (Nat) (fun k => k ≤ len ∧ ∀ j, j < k → eqI x len j = true) ((fun k => mkS (Try.f13).ntmps [(0, .one (.rsl 47 len)), (1, .one (.slc 0 0 len cap)), (5, iN k)] [(47, .row 37 5 len (inF (upT (dec (encB (inOf (inF x)) len)) len))), (0, .ro T [.seg 5 len (inF x)])])) (fun k => len - k) ⟨0, ⟨Nat.zero_le _, fun j hj => absurd hj (by omega)⟩, ⟨?_, ?_, ?_, ?_, ?_⟩⟩ ?_; (focus ((repeat' ((conv => whnf); first | exact trivial | refine Both.mk (by first | with_reducible rfl | exact iN_succ _ | rfl) ?_)); done)); (focus ((repeat' ((conv => whnf); first | exact trivial | refine Both.mk (by first | with_reducible rfl | exact iN_succ _ | rfl) ?_)); done)); (focus exact rfl); (focus exact rfl); (focus exact rfl); (rintro k2 q2))
))
  all_goals first
    | (with_reducible apply Ob.mk; kernel_rfl)
    | (with_reducible apply Ob.mk; with_reducible assumption)
    | ((with_reducible apply Ob.mk); exact fun _ => rfl)
    | ((with_reducible apply Ob.mk); exact (show (8#64 : BitVec 64) ≠ 0#64 by decide))
    | ((with_reducible apply Ob.mk); exact (show 0 + 1 < 65536 by decide))
    | ((with_reducible apply Ob.mk); exact (show 0 < 9223372036854775808 by decide))
    | ((with_reducible apply Ob.mk); exact ⟨rfl, fun _ => rfl, fun _ => rfl⟩)
    | ((with_reducible apply Ob.mk); exact Nat.le_refl _)
    | ((with_reducible apply Ob.mk); exact ix_ofNat (by omega) (lt_of_slt (by omega) (by omega) (by with_reducible assumption)))
    | ((with_reducible apply Ob.mk); exact (ix_ofNat (by omega) (lt_of_slt (by omega) (by omega) (by with_reducible assumption))).2)
    | ((with_reducible apply Ob.mk); exact ⟨Nat.le_refl _, by omega, .inr rfl⟩)
    | ((with_reducible apply Ob.mk); show len < 9223372036854775808; omega)
    | ((with_reducible apply Ob.mk); show n < 9223372036854775808; omega)
    | ((conv => whnf); refine ⟨k0 + 1, lt_of_slt (by omega) (by omega) (by with_reducible assumption), (by have := lt_of_slt (a := k0) (b := len) (by omega) (by omega) (by with_reducible assumption); show len - (k0 + 1) < len - k0; omega), ⟨?_, ?_, ?_, ?_, ?_⟩⟩; (focus ((repeat' ((conv => whnf); first | exact trivial | refine Both.mk (by first | with_reducible rfl | exact iN_succ _ | exact sm_go1 x (nat_ofNat (by omega)) (by with_reducible assumption) (by with_reducible assumption) | exact sm_go2 x (nat_ofNat (by omega)) (by with_reducible assumption) (by with_reducible assumption) | exact sm_go3 x (by with_reducible assumption) | rfl) ?_)); done)); (focus ((repeat' ((conv => whnf); first | exact trivial | refine Both.mk (by first | with_reducible rfl | exact iN_succ _ | exact sm_go1 x (nat_ofNat (by omega)) (by with_reducible assumption) (by with_reducible assumption) | exact sm_go2 x (nat_ofNat (by omega)) (by with_reducible assumption) (by with_reducible assumption) | exact sm_go3 x (by with_reducible assumption) | rfl) ?_)); done)); (focus exact rfl); (focus exact rfl); (focus exact rfl))
    | ((with_reducible apply Ob.mk); exact ⟨⟨by decide, by decide⟩, by decide, (by have e := (enc_sz x len); show 8 ≤ _; omega)⟩)
    | ((with_reducible apply Ob.mk); exact bnd8 k64q1 (enc_sz x len) (lt8 k64q1 (enc_sz x len) hs1 (by with_reducible assumption)))
    | ((with_reducible apply Ob.mk); exact exB_lt hs1 _ _)
    | ((with_reducible apply Ob.mk); show k1 + 1 < 65536; omega)
    | ((conv => whnf); refine ⟨some 1, ⟨Nat.le_refl _, l1⟩, (by show len - 1 < len + 1; omega), ⟨?_, ?_, ?_, ?_, ?_⟩⟩; (focus ((repeat' ((conv => whnf); first | exact trivial | refine Both.mk (by first | with_reducible rfl | exact iN_succ _ | rfl) ?_)); done)); (focus ((repeat' ((conv => whnf); first | exact trivial | refine Both.mk (by first | with_reducible rfl | exact iN_succ _ | rfl) ?_)); done)); (focus exact rfl); (focus exact rfl); (focus exact rfl))
    | ((conv => whnf); refine ⟨some (k1 + 1), ⟨Nat.succ_le_succ (Nat.zero_le _), lt8 k64q1 (enc_sz x len) hs1 (by with_reducible assumption)⟩, (by have := lt8 k64q1 (enc_sz x len) hs1 (by with_reducible assumption); show len - (k1 + 1) < len - k1; omega), ⟨?_, ?_, ?_, ?_, ?_⟩⟩; (focus ((repeat' ((conv => whnf); first | exact trivial | refine Both.mk (by first | with_reducible rfl | exact iN_succ _ | exact congrArg (fun v => AV.one (.b64 true v)) at8n | exact congrArg (Blk.row 37 5 (k1 + 1)) (upT_go (dec (encB (inOf (inF x)) len)) q1.1 _ (dec_eq (encB (inOf (inF x)) len) (at8 k64q1) (at8p k64q1))) | rfl) ?_)); done)); (focus ((repeat' ((conv => whnf); first | exact trivial | refine Both.mk (by first | with_reducible rfl | exact iN_succ _ | exact congrArg (fun v => AV.one (.b64 true v)) at8n | exact congrArg (Blk.row 37 5 (k1 + 1)) (upT_go (dec (encB (inOf (inF x)) len)) q1.1 _ (dec_eq (encB (inOf (inF x)) len) (at8 k64q1) (at8p k64q1))) | rfl) ?_)); done)); (focus exact rfl); (focus exact rfl); (focus exact rfl))
    | ((with_reducible apply Ob.mk); exact ixn l64 (Nat.le_trans q2.1 l64) (by with_reducible assumption))
    | ((with_reducible apply Ob.mk); exact (ixn l64 (Nat.le_trans q2.1 l64) (by with_reducible assumption)).2)
    | (exfalso; exact no_f (same_no l64 q2.1 (by with_reducible assumption) (by with_reducible assumption)) (by with_reducible assumption))
    | (exfalso; exact no_t (same_end l64 q2 (by with_reducible assumption)) (by with_reducible assumption))
    | ((conv => whnf); refine ⟨k2 + 1, same_more q2 (ltn l64 (Nat.le_trans q2.1 l64) (by with_reducible assumption)) (same_yes l64 q2.1 (by with_reducible assumption)), (by have := ltn l64 (Nat.le_trans q2.1 l64) (by with_reducible assumption); show len - (k2 + 1) < len - k2; omega), ⟨?_, ?_, ?_, ?_, ?_⟩⟩; (focus ((repeat' ((conv => whnf); first | exact trivial | refine Both.mk (by first | with_reducible rfl | exact iN_succ _ | rfl) ?_)); done)); (focus ((repeat' ((conv => whnf); first | exact trivial | refine Both.mk (by first | with_reducible rfl | exact iN_succ _ | rfl) ?_)); done)); (focus exact rfl); (focus exact rfl); (focus exact rfl))
    | ((conv => whnf); exact rfl)
    | (with_reducible apply Ob.mk; skip)
    | ((conv => whnf); skip)
set_option maxRecDepth 100000 in
set_option maxHeartbeats 16000000 in
theorem Back_PC (s : ByteArray) (hs : s.size < 9223372036854775808) (T : TypeId) (len cap : Nat) (l1 : 1 ≤ len) (l70 : len ≤ 70) (x : IT) (l64 : len ≤ 64) (t70 : (70#64).slt (BitVec.ofNat 64 len) = false) (t1 : (BitVec.ofNat 64 len).slt 1#64 = false) (t64 : (64#64).slt (BitVec.ofNat 64 len) = false) (g3 : ((BitVec.ofNat 64 (encB (inOf (inF x)) len).size).srem 8#64 != 0#64) = false) (g5 : decide ((encB (inOf (inF x)) len) = { data := #[] }) = false) (g6 : (512#64).slt (BitVec.ofNat 64 (encB (inOf (inF x)) len).size) = false) (g9 : (0#64).slt (BitVec.ofNat 64 (encB (inOf (inF x)) len).size) = true) (f1 : (1000#64).slt (BitVec.ofNat 64 s.size) = false) (f3 : ((BitVec.ofNat 64 s.size).srem 8#64 != 0#64) = false) (f5 : decide (s = { data := #[] }) = true) (hs1 : (encB (inOf (inF x)) len).size < 9223372036854775808) :
    FI Try.prog (tabMI Try.prog noData tb_b ms_b FSb 3) Try.f9 1 [.one (.slc 0 0 len cap), .one (.str s)] [(0, .ro T [.seg 5 len (inF x)])] (fun r _ => r = .one (.bool true)) := by
  repeat' (first
    | (with_reducible apply Given.mk; intro h; (try (have e0 : len = k0 := Nat.le_antisymm (ge_of_slt (by omega) (by omega) h) q0; subst e0)); (try (have e1 : len = k1 := Nat.le_antisymm (ge8 k64q1 (enc_sz x len) hs1 h) q1.2; subst e1)); (try simp only [t70, t1, t64, g3, g5, g6, g9, f1, f3, f5, reduceCtorEq, decide_true, beq_self_eq_true, bne_self_eq_false, BitVec.reduceBEq, BitVec.reduceBNe] at h); (try ((fail_if_success (have _q := q2)); exact absurd h (by decide))))
    | ((conv => whnf); first
      | with_reducible apply Both.mk
      | ((fail_if_success (have _q := q0)); refine LoopP.mk (Nat) (fun k => k ≤ len) ((fun k => mkS (Try.f9).ntmps [(0, .one (.slc 0 0 len cap)), (1, .one (.str s)), (5, .one (.bool (smB x k))), (6, iN k)] [(0, .ro T [.seg 5 len (inF x)])])) (fun k => len - k) ⟨0, Nat.zero_le _, ⟨?_, ?_, ?_, ?_, ?_⟩⟩ ?_; (focus ((repeat' ((conv => whnf); first | exact trivial | refine Both.mk (by first | with_reducible rfl | exact iN_succ _ | rfl) ?_)); done)); (focus ((repeat' ((conv => whnf); first | exact trivial | refine Both.mk (by first | with_reducible rfl | exact iN_succ _ | rfl) ?_)); done)); (focus exact rfl); (focus exact rfl); (focus exact rfl); (rintro k0 q0; have k70 : k0 ≤ 70 := Nat.le_trans q0 l70))
      | ((have _q := q0); (fail_if_success (have _q := q1)); refine LoopP.mk (Option Nat) (fun q => match q with | none => True | some k => 1 ≤ k ∧ k ≤ len) ((fun q => Option.rec (mkS (Try.f18).ntmps [(0, .one (.str (encB (inOf (inF x)) len))), (2, .one (.raw (.slice none 0 0))), (4, .one (.b64 true 0#64))] [(0, .ro T [.seg 5 len (inF x)])]) (fun k => mkS (Try.f18).ntmps [(0, .one (.str (encB (inOf (inF x)) len))), (2, .one (.rsl 139 k)), (4, .one (.b64 true (BitVec.ofNat 64 (8 * k))))] [(139, .row 37 5 k (inF (upT (dec (encB (inOf (inF x)) len)) k))), (0, .ro T [.seg 5 len (inF x)])]) q)) (fun q => Option.rec (len + 1) (fun k => len - k) q) ⟨none, trivial, ⟨?_, ?_, ?_, ?_, ?_⟩⟩ ?_; (focus ((repeat' ((conv => whnf); first | exact trivial | refine Both.mk (by first | with_reducible rfl | exact iN_succ _ | rfl) ?_)); done)); (focus ((repeat' ((conv => whnf); first | exact trivial | refine Both.mk (by first | with_reducible rfl | exact iN_succ _ | rfl) ?_)); done)); (focus exact rfl); (focus exact rfl); (focus exact rfl); (rintro (_ | k1) q1 <;> (try (replace q1 : 1 ≤ k1 ∧ k1 ≤ len := q1; have k64q1 : k1 ≤ 64 := Nat.le_trans q1.2 l64))))
      | ((have _q := q1); (fail_if_success (have _q := q2)); refine LoopP.mk (Nat) (fun k => k ≤ len ∧ ∀ j, j < k → eqI x len j = true) ((fun k => mkS (Try.f13).ntmps [(0, .one (.rsl 47 len)), (1, .one (.slc 0 0 len cap)), (5, iN k)] [(47, .row 37 5 len (inF (upT (dec (encB (inOf (inF x)) len)) len))), (0, .ro T [.seg 5 len (inF x)])])) (fun k => len - k) ⟨0, ⟨Nat.zero_le _, fun j hj => absurd hj (by omega)⟩, ⟨?_, ?_, ?_, ?_, ?_⟩⟩ ?_; (focus ((repeat' ((conv => whnf); first | exact trivial | refine Both.mk (by first | with_reducible rfl | exact iN_succ _ | rfl) ?_)); done)); (focus ((repeat' ((conv => whnf); first | exact trivial | refine Both.mk (by first | with_reducible rfl | exact iN_succ _ | rfl) ?_)); done)); (focus exact rfl); (focus exact rfl); (focus exact rfl); (rintro k2 q2))
))
  all_goals first
    | (with_reducible apply Ob.mk; kernel_rfl)
    | (with_reducible apply Ob.mk; with_reducible assumption)
    | ((with_reducible apply Ob.mk); exact fun _ => rfl)
    | ((with_reducible apply Ob.mk); exact (show (8#64 : BitVec 64) ≠ 0#64 by decide))
    | ((with_reducible apply Ob.mk); exact (show 0 + 1 < 65536 by decide))
    | ((with_reducible apply Ob.mk); exact (show 0 < 9223372036854775808 by decide))
    | ((with_reducible apply Ob.mk); exact ⟨rfl, fun _ => rfl, fun _ => rfl⟩)
    | ((with_reducible apply Ob.mk); exact Nat.le_refl _)
    | ((with_reducible apply Ob.mk); exact ix_ofNat (by omega) (lt_of_slt (by omega) (by omega) (by with_reducible assumption)))
    | ((with_reducible apply Ob.mk); exact (ix_ofNat (by omega) (lt_of_slt (by omega) (by omega) (by with_reducible assumption))).2)
    | ((with_reducible apply Ob.mk); exact ⟨Nat.le_refl _, by omega, .inr rfl⟩)
    | ((with_reducible apply Ob.mk); show len < 9223372036854775808; omega)
    | ((with_reducible apply Ob.mk); show n < 9223372036854775808; omega)
    | ((conv => whnf); refine ⟨k0 + 1, lt_of_slt (by omega) (by omega) (by with_reducible assumption), (by have := lt_of_slt (a := k0) (b := len) (by omega) (by omega) (by with_reducible assumption); show len - (k0 + 1) < len - k0; omega), ⟨?_, ?_, ?_, ?_, ?_⟩⟩; (focus ((repeat' ((conv => whnf); first | exact trivial | refine Both.mk (by first | with_reducible rfl | exact iN_succ _ | exact sm_go1 x (nat_ofNat (by omega)) (by with_reducible assumption) (by with_reducible assumption) | exact sm_go2 x (nat_ofNat (by omega)) (by with_reducible assumption) (by with_reducible assumption) | exact sm_go3 x (by with_reducible assumption) | rfl) ?_)); done)); (focus ((repeat' ((conv => whnf); first | exact trivial | refine Both.mk (by first | with_reducible rfl | exact iN_succ _ | exact sm_go1 x (nat_ofNat (by omega)) (by with_reducible assumption) (by with_reducible assumption) | exact sm_go2 x (nat_ofNat (by omega)) (by with_reducible assumption) (by with_reducible assumption) | exact sm_go3 x (by with_reducible assumption) | rfl) ?_)); done)); (focus exact rfl); (focus exact rfl); (focus exact rfl))
    | ((with_reducible apply Ob.mk); exact ⟨⟨by decide, by decide⟩, by decide, (by have e := (enc_sz x len); show 8 ≤ _; omega)⟩)
    | ((with_reducible apply Ob.mk); exact bnd8 k64q1 (enc_sz x len) (lt8 k64q1 (enc_sz x len) hs1 (by with_reducible assumption)))
    | ((with_reducible apply Ob.mk); exact exB_lt hs1 _ _)
    | ((with_reducible apply Ob.mk); show k1 + 1 < 65536; omega)
    | ((conv => whnf); refine ⟨some 1, ⟨Nat.le_refl _, l1⟩, (by show len - 1 < len + 1; omega), ⟨?_, ?_, ?_, ?_, ?_⟩⟩; (focus ((repeat' ((conv => whnf); first | exact trivial | refine Both.mk (by first | with_reducible rfl | exact iN_succ _ | rfl) ?_)); done)); (focus ((repeat' ((conv => whnf); first | exact trivial | refine Both.mk (by first | with_reducible rfl | exact iN_succ _ | rfl) ?_)); done)); (focus exact rfl); (focus exact rfl); (focus exact rfl))
    | ((conv => whnf); refine ⟨some (k1 + 1), ⟨Nat.succ_le_succ (Nat.zero_le _), lt8 k64q1 (enc_sz x len) hs1 (by with_reducible assumption)⟩, (by have := lt8 k64q1 (enc_sz x len) hs1 (by with_reducible assumption); show len - (k1 + 1) < len - k1; omega), ⟨?_, ?_, ?_, ?_, ?_⟩⟩; (focus ((repeat' ((conv => whnf); first | exact trivial | refine Both.mk (by first | with_reducible rfl | exact iN_succ _ | exact congrArg (fun v => AV.one (.b64 true v)) at8n | exact congrArg (Blk.row 37 5 (k1 + 1)) (upT_go (dec (encB (inOf (inF x)) len)) q1.1 _ (dec_eq (encB (inOf (inF x)) len) (at8 k64q1) (at8p k64q1))) | rfl) ?_)); done)); (focus ((repeat' ((conv => whnf); first | exact trivial | refine Both.mk (by first | with_reducible rfl | exact iN_succ _ | exact congrArg (fun v => AV.one (.b64 true v)) at8n | exact congrArg (Blk.row 37 5 (k1 + 1)) (upT_go (dec (encB (inOf (inF x)) len)) q1.1 _ (dec_eq (encB (inOf (inF x)) len) (at8 k64q1) (at8p k64q1))) | rfl) ?_)); done)); (focus exact rfl); (focus exact rfl); (focus exact rfl))
    | ((with_reducible apply Ob.mk); exact ixn l64 (Nat.le_trans q2.1 l64) (by with_reducible assumption))
    | ((with_reducible apply Ob.mk); exact (ixn l64 (Nat.le_trans q2.1 l64) (by with_reducible assumption)).2)
    | (exfalso; exact no_f (same_no l64 q2.1 (by with_reducible assumption) (by with_reducible assumption)) (by with_reducible assumption))
    | (exfalso; exact no_t (same_end l64 q2 (by with_reducible assumption)) (by with_reducible assumption))
    | ((conv => whnf); refine ⟨k2 + 1, same_more q2 (ltn l64 (Nat.le_trans q2.1 l64) (by with_reducible assumption)) (same_yes l64 q2.1 (by with_reducible assumption)), (by have := ltn l64 (Nat.le_trans q2.1 l64) (by with_reducible assumption); show len - (k2 + 1) < len - k2; omega), ⟨?_, ?_, ?_, ?_, ?_⟩⟩; (focus ((repeat' ((conv => whnf); first | exact trivial | refine Both.mk (by first | with_reducible rfl | exact iN_succ _ | rfl) ?_)); done)); (focus ((repeat' ((conv => whnf); first | exact trivial | refine Both.mk (by first | with_reducible rfl | exact iN_succ _ | rfl) ?_)); done)); (focus exact rfl); (focus exact rfl); (focus exact rfl))
    | ((conv => whnf); exact rfl)
    | (with_reducible apply Ob.mk; skip)
    | ((conv => whnf); skip)
set_option maxRecDepth 100000 in
set_option maxHeartbeats 16000000 in
theorem Back_PD (s : ByteArray) (hs : s.size < 9223372036854775808) (T : TypeId) (len cap : Nat) (l1 : 1 ≤ len) (l70 : len ≤ 70) (x : IT) (l64 : len ≤ 64) (t70 : (70#64).slt (BitVec.ofNat 64 len) = false) (t1 : (BitVec.ofNat 64 len).slt 1#64 = false) (t64 : (64#64).slt (BitVec.ofNat 64 len) = false) (g3 : ((BitVec.ofNat 64 (encB (inOf (inF x)) len).size).srem 8#64 != 0#64) = false) (g5 : decide ((encB (inOf (inF x)) len) = { data := #[] }) = false) (g6 : (512#64).slt (BitVec.ofNat 64 (encB (inOf (inF x)) len).size) = false) (g9 : (0#64).slt (BitVec.ofNat 64 (encB (inOf (inF x)) len).size) = true) (f1 : (1000#64).slt (BitVec.ofNat 64 s.size) = false) (f3 : ((BitVec.ofNat 64 s.size).srem 8#64 != 0#64) = false) (f5 : decide (s = { data := #[] }) = false) (f6 : (512#64).slt (BitVec.ofNat 64 s.size) = true) (hs1 : (encB (inOf (inF x)) len).size < 9223372036854775808) :
    FI Try.prog (tabMI Try.prog noData tb_b ms_b FSb 3) Try.f9 1 [.one (.slc 0 0 len cap), .one (.str s)] [(0, .ro T [.seg 5 len (inF x)])] (fun r _ => r = .one (.bool true)) := by
  repeat' (first
    | (with_reducible apply Given.mk; intro h; (try (have e0 : len = k0 := Nat.le_antisymm (ge_of_slt (by omega) (by omega) h) q0; subst e0)); (try (have e1 : len = k1 := Nat.le_antisymm (ge8 k64q1 (enc_sz x len) hs1 h) q1.2; subst e1)); (try simp only [t70, t1, t64, g3, g5, g6, g9, f1, f3, f5, f6, reduceCtorEq, decide_true, beq_self_eq_true, bne_self_eq_false, BitVec.reduceBEq, BitVec.reduceBNe] at h); (try ((fail_if_success (have _q := q2)); exact absurd h (by decide))))
    | ((conv => whnf); first
      | with_reducible apply Both.mk
      | ((fail_if_success (have _q := q0)); refine LoopP.mk (Nat) (fun k => k ≤ len) ((fun k => mkS (Try.f9).ntmps [(0, .one (.slc 0 0 len cap)), (1, .one (.str s)), (5, .one (.bool (smB x k))), (6, iN k)] [(0, .ro T [.seg 5 len (inF x)])])) (fun k => len - k) ⟨0, Nat.zero_le _, ⟨?_, ?_, ?_, ?_, ?_⟩⟩ ?_; (focus ((repeat' ((conv => whnf); first | exact trivial | refine Both.mk (by first | with_reducible rfl | exact iN_succ _ | rfl) ?_)); done)); (focus ((repeat' ((conv => whnf); first | exact trivial | refine Both.mk (by first | with_reducible rfl | exact iN_succ _ | rfl) ?_)); done)); (focus exact rfl); (focus exact rfl); (focus exact rfl); (rintro k0 q0; have k70 : k0 ≤ 70 := Nat.le_trans q0 l70))
      | ((have _q := q0); (fail_if_success (have _q := q1)); refine LoopP.mk (Option Nat) (fun q => match q with | none => True | some k => 1 ≤ k ∧ k ≤ len) ((fun q => Option.rec (mkS (Try.f18).ntmps [(0, .one (.str (encB (inOf (inF x)) len))), (2, .one (.raw (.slice none 0 0))), (4, .one (.b64 true 0#64))] [(0, .ro T [.seg 5 len (inF x)])]) (fun k => mkS (Try.f18).ntmps [(0, .one (.str (encB (inOf (inF x)) len))), (2, .one (.rsl 139 k)), (4, .one (.b64 true (BitVec.ofNat 64 (8 * k))))] [(139, .row 37 5 k (inF (upT (dec (encB (inOf (inF x)) len)) k))), (0, .ro T [.seg 5 len (inF x)])]) q)) (fun q => Option.rec (len + 1) (fun k => len - k) q) ⟨none, trivial, ⟨?_, ?_, ?_, ?_, ?_⟩⟩ ?_; (focus ((repeat' ((conv => whnf); first | exact trivial | refine Both.mk (by first | with_reducible rfl | exact iN_succ _ | rfl) ?_)); done)); (focus ((repeat' ((conv => whnf); first | exact trivial | refine Both.mk (by first | with_reducible rfl | exact iN_succ _ | rfl) ?_)); done)); (focus exact rfl); (focus exact rfl); (focus exact rfl); (rintro (_ | k1) q1 <;> (try (replace q1 : 1 ≤ k1 ∧ k1 ≤ len := q1; have k64q1 : k1 ≤ 64 := Nat.le_trans q1.2 l64))))
      | ((have _q := q1); (fail_if_success (have _q := q2)); refine LoopP.mk (Nat) (fun k => k ≤ len ∧ ∀ j, j < k → eqI x len j = true) ((fun k => mkS (Try.f13).ntmps [(0, .one (.rsl 47 len)), (1, .one (.slc 0 0 len cap)), (5, iN k)] [(47, .row 37 5 len (inF (upT (dec (encB (inOf (inF x)) len)) len))), (0, .ro T [.seg 5 len (inF x)])])) (fun k => len - k) ⟨0, ⟨Nat.zero_le _, fun j hj => absurd hj (by omega)⟩, ⟨?_, ?_, ?_, ?_, ?_⟩⟩ ?_; (focus ((repeat' ((conv => whnf); first | exact trivial | refine Both.mk (by first | with_reducible rfl | exact iN_succ _ | rfl) ?_)); done)); (focus ((repeat' ((conv => whnf); first | exact trivial | refine Both.mk (by first | with_reducible rfl | exact iN_succ _ | rfl) ?_)); done)); (focus exact rfl); (focus exact rfl); (focus exact rfl); (rintro k2 q2))
))
  all_goals first
    | (with_reducible apply Ob.mk; kernel_rfl)
    | (with_reducible apply Ob.mk; with_reducible assumption)
    | ((with_reducible apply Ob.mk); exact fun _ => rfl)
    | ((with_reducible apply Ob.mk); exact (show (8#64 : BitVec 64) ≠ 0#64 by decide))
    | ((with_reducible apply Ob.mk); exact (show 0 + 1 < 65536 by decide))
    | ((with_reducible apply Ob.mk); exact (show 0 < 9223372036854775808 by decide))
    | ((with_reducible apply Ob.mk); exact ⟨rfl, fun _ => rfl, fun _ => rfl⟩)
    | ((with_reducible apply Ob.mk); exact Nat.le_refl _)
    | ((with_reducible apply Ob.mk); exact ix_ofNat (by omega) (lt_of_slt (by omega) (by omega) (by with_reducible assumption)))
    | ((with_reducible apply Ob.mk); exact (ix_ofNat (by omega) (lt_of_slt (by omega) (by omega) (by with_reducible assumption))).2)
    | ((with_reducible apply Ob.mk); exact ⟨Nat.le_refl _, by omega, .inr rfl⟩)
    | ((with_reducible apply Ob.mk); show len < 9223372036854775808; omega)
    | ((with_reducible apply Ob.mk); show n < 9223372036854775808; omega)
    | ((conv => whnf); refine ⟨k0 + 1, lt_of_slt (by omega) (by omega) (by with_reducible assumption), (by have := lt_of_slt (a := k0) (b := len) (by omega) (by omega) (by with_reducible assumption); show len - (k0 + 1) < len - k0; omega), ⟨?_, ?_, ?_, ?_, ?_⟩⟩; (focus ((repeat' ((conv => whnf); first | exact trivial | refine Both.mk (by first | with_reducible rfl | exact iN_succ _ | exact sm_go1 x (nat_ofNat (by omega)) (by with_reducible assumption) (by with_reducible assumption) | exact sm_go2 x (nat_ofNat (by omega)) (by with_reducible assumption) (by with_reducible assumption) | exact sm_go3 x (by with_reducible assumption) | rfl) ?_)); done)); (focus ((repeat' ((conv => whnf); first | exact trivial | refine Both.mk (by first | with_reducible rfl | exact iN_succ _ | exact sm_go1 x (nat_ofNat (by omega)) (by with_reducible assumption) (by with_reducible assumption) | exact sm_go2 x (nat_ofNat (by omega)) (by with_reducible assumption) (by with_reducible assumption) | exact sm_go3 x (by with_reducible assumption) | rfl) ?_)); done)); (focus exact rfl); (focus exact rfl); (focus exact rfl))
    | ((with_reducible apply Ob.mk); exact ⟨⟨by decide, by decide⟩, by decide, (by have e := (enc_sz x len); show 8 ≤ _; omega)⟩)
    | ((with_reducible apply Ob.mk); exact bnd8 k64q1 (enc_sz x len) (lt8 k64q1 (enc_sz x len) hs1 (by with_reducible assumption)))
    | ((with_reducible apply Ob.mk); exact exB_lt hs1 _ _)
    | ((with_reducible apply Ob.mk); show k1 + 1 < 65536; omega)
    | ((conv => whnf); refine ⟨some 1, ⟨Nat.le_refl _, l1⟩, (by show len - 1 < len + 1; omega), ⟨?_, ?_, ?_, ?_, ?_⟩⟩; (focus ((repeat' ((conv => whnf); first | exact trivial | refine Both.mk (by first | with_reducible rfl | exact iN_succ _ | rfl) ?_)); done)); (focus ((repeat' ((conv => whnf); first | exact trivial | refine Both.mk (by first | with_reducible rfl | exact iN_succ _ | rfl) ?_)); done)); (focus exact rfl); (focus exact rfl); (focus exact rfl))
    | ((conv => whnf); refine ⟨some (k1 + 1), ⟨Nat.succ_le_succ (Nat.zero_le _), lt8 k64q1 (enc_sz x len) hs1 (by with_reducible assumption)⟩, (by have := lt8 k64q1 (enc_sz x len) hs1 (by with_reducible assumption); show len - (k1 + 1) < len - k1; omega), ⟨?_, ?_, ?_, ?_, ?_⟩⟩; (focus ((repeat' ((conv => whnf); first | exact trivial | refine Both.mk (by first | with_reducible rfl | exact iN_succ _ | exact congrArg (fun v => AV.one (.b64 true v)) at8n | exact congrArg (Blk.row 37 5 (k1 + 1)) (upT_go (dec (encB (inOf (inF x)) len)) q1.1 _ (dec_eq (encB (inOf (inF x)) len) (at8 k64q1) (at8p k64q1))) | rfl) ?_)); done)); (focus ((repeat' ((conv => whnf); first | exact trivial | refine Both.mk (by first | with_reducible rfl | exact iN_succ _ | exact congrArg (fun v => AV.one (.b64 true v)) at8n | exact congrArg (Blk.row 37 5 (k1 + 1)) (upT_go (dec (encB (inOf (inF x)) len)) q1.1 _ (dec_eq (encB (inOf (inF x)) len) (at8 k64q1) (at8p k64q1))) | rfl) ?_)); done)); (focus exact rfl); (focus exact rfl); (focus exact rfl))
    | ((with_reducible apply Ob.mk); exact ixn l64 (Nat.le_trans q2.1 l64) (by with_reducible assumption))
    | ((with_reducible apply Ob.mk); exact (ixn l64 (Nat.le_trans q2.1 l64) (by with_reducible assumption)).2)
    | (exfalso; exact no_f (same_no l64 q2.1 (by with_reducible assumption) (by with_reducible assumption)) (by with_reducible assumption))
    | (exfalso; exact no_t (same_end l64 q2 (by with_reducible assumption)) (by with_reducible assumption))
    | ((conv => whnf); refine ⟨k2 + 1, same_more q2 (ltn l64 (Nat.le_trans q2.1 l64) (by with_reducible assumption)) (same_yes l64 q2.1 (by with_reducible assumption)), (by have := ltn l64 (Nat.le_trans q2.1 l64) (by with_reducible assumption); show len - (k2 + 1) < len - k2; omega), ⟨?_, ?_, ?_, ?_, ?_⟩⟩; (focus ((repeat' ((conv => whnf); first | exact trivial | refine Both.mk (by first | with_reducible rfl | exact iN_succ _ | rfl) ?_)); done)); (focus ((repeat' ((conv => whnf); first | exact trivial | refine Both.mk (by first | with_reducible rfl | exact iN_succ _ | rfl) ?_)); done)); (focus exact rfl); (focus exact rfl); (focus exact rfl))
    | ((conv => whnf); exact rfl)
    | (with_reducible apply Ob.mk; skip)
    | ((conv => whnf); skip)
set_option maxRecDepth 100000 in
set_option maxHeartbeats 16000000 in
theorem Back_PE (s : ByteArray) (hs : s.size < 9223372036854775808) (T : TypeId) (len cap : Nat) (l1 : 1 ≤ len) (l70 : len ≤ 70) (x : IT) (l64 : len ≤ 64) (t70 : (70#64).slt (BitVec.ofNat 64 len) = false) (t1 : (BitVec.ofNat 64 len).slt 1#64 = false) (t64 : (64#64).slt (BitVec.ofNat 64 len) = false) (g3 : ((BitVec.ofNat 64 (encB (inOf (inF x)) len).size).srem 8#64 != 0#64) = false) (g5 : decide ((encB (inOf (inF x)) len) = { data := #[] }) = false) (g6 : (512#64).slt (BitVec.ofNat 64 (encB (inOf (inF x)) len).size) = false) (g9 : (0#64).slt (BitVec.ofNat 64 (encB (inOf (inF x)) len).size) = true) (f1 : (1000#64).slt (BitVec.ofNat 64 s.size) = false) (f3 : ((BitVec.ofNat 64 s.size).srem 8#64 != 0#64) = false) (f5 : decide (s = { data := #[] }) = false) (f6 : (512#64).slt (BitVec.ofNat 64 s.size) = false) (f9 : (0#64).slt (BitVec.ofNat 64 s.size) = true) (n : Nat) (hsz : s.size = 8 * n) (n1 : 1 ≤ n) (n64 : n ≤ 64) (hback : decide (encB (inOf (inF (upT (dec s) n))) n = s) = true) (hs1 : (encB (inOf (inF x)) len).size < 9223372036854775808) :
    FI Try.prog (tabMI Try.prog noData tb_b ms_b FSb 3) Try.f9 1 [.one (.slc 0 0 len cap), .one (.str s)] [(0, .ro T [.seg 5 len (inF x)])] (fun r _ => r = .one (.bool true)) := by
  repeat' (first
    | (with_reducible apply Given.mk; intro h; (try (have e0 : len = k0 := Nat.le_antisymm (ge_of_slt (by omega) (by omega) h) q0; subst e0)); (try (have e1 : len = k1 := Nat.le_antisymm (ge8 k64q1 (enc_sz x len) hs1 h) q1.2; subst e1)); (try (have e3 : n = k3 := Nat.le_antisymm (ge8 k64q3 hsz hs h) q3.2; subst e3)); (try simp only [t70, t1, t64, g3, g5, g6, g9, f1, f3, f5, f6, f9, hback, reduceCtorEq, decide_true, beq_self_eq_true, bne_self_eq_false, BitVec.reduceBEq, BitVec.reduceBNe] at h); (try ((fail_if_success (have _q := q2)); exact absurd h (by decide))))
    | ((conv => whnf); first
      | with_reducible apply Both.mk
      | ((fail_if_success (have _q := q0)); refine LoopP.mk (Nat) (fun k => k ≤ len) ((fun k => mkS (Try.f9).ntmps [(0, .one (.slc 0 0 len cap)), (1, .one (.str s)), (5, .one (.bool (smB x k))), (6, iN k)] [(0, .ro T [.seg 5 len (inF x)])])) (fun k => len - k) ⟨0, Nat.zero_le _, ⟨?_, ?_, ?_, ?_, ?_⟩⟩ ?_; (focus ((repeat' ((conv => whnf); first | exact trivial | refine Both.mk (by first | with_reducible rfl | exact iN_succ _ | rfl) ?_)); done)); (focus ((repeat' ((conv => whnf); first | exact trivial | refine Both.mk (by first | with_reducible rfl | exact iN_succ _ | rfl) ?_)); done)); (focus exact rfl); (focus exact rfl); (focus exact rfl); (rintro k0 q0; have k70 : k0 ≤ 70 := Nat.le_trans q0 l70))
      | ((have _q := q0); (fail_if_success (have _q := q1)); refine LoopP.mk (Option Nat) (fun q => match q with | none => True | some k => 1 ≤ k ∧ k ≤ len) ((fun q => Option.rec (mkS (Try.f18).ntmps [(0, .one (.str (encB (inOf (inF x)) len))), (2, .one (.raw (.slice none 0 0))), (4, .one (.b64 true 0#64))] [(0, .ro T [.seg 5 len (inF x)])]) (fun k => mkS (Try.f18).ntmps [(0, .one (.str (encB (inOf (inF x)) len))), (2, .one (.rsl 139 k)), (4, .one (.b64 true (BitVec.ofNat 64 (8 * k))))] [(139, .row 37 5 k (inF (upT (dec (encB (inOf (inF x)) len)) k))), (0, .ro T [.seg 5 len (inF x)])]) q)) (fun q => Option.rec (len + 1) (fun k => len - k) q) ⟨none, trivial, ⟨?_, ?_, ?_, ?_, ?_⟩⟩ ?_; (focus ((repeat' ((conv => whnf); first | exact trivial | refine Both.mk (by first | with_reducible rfl | exact iN_succ _ | rfl) ?_)); done)); (focus ((repeat' ((conv => whnf); first | exact trivial | refine Both.mk (by first | with_reducible rfl | exact iN_succ _ | rfl) ?_)); done)); (focus exact rfl); (focus exact rfl); (focus exact rfl); (rintro (_ | k1) q1 <;> (try (replace q1 : 1 ≤ k1 ∧ k1 ≤ len := q1; have k64q1 : k1 ≤ 64 := Nat.le_trans q1.2 l64))))
      | ((have _q := q1); (fail_if_success (have _q := q2)); refine LoopP.mk (Nat) (fun k => k ≤ len ∧ ∀ j, j < k → eqI x len j = true) ((fun k => mkS (Try.f13).ntmps [(0, .one (.rsl 47 len)), (1, .one (.slc 0 0 len cap)), (5, iN k)] [(47, .row 37 5 len (inF (upT (dec (encB (inOf (inF x)) len)) len))), (0, .ro T [.seg 5 len (inF x)])])) (fun k => len - k) ⟨0, ⟨Nat.zero_le _, fun j hj => absurd hj (by omega)⟩, ⟨?_, ?_, ?_, ?_, ?_⟩⟩ ?_; (focus ((repeat' ((conv => whnf); first | exact trivial | refine Both.mk (by first | with_reducible rfl | exact iN_succ _ | rfl) ?_)); done)); (focus ((repeat' ((conv => whnf); first | exact trivial | refine Both.mk (by first | with_reducible rfl | exact iN_succ _ | rfl) ?_)); done)); (focus exact rfl); (focus exact rfl); (focus exact rfl); (rintro k2 q2))
      | ((have _q := q2); (fail_if_success (have _q := q3)); refine LoopP.mk (Option Nat) (fun q => match q with | none => True | some k => 1 ≤ k ∧ k ≤ n) ((fun q => Option.rec (mkS (Try.f18).ntmps [(0, .one (.str s)), (2, .one (.raw (.slice none 0 0))), (4, .one (.b64 true 0#64))] [(47, .row 37 5 len (inF (upT (dec (encB (inOf (inF x)) len)) len))), (0, .ro T [.seg 5 len (inF x)])]) (fun k => mkS (Try.f18).ntmps [(0, .one (.str s)), (2, .one (.rsl 139 k)), (4, .one (.b64 true (BitVec.ofNat 64 (8 * k))))] [(139, .row 37 5 k (inF (upT (dec s) k))), (47, .row 37 5 len (inF (upT (dec (encB (inOf (inF x)) len)) len))), (0, .ro T [.seg 5 len (inF x)])]) q)) (fun q => Option.rec (n + 1) (fun k => n - k) q) ⟨none, trivial, ⟨?_, ?_, ?_, ?_, ?_⟩⟩ ?_; (focus ((repeat' ((conv => whnf); first | exact trivial | refine Both.mk (by first | with_reducible rfl | exact iN_succ _ | rfl) ?_)); done)); (focus ((repeat' ((conv => whnf); first | exact trivial | refine Both.mk (by first | with_reducible rfl | exact iN_succ _ | rfl) ?_)); done)); (focus exact rfl); (focus exact rfl); (focus exact rfl); (rintro (_ | k3) q3 <;> (try (replace q3 : 1 ≤ k3 ∧ k3 ≤ n := q3; have k64q3 : k3 ≤ 64 := Nat.le_trans q3.2 n64))))
))
  all_goals first
    | (with_reducible apply Ob.mk; kernel_rfl)
    | (with_reducible apply Ob.mk; with_reducible assumption)
    | ((with_reducible apply Ob.mk); exact fun _ => rfl)
    | ((with_reducible apply Ob.mk); exact (show (8#64 : BitVec 64) ≠ 0#64 by decide))
    | ((with_reducible apply Ob.mk); exact (show 0 + 1 < 65536 by decide))
    | ((with_reducible apply Ob.mk); exact (show 0 < 9223372036854775808 by decide))
    | ((with_reducible apply Ob.mk); exact ⟨rfl, fun _ => rfl, fun _ => rfl⟩)
    | ((with_reducible apply Ob.mk); exact Nat.le_refl _)
    | ((with_reducible apply Ob.mk); exact ix_ofNat (by omega) (lt_of_slt (by omega) (by omega) (by with_reducible assumption)))
    | ((with_reducible apply Ob.mk); exact (ix_ofNat (by omega) (lt_of_slt (by omega) (by omega) (by with_reducible assumption))).2)
    | ((with_reducible apply Ob.mk); exact ⟨Nat.le_refl _, by omega, .inr rfl⟩)
    | ((with_reducible apply Ob.mk); show len < 9223372036854775808; omega)
    | ((with_reducible apply Ob.mk); show n < 9223372036854775808; omega)
    | ((conv => whnf); refine ⟨k0 + 1, lt_of_slt (by omega) (by omega) (by with_reducible assumption), (by have := lt_of_slt (a := k0) (b := len) (by omega) (by omega) (by with_reducible assumption); show len - (k0 + 1) < len - k0; omega), ⟨?_, ?_, ?_, ?_, ?_⟩⟩; (focus ((repeat' ((conv => whnf); first | exact trivial | refine Both.mk (by first | with_reducible rfl | exact iN_succ _ | exact sm_go1 x (nat_ofNat (by omega)) (by with_reducible assumption) (by with_reducible assumption) | exact sm_go2 x (nat_ofNat (by omega)) (by with_reducible assumption) (by with_reducible assumption) | exact sm_go3 x (by with_reducible assumption) | rfl) ?_)); done)); (focus ((repeat' ((conv => whnf); first | exact trivial | refine Both.mk (by first | with_reducible rfl | exact iN_succ _ | exact sm_go1 x (nat_ofNat (by omega)) (by with_reducible assumption) (by with_reducible assumption) | exact sm_go2 x (nat_ofNat (by omega)) (by with_reducible assumption) (by with_reducible assumption) | exact sm_go3 x (by with_reducible assumption) | rfl) ?_)); done)); (focus exact rfl); (focus exact rfl); (focus exact rfl))
    | ((with_reducible apply Ob.mk); exact ⟨⟨by decide, by decide⟩, by decide, (by have e := (enc_sz x len); show 8 ≤ _; omega)⟩)
    | ((with_reducible apply Ob.mk); exact bnd8 k64q1 (enc_sz x len) (lt8 k64q1 (enc_sz x len) hs1 (by with_reducible assumption)))
    | ((with_reducible apply Ob.mk); exact exB_lt hs1 _ _)
    | ((with_reducible apply Ob.mk); show k1 + 1 < 65536; omega)
    | ((conv => whnf); refine ⟨some 1, ⟨Nat.le_refl _, l1⟩, (by show len - 1 < len + 1; omega), ⟨?_, ?_, ?_, ?_, ?_⟩⟩; (focus ((repeat' ((conv => whnf); first | exact trivial | refine Both.mk (by first | with_reducible rfl | exact iN_succ _ | rfl) ?_)); done)); (focus ((repeat' ((conv => whnf); first | exact trivial | refine Both.mk (by first | with_reducible rfl | exact iN_succ _ | rfl) ?_)); done)); (focus exact rfl); (focus exact rfl); (focus exact rfl))
    | ((conv => whnf); refine ⟨some (k1 + 1), ⟨Nat.succ_le_succ (Nat.zero_le _), lt8 k64q1 (enc_sz x len) hs1 (by with_reducible assumption)⟩, (by have := lt8 k64q1 (enc_sz x len) hs1 (by with_reducible assumption); show len - (k1 + 1) < len - k1; omega), ⟨?_, ?_, ?_, ?_, ?_⟩⟩; (focus ((repeat' ((conv => whnf); first | exact trivial | refine Both.mk (by first | with_reducible rfl | exact iN_succ _ | exact congrArg (fun v => AV.one (.b64 true v)) at8n | exact congrArg (Blk.row 37 5 (k1 + 1)) (upT_go (dec (encB (inOf (inF x)) len)) q1.1 _ (dec_eq (encB (inOf (inF x)) len) (at8 k64q1) (at8p k64q1))) | rfl) ?_)); done)); (focus ((repeat' ((conv => whnf); first | exact trivial | refine Both.mk (by first | with_reducible rfl | exact iN_succ _ | exact congrArg (fun v => AV.one (.b64 true v)) at8n | exact congrArg (Blk.row 37 5 (k1 + 1)) (upT_go (dec (encB (inOf (inF x)) len)) q1.1 _ (dec_eq (encB (inOf (inF x)) len) (at8 k64q1) (at8p k64q1))) | rfl) ?_)); done)); (focus exact rfl); (focus exact rfl); (focus exact rfl))
    | ((with_reducible apply Ob.mk); exact ixn l64 (Nat.le_trans q2.1 l64) (by with_reducible assumption))
    | ((with_reducible apply Ob.mk); exact (ixn l64 (Nat.le_trans q2.1 l64) (by with_reducible assumption)).2)
    | (exfalso; exact no_f (same_no l64 q2.1 (by with_reducible assumption) (by with_reducible assumption)) (by with_reducible assumption))
    | (exfalso; exact no_t (same_end l64 q2 (by with_reducible assumption)) (by with_reducible assumption))
    | ((conv => whnf); refine ⟨k2 + 1, same_more q2 (ltn l64 (Nat.le_trans q2.1 l64) (by with_reducible assumption)) (same_yes l64 q2.1 (by with_reducible assumption)), (by have := ltn l64 (Nat.le_trans q2.1 l64) (by with_reducible assumption); show len - (k2 + 1) < len - k2; omega), ⟨?_, ?_, ?_, ?_, ?_⟩⟩; (focus ((repeat' ((conv => whnf); first | exact trivial | refine Both.mk (by first | with_reducible rfl | exact iN_succ _ | rfl) ?_)); done)); (focus ((repeat' ((conv => whnf); first | exact trivial | refine Both.mk (by first | with_reducible rfl | exact iN_succ _ | rfl) ?_)); done)); (focus exact rfl); (focus exact rfl); (focus exact rfl))
    | ((with_reducible apply Ob.mk); exact ⟨⟨by decide, by decide⟩, by decide, (by have e := hsz; show 8 ≤ _; omega)⟩)
    | ((with_reducible apply Ob.mk); exact bnd8 k64q3 hsz (lt8 k64q3 hsz hs (by with_reducible assumption)))
    | ((with_reducible apply Ob.mk); exact exB_lt hs _ _)
    | ((with_reducible apply Ob.mk); show k3 + 1 < 65536; omega)
    | ((conv => whnf); refine ⟨some 1, ⟨Nat.le_refl _, n1⟩, (by show n - 1 < n + 1; omega), ⟨?_, ?_, ?_, ?_, ?_⟩⟩; (focus ((repeat' ((conv => whnf); first | exact trivial | refine Both.mk (by first | with_reducible rfl | exact iN_succ _ | rfl) ?_)); done)); (focus ((repeat' ((conv => whnf); first | exact trivial | refine Both.mk (by first | with_reducible rfl | exact iN_succ _ | rfl) ?_)); done)); (focus exact rfl); (focus exact rfl); (focus exact rfl))
    | ((conv => whnf); refine ⟨some (k3 + 1), ⟨Nat.succ_le_succ (Nat.zero_le _), lt8 k64q3 hsz hs (by with_reducible assumption)⟩, (by have := lt8 k64q3 hsz hs (by with_reducible assumption); show n - (k3 + 1) < n - k3; omega), ⟨?_, ?_, ?_, ?_, ?_⟩⟩; (focus ((repeat' ((conv => whnf); first | exact trivial | refine Both.mk (by first | with_reducible rfl | exact iN_succ _ | exact congrArg (fun v => AV.one (.b64 true v)) at8n | exact congrArg (Blk.row 37 5 (k3 + 1)) (upT_go (dec s) q3.1 _ (dec_eq s (at8 k64q3) (at8p k64q3))) | rfl) ?_)); done)); (focus ((repeat' ((conv => whnf); first | exact trivial | refine Both.mk (by first | with_reducible rfl | exact iN_succ _ | exact congrArg (fun v => AV.one (.b64 true v)) at8n | exact congrArg (Blk.row 37 5 (k3 + 1)) (upT_go (dec s) q3.1 _ (dec_eq s (at8 k64q3) (at8p k64q3))) | rfl) ?_)); done)); (focus exact rfl); (focus exact rfl); (focus exact rfl))
    | ((with_reducible apply Ob.mk); exact ⟨Nat.le_refl _, by omega, .inr rfl⟩)
    | ((conv => whnf); exact rfl)
    | (with_reducible apply Ob.mk; skip)
    | ((conv => whnf); skip)
set_option maxRecDepth 100000 in
set_option maxHeartbeats 16000000 in
theorem Back_XB (s : ByteArray) (hs : s.size < 9223372036854775808) (T : TypeId) (len cap : Nat) (l1 : 1 ≤ len) (l70 : len ≤ 70) (x : IT) (l64 : 64 < len) (t70 : (70#64).slt (BitVec.ofNat 64 len) = false) (t1 : (BitVec.ofNat 64 len).slt 1#64 = false) (t64 : (64#64).slt (BitVec.ofNat 64 len) = true) (g3 : ((BitVec.ofNat 64 (encB (inOf (inF x)) len).size).srem 8#64 != 0#64) = false) (g5 : decide ((encB (inOf (inF x)) len) = { data := #[] }) = false) (g6 : (512#64).slt (BitVec.ofNat 64 (encB (inOf (inF x)) len).size) = true) (f1 : (1000#64).slt (BitVec.ofNat 64 s.size) = false) (f3 : ((BitVec.ofNat 64 s.size).srem 8#64 != 0#64) = true) (hs1 : (encB (inOf (inF x)) len).size < 9223372036854775808) :
    FI Try.prog (tabMI Try.prog noData tb_b ms_b FSb 3) Try.f9 1 [.one (.slc 0 0 len cap), .one (.str s)] [(0, .ro T [.seg 5 len (inF x)])] (fun r _ => r = .one (.bool true)) := by
  repeat' (first
    | (with_reducible apply Given.mk; intro h; (try (have e0 : len = k0 := Nat.le_antisymm (ge_of_slt (by omega) (by omega) h) q0; subst e0)); (try simp only [t70, t1, t64, g3, g5, g6, f1, f3, reduceCtorEq, decide_true, beq_self_eq_true, bne_self_eq_false, BitVec.reduceBEq, BitVec.reduceBNe] at h); (try ((fail_if_success (have _q := q2)); exact absurd h (by decide))))
    | ((conv => whnf); first
      | with_reducible apply Both.mk
      | ((fail_if_success (have _q := q0)); refine LoopP.mk (Nat) (fun k => k ≤ len) ((fun k => mkS (Try.f9).ntmps [(0, .one (.slc 0 0 len cap)), (1, .one (.str s)), (5, .one (.bool (smB x k))), (6, iN k)] [(0, .ro T [.seg 5 len (inF x)])])) (fun k => len - k) ⟨0, Nat.zero_le _, ⟨?_, ?_, ?_, ?_, ?_⟩⟩ ?_; (focus ((repeat' ((conv => whnf); first | exact trivial | refine Both.mk (by first | with_reducible rfl | exact iN_succ _ | rfl) ?_)); done)); (focus ((repeat' ((conv => whnf); first | exact trivial | refine Both.mk (by first | with_reducible rfl | exact iN_succ _ | rfl) ?_)); done)); (focus exact rfl); (focus exact rfl); (focus exact rfl); (rintro k0 q0; have k70 : k0 ≤ 70 := Nat.le_trans q0 l70))
))
  all_goals first
    | (with_reducible apply Ob.mk; kernel_rfl)
    | (with_reducible apply Ob.mk; with_reducible assumption)
    | ((with_reducible apply Ob.mk); exact fun _ => rfl)
    | ((with_reducible apply Ob.mk); exact (show (8#64 : BitVec 64) ≠ 0#64 by decide))
    | ((with_reducible apply Ob.mk); exact (show 0 + 1 < 65536 by decide))
    | ((with_reducible apply Ob.mk); exact (show 0 < 9223372036854775808 by decide))
    | ((with_reducible apply Ob.mk); exact ⟨rfl, fun _ => rfl, fun _ => rfl⟩)
    | ((with_reducible apply Ob.mk); exact Nat.le_refl _)
    | ((with_reducible apply Ob.mk); exact ix_ofNat (by omega) (lt_of_slt (by omega) (by omega) (by with_reducible assumption)))
    | ((with_reducible apply Ob.mk); exact (ix_ofNat (by omega) (lt_of_slt (by omega) (by omega) (by with_reducible assumption))).2)
    | ((with_reducible apply Ob.mk); exact ⟨Nat.le_refl _, by omega, .inr rfl⟩)
    | ((with_reducible apply Ob.mk); show len < 9223372036854775808; omega)
    | ((with_reducible apply Ob.mk); show n < 9223372036854775808; omega)
    | ((conv => whnf); refine ⟨k0 + 1, lt_of_slt (by omega) (by omega) (by with_reducible assumption), (by have := lt_of_slt (a := k0) (b := len) (by omega) (by omega) (by with_reducible assumption); show len - (k0 + 1) < len - k0; omega), ⟨?_, ?_, ?_, ?_, ?_⟩⟩; (focus ((repeat' ((conv => whnf); first | exact trivial | refine Both.mk (by first | with_reducible rfl | exact iN_succ _ | exact sm_go1 x (nat_ofNat (by omega)) (by with_reducible assumption) (by with_reducible assumption) | exact sm_go2 x (nat_ofNat (by omega)) (by with_reducible assumption) (by with_reducible assumption) | exact sm_go3 x (by with_reducible assumption) | rfl) ?_)); done)); (focus ((repeat' ((conv => whnf); first | exact trivial | refine Both.mk (by first | with_reducible rfl | exact iN_succ _ | exact sm_go1 x (nat_ofNat (by omega)) (by with_reducible assumption) (by with_reducible assumption) | exact sm_go2 x (nat_ofNat (by omega)) (by with_reducible assumption) (by with_reducible assumption) | exact sm_go3 x (by with_reducible assumption) | rfl) ?_)); done)); (focus exact rfl); (focus exact rfl); (focus exact rfl))
    | ((conv => whnf); exact rfl)
    | (with_reducible apply Ob.mk; skip)
    | ((conv => whnf); skip)
set_option maxRecDepth 100000 in
set_option maxHeartbeats 16000000 in
theorem Back_XC (s : ByteArray) (hs : s.size < 9223372036854775808) (T : TypeId) (len cap : Nat) (l1 : 1 ≤ len) (l70 : len ≤ 70) (x : IT) (l64 : 64 < len) (t70 : (70#64).slt (BitVec.ofNat 64 len) = false) (t1 : (BitVec.ofNat 64 len).slt 1#64 = false) (t64 : (64#64).slt (BitVec.ofNat 64 len) = true) (g3 : ((BitVec.ofNat 64 (encB (inOf (inF x)) len).size).srem 8#64 != 0#64) = false) (g5 : decide ((encB (inOf (inF x)) len) = { data := #[] }) = false) (g6 : (512#64).slt (BitVec.ofNat 64 (encB (inOf (inF x)) len).size) = true) (f1 : (1000#64).slt (BitVec.ofNat 64 s.size) = false) (f3 : ((BitVec.ofNat 64 s.size).srem 8#64 != 0#64) = false) (f5 : decide (s = { data := #[] }) = true) (hs1 : (encB (inOf (inF x)) len).size < 9223372036854775808) :
    FI Try.prog (tabMI Try.prog noData tb_b ms_b FSb 3) Try.f9 1 [.one (.slc 0 0 len cap), .one (.str s)] [(0, .ro T [.seg 5 len (inF x)])] (fun r _ => r = .one (.bool true)) := by
  repeat' (first
    | (with_reducible apply Given.mk; intro h; (try (have e0 : len = k0 := Nat.le_antisymm (ge_of_slt (by omega) (by omega) h) q0; subst e0)); (try simp only [t70, t1, t64, g3, g5, g6, f1, f3, f5, reduceCtorEq, decide_true, beq_self_eq_true, bne_self_eq_false, BitVec.reduceBEq, BitVec.reduceBNe] at h); (try ((fail_if_success (have _q := q2)); exact absurd h (by decide))))
    | ((conv => whnf); first
      | with_reducible apply Both.mk
      | ((fail_if_success (have _q := q0)); refine LoopP.mk (Nat) (fun k => k ≤ len) ((fun k => mkS (Try.f9).ntmps [(0, .one (.slc 0 0 len cap)), (1, .one (.str s)), (5, .one (.bool (smB x k))), (6, iN k)] [(0, .ro T [.seg 5 len (inF x)])])) (fun k => len - k) ⟨0, Nat.zero_le _, ⟨?_, ?_, ?_, ?_, ?_⟩⟩ ?_; (focus ((repeat' ((conv => whnf); first | exact trivial | refine Both.mk (by first | with_reducible rfl | exact iN_succ _ | rfl) ?_)); done)); (focus ((repeat' ((conv => whnf); first | exact trivial | refine Both.mk (by first | with_reducible rfl | exact iN_succ _ | rfl) ?_)); done)); (focus exact rfl); (focus exact rfl); (focus exact rfl); (rintro k0 q0; have k70 : k0 ≤ 70 := Nat.le_trans q0 l70))
))
  all_goals first
    | (with_reducible apply Ob.mk; kernel_rfl)
    | (with_reducible apply Ob.mk; with_reducible assumption)
    | ((with_reducible apply Ob.mk); exact fun _ => rfl)
    | ((with_reducible apply Ob.mk); exact (show (8#64 : BitVec 64) ≠ 0#64 by decide))
    | ((with_reducible apply Ob.mk); exact (show 0 + 1 < 65536 by decide))
    | ((with_reducible apply Ob.mk); exact (show 0 < 9223372036854775808 by decide))
    | ((with_reducible apply Ob.mk); exact ⟨rfl, fun _ => rfl, fun _ => rfl⟩)
    | ((with_reducible apply Ob.mk); exact Nat.le_refl _)
    | ((with_reducible apply Ob.mk); exact ix_ofNat (by omega) (lt_of_slt (by omega) (by omega) (by with_reducible assumption)))
    | ((with_reducible apply Ob.mk); exact (ix_ofNat (by omega) (lt_of_slt (by omega) (by omega) (by with_reducible assumption))).2)
    | ((with_reducible apply Ob.mk); exact ⟨Nat.le_refl _, by omega, .inr rfl⟩)
    | ((with_reducible apply Ob.mk); show len < 9223372036854775808; omega)
    | ((with_reducible apply Ob.mk); show n < 9223372036854775808; omega)
    | ((conv => whnf); refine ⟨k0 + 1, lt_of_slt (by omega) (by omega) (by with_reducible assumption), (by have := lt_of_slt (a := k0) (b := len) (by omega) (by omega) (by with_reducible assumption); show len - (k0 + 1) < len - k0; omega), ⟨?_, ?_, ?_, ?_, ?_⟩⟩; (focus ((repeat' ((conv => whnf); first | exact trivial | refine Both.mk (by first | with_reducible rfl | exact iN_succ _ | exact sm_go1 x (nat_ofNat (by omega)) (by with_reducible assumption) (by with_reducible assumption) | exact sm_go2 x (nat_ofNat (by omega)) (by with_reducible assumption) (by with_reducible assumption) | exact sm_go3 x (by with_reducible assumption) | rfl) ?_)); done)); (focus ((repeat' ((conv => whnf); first | exact trivial | refine Both.mk (by first | with_reducible rfl | exact iN_succ _ | exact sm_go1 x (nat_ofNat (by omega)) (by with_reducible assumption) (by with_reducible assumption) | exact sm_go2 x (nat_ofNat (by omega)) (by with_reducible assumption) (by with_reducible assumption) | exact sm_go3 x (by with_reducible assumption) | rfl) ?_)); done)); (focus exact rfl); (focus exact rfl); (focus exact rfl))
    | ((conv => whnf); exact rfl)
    | (with_reducible apply Ob.mk; skip)
    | ((conv => whnf); skip)
set_option maxRecDepth 100000 in
set_option maxHeartbeats 16000000 in
theorem Back_XD (s : ByteArray) (hs : s.size < 9223372036854775808) (T : TypeId) (len cap : Nat) (l1 : 1 ≤ len) (l70 : len ≤ 70) (x : IT) (l64 : 64 < len) (t70 : (70#64).slt (BitVec.ofNat 64 len) = false) (t1 : (BitVec.ofNat 64 len).slt 1#64 = false) (t64 : (64#64).slt (BitVec.ofNat 64 len) = true) (g3 : ((BitVec.ofNat 64 (encB (inOf (inF x)) len).size).srem 8#64 != 0#64) = false) (g5 : decide ((encB (inOf (inF x)) len) = { data := #[] }) = false) (g6 : (512#64).slt (BitVec.ofNat 64 (encB (inOf (inF x)) len).size) = true) (f1 : (1000#64).slt (BitVec.ofNat 64 s.size) = false) (f3 : ((BitVec.ofNat 64 s.size).srem 8#64 != 0#64) = false) (f5 : decide (s = { data := #[] }) = false) (f6 : (512#64).slt (BitVec.ofNat 64 s.size) = true) (hs1 : (encB (inOf (inF x)) len).size < 9223372036854775808) :
    FI Try.prog (tabMI Try.prog noData tb_b ms_b FSb 3) Try.f9 1 [.one (.slc 0 0 len cap), .one (.str s)] [(0, .ro T [.seg 5 len (inF x)])] (fun r _ => r = .one (.bool true)) := by
  repeat' (first
    | (with_reducible apply Given.mk; intro h; (try (have e0 : len = k0 := Nat.le_antisymm (ge_of_slt (by omega) (by omega) h) q0; subst e0)); (try simp only [t70, t1, t64, g3, g5, g6, f1, f3, f5, f6, reduceCtorEq, decide_true, beq_self_eq_true, bne_self_eq_false, BitVec.reduceBEq, BitVec.reduceBNe] at h); (try ((fail_if_success (have _q := q2)); exact absurd h (by decide))))
    | ((conv => whnf); first
      | with_reducible apply Both.mk
      | ((fail_if_success (have _q := q0)); refine LoopP.mk (Nat) (fun k => k ≤ len) ((fun k => mkS (Try.f9).ntmps [(0, .one (.slc 0 0 len cap)), (1, .one (.str s)), (5, .one (.bool (smB x k))), (6, iN k)] [(0, .ro T [.seg 5 len (inF x)])])) (fun k => len - k) ⟨0, Nat.zero_le _, ⟨?_, ?_, ?_, ?_, ?_⟩⟩ ?_; (focus ((repeat' ((conv => whnf); first | exact trivial | refine Both.mk (by first | with_reducible rfl | exact iN_succ _ | rfl) ?_)); done)); (focus ((repeat' ((conv => whnf); first | exact trivial | refine Both.mk (by first | with_reducible rfl | exact iN_succ _ | rfl) ?_)); done)); (focus exact rfl); (focus exact rfl); (focus exact rfl); (rintro k0 q0; have k70 : k0 ≤ 70 := Nat.le_trans q0 l70))
))
  all_goals first
    | (with_reducible apply Ob.mk; kernel_rfl)
    | (with_reducible apply Ob.mk; with_reducible assumption)
    | ((with_reducible apply Ob.mk); exact fun _ => rfl)
    | ((with_reducible apply Ob.mk); exact (show (8#64 : BitVec 64) ≠ 0#64 by decide))
    | ((with_reducible apply Ob.mk); exact (show 0 + 1 < 65536 by decide))
    | ((with_reducible apply Ob.mk); exact (show 0 < 9223372036854775808 by decide))
    | ((with_reducible apply Ob.mk); exact ⟨rfl, fun _ => rfl, fun _ => rfl⟩)
    | ((with_reducible apply Ob.mk); exact Nat.le_refl _)
    | ((with_reducible apply Ob.mk); exact ix_ofNat (by omega) (lt_of_slt (by omega) (by omega) (by with_reducible assumption)))
    | ((with_reducible apply Ob.mk); exact (ix_ofNat (by omega) (lt_of_slt (by omega) (by omega) (by with_reducible assumption))).2)
    | ((with_reducible apply Ob.mk); exact ⟨Nat.le_refl _, by omega, .inr rfl⟩)
    | ((with_reducible apply Ob.mk); show len < 9223372036854775808; omega)
    | ((with_reducible apply Ob.mk); show n < 9223372036854775808; omega)
    | ((conv => whnf); refine ⟨k0 + 1, lt_of_slt (by omega) (by omega) (by with_reducible assumption), (by have := lt_of_slt (a := k0) (b := len) (by omega) (by omega) (by with_reducible assumption); show len - (k0 + 1) < len - k0; omega), ⟨?_, ?_, ?_, ?_, ?_⟩⟩; (focus ((repeat' ((conv => whnf); first | exact trivial | refine Both.mk (by first | with_reducible rfl | exact iN_succ _ | exact sm_go1 x (nat_ofNat (by omega)) (by with_reducible assumption) (by with_reducible assumption) | exact sm_go2 x (nat_ofNat (by omega)) (by with_reducible assumption) (by with_reducible assumption) | exact sm_go3 x (by with_reducible assumption) | rfl) ?_)); done)); (focus ((repeat' ((conv => whnf); first | exact trivial | refine Both.mk (by first | with_reducible rfl | exact iN_succ _ | exact sm_go1 x (nat_ofNat (by omega)) (by with_reducible assumption) (by with_reducible assumption) | exact sm_go2 x (nat_ofNat (by omega)) (by with_reducible assumption) (by with_reducible assumption) | exact sm_go3 x (by with_reducible assumption) | rfl) ?_)); done)); (focus exact rfl); (focus exact rfl); (focus exact rfl))
    | ((conv => whnf); exact rfl)
    | (with_reducible apply Ob.mk; skip)
    | ((conv => whnf); skip)
set_option maxRecDepth 100000 in
set_option maxHeartbeats 16000000 in
theorem Back_XE (s : ByteArray) (hs : s.size < 9223372036854775808) (T : TypeId) (len cap : Nat) (l1 : 1 ≤ len) (l70 : len ≤ 70) (x : IT) (l64 : 64 < len) (t70 : (70#64).slt (BitVec.ofNat 64 len) = false) (t1 : (BitVec.ofNat 64 len).slt 1#64 = false) (t64 : (64#64).slt (BitVec.ofNat 64 len) = true) (g3 : ((BitVec.ofNat 64 (encB (inOf (inF x)) len).size).srem 8#64 != 0#64) = false) (g5 : decide ((encB (inOf (inF x)) len) = { data := #[] }) = false) (g6 : (512#64).slt (BitVec.ofNat 64 (encB (inOf (inF x)) len).size) = true) (f1 : (1000#64).slt (BitVec.ofNat 64 s.size) = false) (f3 : ((BitVec.ofNat 64 s.size).srem 8#64 != 0#64) = false) (f5 : decide (s = { data := #[] }) = false) (f6 : (512#64).slt (BitVec.ofNat 64 s.size) = false) (f9 : (0#64).slt (BitVec.ofNat 64 s.size) = true) (n : Nat) (hsz : s.size = 8 * n) (n1 : 1 ≤ n) (n64 : n ≤ 64) (hback : decide (encB (inOf (inF (upT (dec s) n))) n = s) = true) (hs1 : (encB (inOf (inF x)) len).size < 9223372036854775808) :
    FI Try.prog (tabMI Try.prog noData tb_b ms_b FSb 3) Try.f9 1 [.one (.slc 0 0 len cap), .one (.str s)] [(0, .ro T [.seg 5 len (inF x)])] (fun r _ => r = .one (.bool true)) := by
  repeat' (first
    | (with_reducible apply Given.mk; intro h; (try (have e0 : len = k0 := Nat.le_antisymm (ge_of_slt (by omega) (by omega) h) q0; subst e0)); (try (have e3 : n = k3 := Nat.le_antisymm (ge8 k64q3 hsz hs h) q3.2; subst e3)); (try simp only [t70, t1, t64, g3, g5, g6, f1, f3, f5, f6, f9, hback, reduceCtorEq, decide_true, beq_self_eq_true, bne_self_eq_false, BitVec.reduceBEq, BitVec.reduceBNe] at h); (try ((fail_if_success (have _q := q2)); exact absurd h (by decide))))
    | ((conv => whnf); first
      | with_reducible apply Both.mk
      | ((fail_if_success (have _q := q0)); refine LoopP.mk (Nat) (fun k => k ≤ len) ((fun k => mkS (Try.f9).ntmps [(0, .one (.slc 0 0 len cap)), (1, .one (.str s)), (5, .one (.bool (smB x k))), (6, iN k)] [(0, .ro T [.seg 5 len (inF x)])])) (fun k => len - k) ⟨0, Nat.zero_le _, ⟨?_, ?_, ?_, ?_, ?_⟩⟩ ?_; (focus ((repeat' ((conv => whnf); first | exact trivial | refine Both.mk (by first | with_reducible rfl | exact iN_succ _ | rfl) ?_)); done)); (focus ((repeat' ((conv => whnf); first | exact trivial | refine Both.mk (by first | with_reducible rfl | exact iN_succ _ | rfl) ?_)); done)); (focus exact rfl); (focus exact rfl); (focus exact rfl); (rintro k0 q0; have k70 : k0 ≤ 70 := Nat.le_trans q0 l70))
      | ((have _q := q0); (fail_if_success (have _q := q3)); refine LoopP.mk (Option Nat) (fun q => match q with | none => True | some k => 1 ≤ k ∧ k ≤ n) ((fun q => Option.rec (mkS (Try.f18).ntmps [(0, .one (.str s)), (2, .one (.raw (.slice none 0 0))), (4, .one (.b64 true 0#64))] [(0, .ro T [.seg 5 len (inF x)])]) (fun k => mkS (Try.f18).ntmps [(0, .one (.str s)), (2, .one (.rsl 139 k)), (4, .one (.b64 true (BitVec.ofNat 64 (8 * k))))] [(139, .row 37 5 k (inF (upT (dec s) k))), (0, .ro T [.seg 5 len (inF x)])]) q)) (fun q => Option.rec (n + 1) (fun k => n - k) q) ⟨none, trivial, ⟨?_, ?_, ?_, ?_, ?_⟩⟩ ?_; (focus ((repeat' ((conv => whnf); first | exact trivial | refine Both.mk (by first | with_reducible rfl | exact iN_succ _ | rfl) ?_)); done)); (focus ((repeat' ((conv => whnf); first | exact trivial | refine Both.mk (by first | with_reducible rfl | exact iN_succ _ | rfl) ?_)); done)); (focus exact rfl); (focus exact rfl); (focus exact rfl); (rintro (_ | k3) q3 <;> (try (replace q3 : 1 ≤ k3 ∧ k3 ≤ n := q3; have k64q3 : k3 ≤ 64 := Nat.le_trans q3.2 n64))))
))
  all_goals first
    | (with_reducible apply Ob.mk; kernel_rfl)
    | (with_reducible apply Ob.mk; with_reducible assumption)
    | ((with_reducible apply Ob.mk); exact fun _ => rfl)
    | ((with_reducible apply Ob.mk); exact (show (8#64 : BitVec 64) ≠ 0#64 by decide))
    | ((with_reducible apply Ob.mk); exact (show 0 + 1 < 65536 by decide))
    | ((with_reducible apply Ob.mk); exact (show 0 < 9223372036854775808 by decide))
    | ((with_reducible apply Ob.mk); exact ⟨rfl, fun _ => rfl, fun _ => rfl⟩)
    | ((with_reducible apply Ob.mk); exact Nat.le_refl _)
    | ((with_reducible apply Ob.mk); exact ix_ofNat (by omega) (lt_of_slt (by omega) (by omega) (by with_reducible assumption)))
    | ((with_reducible apply Ob.mk); exact (ix_ofNat (by omega) (lt_of_slt (by omega) (by omega) (by with_reducible assumption))).2)
    | ((with_reducible apply Ob.mk); exact ⟨Nat.le_refl _, by omega, .inr rfl⟩)
    | ((with_reducible apply Ob.mk); show len < 9223372036854775808; omega)
    | ((with_reducible apply Ob.mk); show n < 9223372036854775808; omega)
    | ((conv => whnf); refine ⟨k0 + 1, lt_of_slt (by omega) (by omega) (by with_reducible assumption), (by have := lt_of_slt (a := k0) (b := len) (by omega) (by omega) (by with_reducible assumption); show len - (k0 + 1) < len - k0; omega), ⟨?_, ?_, ?_, ?_, ?_⟩⟩; (focus ((repeat' ((conv => whnf); first | exact trivial | refine Both.mk (by first | with_reducible rfl | exact iN_succ _ | exact sm_go1 x (nat_ofNat (by omega)) (by with_reducible assumption) (by with_reducible assumption) | exact sm_go2 x (nat_ofNat (by omega)) (by with_reducible assumption) (by with_reducible assumption) | exact sm_go3 x (by with_reducible assumption) | rfl) ?_)); done)); (focus ((repeat' ((conv => whnf); first | exact trivial | refine Both.mk (by first | with_reducible rfl | exact iN_succ _ | exact sm_go1 x (nat_ofNat (by omega)) (by with_reducible assumption) (by with_reducible assumption) | exact sm_go2 x (nat_ofNat (by omega)) (by with_reducible assumption) (by with_reducible assumption) | exact sm_go3 x (by with_reducible assumption) | rfl) ?_)); done)); (focus exact rfl); (focus exact rfl); (focus exact rfl))
    | ((with_reducible apply Ob.mk); exact ⟨⟨by decide, by decide⟩, by decide, (by have e := hsz; show 8 ≤ _; omega)⟩)
    | ((with_reducible apply Ob.mk); exact bnd8 k64q3 hsz (lt8 k64q3 hsz hs (by with_reducible assumption)))
    | ((with_reducible apply Ob.mk); exact exB_lt hs _ _)
    | ((with_reducible apply Ob.mk); show k3 + 1 < 65536; omega)
    | ((conv => whnf); refine ⟨some 1, ⟨Nat.le_refl _, n1⟩, (by show n - 1 < n + 1; omega), ⟨?_, ?_, ?_, ?_, ?_⟩⟩; (focus ((repeat' ((conv => whnf); first | exact trivial | refine Both.mk (by first | with_reducible rfl | exact iN_succ _ | rfl) ?_)); done)); (focus ((repeat' ((conv => whnf); first | exact trivial | refine Both.mk (by first | with_reducible rfl | exact iN_succ _ | rfl) ?_)); done)); (focus exact rfl); (focus exact rfl); (focus exact rfl))
    | ((conv => whnf); refine ⟨some (k3 + 1), ⟨Nat.succ_le_succ (Nat.zero_le _), lt8 k64q3 hsz hs (by with_reducible assumption)⟩, (by have := lt8 k64q3 hsz hs (by with_reducible assumption); show n - (k3 + 1) < n - k3; omega), ⟨?_, ?_, ?_, ?_, ?_⟩⟩; (focus ((repeat' ((conv => whnf); first | exact trivial | refine Both.mk (by first | with_reducible rfl | exact iN_succ _ | exact congrArg (fun v => AV.one (.b64 true v)) at8n | exact congrArg (Blk.row 37 5 (k3 + 1)) (upT_go (dec s) q3.1 _ (dec_eq s (at8 k64q3) (at8p k64q3))) | rfl) ?_)); done)); (focus ((repeat' ((conv => whnf); first | exact trivial | refine Both.mk (by first | with_reducible rfl | exact iN_succ _ | exact congrArg (fun v => AV.one (.b64 true v)) at8n | exact congrArg (Blk.row 37 5 (k3 + 1)) (upT_go (dec s) q3.1 _ (dec_eq s (at8 k64q3) (at8p k64q3))) | rfl) ?_)); done)); (focus exact rfl); (focus exact rfl); (focus exact rfl))
    | ((with_reducible apply Ob.mk); exact ⟨Nat.le_refl _, by omega, .inr rfl⟩)
    | ((conv => whnf); exact rfl)
    | (with_reducible apply Ob.mk; skip)
    | ((conv => whnf); skip)
set_option maxRecDepth 100000 in
set_option maxHeartbeats 16000000 in
theorem Back_0B (s : ByteArray) (hs : s.size < 9223372036854775808) (ad : Option Addr) (cap : Nat) (t70 : (70#64).slt (0#64) = false) (t1 : (0#64).slt 1#64 = true) (g3 : ((BitVec.ofNat 64 (encB (inOf fun _ => []) 0).size).srem 8#64 != 0#64) = false) (g5 : decide ((encB (inOf fun _ => []) 0) = { data := #[] }) = true) (f1 : (1000#64).slt (BitVec.ofNat 64 s.size) = false) (f3 : ((BitVec.ofNat 64 s.size).srem 8#64 != 0#64) = true) :
    FI Try.prog (tabMI Try.prog noData tb_b ms_b FSb 3) Try.f9 1 [.one (.raw (.slice ad 0 cap)), .one (.str s)] [] (fun r _ => r = .one (.bool true)) := by
  repeat' (first
    | (with_reducible apply Given.mk; intro h; (try simp only [t70, t1, g3, g5, f1, f3, reduceCtorEq, decide_true, beq_self_eq_true, bne_self_eq_false, BitVec.reduceBEq, BitVec.reduceBNe] at h); (try ((fail_if_success (have _q := q2)); exact absurd h (by decide))))
    | ((conv => whnf); first
      | with_reducible apply Both.mk
      | refine LoopP.times 1 ?_
))
  all_goals first
    | (with_reducible apply Ob.mk; kernel_rfl)
    | (with_reducible apply Ob.mk; with_reducible assumption)
    | ((with_reducible apply Ob.mk); exact fun _ => rfl)
    | ((with_reducible apply Ob.mk); exact (show (8#64 : BitVec 64) ≠ 0#64 by decide))
    | ((with_reducible apply Ob.mk); exact (show 0 + 1 < 65536 by decide))
    | ((with_reducible apply Ob.mk); exact (show 0 < 9223372036854775808 by decide))
    | ((with_reducible apply Ob.mk); exact ⟨rfl, fun _ => rfl, fun _ => rfl⟩)
    | ((with_reducible apply Ob.mk); exact Nat.le_refl _)
    | ((with_reducible apply Ob.mk); exact ⟨by decide, .inl rfl⟩)
    | ((conv => whnf); exact rfl)
    | (with_reducible apply Ob.mk; skip)
    | ((conv => whnf); skip)
set_option maxRecDepth 100000 in
set_option maxHeartbeats 16000000 in
theorem Back_0C (s : ByteArray) (hs : s.size < 9223372036854775808) (ad : Option Addr) (cap : Nat) (t70 : (70#64).slt (0#64) = false) (t1 : (0#64).slt 1#64 = true) (g3 : ((BitVec.ofNat 64 (encB (inOf fun _ => []) 0).size).srem 8#64 != 0#64) = false) (g5 : decide ((encB (inOf fun _ => []) 0) = { data := #[] }) = true) (f1 : (1000#64).slt (BitVec.ofNat 64 s.size) = false) (f3 : ((BitVec.ofNat 64 s.size).srem 8#64 != 0#64) = false) (f5 : decide (s = { data := #[] }) = true) :
    FI Try.prog (tabMI Try.prog noData tb_b ms_b FSb 3) Try.f9 1 [.one (.raw (.slice ad 0 cap)), .one (.str s)] [] (fun r _ => r = .one (.bool true)) := by
  repeat' (first
    | (with_reducible apply Given.mk; intro h; (try simp only [t70, t1, g3, g5, f1, f3, f5, reduceCtorEq, decide_true, beq_self_eq_true, bne_self_eq_false, BitVec.reduceBEq, BitVec.reduceBNe] at h); (try ((fail_if_success (have _q := q2)); exact absurd h (by decide))))
    | ((conv => whnf); first
      | with_reducible apply Both.mk
      | refine LoopP.times 1 ?_
))
  all_goals first
    | (with_reducible apply Ob.mk; kernel_rfl)
    | (with_reducible apply Ob.mk; with_reducible assumption)
    | ((with_reducible apply Ob.mk); exact fun _ => rfl)
    | ((with_reducible apply Ob.mk); exact (show (8#64 : BitVec 64) ≠ 0#64 by decide))
    | ((with_reducible apply Ob.mk); exact (show 0 + 1 < 65536 by decide))
    | ((with_reducible apply Ob.mk); exact (show 0 < 9223372036854775808 by decide))
    | ((with_reducible apply Ob.mk); exact ⟨rfl, fun _ => rfl, fun _ => rfl⟩)
    | ((with_reducible apply Ob.mk); exact Nat.le_refl _)
    | ((with_reducible apply Ob.mk); exact ⟨by decide, .inl rfl⟩)
    | ((conv => whnf); exact rfl)
    | (with_reducible apply Ob.mk; skip)
    | ((conv => whnf); skip)
set_option maxRecDepth 100000 in
set_option maxHeartbeats 16000000 in
theorem Back_0D (s : ByteArray) (hs : s.size < 9223372036854775808) (ad : Option Addr) (cap : Nat) (t70 : (70#64).slt (0#64) = false) (t1 : (0#64).slt 1#64 = true) (g3 : ((BitVec.ofNat 64 (encB (inOf fun _ => []) 0).size).srem 8#64 != 0#64) = false) (g5 : decide ((encB (inOf fun _ => []) 0) = { data := #[] }) = true) (f1 : (1000#64).slt (BitVec.ofNat 64 s.size) = false) (f3 : ((BitVec.ofNat 64 s.size).srem 8#64 != 0#64) = false) (f5 : decide (s = { data := #[] }) = false) (f6 : (512#64).slt (BitVec.ofNat 64 s.size) = true) :
    FI Try.prog (tabMI Try.prog noData tb_b ms_b FSb 3) Try.f9 1 [.one (.raw (.slice ad 0 cap)), .one (.str s)] [] (fun r _ => r = .one (.bool true)) := by
  repeat' (first
    | (with_reducible apply Given.mk; intro h; (try simp only [t70, t1, g3, g5, f1, f3, f5, f6, reduceCtorEq, decide_true, beq_self_eq_true, bne_self_eq_false, BitVec.reduceBEq, BitVec.reduceBNe] at h); (try ((fail_if_success (have _q := q2)); exact absurd h (by decide))))
    | ((conv => whnf); first
      | with_reducible apply Both.mk
      | refine LoopP.times 1 ?_
))
  all_goals first
    | (with_reducible apply Ob.mk; kernel_rfl)
    | (with_reducible apply Ob.mk; with_reducible assumption)
    | ((with_reducible apply Ob.mk); exact fun _ => rfl)
    | ((with_reducible apply Ob.mk); exact (show (8#64 : BitVec 64) ≠ 0#64 by decide))
    | ((with_reducible apply Ob.mk); exact (show 0 + 1 < 65536 by decide))
    | ((with_reducible apply Ob.mk); exact (show 0 < 9223372036854775808 by decide))
    | ((with_reducible apply Ob.mk); exact ⟨rfl, fun _ => rfl, fun _ => rfl⟩)
    | ((with_reducible apply Ob.mk); exact Nat.le_refl _)
    | ((with_reducible apply Ob.mk); exact ⟨by decide, .inl rfl⟩)
    | ((conv => whnf); exact rfl)
    | (with_reducible apply Ob.mk; skip)
    | ((conv => whnf); skip)
set_option maxRecDepth 100000 in
set_option maxHeartbeats 16000000 in
theorem Back_0E (s : ByteArray) (hs : s.size < 9223372036854775808) (ad : Option Addr) (cap : Nat) (t70 : (70#64).slt (0#64) = false) (t1 : (0#64).slt 1#64 = true) (g3 : ((BitVec.ofNat 64 (encB (inOf fun _ => []) 0).size).srem 8#64 != 0#64) = false) (g5 : decide ((encB (inOf fun _ => []) 0) = { data := #[] }) = true) (f1 : (1000#64).slt (BitVec.ofNat 64 s.size) = false) (f3 : ((BitVec.ofNat 64 s.size).srem 8#64 != 0#64) = false) (f5 : decide (s = { data := #[] }) = false) (f6 : (512#64).slt (BitVec.ofNat 64 s.size) = false) (f9 : (0#64).slt (BitVec.ofNat 64 s.size) = true) (n : Nat) (hsz : s.size = 8 * n) (n1 : 1 ≤ n) (n64 : n ≤ 64) (hback : decide (encB (inOf (inF (upT (dec s) n))) n = s) = true) :
    FI Try.prog (tabMI Try.prog noData tb_b ms_b FSb 3) Try.f9 1 [.one (.raw (.slice ad 0 cap)), .one (.str s)] [] (fun r _ => r = .one (.bool true)) := by
  repeat' (first
    | (with_reducible apply Given.mk; intro h; (try (have e3 : n = k3 := Nat.le_antisymm (ge8 k64q3 hsz hs h) q3.2; subst e3)); (try simp only [t70, t1, g3, g5, f1, f3, f5, f6, f9, hback, reduceCtorEq, decide_true, beq_self_eq_true, bne_self_eq_false, BitVec.reduceBEq, BitVec.reduceBNe] at h); (try ((fail_if_success (have _q := q2)); exact absurd h (by decide))))
    | ((conv => whnf); first
      | with_reducible apply Both.mk
      | ((fail_if_success (have _q := q3)); refine LoopP.mk (Option Nat) (fun q => match q with | none => True | some k => 1 ≤ k ∧ k ≤ n) ((fun q => Option.rec (mkS (Try.f18).ntmps [(0, .one (.str s)), (2, .one (.raw (.slice none 0 0))), (4, .one (.b64 true 0#64))] []) (fun k => mkS (Try.f18).ntmps [(0, .one (.str s)), (2, .one (.rsl 139 k)), (4, .one (.b64 true (BitVec.ofNat 64 (8 * k))))] [(139, .row 37 5 k (inF (upT (dec s) k)))]) q)) (fun q => Option.rec (n + 1) (fun k => n - k) q) ⟨none, trivial, ⟨?_, ?_, ?_, ?_, ?_⟩⟩ ?_; (focus ((repeat' ((conv => whnf); first | exact trivial | refine Both.mk (by first | with_reducible rfl | exact iN_succ _ | rfl) ?_)); done)); (focus ((repeat' ((conv => whnf); first | exact trivial | refine Both.mk (by first | with_reducible rfl | exact iN_succ _ | rfl) ?_)); done)); (focus exact rfl); (focus exact rfl); (focus exact rfl); (rintro (_ | k3) q3 <;> (try (replace q3 : 1 ≤ k3 ∧ k3 ≤ n := q3; have k64q3 : k3 ≤ 64 := Nat.le_trans q3.2 n64))))
      | refine LoopP.times 1 ?_
))
  all_goals first
    | (with_reducible apply Ob.mk; kernel_rfl)
    | (with_reducible apply Ob.mk; with_reducible assumption)
    | ((with_reducible apply Ob.mk); exact fun _ => rfl)
    | ((with_reducible apply Ob.mk); exact (show (8#64 : BitVec 64) ≠ 0#64 by decide))
    | ((with_reducible apply Ob.mk); exact (show 0 + 1 < 65536 by decide))
    | ((with_reducible apply Ob.mk); exact (show 0 < 9223372036854775808 by decide))
    | ((with_reducible apply Ob.mk); exact ⟨rfl, fun _ => rfl, fun _ => rfl⟩)
    | ((with_reducible apply Ob.mk); exact Nat.le_refl _)
    | ((with_reducible apply Ob.mk); exact ⟨by decide, .inl rfl⟩)
    | ((with_reducible apply Ob.mk); exact ⟨⟨by decide, by decide⟩, by decide, (by have e := hsz; show 8 ≤ _; omega)⟩)
    | ((with_reducible apply Ob.mk); exact bnd8 k64q3 hsz (lt8 k64q3 hsz hs (by with_reducible assumption)))
    | ((with_reducible apply Ob.mk); exact exB_lt hs _ _)
    | ((with_reducible apply Ob.mk); show k3 + 1 < 65536; omega)
    | ((conv => whnf); refine ⟨some 1, ⟨Nat.le_refl _, n1⟩, (by show n - 1 < n + 1; omega), ⟨?_, ?_, ?_, ?_, ?_⟩⟩; (focus ((repeat' ((conv => whnf); first | exact trivial | refine Both.mk (by first | with_reducible rfl | exact iN_succ _ | rfl) ?_)); done)); (focus ((repeat' ((conv => whnf); first | exact trivial | refine Both.mk (by first | with_reducible rfl | exact iN_succ _ | rfl) ?_)); done)); (focus exact rfl); (focus exact rfl); (focus exact rfl))
    | ((conv => whnf); refine ⟨some (k3 + 1), ⟨Nat.succ_le_succ (Nat.zero_le _), lt8 k64q3 hsz hs (by with_reducible assumption)⟩, (by have := lt8 k64q3 hsz hs (by with_reducible assumption); show n - (k3 + 1) < n - k3; omega), ⟨?_, ?_, ?_, ?_, ?_⟩⟩; (focus ((repeat' ((conv => whnf); first | exact trivial | refine Both.mk (by first | with_reducible rfl | exact iN_succ _ | exact congrArg (fun v => AV.one (.b64 true v)) at8n | exact congrArg (Blk.row 37 5 (k3 + 1)) (upT_go (dec s) q3.1 _ (dec_eq s (at8 k64q3) (at8p k64q3))) | rfl) ?_)); done)); (focus ((repeat' ((conv => whnf); first | exact trivial | refine Both.mk (by first | with_reducible rfl | exact iN_succ _ | exact congrArg (fun v => AV.one (.b64 true v)) at8n | exact congrArg (Blk.row 37 5 (k3 + 1)) (upT_go (dec s) q3.1 _ (dec_eq s (at8 k64q3) (at8p k64q3))) | rfl) ?_)); done)); (focus exact rfl); (focus exact rfl); (focus exact rfl))
    | ((with_reducible apply Ob.mk); exact ⟨Nat.le_refl _, by omega, .inr rfl⟩)
    | ((conv => whnf); exact rfl)
    | (with_reducible apply Ob.mk; skip)
    | ((conv => whnf); skip)
set_option maxRecDepth 100000 in
set_option maxHeartbeats 8000000 in
theorem Back_S1 (s : ByteArray) (hs : s.size < 9223372036854775808) (T : TypeId) (len cap : Nat) (hl : len < 9223372036854775808) (x : IT) (t70 : (70#64).slt (BitVec.ofNat 64 len) = true) :
    FI Try.prog (tabMI Try.prog noData tb_b ms_b FSb 3) Try.f9 1 [.one (.slc 0 0 len cap), .one (.str s)] [(0, .ro T [.seg 5 len (inF x)])] (fun r _ => r = .one (.bool true)) := by
  repeat' (first
    | (with_reducible apply Given.mk; intro h; (try simp only [t70, reduceCtorEq] at h); (try exact absurd h (by decide)))
    | ((conv => whnf); with_reducible apply Both.mk))
  all_goals first
    | (with_reducible apply Ob.mk; kernel_rfl)
    | (with_reducible apply Ob.mk; with_reducible assumption)
    | ((conv => whnf); try exact rfl)
set_option maxRecDepth 100000 in
set_option maxHeartbeats 8000000 in
theorem Back_S2 (s : ByteArray) (hs : s.size < 9223372036854775808) (T : TypeId) (len cap : Nat) (hl : len < 9223372036854775808) (x : IT) (t70 : (70#64).slt (BitVec.ofNat 64 len) = false) (f1 : (1000#64).slt (BitVec.ofNat 64 s.size) = true) :
    FI Try.prog (tabMI Try.prog noData tb_b ms_b FSb 3) Try.f9 1 [.one (.slc 0 0 len cap), .one (.str s)] [(0, .ro T [.seg 5 len (inF x)])] (fun r _ => r = .one (.bool true)) := by
  repeat' (first
    | (with_reducible apply Given.mk; intro h; (try simp only [t70, f1, reduceCtorEq] at h); (try exact absurd h (by decide)))
    | ((conv => whnf); with_reducible apply Both.mk))
  all_goals first
    | (with_reducible apply Ob.mk; kernel_rfl)
    | (with_reducible apply Ob.mk; with_reducible assumption)
    | ((conv => whnf); try exact rfl)
set_option maxRecDepth 100000 in
set_option maxHeartbeats 8000000 in
theorem Back_S0 (s : ByteArray) (hs : s.size < 9223372036854775808) (ad : Option Addr) (cap : Nat) (t70 : (70#64).slt 0#64 = false) (f1 : (1000#64).slt (BitVec.ofNat 64 s.size) = true) :
    FI Try.prog (tabMI Try.prog noData tb_b ms_b FSb 3) Try.f9 1 [.one (.raw (.slice ad 0 cap)), .one (.str s)] [] (fun r _ => r = .one (.bool true)) := by
  repeat' (first
    | (with_reducible apply Given.mk; intro h; (try simp only [t70, f1, reduceCtorEq] at h); (try exact absurd h (by decide)))
    | ((conv => whnf); with_reducible apply Both.mk))
  all_goals first
    | (with_reducible apply Ob.mk; kernel_rfl)
    | (with_reducible apply Ob.mk; with_reducible assumption)
    | ((conv => whnf); try exact rfl)
theorem fE (s : ByteArray) (hs : s.size < 9223372036854775808) :
    (1000#64).slt (BitVec.ofNat 64 s.size) = true ∨ ((1000#64).slt (BitVec.ofNat 64 s.size) = false ∧ (
    ((BitVec.ofNat 64 s.size).srem 8#64 != 0#64) = true ∨ (((BitVec.ofNat 64 s.size).srem 8#64 != 0#64) = false ∧ (
    decide (s = { data := #[] }) = true ∨ (decide (s = { data := #[] }) = false ∧ (
    (512#64).slt (BitVec.ofNat 64 s.size) = true ∨ ∃ n, s.size = 8 * n ∧ 1 ≤ n ∧ n ≤ 64 ∧ (512#64).slt (BitVec.ofNat 64 s.size) = false ∧ (0#64).slt (BitVec.ofNat 64 s.size) = true)))))) := by
  rcases facts_of s hs 0 (by decide) with ⟨-, f1⟩ | ⟨f1, ⟨-, f3, -⟩ | ⟨f3, -, ⟨f5, -⟩ | ⟨f5, -, ⟨f6, -⟩ | ⟨n, h1, h2, h3, f6, -, f9⟩⟩⟩⟩
  · exact .inl f1
  · exact .inr ⟨f1, .inl f3⟩
  · exact .inr ⟨f1, .inr ⟨f3, .inl f5⟩⟩
  · exact .inr ⟨f1, .inr ⟨f3, .inr ⟨f5, .inl f6⟩⟩⟩
  · exact .inr ⟨f1, .inr ⟨f3, .inr ⟨f5, .inr ⟨n, h1, h2, h3, f6, f9⟩⟩⟩⟩
theorem back_dec (s : ByteArray) {n : Nat} (h : s.size = 8 * n) : decide (encB (inOf (inF (upT (dec s) n))) n = s) = true := decide_eq_true (encB_dec s h)
set_option maxRecDepth 100000 in
theorem ProgsBack_main1 (s : ByteArray) (hs : s.size < 9223372036854775808) (T : TypeId) (len cap : Nat) (hl : len < 9223372036854775808) (x : IT) (l1 : 1 ≤ len) :
    FI Try.prog (tabMI Try.prog noData tb_b ms_b FSb 3) Try.f9 1 [.one (.slc 0 0 len cap), .one (.str s)] [(0, .ro T [.seg 5 len (inF x)])] (fun r _ => r = .one (.bool true)) := by
  have u70 := slt_nat (a := 70) (by decide) hl
  by_cases h70 : 70 < len
  · exact Back_S1 s hs T len cap hl x (u70.trans (decide_eq_true h70))
  have t70 : (70#64).slt (BitVec.ofNat 64 len) = false := u70.trans (decide_eq_false h70)
  have l70 : len ≤ 70 := by omega
  have t1 : (BitVec.ofNat 64 len).slt 1#64 = false := (slt_nat (b := 1) hl (by decide)).trans (decide_eq_false (by omega))
  have hz : (encB (inOf (inF x)) len).size = 8 * len := enc_sz x len
  have hs1 : (encB (inOf (inF x)) len).size < 9223372036854775808 := by omega
  rcases fE s hs with f1 | ⟨f1, h⟩
  · exact Back_S2 s hs T len cap hl x t70 f1
  have g3 : ((BitVec.ofNat 64 (encB (inOf (inF x)) len).size).srem 8#64 != 0#64) = false := by rw [hz, srem8 (by omega), ne0 (by omega)]; exact decide_eq_false (by omega)
  have g5 : decide (encB (inOf (inF x)) len = { data := #[] }) = false := decide_eq_false fun e => by
    have : (encB (inOf (inF x)) len).size = 0 := by rw [e]; rfl
    omega
  have u6 := slt_nat (a := 512) (by decide) hs1
  have u64 := slt_nat (a := 64) (by decide) hl
  by_cases l64 : len ≤ 64
  · have t64 : (64#64).slt (BitVec.ofNat 64 len) = false := u64.trans (decide_eq_false (by omega))
    have g6 : (512#64).slt (BitVec.ofNat 64 (encB (inOf (inF x)) len).size) = false := u6.trans (decide_eq_false (by omega))
    have g9 : (0#64).slt (BitVec.ofNat 64 (encB (inOf (inF x)) len).size) = true := (slt_nat (a := 0) (by decide) hs1).trans (decide_eq_true (by omega))
    rcases h with f3 | ⟨f3, f5 | ⟨f5, f6 | ⟨n, h1, h2, h3, f6, f9⟩⟩⟩
    · exact Back_PB s hs T len cap l1 l70 x l64 t70 t1 t64 g3 g5 g6 g9 f1 f3 hs1
    · exact Back_PC s hs T len cap l1 l70 x l64 t70 t1 t64 g3 g5 g6 g9 f1 f3 f5 hs1
    · exact Back_PD s hs T len cap l1 l70 x l64 t70 t1 t64 g3 g5 g6 g9 f1 f3 f5 f6 hs1
    · exact Back_PE s hs T len cap l1 l70 x l64 t70 t1 t64 g3 g5 g6 g9 f1 f3 f5 f6 f9 n h1 h2 h3 (back_dec s h1) hs1
  · have t64 : (64#64).slt (BitVec.ofNat 64 len) = true := u64.trans (decide_eq_true (by omega))
    have g6 : (512#64).slt (BitVec.ofNat 64 (encB (inOf (inF x)) len).size) = true := u6.trans (decide_eq_true (by omega))
    rcases h with f3 | ⟨f3, f5 | ⟨f5, f6 | ⟨n, h1, h2, h3, f6, f9⟩⟩⟩
    · exact Back_XB s hs T len cap l1 l70 x (by omega) t70 t1 t64 g3 g5 g6 f1 f3 hs1
    · exact Back_XC s hs T len cap l1 l70 x (by omega) t70 t1 t64 g3 g5 g6 f1 f3 f5 hs1
    · exact Back_XD s hs T len cap l1 l70 x (by omega) t70 t1 t64 g3 g5 g6 f1 f3 f5 f6 hs1
    · exact Back_XE s hs T len cap l1 l70 x (by omega) t70 t1 t64 g3 g5 g6 f1 f3 f5 f6 f9 n h1 h2 h3 (back_dec s h1) hs1
set_option maxRecDepth 100000 in
theorem ProgsBack_main0 (s : ByteArray) (hs : s.size < 9223372036854775808) (ad : Option Addr) (cap : Nat) :
    FI Try.prog (tabMI Try.prog noData tb_b ms_b FSb 3) Try.f9 1 [.one (.raw (.slice ad 0 cap)), .one (.str s)] [] (fun r _ => r = .one (.bool true)) := by
  have t70 : (70#64).slt 0#64 = false := by decide
  have t1 : (0#64).slt 1#64 = true := by decide
  have g3 : ((BitVec.ofNat 64 (encB (inOf fun _ => []) 0).size).srem 8#64 != 0#64) = false := by rw [encB_size]; decide
  have g5 : decide (encB (inOf fun _ => []) 0 = { data := #[] }) = true := decide_eq_true rfl
  rcases fE s hs with f1 | ⟨f1, h⟩
  · exact Back_S0 s hs ad cap t70 f1
  rcases h with f3 | ⟨f3, f5 | ⟨f5, f6 | ⟨n, h1, h2, h3, f6, f9⟩⟩⟩
  · exact Back_0B s hs ad cap t70 t1 g3 g5 f1 f3
  · exact Back_0C s hs ad cap t70 t1 g3 g5 f1 f3 f5
  · exact Back_0D s hs ad cap t70 t1 g3 g5 f1 f3 f5 f6
  · exact Back_0E s hs ad cap t70 t1 g3 g5 f1 f3 f5 f6 f9 n h1 h2 h3 (back_dec s h1)
end Go.Proofs.Ytdaioplfgbgggaa
