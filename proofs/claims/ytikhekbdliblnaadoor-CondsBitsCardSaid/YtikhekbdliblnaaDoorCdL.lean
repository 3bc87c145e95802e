/-
  The laws of chapter 06, as the evaluator leaves them. Conditions: none.
-/
import Derived.Test.YtikhekbdliblnaaDoorCdC
import Derived.Test.YtikhekbdliblnaaDoorCdO
namespace Go.Proofs.YtikhekbdliblnaaDoor
open Go.Ev Go.RowKit
set_option linter.unusedVariables false
set_option linter.unusedSimpArgs false

def sp_firewalllaw06_held : Sp
  | [] => some (Cond.t, .one (.bool true))
  | _ => none
set_option maxRecDepth 100000 in
set_option maxHeartbeats 4000000 in
theorem e_firewalllaw06_held (m : Nat → Nat) : EntryOK Tryd.prog (GC m) 11 sp_firewalllaw06_held := by
  refine .of_F (C_firewallref06_Holds m) (by kernel_rfl) Tryd.func11 (by kernel_rfl) (by kernel_rfl) (fun args c v h hc => ?_)
  unfold sp_firewalllaw06_held at h
  split at h
  · cases h
    refine ⟨rfl, rfl, ?_⟩
    repeat' (first
      | (with_reducible apply Given.mk; intro h; (try exact absurd h (by decide)))
      | ((conv => whnf); with_reducible apply Both.mk))
    all_goals first
      | (with_reducible apply Ob.mk; kernel_rfl)
      | (with_reducible apply Ob.mk; decide)
      | ((conv => whnf); refine ⟨?_⟩; first | with_reducible rfl | rfl)
  · cases h
abbrev tb_firewalllaw06_held : List (Nat × Sp) := (11, sp_firewalllaw06_held) :: tb_firewallref06_Holds
theorem C_firewalllaw06_held (m : Nat → Nat) : CSound Tryd.prog (GC m) (tab (DC m) tb_firewalllaw06_held) := (C_firewallref06_Holds m).cons (e_firewalllaw06_held m)

theorem shl_ok (k : Nat) : AV.one (.b64 true (BitVec.ofNat 64 (16 * k) + 16#64)) = iN (16 * (k + 1)) := by
  rw [← BitVec.ofNat_add]; rfl
theorem mod64n (b : BitVec 64) : (b % 64#64).toNat < 64 := by rw [BitVec.toNat_umod]; exact Nat.mod_lt _ (by decide)
set_option maxRecDepth 100000 in
set_option maxHeartbeats 4000000 in
theorem CondsTell_main (m : Nat → Nat) (o : BitVec 8) (a b : BitVec 64) : F Tryd.prog (tab (DC m) tb_firewalllaw06_held) Tryd.f3 [.one (.b8 false o), .one (.b64 false a), .one (.b64 false b)] (fun r => r = .one (.bool true)) := by
  repeat' (first
    | (with_reducible apply Given.mk; intro h; (try simp only [same06, bne_self_eq_false, beq_self_eq_true, Bool.not_true, Bool.not_false, Bool.false_eq_true, Bool.true_eq_false, reduceCtorEq] at h); (try exact absurd h (by decide)))
    | ((conv => whnf); first | with_reducible apply Both.mk))
  all_goals try first
    | (with_reducible apply Ob.mk; kernel_rfl)
    | (with_reducible apply Ob.mk; decide)
    | (with_reducible apply Ob.mk; exact mod64n _)
  conv => whnf
  refine LoopP.times 5 ?_
  repeat' (first
    | (with_reducible apply Given.mk; intro h; (try simp only [same06, bne_self_eq_false, beq_self_eq_true, Bool.not_true, Bool.not_false, Bool.false_eq_true, Bool.true_eq_false, reduceCtorEq] at h); (try exact absurd h (by decide)))
    | ((conv => whnf); first | with_reducible apply Both.mk | (refine LoopP.mk Nat (fun k => k ≤ 16) (fun k => mkS 81 [(0, .one (.b8 false o)), (1, .one (.b64 false a)), (2, .one (.b64 false b)), (7, .one (.ptr 7 0)), (8, .one (.b64 true 0#64)), (9, .one (.b64 false (b))), (10, iN (16 * k))] [(7, .cells 23 [.b64 false b, .b64 false a, .b64 false (a + b % 3#64), .b64 false (a ^^^ 1#64 <<< (b % 64#64).toNat)])]) (fun k => 16 - k) ⟨0, by omega, ⟨?_, ?_, rfl, rfl⟩⟩ ?_; (focus ((repeat' ((conv => whnf); first | exact trivial | refine Both.mk (by first | with_reducible rfl | rfl) ?_)); done)); (focus ((repeat' ((conv => whnf); first | exact trivial | refine Both.mk (by first | with_reducible rfl | rfl) ?_)); done)); intro k hk) | (refine LoopP.mk Nat (fun k => k ≤ 16) (fun k => mkS 81 [(0, .one (.b8 false o)), (1, .one (.b64 false a)), (2, .one (.b64 false b)), (7, .one (.ptr 7 0)), (8, .one (.b64 true 1#64)), (9, .one (.b64 false (a))), (10, iN (16 * k))] [(7, .cells 23 [.b64 false b, .b64 false a, .b64 false (a + b % 3#64), .b64 false (a ^^^ 1#64 <<< (b % 64#64).toNat)])]) (fun k => 16 - k) ⟨0, by omega, ⟨?_, ?_, rfl, rfl⟩⟩ ?_; (focus ((repeat' ((conv => whnf); first | exact trivial | refine Both.mk (by first | with_reducible rfl | rfl) ?_)); done)); (focus ((repeat' ((conv => whnf); first | exact trivial | refine Both.mk (by first | with_reducible rfl | rfl) ?_)); done)); intro k hk) | (refine LoopP.mk Nat (fun k => k ≤ 16) (fun k => mkS 81 [(0, .one (.b8 false o)), (1, .one (.b64 false a)), (2, .one (.b64 false b)), (7, .one (.ptr 7 0)), (8, .one (.b64 true 2#64)), (9, .one (.b64 false (a + b % 3#64))), (10, iN (16 * k))] [(7, .cells 23 [.b64 false b, .b64 false a, .b64 false (a + b % 3#64), .b64 false (a ^^^ 1#64 <<< (b % 64#64).toNat)])]) (fun k => 16 - k) ⟨0, by omega, ⟨?_, ?_, rfl, rfl⟩⟩ ?_; (focus ((repeat' ((conv => whnf); first | exact trivial | refine Both.mk (by first | with_reducible rfl | rfl) ?_)); done)); (focus ((repeat' ((conv => whnf); first | exact trivial | refine Both.mk (by first | with_reducible rfl | rfl) ?_)); done)); intro k hk) | (refine LoopP.mk Nat (fun k => k ≤ 16) (fun k => mkS 81 [(0, .one (.b8 false o)), (1, .one (.b64 false a)), (2, .one (.b64 false b)), (7, .one (.ptr 7 0)), (8, .one (.b64 true 3#64)), (9, .one (.b64 false (a ^^^ 1#64 <<< (b % 64#64).toNat))), (10, iN (16 * k))] [(7, .cells 23 [.b64 false b, .b64 false a, .b64 false (a + b % 3#64), .b64 false (a ^^^ 1#64 <<< (b % 64#64).toNat)])]) (fun k => 16 - k) ⟨0, by omega, ⟨?_, ?_, rfl, rfl⟩⟩ ?_; (focus ((repeat' ((conv => whnf); first | exact trivial | refine Both.mk (by first | with_reducible rfl | rfl) ?_)); done)); (focus ((repeat' ((conv => whnf); first | exact trivial | refine Both.mk (by first | with_reducible rfl | rfl) ?_)); done)); intro k hk)))
  all_goals first
    | (with_reducible apply Ob.mk; kernel_rfl)
    | (with_reducible apply Ob.mk; decide)
    | ((conv => whnf); exact ⟨rfl⟩)
    | (have hlt := slt_yes (k := 16 * k) (n := 256) (by omega) (by omega) (by assumption)
       (conv => whnf)
       refine ⟨k + 1, by omega, by omega, ?_, ?_, rfl, rfl⟩
       all_goals repeat' ((conv => whnf); first | exact trivial | refine Both.mk (by first | with_reducible rfl | exact shl_ok k | rfl) ?_))
set_option maxRecDepth 100000 in
set_option maxHeartbeats 4000000 in
theorem CondsOther_main (m : Nat → Nat) (a b : BitVec 64) (w : Bool) : F Tryd.prog (tab (DC m) tb_firewalllaw06_held) Tryd.f4 [.one (.b64 false a), .one (.b64 false b), .one (.bool w)] (fun r => r = .one (.bool true)) := by
  repeat' (first
    | (with_reducible apply Given.mk; intro h; (try simp only [ot0, ot1, ot2, ot3, ot4, sm0, sm1, sm2, sm3, sm4, sn0, sn1, sn2, sn3, sn4, tu1, tu2, bne_self_eq_false, beq_self_eq_true, Bool.not_true, Bool.not_false, Bool.false_eq_true, Bool.true_eq_false, reduceCtorEq] at h); (try exact absurd h (by decide)))
    | ((conv => whnf); first | with_reducible apply Both.mk | refine LoopP.times 6 ?_))
  all_goals first
    | (with_reducible apply Ob.mk; kernel_rfl)
    | (with_reducible apply Ob.mk; decide)
    | ((conv => whnf); exact ⟨rfl⟩)
set_option maxRecDepth 100000 in
set_option maxHeartbeats 4000000 in
theorem CondsSigned_main (m : Nat → Nat) (a b : BitVec 64) (w : Bool) : F Tryd.prog (tab (DC m) tb_firewalllaw06_held) Tryd.f5 [.one (.b64 false a), .one (.b64 false b), .one (.bool w)] (fun r => r = .one (.bool true)) := by
  have s1 : ∀ x y : BitVec 64, ((cHolds 32#8 true x y == cHolds 96#8 true x y) == (x &&& 9223372036854775808#64 == y &&& 9223372036854775808#64)) = true := sg1 true
  have s2 : ∀ x y : BitVec 64, ((cHolds 48#8 true x y == cHolds 112#8 true x y) == (x &&& 9223372036854775808#64 == y &&& 9223372036854775808#64)) = true := sg2 true
  have s3 : ∀ x y : BitVec 64, ((cHolds 160#8 true x y == cHolds 192#8 true x y) == (x &&& 9223372036854775808#64 == y &&& 9223372036854775808#64)) = true := sg3 true
  have s4 : ∀ x y : BitVec 64, ((cHolds 176#8 true x y == cHolds 208#8 true x y) == (x &&& 9223372036854775808#64 == y &&& 9223372036854775808#64)) = true := sg4 true
  have t1 : ∀ x y : BitVec 64, ((cHolds 32#8 false x y == cHolds 96#8 false x y) == (x &&& 2147483648#64 == y &&& 2147483648#64)) = true := sg1 false
  have t2 : ∀ x y : BitVec 64, ((cHolds 48#8 false x y == cHolds 112#8 false x y) == (x &&& 2147483648#64 == y &&& 2147483648#64)) = true := sg2 false
  have t3 : ∀ x y : BitVec 64, ((cHolds 160#8 false x y == cHolds 192#8 false x y) == (x &&& 2147483648#64 == y &&& 2147483648#64)) = true := sg3 false
  have t4 : ∀ x y : BitVec 64, ((cHolds 176#8 false x y == cHolds 208#8 false x y) == (x &&& 2147483648#64 == y &&& 2147483648#64)) = true := sg4 false
  cases w
  · repeat' (first
      | (with_reducible apply Given.mk; intro h; (try simp only [s1, s2, s3, s4, t1, t2, t3, t4, Bool.not_true, Bool.not_false, Bool.false_eq_true, Bool.true_eq_false, reduceCtorEq] at h); (try exact absurd h (by decide)))
      | ((conv => whnf); first | with_reducible apply Both.mk | refine LoopP.times 5 ?_))
    all_goals first
      | (with_reducible apply Ob.mk; kernel_rfl)
      | (with_reducible apply Ob.mk; decide)
      | ((conv => whnf); exact ⟨rfl⟩)
  · repeat' (first
      | (with_reducible apply Given.mk; intro h; (try simp only [s1, s2, s3, s4, t1, t2, t3, t4, Bool.not_true, Bool.not_false, Bool.false_eq_true, Bool.true_eq_false, reduceCtorEq] at h); (try exact absurd h (by decide)))
      | ((conv => whnf); first | with_reducible apply Both.mk | refine LoopP.times 5 ?_))
    all_goals first
      | (with_reducible apply Ob.mk; kernel_rfl)
      | (with_reducible apply Ob.mk; decide)
      | ((conv => whnf); exact ⟨rfl⟩)
theorem cnt64 (k : Nat) (h : k ≤ 64) : 0 ≤ (BitVec.ofNat 64 k).toInt := by rw [toInt_ofNat (by omega)]; omega
theorem anyLow (a b : BitVec 64) (k : Nat) : anyB a b (min (k + 1) 32) = (anyB a b (min k 32) || ((a.getLsbD k && b.getLsbD k) && decide (k < 32))) := by
  by_cases h : k < 32
  · rw [show min (k + 1) 32 = min k 32 + 1 by omega, anyB_succ, show min k 32 = k by omega, decide_eq_true h]; simp
  · rw [show min (k + 1) 32 = min k 32 by omega, decide_eq_false h]; simp
theorem bit_at (a : BitVec 64) (k : Nat) (h : k ≤ 64) : (a >>> (BitVec.ofNat 64 k).toNat % 2#64 == 1#64) = a.getLsbD k := by
  rw [toNat_ofNat (by omega), bit_eq]
theorem low_at (k : Nat) (h : k ≤ 64) : (BitVec.ofNat 64 k).slt 32#64 = decide (k < 32) := slt_ofNat (by omega) (by omega)
theorem top_at (k : Nat) (h : k ≤ 64) : (BitVec.ofNat 64 k).slt 64#64 = decide (k < 64) := slt_ofNat (by omega) (by omega)
set_option maxRecDepth 100000 in
set_option maxHeartbeats 4000000 in
theorem CondsBits_main (m : Nat → Nat) (a b : BitVec 64) (t : BitVec 8) : F Tryd.prog (tab (DC m) tb_firewalllaw06_held) Tryd.f6 [.one (.b64 false a), .one (.b64 false b), .one (.b8 false t)] (fun r => r = .one (.bool true)) := by
  have hp : ∀ n, n < 64 → 1#64 <<< n ≠ 0#64 := fun n hn => pow_ne hn
  repeat' (first
    | (with_reducible apply Given.mk; intro h; (try simp only [bt1, Bool.not_true, Bool.not_false, Bool.false_eq_true, Bool.true_eq_false, reduceCtorEq] at h); (try exact absurd h (by decide)))
    | ((conv => whnf); first | with_reducible apply Both.mk | (refine LoopP.mk Nat (fun k => k ≤ 64) (fun k => mkS 83 [(0, .one (.b64 false a)), (1, .one (.b64 false b)), (8, .one (.bool (anyB a b k))), (9, .one (.bool (anyB a b (min k 32)))), (10, iN k)] []) (fun k => 64 - k) ⟨0, by omega, ⟨?_, ?_, rfl, rfl⟩⟩ ?_; (focus ((repeat' ((conv => whnf); first | exact trivial | refine Both.mk (by first | with_reducible rfl | rfl) ?_)); done)); (focus ((repeat' ((conv => whnf); first | exact trivial | refine Both.mk (by first | with_reducible rfl | rfl) ?_)); done)); intro k hk)))
  all_goals first
    | (with_reducible apply Ob.mk; kernel_rfl)
    | (with_reducible apply Ob.mk; decide)
    | (with_reducible apply Ob.mk; exact hp _ (b8_lt t))
    | (with_reducible apply Ob.mk; exact cnt64 k hk)
    | ((conv => whnf); exact ⟨rfl⟩)
    | (exfalso; simp only [bt2] at *; simp_all; done)
    | (exfalso; have hk64 : k = 64 := (by have := slt_no (k := k) (n := 64) (by omega) (by omega) (by assumption); omega); subst hk64; simp_all [set64, set32]; done)
    | (have hlt := slt_yes (k := k) (n := 64) (by omega) (by omega) (by assumption)
       (conv => whnf)
       refine ⟨k + 1, by omega, by omega, ?_, ?_, rfl, rfl⟩
       all_goals repeat' ((conv => whnf); first | exact trivial | refine Both.mk (by first | with_reducible rfl | exact iN_succ k | (simp only [bit_at a k hk, bit_at b k hk, low_at k hk] at *; simp_all [anyB_succ, anyLow]; done) | rfl) ?_))
end Go.Proofs.YtikhekbdliblnaaDoor

