/-
  InsnsMany, as the evaluator leaves it. Conditions: none.
-/
import Derived.Test.YtikhekbdliblnaaDoorInR
namespace Go.Proofs.YtikhekbdliblnaaDoor
open Go.Ev Go.RowKit
set_option linter.unusedVariables false
set_option linter.unusedSimpArgs false

def cnt (p : BitVec 8 → Bool) : Nat → Nat
  | 0 => 0
  | k + 1 => cnt p k + (if p ((BitVec.ofNat 64 k).signExtend 8) = true then 1 else 0)
theorem cnt_yes {p : BitVec 8 → Bool} {k : Nat} (h : p ((BitVec.ofNat 64 k).signExtend 8) = true) : AV.one (.b64 true (BitVec.ofNat 64 (cnt p k) + 1#64)) = iN (cnt p (k + 1)) := by
  rw [cnt, if_pos h]; exact iN_succ _
theorem cnt_no {p : BitVec 8 → Bool} {k : Nat} (h : p ((BitVec.ofNat 64 k).signExtend 8) = false) : AV.one (.b64 true (BitVec.ofNat 64 (cnt p k))) = iN (cnt p (k + 1)) := by
  rw [cnt, if_neg (by rw [h]; decide)]; rfl
theorem ic20 (o d s : BitVec 8) (f : BitVec 16) (i : BitVec 32) (w : Bool) : (iCheck o d s f i w != 20#64) = fK o w := by
  rw [iCheck_chk]
  generalize ((10#8).ult d || (10#8).ult s) = a
  generalize (fW o && d == 10#8) = b
  generalize (fI o && !(iN' o i)) = c
  generalize (!(fD o) && d != 0#8 || !(fS o) && s != 0#8 || !(fO o) && f != 0#16 || !(fI o) && i != 0#32 || o == 24#8 && (1#8).ult s) = e
  generalize fK o w = g
  revert a b c e g
  decide
def opAt (o : BitVec 8) : Nat → BitVec 8
  | 0 => o
  | k + 1 => (BitVec.ofNat 64 k).signExtend 8
def pOut (x : BitVec 8) : Bool := fK x false
def pIn (x : BitVec 8) : Bool := fK x true
def pSz (x : BitVec 8) : Bool := (0#64).slt (sizeV x)
theorem out_yes {k : Nat} (h : fK ((BitVec.ofNat 64 k).signExtend 8) false = true) : AV.one (.b64 true (BitVec.ofNat 64 (cnt pOut k) + 1#64)) = iN (cnt pOut (k + 1)) := cnt_yes (p := pOut) h
theorem out_no {k : Nat} (h : fK ((BitVec.ofNat 64 k).signExtend 8) false = false) : AV.one (.b64 true (BitVec.ofNat 64 (cnt pOut k))) = iN (cnt pOut (k + 1)) := cnt_no (p := pOut) h
theorem in_yes {k : Nat} (h : fK ((BitVec.ofNat 64 k).signExtend 8) true = true) : AV.one (.b64 true (BitVec.ofNat 64 (cnt pIn k) + 1#64)) = iN (cnt pIn (k + 1)) := cnt_yes (p := pIn) h
theorem in_no {k : Nat} (h : fK ((BitVec.ofNat 64 k).signExtend 8) true = false) : AV.one (.b64 true (BitVec.ofNat 64 (cnt pIn k))) = iN (cnt pIn (k + 1)) := cnt_no (p := pIn) h
theorem sz_yes {k : Nat} (h : (0#64).slt (sizeV ((BitVec.ofNat 64 k).signExtend 8)) = true) : AV.one (.b64 true (BitVec.ofNat 64 (cnt pSz k) + 1#64)) = iN (cnt pSz (k + 1)) := cnt_yes (p := pSz) h
theorem sz_no {k : Nat} (h : (0#64).slt (sizeV ((BitVec.ofNat 64 k).signExtend 8)) = false) : AV.one (.b64 true (BitVec.ofNat 64 (cnt pSz k))) = iN (cnt pSz (k + 1)) := cnt_no (p := pSz) h
theorem c_out : cnt pOut 256 = 110 := by decide +kernel
theorem c_in : cnt pIn 256 = 111 := by decide +kernel
theorem c_sz : cnt pSz 256 = 12 := by decide +kernel
set_option maxRecDepth 100000 in
set_option maxHeartbeats 4000000 in
theorem InsnsMany_main (m : Nat → Nat) (o d s : BitVec 8) (f : BitVec 16) (i : BitVec 32) : F Tryd.prog (tab (DI m) tb_firewallref02_Check) Tryd.f8 [.agg [.b8 false o, .b8 false d, .b8 false s, .b16 true f, .b32 true i]] (fun r => r = .one (.bool true)) := by
  repeat' (first
    | (with_reducible apply Given.mk; intro h; (try simp only [ic20, Bool.not_true, Bool.not_false, Bool.false_eq_true, Bool.true_eq_false, reduceCtorEq] at h); (try (have hK := slt_no (k := k) (n := 256) (by omega) (by omega) h; obtain rfl : k = 256 := (by omega); clear hK)); (try simp only [c_out, c_in, c_sz] at h); (try exact absurd h (by decide +kernel)))
    | ((conv => whnf); first | with_reducible apply Both.mk | (refine LoopP.mk Nat (fun k => k ≤ 256) (fun k => mkS 45 [(1, .one (.ptr 1 0)), (3, iN (cnt pOut k)), (4, iN (cnt pIn k)), (5, iN (cnt pSz k)), (6, iN k)] [(1, .cells 33 [.b8 false (opAt o k), .b8 false d, .b8 false s, .b16 true f, .b32 true i])]) (fun k => 256 - k) ⟨0, by omega, ⟨?_, ?_, rfl, rfl⟩⟩ ?_; (focus ((repeat' ((conv => whnf); first | exact trivial | refine Both.mk (by first | with_reducible rfl | rfl) ?_)); done)); (focus ((repeat' ((conv => whnf); first | exact trivial | refine Both.mk (by first | with_reducible rfl | rfl) ?_)); done)); intro k hk)))
  all_goals first
    | (with_reducible apply Ob.mk; kernel_rfl)
    | (with_reducible apply Ob.mk; decide)
    | (with_reducible apply Ob.mk; rfl)
    | ((conv => whnf); exact ⟨rfl⟩)
    | (have hlt := slt_yes (k := k) (n := 256) (by omega) (by omega) (by assumption)
       (conv => whnf)
       refine ⟨k + 1, by omega, by omega, ?_, ?_, rfl, rfl⟩
       all_goals repeat' ((conv => whnf); first | exact trivial | refine Both.mk (by first | with_reducible rfl | exact iN_succ k | with_reducible exact out_yes (by assumption) | with_reducible exact out_no (by assumption) | with_reducible exact in_yes (by assumption) | with_reducible exact in_no (by assumption) | with_reducible exact sz_yes (by assumption) | with_reducible exact sz_no (by assumption) | rfl) ?_))
end Go.Proofs.YtikhekbdliblnaaDoor
