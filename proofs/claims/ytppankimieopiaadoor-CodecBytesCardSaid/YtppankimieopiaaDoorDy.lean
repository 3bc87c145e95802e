/-
  Chapter 11: CodecBytes, as the evaluator walks it. Conditions: none.
-/
import Derived.Test.YtppankimieopiaaDoorDx
import Derived.Test.YtppankimieopiaaDoorDq
namespace Go.Proofs.YtppankimieopiaaDoor
open Go.Ep Go.RowKit
set_option linter.unusedVariables false
set_option linter.unusedSimpArgs false
abbrev tb_Y (m : Nat → Nat) : List (Nat × Sp) := (24, sp_Decode) :: tb_O m
theorem C_Y (G2 : World → Prop) (D2 : VData) (k2 : DataOK Tryd.prog G2 D2) (m : Nat → Nat) : CSound Tryd.prog (GN m G2) (tab (DN m D2) (tb_Y m)) := (C_O G2 D2 k2 m).cons (e_rDecode G2 D2 k2 m)
theorem C_yy (m : Nat → Nat) : CSound Tryd.prog (GV m) (tab (DN m noData) (tb_Y m)) := C_Y anyWorld noData .none m
theorem k_step (j : Nat) : BitVec.ofNat 64 j - 1#64 + 1#64 = BitVec.ofNat 64 (j + 1) - 1#64 := by
  rw [BitVec.ofNat_add j 1, BitVec.sub_add_cancel, BitVec.add_sub_cancel]
theorem k_stepA (j : Nat) : AV.one (.b64 true (BitVec.ofNat 64 j - 1#64 + 1#64)) = AV.one (.b64 true (BitVec.ofNat 64 (j + 1) - 1#64)) := by rw [k_step]
theorem k_le {j n : Nat} (hj : j ≤ n + 3) (hn : n ≤ 300) (h : (BitVec.ofNat 64 j - 1#64).sle (BitVec.ofNat 64 n + 1#64) = true) : j ≤ n + 2 := by
  rcases Nat.lt_or_ge (n + 2) j with g | g
  · exfalso
    obtain rfl : j = n + 3 := by omega
    rw [BitVec.sle_iff_toInt_le] at h
    have e1 : BitVec.ofNat 64 (n + 3) - 1#64 = BitVec.ofNat 64 (n + 2) := by
      rw [show n + 3 = (n + 2) + 1 from rfl, BitVec.ofNat_add (n + 2) 1, BitVec.add_sub_cancel]
    have e2 : BitVec.ofNat 64 n + 1#64 = BitVec.ofNat 64 (n + 1) := (BitVec.ofNat_add n 1).symm
    rw [e1, e2, toInt_ofNat (by omega), toInt_ofNat (by omega)] at h
    omega
  · exact g
theorem gt300 {s : ByteArray} (hs : s.size < 9223372036854775808) (h : (300#64).slt (BitVec.ofNat 64 s.size) = false) : s.size ≤ 300 := by
  rw [BitVec.slt_eq_decide, decide_eq_false_iff_not, toInt_ofNat hs] at h
  have z : (300#64).toInt = 300 := rfl
  rw [z] at h; omega
set_option maxRecDepth 100000 in
set_option maxHeartbeats 8000000 in
theorem CodecBytes_main (m : Nat → Nat) (s : ByteArray) (hs : s.size < 9223372036854775808) (a : BitVec 64) : F Tryd.prog (tab (DN m noData) (tb_Y m)) Tryd.f7 [.one (.str s), .one (.b64 true a)] (fun r => r = .one (.bool true)) := by
  cases f0 : (300#64).slt (BitVec.ofNat 64 s.size)
  all_goals
    repeat' (first
      | (with_reducible apply Given.mk; intro h; (try simp only [f0, beq_self_eq_true, bne_self_eq_false, Bool.and_self, Bool.not_true, Bool.true_eq_false, Bool.false_eq_true, eq_self] at h); (try ((fail_if_success (have _q := hj)); exact absurd h (by decide))); (try (have hk := k_le hj (gt300 hs f0) h)))
      | ((conv => whnf); first
        | with_reducible apply Both.mk
        | (refine LoopP.mk (Nat) (fun j => j ≤ s.size + 3) (fun j => mkS (Tryd.f7).ntmps [(0, .one (.str s)), (1, .one (.b64 true a)), (4, .one (.bool false)), (5, .one (.b64 true (BitVec.ofNat 64 j - 1#64)))] []) (fun j => s.size + 3 - j) ⟨0, Nat.zero_le _, ⟨?_, ?_, ?_, ?_, ?_⟩⟩ ?_; (focus ((repeat' ((conv => whnf); first | exact trivial | refine Both.mk (by first | with_reducible rfl | exact iN_succ _ | exact k_stepA _ | rfl) ?_)); done)); (focus ((repeat' ((conv => whnf); first | exact trivial | refine Both.mk (by first | with_reducible rfl | exact iN_succ _ | exact k_stepA _ | rfl) ?_)); done)); (focus exact rfl); (focus exact rfl); (focus exact rfl); (rintro j hj))))
    all_goals first
      | ((with_reducible apply Ob.mk); with_reducible exact hs)
      | (((conv => whnf); refine ⟨j + 1, (show j + 1 ≤ s.size + 3 from by omega), (show s.size + 3 - (j + 1) < s.size + 3 - j from by omega), ⟨?_, ?_, ?_, ?_, ?_⟩⟩; (focus ((repeat' ((conv => whnf); first | exact trivial | refine Both.mk (by first | with_reducible rfl | exact iN_succ _ | exact k_stepA _ | rfl) ?_)); done)); (focus ((repeat' ((conv => whnf); first | exact trivial | refine Both.mk (by first | with_reducible rfl | exact iN_succ _ | exact k_stepA _ | rfl) ?_)); done)); (focus exact rfl); (focus exact rfl); (focus exact rfl)))
      | (with_reducible apply Ob.mk; kernel_rfl)
      | ((fail_if_success (have _q := hj)); with_reducible apply Ob.mk; decide)
      | ((conv => whnf); exact ⟨rfl⟩)
      | ((conv => whnf); skip)
end Go.Proofs.YtppankimieopiaaDoor
