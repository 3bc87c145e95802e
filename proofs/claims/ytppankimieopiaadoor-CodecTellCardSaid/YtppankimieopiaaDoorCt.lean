/-
  Chapter 11: CodecTell, as the evaluator walks it. Conditions: none.
-/
import Derived.Test.YtppankimieopiaaDoorCx
import Derived.Test.YtppankimieopiaaDoorCg
namespace Go.Proofs.YtppankimieopiaaDoor
open Go.Ep Go.RowKit
set_option linter.unusedVariables false
set_option linter.unusedSimpArgs false
abbrev tb_T (m : Nat → Nat) : List (Nat × Sp) := (19, sp_rEncode) :: (21, sp_rValid) :: tb_V m
theorem C_T (G2 : World → Prop) (D2 : VData) (k2 : DataOK Tryd.prog G2 D2) (m : Nat → Nat) : CSound Tryd.prog (GN m G2) (tab (DN m D2) (tb_T m)) := ((C_V G2 D2 k2 m).cons (e_rValid G2 D2 k2 m)).cons (e_rEncode G2 D2 k2 m)
set_option maxRecDepth 100000 in
set_option maxHeartbeats 16000000 in
theorem CodecTell_main (m : Nat → Nat) (k al cc sz : BitVec 64) (w sh : Bool) (d s : BitVec 64) (dp rl : BitVec 32) (im : BitVec 64) : F Tryd.prog (tab (DN m noData) (tb_T m)) Tryd.f6 [.agg [.b64 true k, .b64 true al, .b64 true cc, .b64 true sz, .bool w, .bool sh, .b64 true d, .b64 true s, .b32 true dp, .b32 true rl, .b64 true im]] (fun r => r = .one (.bool true)) := by
  repeat' (first
    | (with_reducible apply Given.mk; intro h; (try simp only [decide_true, beq_self_eq_true, bne_self_eq_false, Bool.not_true, Bool.false_eq_true] at h); (try exact absurd h (by decide)))
    | ((conv => whnf); first | with_reducible apply Both.mk | refine LoopP.times 26 ?_))
  all_goals first
    | (with_reducible apply Ob.mk; kernel_rfl)
    | (with_reducible apply Ob.mk; decide)
    | ((conv => whnf); exact ⟨rfl⟩)
    | ((conv => whnf); skip)
theorem C_ct (m : Nat → Nat) : CSound Tryd.prog (GV m) (tab (DN m noData) (tb_T m)) := C_T anyWorld noData .none m
end Go.Proofs.YtppankimieopiaaDoor
