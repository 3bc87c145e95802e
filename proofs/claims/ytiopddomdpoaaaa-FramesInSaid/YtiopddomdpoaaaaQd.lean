/-
  Chapter 19: the laws' own functions: what they answer, by the evaluator. Conditions: as typed.
-/
import Derived.Test.YtiopddomdpoaaaaQb
namespace Go.Proofs.Ytiopddomdpoaaaa
open Go.Ep Go.RowKit
set_option linter.unusedVariables false
set_option linter.unusedSimpArgs false

def valV (k : BitVec 8) (by' : BitVec 64) : VV := if k % 4#8 == 0#8 then vZ else if k % 4#8 == 1#8 then ⟨3#64, 0#64, 0#64, -by', 0#64, nZ⟩ else vNum (nConst by')

def sp_firewalllaw19_value : Sp
  | [.agg [.b64 true o, .b64 true n, .b8 false k, .bool l], .one (.b64 true x)] => some (Cond.t, .agg [.b64 true ((valV k x).k), .b64 true ((valV k x).mp), .b64 true ((valV k x).id), .b64 true ((valV k x).off), .b64 true ((valV k x).su), .b64 false ((valV k x).n.tv), .b64 false ((valV k x).n.tm), .b64 false ((valV k x).n.lo), .b64 false ((valV k x).n.hi), .b64 true ((valV k x).n.slo), .b64 true ((valV k x).n.shi)])
  | _ => none
set_option maxRecDepth 100000 in
set_option maxHeartbeats 4000000 in
theorem e_firewalllaw19_value : EntryOK Try.prog anyWorld 16 sp_firewalllaw19_value := by
  refine .of_F (C_slots_Load) (by kernel_rfl) Try.func16 (by kernel_rfl) (by kernel_rfl) (fun args c v h hc => ?_)
  unfold sp_firewalllaw19_value at h
  split at h
  · rename_i o n k l x; cases h
    refine ⟨rfl, rfl, ?_⟩
    repeat' (first
      | (with_reducible apply Given.mk; intro h; (try exact absurd h (by decide)))
      | ((conv => whnf); with_reducible apply Both.mk))
    all_goals first
      | (with_reducible apply Ob.mk; kernel_rfl)
      | (with_reducible apply Ob.mk; decide)
      | (with_reducible apply Ob.mk; simp [ByteArray.size, catB, exB, valV, vZ, nZ, vNum, nConst]; done)
      | ((conv => whnf); refine ⟨?_⟩; first | with_reducible rfl | (simp only [valV, vZ, nZ, vNum, nConst, *, Bool.true_and, Bool.and_true, Bool.false_and, Bool.and_false, Bool.true_or, Bool.or_true, Bool.false_or, Bool.or_false, Bool.not_true, Bool.not_false, Bool.false_eq_true, Bool.true_eq_false, if_true, if_false, reduceCtorEq]; done) | (simp_all [valV, vZ, nZ, vNum, nConst]; done) | rfl)
  · cases h
abbrev tb_firewalllaw19_value : List (Nat × Sp) := (16, sp_firewalllaw19_value) :: tb_slots_Load
theorem C_firewalllaw19_value : CSound Try.prog anyWorld (tab noData (tb_firewalllaw19_value)) := (C_slots_Load).cons (e_firewalllaw19_value)


end Go.Proofs.Ytiopddomdpoaaaa
