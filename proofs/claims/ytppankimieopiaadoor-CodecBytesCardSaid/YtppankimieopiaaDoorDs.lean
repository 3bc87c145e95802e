/-
  Chapter 11: the document's first and registers: contracts. Conditions: as typed.
-/
import Derived.Test.YtppankimieopiaaDoorDfa
import Derived.Test.YtppankimieopiaaDoorDfb
import Derived.Test.YtppankimieopiaaDoorDfc
namespace Go.Proofs.YtppankimieopiaaDoor
open Go.Ep Go.RowKit
set_option linter.unusedVariables false
set_option linter.unusedSimpArgs false
set_option maxRecDepth 100000 in
theorem w_fir (D2 : VData) (m : Nat → Nat) (t : ByteArray) (i : BitVec 64) (k al cc sz : BitVec 64) (w sh : Bool) (d s : BitVec 64) (dp rl : BitVec 32) (im : BitVec 64) (half : Bool) (ht : t.size < 9223372036854775808) (h0 : i.toNat < 5) (hx : k = 0#64 ∧ al = 0#64 ∧ cc = 0#64 ∧ sz = 0#64 ∧ sh = false ∧ d = 0#64 ∧ s = 0#64 ∧ dp = 0#32 ∧ rl = 0#32 ∧ im = 0#64) : F Tryd.prog (tab (DN m D2) (tb_sec m)) Tryd.f67 [.one (.str t), .one (.b64 true i), .agg [.b64 true k, .b64 true al, .b64 true cc, .b64 true sz, .bool w, .bool sh, .b64 true d, .b64 true s, .b32 true dp, .b32 true rl, .b64 true im], .one (.bool half)] (fun r => r = .agg (LX (wid8 (firF t i ⟨k, al, cc, sz, w, sh, d, s, dp, rl, im⟩ half)))) := by
  rcases Nat.lt_or_ge (atB t i).toNat 100 with h | h
  · exact w_fira D2 m t i k al cc sz w sh d s dp rl im half ht h0 (Nat.zero_le _) h hx
  · rcases Nat.lt_or_ge (atB t i).toNat 150 with g | g
    · exact w_firb D2 m t i k al cc sz w sh d s dp rl im half ht h0 h g hx
    · exact w_firc D2 m t i k al cc sz w sh d s dp rl im half ht h0 g (atB_lt t i) hx
def sp_fir : Sp
  | [.one (.str t), .one (.b64 true i), .agg [.b64 true k, .b64 true al, .b64 true cc, .b64 true sz, .bool w, .bool sh, .b64 true d, .b64 true s, .b32 true dp, .b32 true rl, .b64 true im], .one (.bool half)] => some (Cond.p ((t.size < 9223372036854775808 ∧ i.toNat < 5) ∧ (k = 0#64 ∧ al = 0#64 ∧ cc = 0#64 ∧ sz = 0#64 ∧ sh = false ∧ d = 0#64 ∧ s = 0#64 ∧ dp = 0#32 ∧ rl = 0#32 ∧ im = 0#64)), .agg (LX (wid8 (firF t i ⟨k, al, cc, sz, w, sh, d, s, dp, rl, im⟩ half))))
  | _ => none
set_option maxRecDepth 100000 in
theorem e_fir (G2 : World → Prop) (D2 : VData) (k2 : DataOK Tryd.prog G2 D2) (m : Nat → Nat) : EntryOK Tryd.prog (GN m G2) 67 sp_fir := by
  refine .of_F (C_sec G2 D2 k2 m) (by kernel_rfl) Tryd.func67 (by kernel_rfl) (by kernel_rfl) (fun args c v h hc => ?_)
  unfold sp_fir at h
  split at h
  · rename_i t i k al cc sz w sh d s dp rl im half; cases h
    exact ⟨rfl, rfl, w_fir D2 m t i k al cc sz w sh d s dp rl im half hc.1.1 hc.1.2 hc.2⟩
  · cases h
abbrev tb_fir (m : Nat → Nat) : List (Nat × Sp) := (67, sp_fir) :: tb_sec m
theorem C_fir (G2 : World → Prop) (D2 : VData) (k2 : DataOK Tryd.prog G2 D2) (m : Nat → Nat) : CSound Tryd.prog (GN m G2) (tab (DN m D2) (tb_fir m)) := (C_sec G2 D2 k2 m).cons (e_fir G2 D2 k2 m)
set_option maxRecDepth 100000 in
set_option maxHeartbeats 16000000 in
theorem w_regs (D2 : VData) (m : Nat → Nat) (t : ByteArray) (i : BitVec 64) (k al cc sz : BitVec 64) (w sh : Bool) (d s : BitVec 64) (dp rl : BitVec 32) (im : BitVec 64) (high : BitVec 64) (ht : t.size < 9223372036854775808) (h0 : i.toNat < 5) : F Tryd.prog (tab (DN m D2) (tb_fir m)) Tryd.f68 [.one (.str t), .one (.b64 true i), .agg [.b64 true k, .b64 true al, .b64 true cc, .b64 true sz, .bool w, .bool sh, .b64 true d, .b64 true s, .b32 true dp, .b32 true rl, .b64 true im], .one (.b64 true high)] (fun r => r = .agg (LX (regF t i ⟨k, al, cc, sz, w, sh, d, s, dp, rl, im⟩ high))) := by
  repeat' ((conv => whnf); first
    | with_reducible apply Both.mk
    | (with_reducible apply Given.mk; intro h; (try exact absurd h (by decide))))
  all_goals first
    | ((conv => whnf); refine ⟨?_⟩; simp only [regF, rgR, rgE, rgD, LX, *, if_true, if_false, Bool.and_true, Bool.and_false, Bool.true_and, Bool.false_and, Bool.or_true, Bool.or_false, Bool.true_or, Bool.false_or, Bool.or_self, Bool.and_self, Bool.false_eq_true]; done)
    | ((conv => whnf); refine ⟨?_⟩; simp_all only [regF, rgR, rgE, rgD, LX, if_true, if_false, Bool.and_true, Bool.and_false, Bool.true_and, Bool.false_and, Bool.or_true, Bool.or_false, Bool.true_or, Bool.false_or, Bool.or_self, Bool.and_self, Bool.false_eq_true]; done)
    | ((with_reducible apply Ob.mk); exact ⟨ht, sm_0 (by omega)⟩)
    | ((with_reducible apply Ob.mk); exact ⟨ht, sm_add (by omega) (by decide)⟩)
    | ((with_reducible apply Ob.mk); exact ⟨ht, Nat.lt_of_lt_of_le (sm_n (n := 5) (k := 3) h0 (by decide) (by decide) (by decide)) (by decide)⟩)
    | ((with_reducible apply Ob.mk); exact ⟨ht, sm_n (n := 8) (k := 2) (sm_n (n := 5) (k := 3) h0 (by decide) (by decide) (by decide)) (by decide) (by decide) (by decide)⟩)
    | (with_reducible apply Ob.mk; kernel_rfl)
    | (with_reducible apply Ob.mk; decide)
    | ((conv => whnf); skip)
def sp_regs : Sp
  | [.one (.str t), .one (.b64 true i), .agg [.b64 true k, .b64 true al, .b64 true cc, .b64 true sz, .bool w, .bool sh, .b64 true d, .b64 true s, .b32 true dp, .b32 true rl, .b64 true im], .one (.b64 true high)] => some (Cond.p ((t.size < 9223372036854775808 ∧ i.toNat < 5)), .agg (LX (regF t i ⟨k, al, cc, sz, w, sh, d, s, dp, rl, im⟩ high)))
  | _ => none
set_option maxRecDepth 100000 in
theorem e_regs (G2 : World → Prop) (D2 : VData) (k2 : DataOK Tryd.prog G2 D2) (m : Nat → Nat) : EntryOK Tryd.prog (GN m G2) 68 sp_regs := by
  refine .of_F (C_fir G2 D2 k2 m) (by kernel_rfl) Tryd.func68 (by kernel_rfl) (by kernel_rfl) (fun args c v h hc => ?_)
  unfold sp_regs at h
  split at h
  · rename_i t i k al cc sz w sh d s dp rl im high; cases h
    exact ⟨rfl, rfl, w_regs D2 m t i k al cc sz w sh d s dp rl im high hc.1 hc.2⟩
  · cases h
abbrev tb_regs (m : Nat → Nat) : List (Nat × Sp) := (68, sp_regs) :: tb_fir m
theorem C_regs (G2 : World → Prop) (D2 : VData) (k2 : DataOK Tryd.prog G2 D2) (m : Nat → Nat) : CSound Tryd.prog (GN m G2) (tab (DN m D2) (tb_regs m)) := (C_fir G2 D2 k2 m).cons (e_regs G2 D2 k2 m)
end Go.Proofs.YtppankimieopiaaDoor
