/-
  Chapter 11: which instructions may be, by the document: contracts. Conditions: none.
-/
import Derived.Test.YtppankimieopiaaDoorEj
namespace Go.Proofs.YtppankimieopiaaDoor
open Go.Ep Go.RowKit
set_option linter.unusedVariables false
set_option linter.unusedSimpArgs false
noncomputable abbrev FSv : List (Nat × Func) := [(60, Tryd.f60), (58, Tryd.f58)]
theorem fs_v : FsOK Tryd.prog FSv := FsOK.cons Tryd.func60 (by kernel_rfl) (by kernel_rfl) (FsOK.cons Tryd.func58 (by kernel_rfl) (by kernel_rfl) (FsOK.nil))
theorem aluB' (a : BitVec 64) : aluB a = (0#64 == a || 1#64 == a || 4#64 == a || 5#64 == a || 6#64 == a || 7#64 == a) := by
  unfold aluB
  rw [BEq.comm (a := a) (b := 0#64), BEq.comm (a := a) (b := 1#64), BEq.comm (a := a) (b := 4#64), BEq.comm (a := a) (b := 5#64), BEq.comm (a := a) (b := 6#64), BEq.comm (a := a) (b := 7#64)]
def sp_ralu : Sp
  | [.one (.b64 true a)] => some (Cond.t, .one (.bool (aluB a)))
  | _ => none
set_option maxRecDepth 100000 in
set_option maxHeartbeats 16000000 in
theorem e_ralu (G2 : World → Prop) (D2 : VData) (k2 : DataOK Tryd.prog G2 D2) (m : Nat → Nat) : EntryOK Tryd.prog (and2 (GB m) (and2 (GP m) G2)) 55 sp_ralu := by
  refine .of_F (CSound.tabI (C_Exec G2 D2 k2 m) (by kernel_rfl) fs_v 4) (by kernel_rfl) Tryd.func55 (by kernel_rfl) (by kernel_rfl) (fun args c v h hc => ?_)
  unfold sp_ralu at h
  split at h
  · rename_i a; cases h
    refine ⟨rfl, rfl, ?_⟩
    repeat' (first
      | (with_reducible apply Given.mk; intro h; (try exact absurd h (by decide)))
      | ((conv => whnf); first | with_reducible apply Both.mk | refine LoopP.times 14 ?_))
    all_goals first
      | (with_reducible apply Ob.mk; kernel_rfl)
      | (with_reducible apply Ob.mk; decide)
      | ((with_reducible apply Ob.mk); show 0 + 1 < 9223372036854775808; decide)
      | ((conv => whnf); refine ⟨?_⟩; refine congrArg (fun v => AV.one (.bool v)) ?_; rw [aluB']; simp only [*, Bool.or_true, Bool.true_or, Bool.or_false, Bool.or_self, Bool.false_or])
      | ((conv => whnf); skip)
  · cases h
abbrev tb_ralu (m : Nat → Nat) : List (Nat × Sp) := (55, sp_ralu) :: tb_Exec m
theorem C_ralu (G2 : World → Prop) (D2 : VData) (k2 : DataOK Tryd.prog G2 D2) (m : Nat → Nat) : CSound Tryd.prog (and2 (GB m) (and2 (GP m) G2)) (tab (or2 (DB m) (or2 (DP m) D2)) (tb_ralu m)) := (C_Exec G2 D2 k2 m).cons (e_ralu G2 D2 k2 m)
theorem shiftB' (a : BitVec 64) : shiftB a = (4#64 == a || 5#64 == a || 7#64 == a) := by
  unfold shiftB
  rw [BEq.comm (a := a) (b := 4#64), BEq.comm (a := a) (b := 5#64), BEq.comm (a := a) (b := 7#64)]
def sp_rshift : Sp
  | [.one (.b64 true a)] => some (Cond.t, .one (.bool (shiftB a)))
  | _ => none
set_option maxRecDepth 100000 in
set_option maxHeartbeats 16000000 in
theorem e_rshift (G2 : World → Prop) (D2 : VData) (k2 : DataOK Tryd.prog G2 D2) (m : Nat → Nat) : EntryOK Tryd.prog (and2 (GB m) (and2 (GP m) G2)) 57 sp_rshift := by
  refine .of_F (CSound.tabI (C_ralu G2 D2 k2 m) (by kernel_rfl) fs_v 4) (by kernel_rfl) Tryd.func57 (by kernel_rfl) (by kernel_rfl) (fun args c v h hc => ?_)
  unfold sp_rshift at h
  split at h
  · rename_i a; cases h
    refine ⟨rfl, rfl, ?_⟩
    repeat' (first
      | (with_reducible apply Given.mk; intro h; (try exact absurd h (by decide)))
      | ((conv => whnf); first | with_reducible apply Both.mk | refine LoopP.times 14 ?_))
    all_goals first
      | (with_reducible apply Ob.mk; kernel_rfl)
      | (with_reducible apply Ob.mk; decide)
      | ((with_reducible apply Ob.mk); show 0 + 1 < 9223372036854775808; decide)
      | ((conv => whnf); refine ⟨?_⟩; refine congrArg (fun v => AV.one (.bool v)) ?_; rw [shiftB']; simp only [*, Bool.or_true, Bool.true_or, Bool.or_false, Bool.or_self, Bool.false_or])
      | ((conv => whnf); skip)
  · cases h
abbrev tb_rshift (m : Nat → Nat) : List (Nat × Sp) := (57, sp_rshift) :: tb_ralu m
theorem C_rshift (G2 : World → Prop) (D2 : VData) (k2 : DataOK Tryd.prog G2 D2) (m : Nat → Nat) : CSound Tryd.prog (and2 (GB m) (and2 (GP m) G2)) (tab (or2 (DB m) (or2 (DP m) D2)) (tb_rshift m)) := (C_ralu G2 D2 k2 m).cons (e_rshift G2 D2 k2 m)
theorem condB' (a : BitVec 64) : condB a = (2#64 == a || 3#64 == a || 4#64 == a || 5#64 == a || 6#64 == a || 7#64 == a || 12#64 == a || 13#64 == a || 14#64 == a || 15#64 == a) := by
  unfold condB
  rw [BEq.comm (a := a) (b := 2#64), BEq.comm (a := a) (b := 3#64), BEq.comm (a := a) (b := 4#64), BEq.comm (a := a) (b := 5#64), BEq.comm (a := a) (b := 6#64), BEq.comm (a := a) (b := 7#64), BEq.comm (a := a) (b := 12#64), BEq.comm (a := a) (b := 13#64), BEq.comm (a := a) (b := 14#64), BEq.comm (a := a) (b := 15#64)]
def sp_rcond : Sp
  | [.one (.b64 true a)] => some (Cond.t, .one (.bool (condB a)))
  | _ => none
set_option maxRecDepth 100000 in
set_option maxHeartbeats 16000000 in
theorem e_rcond (G2 : World → Prop) (D2 : VData) (k2 : DataOK Tryd.prog G2 D2) (m : Nat → Nat) : EntryOK Tryd.prog (and2 (GB m) (and2 (GP m) G2)) 59 sp_rcond := by
  refine .of_F (CSound.tabI (C_rshift G2 D2 k2 m) (by kernel_rfl) fs_v 4) (by kernel_rfl) Tryd.func59 (by kernel_rfl) (by kernel_rfl) (fun args c v h hc => ?_)
  unfold sp_rcond at h
  split at h
  · rename_i a; cases h
    refine ⟨rfl, rfl, ?_⟩
    repeat' (first
      | (with_reducible apply Given.mk; intro h; (try exact absurd h (by decide)))
      | ((conv => whnf); first | with_reducible apply Both.mk | refine LoopP.times 14 ?_))
    all_goals first
      | (with_reducible apply Ob.mk; kernel_rfl)
      | (with_reducible apply Ob.mk; decide)
      | ((with_reducible apply Ob.mk); show 0 + 1 < 9223372036854775808; decide)
      | ((conv => whnf); refine ⟨?_⟩; refine congrArg (fun v => AV.one (.bool v)) ?_; rw [condB']; simp only [*, Bool.or_true, Bool.true_or, Bool.or_false, Bool.or_self, Bool.false_or])
      | ((conv => whnf); skip)
  · cases h
abbrev tb_rcond (m : Nat → Nat) : List (Nat × Sp) := (59, sp_rcond) :: tb_rshift m
theorem C_rcond (G2 : World → Prop) (D2 : VData) (k2 : DataOK Tryd.prog G2 D2) (m : Nat → Nat) : CSound Tryd.prog (and2 (GB m) (and2 (GP m) G2)) (tab (or2 (DB m) (or2 (DP m) D2)) (tb_rcond m)) := (C_rshift G2 D2 k2 m).cons (e_rcond G2 D2 k2 m)
def sp_rword : Sp
  | [.one (.b64 true a)] => some (Cond.t, .one (.bool (wordB a)))
  | _ => none
set_option maxRecDepth 100000 in
set_option maxHeartbeats 16000000 in
theorem e_rword (G2 : World → Prop) (D2 : VData) (k2 : DataOK Tryd.prog G2 D2) (m : Nat → Nat) : EntryOK Tryd.prog (and2 (GB m) (and2 (GP m) G2)) 56 sp_rword := by
  refine .of_F (CSound.tabI (C_rcond G2 D2 k2 m) (by kernel_rfl) fs_v 4) (by kernel_rfl) Tryd.func56 (by kernel_rfl) (by kernel_rfl) (fun args c v h hc => ?_)
  unfold sp_rword at h
  split at h
  · rename_i a; cases h
    refine ⟨rfl, rfl, ?_⟩
    repeat' (first
      | (with_reducible apply Given.mk; intro h; (try exact absurd h (by decide)))
      | ((conv => whnf); first | with_reducible apply Both.mk | refine LoopP.times 4 ?_))
    all_goals first
      | (with_reducible apply Ob.mk; kernel_rfl)
      | (with_reducible apply Ob.mk; decide)
      | ((with_reducible apply Ob.mk); show 0 + 1 < 9223372036854775808; decide)
      | ((conv => whnf); refine ⟨?_⟩; refine congrArg (fun v => AV.one (.bool v)) ?_; first | rfl | (show (_ : Bool) = (mWord.sle a && a.sle 2147483647#64); simp_all; done))
      | ((conv => whnf); skip)
  · cases h
abbrev tb_rword (m : Nat → Nat) : List (Nat × Sp) := (56, sp_rword) :: tb_rcond m
theorem C_rword (G2 : World → Prop) (D2 : VData) (k2 : DataOK Tryd.prog G2 D2) (m : Nat → Nat) : CSound Tryd.prog (and2 (GB m) (and2 (GP m) G2)) (tab (or2 (DB m) (or2 (DP m) D2)) (tb_rword m)) := (C_rcond G2 D2 k2 m).cons (e_rword G2 D2 k2 m)
theorem sizeB' (a : BitVec 64) : sizeB a = (1#64 == a || 2#64 == a || 4#64 == a || 8#64 == a) := by
  unfold sizeB
  rw [BEq.comm (a := a) (b := 1#64), BEq.comm (a := a) (b := 2#64), BEq.comm (a := a) (b := 4#64), BEq.comm (a := a) (b := 8#64)]
set_option maxRecDepth 100000 in
set_option maxHeartbeats 4000000 in
theorem rv_1 (D2 : VData) (m : Nat → Nat) (al cc sz : BitVec 64) (w sh : Bool) (d s : BitVec 64) (dp rl : BitVec 32) (im : BitVec 64) : F Tryd.prog (tabI Tryd.prog (or2 (DB m) (or2 (DP m) D2)) (tb_rword m) FSv 4) Tryd.f21 [.agg [.b64 true 1#64, .b64 true al, .b64 true cc, .b64 true sz, .bool w, .bool sh, .b64 true d, .b64 true s, .b32 true dp, .b32 true rl, .b64 true im]] (fun r => r = .one (.bool (v1 al cc sz w sh d s dp rl im))) := by
  repeat' (first
    | (with_reducible apply Given.mk; intro h; (try exact absurd h (by decide)))
    | ((conv => whnf); first | with_reducible apply Both.mk | refine LoopP.times 14 ?_))
  all_goals first
    | (with_reducible apply Ob.mk; kernel_rfl)
    | (with_reducible apply Ob.mk; decide)
    | ((conv => whnf); refine ⟨?_⟩; refine congrArg (fun v => AV.one (.bool v)) ?_; first | (simp_all [v1, regB, sizeB, shB, relB, sle_not, slt16]; done) | (cases w <;> cases sh <;> simp_all [v1, regB, sizeB, shB, relB, sle_not, slt16]; done) | (simp only [beq_iff_eq] at *; subst_vars; cases w <;> cases sh <;> simp_all [v1, regB, sizeB, shB, relB, sle_not, slt16]; done) | (simp_all only [v1, sizeB', Bool.or_self, Bool.and_false, Bool.false_and]; done) | (unfold v1; rw [sizeB']; simp_all; done))
    | ((conv => whnf); skip)
set_option maxRecDepth 100000 in
set_option maxHeartbeats 4000000 in
theorem rv_2 (D2 : VData) (m : Nat → Nat) (al cc sz : BitVec 64) (w sh : Bool) (d s : BitVec 64) (dp rl : BitVec 32) (im : BitVec 64) : F Tryd.prog (tabI Tryd.prog (or2 (DB m) (or2 (DP m) D2)) (tb_rword m) FSv 4) Tryd.f21 [.agg [.b64 true 2#64, .b64 true al, .b64 true cc, .b64 true sz, .bool w, .bool sh, .b64 true d, .b64 true s, .b32 true dp, .b32 true rl, .b64 true im]] (fun r => r = .one (.bool (v2 al cc sz w sh d s dp rl im))) := by
  repeat' (first
    | (with_reducible apply Given.mk; intro h; (try exact absurd h (by decide)))
    | ((conv => whnf); first | with_reducible apply Both.mk | refine LoopP.times 14 ?_))
  all_goals first
    | (with_reducible apply Ob.mk; kernel_rfl)
    | (with_reducible apply Ob.mk; decide)
    | ((conv => whnf); refine ⟨?_⟩; refine congrArg (fun v => AV.one (.bool v)) ?_; first | (simp_all [v2, regB, sizeB, shB, relB, sle_not, slt16]; done) | (cases w <;> cases sh <;> simp_all [v2, regB, sizeB, shB, relB, sle_not, slt16]; done) | (simp only [beq_iff_eq] at *; subst_vars; cases w <;> cases sh <;> simp_all [v2, regB, sizeB, shB, relB, sle_not, slt16]; done) | (simp_all only [v2, sizeB', Bool.or_self, Bool.and_false, Bool.false_and]; done) | (unfold v2; rw [sizeB']; simp_all; done))
    | ((conv => whnf); skip)
set_option maxRecDepth 100000 in
set_option maxHeartbeats 4000000 in
theorem rv_3 (D2 : VData) (m : Nat → Nat) (al cc sz : BitVec 64) (w sh : Bool) (d s : BitVec 64) (dp rl : BitVec 32) (im : BitVec 64) : F Tryd.prog (tabI Tryd.prog (or2 (DB m) (or2 (DP m) D2)) (tb_rword m) FSv 4) Tryd.f21 [.agg [.b64 true 3#64, .b64 true al, .b64 true cc, .b64 true sz, .bool w, .bool sh, .b64 true d, .b64 true s, .b32 true dp, .b32 true rl, .b64 true im]] (fun r => r = .one (.bool (v3 al cc sz w sh d s dp rl im))) := by
  repeat' (first
    | (with_reducible apply Given.mk; intro h; (try exact absurd h (by decide)))
    | ((conv => whnf); first | with_reducible apply Both.mk | refine LoopP.times 14 ?_))
  all_goals first
    | (with_reducible apply Ob.mk; kernel_rfl)
    | (with_reducible apply Ob.mk; decide)
    | ((conv => whnf); refine ⟨?_⟩; refine congrArg (fun v => AV.one (.bool v)) ?_; first | (simp_all [v3, regB, sizeB, shB, relB, sle_not, slt16]; done) | (cases w <;> cases sh <;> simp_all [v3, regB, sizeB, shB, relB, sle_not, slt16]; done) | (simp only [beq_iff_eq] at *; subst_vars; cases w <;> cases sh <;> simp_all [v3, regB, sizeB, shB, relB, sle_not, slt16]; done) | (simp_all only [v3, sizeB', Bool.or_self, Bool.and_false, Bool.false_and]; done) | (unfold v3; rw [sizeB']; simp_all; done))
    | ((conv => whnf); skip)
set_option maxRecDepth 100000 in
set_option maxHeartbeats 4000000 in
theorem rv_4 (D2 : VData) (m : Nat → Nat) (al cc sz : BitVec 64) (w sh : Bool) (d s : BitVec 64) (dp rl : BitVec 32) (im : BitVec 64) : F Tryd.prog (tabI Tryd.prog (or2 (DB m) (or2 (DP m) D2)) (tb_rword m) FSv 4) Tryd.f21 [.agg [.b64 true 4#64, .b64 true al, .b64 true cc, .b64 true sz, .bool w, .bool sh, .b64 true d, .b64 true s, .b32 true dp, .b32 true rl, .b64 true im]] (fun r => r = .one (.bool (v4 al cc sz w sh d s dp rl im))) := by
  repeat' (first
    | (with_reducible apply Given.mk; intro h; (try exact absurd h (by decide)))
    | ((conv => whnf); first | with_reducible apply Both.mk | refine LoopP.times 14 ?_))
  all_goals first
    | (with_reducible apply Ob.mk; kernel_rfl)
    | (with_reducible apply Ob.mk; decide)
    | ((conv => whnf); refine ⟨?_⟩; refine congrArg (fun v => AV.one (.bool v)) ?_; first | (simp_all [v4, regB, sizeB, shB, relB, sle_not, slt16]; done) | (cases w <;> cases sh <;> simp_all [v4, regB, sizeB, shB, relB, sle_not, slt16]; done) | (simp only [beq_iff_eq] at *; subst_vars; cases w <;> cases sh <;> simp_all [v4, regB, sizeB, shB, relB, sle_not, slt16]; done) | (simp_all only [v4, sizeB', Bool.or_self, Bool.and_false, Bool.false_and]; done) | (unfold v4; rw [sizeB']; simp_all; done))
    | ((conv => whnf); skip)
set_option maxRecDepth 100000 in
set_option maxHeartbeats 4000000 in
theorem rv_5 (D2 : VData) (m : Nat → Nat) (al cc sz : BitVec 64) (w sh : Bool) (d s : BitVec 64) (dp rl : BitVec 32) (im : BitVec 64) : F Tryd.prog (tabI Tryd.prog (or2 (DB m) (or2 (DP m) D2)) (tb_rword m) FSv 4) Tryd.f21 [.agg [.b64 true 5#64, .b64 true al, .b64 true cc, .b64 true sz, .bool w, .bool sh, .b64 true d, .b64 true s, .b32 true dp, .b32 true rl, .b64 true im]] (fun r => r = .one (.bool (v5 al cc sz w sh d s dp rl im))) := by
  repeat' (first
    | (with_reducible apply Given.mk; intro h; (try exact absurd h (by decide)))
    | ((conv => whnf); first | with_reducible apply Both.mk | refine LoopP.times 14 ?_))
  all_goals first
    | (with_reducible apply Ob.mk; kernel_rfl)
    | (with_reducible apply Ob.mk; decide)
    | ((conv => whnf); refine ⟨?_⟩; refine congrArg (fun v => AV.one (.bool v)) ?_; first | (simp_all [v5, regB, sizeB, shB, relB, sle_not, slt16]; done) | (cases w <;> cases sh <;> simp_all [v5, regB, sizeB, shB, relB, sle_not, slt16]; done) | (simp only [beq_iff_eq] at *; subst_vars; cases w <;> cases sh <;> simp_all [v5, regB, sizeB, shB, relB, sle_not, slt16]; done) | (simp_all only [v5, sizeB', Bool.or_self, Bool.and_false, Bool.false_and]; done) | (unfold v5; rw [sizeB']; simp_all; done))
    | ((conv => whnf); skip)
set_option maxRecDepth 100000 in
set_option maxHeartbeats 4000000 in
theorem rv_6 (D2 : VData) (m : Nat → Nat) (al cc sz : BitVec 64) (w sh : Bool) (d s : BitVec 64) (dp rl : BitVec 32) (im : BitVec 64) : F Tryd.prog (tabI Tryd.prog (or2 (DB m) (or2 (DP m) D2)) (tb_rword m) FSv 4) Tryd.f21 [.agg [.b64 true 6#64, .b64 true al, .b64 true cc, .b64 true sz, .bool w, .bool sh, .b64 true d, .b64 true s, .b32 true dp, .b32 true rl, .b64 true im]] (fun r => r = .one (.bool (v6 al cc sz w sh d s dp rl im))) := by
  repeat' (first
    | (with_reducible apply Given.mk; intro h; (try exact absurd h (by decide)))
    | ((conv => whnf); first | with_reducible apply Both.mk | refine LoopP.times 14 ?_))
  all_goals first
    | (with_reducible apply Ob.mk; kernel_rfl)
    | (with_reducible apply Ob.mk; decide)
    | ((conv => whnf); refine ⟨?_⟩; refine congrArg (fun v => AV.one (.bool v)) ?_; first | (simp_all [v6, regB, sizeB, shB, relB, sle_not, slt16]; done) | (cases w <;> cases sh <;> simp_all [v6, regB, sizeB, shB, relB, sle_not, slt16]; done) | (simp only [beq_iff_eq] at *; subst_vars; cases w <;> cases sh <;> simp_all [v6, regB, sizeB, shB, relB, sle_not, slt16]; done) | (simp_all only [v6, sizeB', Bool.or_self, Bool.and_false, Bool.false_and]; done) | (unfold v6; rw [sizeB']; simp_all; done))
    | ((conv => whnf); skip)
set_option maxRecDepth 100000 in
set_option maxHeartbeats 4000000 in
theorem rv_7 (D2 : VData) (m : Nat → Nat) (al cc sz : BitVec 64) (w sh : Bool) (d s : BitVec 64) (dp rl : BitVec 32) (im : BitVec 64) : F Tryd.prog (tabI Tryd.prog (or2 (DB m) (or2 (DP m) D2)) (tb_rword m) FSv 4) Tryd.f21 [.agg [.b64 true 7#64, .b64 true al, .b64 true cc, .b64 true sz, .bool w, .bool sh, .b64 true d, .b64 true s, .b32 true dp, .b32 true rl, .b64 true im]] (fun r => r = .one (.bool (v7 al cc sz w sh d s dp rl im))) := by
  repeat' (first
    | (with_reducible apply Given.mk; intro h; (try exact absurd h (by decide)))
    | ((conv => whnf); first | with_reducible apply Both.mk | refine LoopP.times 14 ?_))
  all_goals first
    | (with_reducible apply Ob.mk; kernel_rfl)
    | (with_reducible apply Ob.mk; decide)
    | ((conv => whnf); refine ⟨?_⟩; refine congrArg (fun v => AV.one (.bool v)) ?_; first | (simp_all [v7, regB, sizeB, shB, relB, sle_not, slt16]; done) | (cases w <;> cases sh <;> simp_all [v7, regB, sizeB, shB, relB, sle_not, slt16]; done) | (simp only [beq_iff_eq] at *; subst_vars; cases w <;> cases sh <;> simp_all [v7, regB, sizeB, shB, relB, sle_not, slt16]; done) | (simp_all only [v7, sizeB', Bool.or_self, Bool.and_false, Bool.false_and]; done) | (unfold v7; rw [sizeB']; simp_all; done))
    | ((conv => whnf); skip)
set_option maxRecDepth 100000 in
set_option maxHeartbeats 4000000 in
theorem rv_8 (D2 : VData) (m : Nat → Nat) (al cc sz : BitVec 64) (w sh : Bool) (d s : BitVec 64) (dp rl : BitVec 32) (im : BitVec 64) : F Tryd.prog (tabI Tryd.prog (or2 (DB m) (or2 (DP m) D2)) (tb_rword m) FSv 4) Tryd.f21 [.agg [.b64 true 8#64, .b64 true al, .b64 true cc, .b64 true sz, .bool w, .bool sh, .b64 true d, .b64 true s, .b32 true dp, .b32 true rl, .b64 true im]] (fun r => r = .one (.bool (v8 al cc sz w sh d s dp rl im))) := by
  repeat' (first
    | (with_reducible apply Given.mk; intro h; (try exact absurd h (by decide)))
    | ((conv => whnf); first | with_reducible apply Both.mk | refine LoopP.times 14 ?_))
  all_goals first
    | (with_reducible apply Ob.mk; kernel_rfl)
    | (with_reducible apply Ob.mk; decide)
    | ((conv => whnf); refine ⟨?_⟩; refine congrArg (fun v => AV.one (.bool v)) ?_; first | (simp_all [v8, regB, sizeB, shB, relB, sle_not, slt16]; done) | (cases w <;> cases sh <;> simp_all [v8, regB, sizeB, shB, relB, sle_not, slt16]; done) | (simp only [beq_iff_eq] at *; subst_vars; cases w <;> cases sh <;> simp_all [v8, regB, sizeB, shB, relB, sle_not, slt16]; done) | (simp_all only [v8, sizeB', Bool.or_self, Bool.and_false, Bool.false_and]; done) | (unfold v8; rw [sizeB']; simp_all; done))
    | ((conv => whnf); skip)
set_option maxRecDepth 100000 in
set_option maxHeartbeats 4000000 in
theorem rv_9 (D2 : VData) (m : Nat → Nat) (al cc sz : BitVec 64) (w sh : Bool) (d s : BitVec 64) (dp rl : BitVec 32) (im : BitVec 64) : F Tryd.prog (tabI Tryd.prog (or2 (DB m) (or2 (DP m) D2)) (tb_rword m) FSv 4) Tryd.f21 [.agg [.b64 true 9#64, .b64 true al, .b64 true cc, .b64 true sz, .bool w, .bool sh, .b64 true d, .b64 true s, .b32 true dp, .b32 true rl, .b64 true im]] (fun r => r = .one (.bool (v9 al cc sz w sh d s dp rl im))) := by
  repeat' (first
    | (with_reducible apply Given.mk; intro h; (try exact absurd h (by decide)))
    | ((conv => whnf); first | with_reducible apply Both.mk | refine LoopP.times 14 ?_))
  all_goals first
    | (with_reducible apply Ob.mk; kernel_rfl)
    | (with_reducible apply Ob.mk; decide)
    | ((conv => whnf); refine ⟨?_⟩; refine congrArg (fun v => AV.one (.bool v)) ?_; first | (simp_all [v9, regB, sizeB, shB, relB, sle_not, slt16]; done) | (cases w <;> cases sh <;> simp_all [v9, regB, sizeB, shB, relB, sle_not, slt16]; done) | (simp only [beq_iff_eq] at *; subst_vars; cases w <;> cases sh <;> simp_all [v9, regB, sizeB, shB, relB, sle_not, slt16]; done) | (simp_all only [v9, sizeB', Bool.or_self, Bool.and_false, Bool.false_and]; done) | (unfold v9; rw [sizeB']; simp_all; done))
    | ((conv => whnf); skip)
set_option maxRecDepth 100000 in
set_option maxHeartbeats 4000000 in
theorem rv_10 (D2 : VData) (m : Nat → Nat) (al cc sz : BitVec 64) (w sh : Bool) (d s : BitVec 64) (dp rl : BitVec 32) (im : BitVec 64) : F Tryd.prog (tabI Tryd.prog (or2 (DB m) (or2 (DP m) D2)) (tb_rword m) FSv 4) Tryd.f21 [.agg [.b64 true 10#64, .b64 true al, .b64 true cc, .b64 true sz, .bool w, .bool sh, .b64 true d, .b64 true s, .b32 true dp, .b32 true rl, .b64 true im]] (fun r => r = .one (.bool (v10 al cc sz w sh d s dp rl im))) := by
  repeat' (first
    | (with_reducible apply Given.mk; intro h; (try exact absurd h (by decide)))
    | ((conv => whnf); first | with_reducible apply Both.mk | refine LoopP.times 14 ?_))
  all_goals first
    | (with_reducible apply Ob.mk; kernel_rfl)
    | (with_reducible apply Ob.mk; decide)
    | ((conv => whnf); refine ⟨?_⟩; refine congrArg (fun v => AV.one (.bool v)) ?_; first | (simp_all [v10, regB, sizeB, shB, relB, sle_not, slt16]; done) | (cases w <;> cases sh <;> simp_all [v10, regB, sizeB, shB, relB, sle_not, slt16]; done) | (simp only [beq_iff_eq] at *; subst_vars; cases w <;> cases sh <;> simp_all [v10, regB, sizeB, shB, relB, sle_not, slt16]; done) | (simp_all only [v10, sizeB', Bool.or_self, Bool.and_false, Bool.false_and]; done) | (unfold v10; rw [sizeB']; simp_all; done))
    | ((conv => whnf); skip)
set_option maxRecDepth 100000 in
set_option maxHeartbeats 4000000 in
theorem rv_11 (D2 : VData) (m : Nat → Nat) (al cc sz : BitVec 64) (w sh : Bool) (d s : BitVec 64) (dp rl : BitVec 32) (im : BitVec 64) : F Tryd.prog (tabI Tryd.prog (or2 (DB m) (or2 (DP m) D2)) (tb_rword m) FSv 4) Tryd.f21 [.agg [.b64 true 11#64, .b64 true al, .b64 true cc, .b64 true sz, .bool w, .bool sh, .b64 true d, .b64 true s, .b32 true dp, .b32 true rl, .b64 true im]] (fun r => r = .one (.bool (v11 al cc sz w sh d s dp rl im))) := by
  repeat' (first
    | (with_reducible apply Given.mk; intro h; (try exact absurd h (by decide)))
    | ((conv => whnf); first | with_reducible apply Both.mk | refine LoopP.times 14 ?_))
  all_goals first
    | (with_reducible apply Ob.mk; kernel_rfl)
    | (with_reducible apply Ob.mk; decide)
    | ((conv => whnf); refine ⟨?_⟩; refine congrArg (fun v => AV.one (.bool v)) ?_; first | (simp_all [v11, regB, sizeB, shB, relB, sle_not, slt16]; done) | (cases w <;> cases sh <;> simp_all [v11, regB, sizeB, shB, relB, sle_not, slt16]; done) | (simp only [beq_iff_eq] at *; subst_vars; cases w <;> cases sh <;> simp_all [v11, regB, sizeB, shB, relB, sle_not, slt16]; done) | (simp_all only [v11, sizeB', Bool.or_self, Bool.and_false, Bool.false_and]; done) | (unfold v11; rw [sizeB']; simp_all; done))
    | ((conv => whnf); skip)
set_option maxRecDepth 100000 in
set_option maxHeartbeats 4000000 in
theorem rv_12 (D2 : VData) (m : Nat → Nat) (al cc sz : BitVec 64) (w sh : Bool) (d s : BitVec 64) (dp rl : BitVec 32) (im : BitVec 64) : F Tryd.prog (tabI Tryd.prog (or2 (DB m) (or2 (DP m) D2)) (tb_rword m) FSv 4) Tryd.f21 [.agg [.b64 true 12#64, .b64 true al, .b64 true cc, .b64 true sz, .bool w, .bool sh, .b64 true d, .b64 true s, .b32 true dp, .b32 true rl, .b64 true im]] (fun r => r = .one (.bool (v12 al cc sz w sh d s dp rl im))) := by
  repeat' (first
    | (with_reducible apply Given.mk; intro h; (try exact absurd h (by decide)))
    | ((conv => whnf); first | with_reducible apply Both.mk | refine LoopP.times 14 ?_))
  all_goals first
    | (with_reducible apply Ob.mk; kernel_rfl)
    | (with_reducible apply Ob.mk; decide)
    | ((conv => whnf); refine ⟨?_⟩; refine congrArg (fun v => AV.one (.bool v)) ?_; first | (simp_all [v12, regB, sizeB, shB, relB, sle_not, slt16]; done) | (cases w <;> cases sh <;> simp_all [v12, regB, sizeB, shB, relB, sle_not, slt16]; done) | (simp only [beq_iff_eq] at *; subst_vars; cases w <;> cases sh <;> simp_all [v12, regB, sizeB, shB, relB, sle_not, slt16]; done) | (simp_all only [v12, sizeB', Bool.or_self, Bool.and_false, Bool.false_and]; done) | (unfold v12; rw [sizeB']; simp_all; done))
    | ((conv => whnf); skip)
set_option maxRecDepth 100000 in
set_option maxHeartbeats 4000000 in
theorem rv_13 (D2 : VData) (m : Nat → Nat) (al cc sz : BitVec 64) (w sh : Bool) (d s : BitVec 64) (dp rl : BitVec 32) (im : BitVec 64) : F Tryd.prog (tabI Tryd.prog (or2 (DB m) (or2 (DP m) D2)) (tb_rword m) FSv 4) Tryd.f21 [.agg [.b64 true 13#64, .b64 true al, .b64 true cc, .b64 true sz, .bool w, .bool sh, .b64 true d, .b64 true s, .b32 true dp, .b32 true rl, .b64 true im]] (fun r => r = .one (.bool (v13 al cc sz w sh d s dp rl im))) := by
  repeat' (first
    | (with_reducible apply Given.mk; intro h; (try exact absurd h (by decide)))
    | ((conv => whnf); first | with_reducible apply Both.mk | refine LoopP.times 14 ?_))
  all_goals first
    | (with_reducible apply Ob.mk; kernel_rfl)
    | (with_reducible apply Ob.mk; decide)
    | ((conv => whnf); refine ⟨?_⟩; refine congrArg (fun v => AV.one (.bool v)) ?_; first | (simp_all [v13, regB, sizeB, shB, relB, sle_not, slt16]; done) | (cases w <;> cases sh <;> simp_all [v13, regB, sizeB, shB, relB, sle_not, slt16]; done) | (simp only [beq_iff_eq] at *; subst_vars; cases w <;> cases sh <;> simp_all [v13, regB, sizeB, shB, relB, sle_not, slt16]; done) | (simp_all only [v13, sizeB', Bool.or_self, Bool.and_false, Bool.false_and]; done) | (unfold v13; rw [sizeB']; simp_all; done))
    | ((conv => whnf); skip)
set_option maxRecDepth 100000 in
set_option maxHeartbeats 4000000 in
theorem rv_14 (D2 : VData) (m : Nat → Nat) (al cc sz : BitVec 64) (w sh : Bool) (d s : BitVec 64) (dp rl : BitVec 32) (im : BitVec 64) : F Tryd.prog (tabI Tryd.prog (or2 (DB m) (or2 (DP m) D2)) (tb_rword m) FSv 4) Tryd.f21 [.agg [.b64 true 14#64, .b64 true al, .b64 true cc, .b64 true sz, .bool w, .bool sh, .b64 true d, .b64 true s, .b32 true dp, .b32 true rl, .b64 true im]] (fun r => r = .one (.bool (v14 al cc sz w sh d s dp rl im))) := by
  repeat' (first
    | (with_reducible apply Given.mk; intro h; (try exact absurd h (by decide)))
    | ((conv => whnf); first | with_reducible apply Both.mk | refine LoopP.times 14 ?_))
  all_goals first
    | (with_reducible apply Ob.mk; kernel_rfl)
    | (with_reducible apply Ob.mk; decide)
    | ((conv => whnf); refine ⟨?_⟩; refine congrArg (fun v => AV.one (.bool v)) ?_; first | (simp_all [v14, regB, sizeB, shB, relB, sle_not, slt16]; done) | (cases w <;> cases sh <;> simp_all [v14, regB, sizeB, shB, relB, sle_not, slt16]; done) | (simp only [beq_iff_eq] at *; subst_vars; cases w <;> cases sh <;> simp_all [v14, regB, sizeB, shB, relB, sle_not, slt16]; done) | (simp_all only [v14, sizeB', Bool.or_self, Bool.and_false, Bool.false_and]; done) | (unfold v14; rw [sizeB']; simp_all; done))
    | ((conv => whnf); skip)
set_option maxRecDepth 100000 in
set_option maxHeartbeats 4000000 in
theorem rv_15 (D2 : VData) (m : Nat → Nat) (al cc sz : BitVec 64) (w sh : Bool) (d s : BitVec 64) (dp rl : BitVec 32) (im : BitVec 64) : F Tryd.prog (tabI Tryd.prog (or2 (DB m) (or2 (DP m) D2)) (tb_rword m) FSv 4) Tryd.f21 [.agg [.b64 true 15#64, .b64 true al, .b64 true cc, .b64 true sz, .bool w, .bool sh, .b64 true d, .b64 true s, .b32 true dp, .b32 true rl, .b64 true im]] (fun r => r = .one (.bool (v15 al cc sz w sh d s dp rl im))) := by
  repeat' (first
    | (with_reducible apply Given.mk; intro h; (try exact absurd h (by decide)))
    | ((conv => whnf); first | with_reducible apply Both.mk | refine LoopP.times 14 ?_))
  all_goals first
    | (with_reducible apply Ob.mk; kernel_rfl)
    | (with_reducible apply Ob.mk; decide)
    | ((conv => whnf); refine ⟨?_⟩; refine congrArg (fun v => AV.one (.bool v)) ?_; first | (simp_all [v15, regB, sizeB, shB, relB, sle_not, slt16]; done) | (cases w <;> cases sh <;> simp_all [v15, regB, sizeB, shB, relB, sle_not, slt16]; done) | (simp only [beq_iff_eq] at *; subst_vars; cases w <;> cases sh <;> simp_all [v15, regB, sizeB, shB, relB, sle_not, slt16]; done) | (simp_all only [v15, sizeB', Bool.or_self, Bool.and_false, Bool.false_and]; done) | (unfold v15; rw [sizeB']; simp_all; done))
    | ((conv => whnf); skip)
set_option maxRecDepth 100000 in
set_option maxHeartbeats 4000000 in
theorem rv_16 (D2 : VData) (m : Nat → Nat) (al cc sz : BitVec 64) (w sh : Bool) (d s : BitVec 64) (dp rl : BitVec 32) (im : BitVec 64) : F Tryd.prog (tabI Tryd.prog (or2 (DB m) (or2 (DP m) D2)) (tb_rword m) FSv 4) Tryd.f21 [.agg [.b64 true 16#64, .b64 true al, .b64 true cc, .b64 true sz, .bool w, .bool sh, .b64 true d, .b64 true s, .b32 true dp, .b32 true rl, .b64 true im]] (fun r => r = .one (.bool (v16 al cc sz w sh d s dp rl im))) := by
  repeat' (first
    | (with_reducible apply Given.mk; intro h; (try exact absurd h (by decide)))
    | ((conv => whnf); first | with_reducible apply Both.mk | refine LoopP.times 14 ?_))
  all_goals first
    | (with_reducible apply Ob.mk; kernel_rfl)
    | (with_reducible apply Ob.mk; decide)
    | ((conv => whnf); refine ⟨?_⟩; refine congrArg (fun v => AV.one (.bool v)) ?_; first | (simp_all [v16, regB, sizeB, shB, relB, sle_not, slt16]; done) | (cases w <;> cases sh <;> simp_all [v16, regB, sizeB, shB, relB, sle_not, slt16]; done) | (simp only [beq_iff_eq] at *; subst_vars; cases w <;> cases sh <;> simp_all [v16, regB, sizeB, shB, relB, sle_not, slt16]; done) | (simp_all only [v16, sizeB', Bool.or_self, Bool.and_false, Bool.false_and]; done) | (unfold v16; rw [sizeB']; simp_all; done))
    | ((conv => whnf); skip)
set_option maxRecDepth 100000 in
set_option maxHeartbeats 4000000 in
theorem rv_17 (D2 : VData) (m : Nat → Nat) (al cc sz : BitVec 64) (w sh : Bool) (d s : BitVec 64) (dp rl : BitVec 32) (im : BitVec 64) : F Tryd.prog (tabI Tryd.prog (or2 (DB m) (or2 (DP m) D2)) (tb_rword m) FSv 4) Tryd.f21 [.agg [.b64 true 17#64, .b64 true al, .b64 true cc, .b64 true sz, .bool w, .bool sh, .b64 true d, .b64 true s, .b32 true dp, .b32 true rl, .b64 true im]] (fun r => r = .one (.bool (v17 al cc sz w sh d s dp rl im))) := by
  repeat' (first
    | (with_reducible apply Given.mk; intro h; (try exact absurd h (by decide)))
    | ((conv => whnf); first | with_reducible apply Both.mk | refine LoopP.times 14 ?_))
  all_goals first
    | (with_reducible apply Ob.mk; kernel_rfl)
    | (with_reducible apply Ob.mk; decide)
    | ((conv => whnf); refine ⟨?_⟩; refine congrArg (fun v => AV.one (.bool v)) ?_; first | (simp_all [v17, regB, sizeB, shB, relB, sle_not, slt16]; done) | (cases w <;> cases sh <;> simp_all [v17, regB, sizeB, shB, relB, sle_not, slt16]; done) | (simp only [beq_iff_eq] at *; subst_vars; cases w <;> cases sh <;> simp_all [v17, regB, sizeB, shB, relB, sle_not, slt16]; done) | (simp_all only [v17, sizeB', Bool.or_self, Bool.and_false, Bool.false_and]; done) | (unfold v17; rw [sizeB']; simp_all; done))
    | ((conv => whnf); skip)
set_option maxRecDepth 100000 in
set_option maxHeartbeats 4000000 in
theorem rv_18 (D2 : VData) (m : Nat → Nat) (al cc sz : BitVec 64) (w sh : Bool) (d s : BitVec 64) (dp rl : BitVec 32) (im : BitVec 64) : F Tryd.prog (tabI Tryd.prog (or2 (DB m) (or2 (DP m) D2)) (tb_rword m) FSv 4) Tryd.f21 [.agg [.b64 true 18#64, .b64 true al, .b64 true cc, .b64 true sz, .bool w, .bool sh, .b64 true d, .b64 true s, .b32 true dp, .b32 true rl, .b64 true im]] (fun r => r = .one (.bool (v18 al cc sz w sh d s dp rl im))) := by
  repeat' (first
    | (with_reducible apply Given.mk; intro h; (try exact absurd h (by decide)))
    | ((conv => whnf); first | with_reducible apply Both.mk | refine LoopP.times 14 ?_))
  all_goals first
    | (with_reducible apply Ob.mk; kernel_rfl)
    | (with_reducible apply Ob.mk; decide)
    | ((conv => whnf); refine ⟨?_⟩; refine congrArg (fun v => AV.one (.bool v)) ?_; first | (simp_all [v18, regB, sizeB, shB, relB, sle_not, slt16]; done) | (cases w <;> cases sh <;> simp_all [v18, regB, sizeB, shB, relB, sle_not, slt16]; done) | (simp only [beq_iff_eq] at *; subst_vars; cases w <;> cases sh <;> simp_all [v18, regB, sizeB, shB, relB, sle_not, slt16]; done) | (simp_all only [v18, sizeB', Bool.or_self, Bool.and_false, Bool.false_and]; done) | (unfold v18; rw [sizeB']; simp_all; done))
    | ((conv => whnf); skip)
set_option maxRecDepth 100000 in
set_option maxHeartbeats 4000000 in
theorem rv_19 (D2 : VData) (m : Nat → Nat) (al cc sz : BitVec 64) (w sh : Bool) (d s : BitVec 64) (dp rl : BitVec 32) (im : BitVec 64) : F Tryd.prog (tabI Tryd.prog (or2 (DB m) (or2 (DP m) D2)) (tb_rword m) FSv 4) Tryd.f21 [.agg [.b64 true 19#64, .b64 true al, .b64 true cc, .b64 true sz, .bool w, .bool sh, .b64 true d, .b64 true s, .b32 true dp, .b32 true rl, .b64 true im]] (fun r => r = .one (.bool (v19 al cc sz w sh d s dp rl im))) := by
  repeat' (first
    | (with_reducible apply Given.mk; intro h; (try exact absurd h (by decide)))
    | ((conv => whnf); first | with_reducible apply Both.mk | refine LoopP.times 14 ?_))
  all_goals first
    | (with_reducible apply Ob.mk; kernel_rfl)
    | (with_reducible apply Ob.mk; decide)
    | ((conv => whnf); refine ⟨?_⟩; refine congrArg (fun v => AV.one (.bool v)) ?_; first | (simp_all [v19, regB, sizeB, shB, relB, sle_not, slt16]; done) | (cases w <;> cases sh <;> simp_all [v19, regB, sizeB, shB, relB, sle_not, slt16]; done) | (simp only [beq_iff_eq] at *; subst_vars; cases w <;> cases sh <;> simp_all [v19, regB, sizeB, shB, relB, sle_not, slt16]; done) | (simp_all only [v19, sizeB', Bool.or_self, Bool.and_false, Bool.false_and]; done) | (unfold v19; rw [sizeB']; simp_all; done))
    | ((conv => whnf); skip)
set_option maxRecDepth 100000 in
set_option maxHeartbeats 4000000 in
theorem rv_20 (D2 : VData) (m : Nat → Nat) (al cc sz : BitVec 64) (w sh : Bool) (d s : BitVec 64) (dp rl : BitVec 32) (im : BitVec 64) : F Tryd.prog (tabI Tryd.prog (or2 (DB m) (or2 (DP m) D2)) (tb_rword m) FSv 4) Tryd.f21 [.agg [.b64 true 20#64, .b64 true al, .b64 true cc, .b64 true sz, .bool w, .bool sh, .b64 true d, .b64 true s, .b32 true dp, .b32 true rl, .b64 true im]] (fun r => r = .one (.bool (v20 al cc sz w sh d s dp rl im))) := by
  repeat' (first
    | (with_reducible apply Given.mk; intro h; (try exact absurd h (by decide)))
    | ((conv => whnf); first | with_reducible apply Both.mk | refine LoopP.times 14 ?_))
  all_goals first
    | (with_reducible apply Ob.mk; kernel_rfl)
    | (with_reducible apply Ob.mk; decide)
    | ((conv => whnf); refine ⟨?_⟩; refine congrArg (fun v => AV.one (.bool v)) ?_; first | (simp_all [v20, regB, sizeB, shB, relB, sle_not, slt16]; done) | (cases w <;> cases sh <;> simp_all [v20, regB, sizeB, shB, relB, sle_not, slt16]; done) | (simp only [beq_iff_eq] at *; subst_vars; cases w <;> cases sh <;> simp_all [v20, regB, sizeB, shB, relB, sle_not, slt16]; done) | (simp_all only [v20, sizeB', Bool.or_self, Bool.and_false, Bool.false_and]; done) | (unfold v20; rw [sizeB']; simp_all; done))
    | ((conv => whnf); skip)
set_option maxRecDepth 100000 in
set_option maxHeartbeats 4000000 in
theorem rv_21 (D2 : VData) (m : Nat → Nat) (al cc sz : BitVec 64) (w sh : Bool) (d s : BitVec 64) (dp rl : BitVec 32) (im : BitVec 64) : F Tryd.prog (tabI Tryd.prog (or2 (DB m) (or2 (DP m) D2)) (tb_rword m) FSv 4) Tryd.f21 [.agg [.b64 true 21#64, .b64 true al, .b64 true cc, .b64 true sz, .bool w, .bool sh, .b64 true d, .b64 true s, .b32 true dp, .b32 true rl, .b64 true im]] (fun r => r = .one (.bool (v21 al cc sz w sh d s dp rl im))) := by
  repeat' (first
    | (with_reducible apply Given.mk; intro h; (try exact absurd h (by decide)))
    | ((conv => whnf); first | with_reducible apply Both.mk | refine LoopP.times 14 ?_))
  all_goals first
    | (with_reducible apply Ob.mk; kernel_rfl)
    | (with_reducible apply Ob.mk; decide)
    | ((conv => whnf); refine ⟨?_⟩; refine congrArg (fun v => AV.one (.bool v)) ?_; first | (simp_all [v21, regB, sizeB, shB, relB, sle_not, slt16]; done) | (cases w <;> cases sh <;> simp_all [v21, regB, sizeB, shB, relB, sle_not, slt16]; done) | (simp only [beq_iff_eq] at *; subst_vars; cases w <;> cases sh <;> simp_all [v21, regB, sizeB, shB, relB, sle_not, slt16]; done) | (simp_all only [v21, sizeB', Bool.or_self, Bool.and_false, Bool.false_and]; done) | (unfold v21; rw [sizeB']; simp_all; done))
    | ((conv => whnf); skip)
end Go.Proofs.YtppankimieopiaaDoor
