/-
  What the functions of package insns answer: by the evaluator. Conditions: none.
-/
import Derived.Test.YtikhekbdliblnaaDoorInM
namespace Go.Proofs.YtikhekbdliblnaaDoor
open Go.Ev Go.RowKit
set_option linter.unusedVariables false
set_option linter.unusedSimpArgs false

def sp_insns_jump : Sp
  | [.one (.b8 false o)] => some (Cond.t, .tup [(true, [.bool (jD o), .bool (jS o), .bool (jO o), .bool (jI o), .bool false]), (false, [.bool (jK o)])])
  | _ => none
set_option maxRecDepth 100000 in
set_option maxHeartbeats 4000000 in
theorem e_insns_jump (m : Nat → Nat) : EntryOK Tryd.prog (GI m) 38 sp_insns_jump := by
  refine .of_F (C_start m) (by kernel_rfl) Tryd.func38 (by kernel_rfl) (by kernel_rfl) (fun args c v h hc => ?_)
  unfold sp_insns_jump at h
  split at h
  · rename_i o; cases h
    refine ⟨rfl, rfl, ?_⟩
    repeat' (first
      | (with_reducible apply Given.mk; intro h; (try exact absurd h (by decide)))
      | ((conv => whnf); with_reducible apply Both.mk))
    all_goals first
      | (with_reducible apply Ob.mk; kernel_rfl)
      | (with_reducible apply Ob.mk; decide)
      | (with_reducible apply Ob.mk; simp [ByteArray.size, catB, exB, jD, jS, jO, jI, jK, jSp, jAl, oc, orr]; done)
      | ((conv => whnf); refine ⟨?_⟩; first | with_reducible rfl | (simp only [jD, jS, jO, jI, jK, jSp, jAl, oc, orr, *, Bool.true_and, Bool.and_true, Bool.false_and, Bool.and_false, Bool.true_or, Bool.or_true, Bool.false_or, Bool.or_false, Bool.not_true, Bool.not_false, Bool.false_eq_true, Bool.true_eq_false, if_true, if_false, reduceCtorEq]; done) | (simp_all [jD, jS, jO, jI, jK, jSp, jAl, oc, orr]; done) | rfl)
  · cases h
abbrev tb_insns_jump : List (Nat × Sp) := (38, sp_insns_jump) :: tb_start
theorem C_insns_jump (m : Nat → Nat) : CSound Tryd.prog (GI m) (tab (DI m) tb_insns_jump) := (C_start m).cons (e_insns_jump m)

def sp_insns_form : Sp
  | [.one (.b8 false o), .one (.bool w)] => some (Cond.t, .tup [(true, [.bool (fD o), .bool (fS o), .bool (fO o), .bool (fI o), .bool (fW o)]), (false, [.bool (fK o w)])])
  | _ => none
set_option maxRecDepth 100000 in
set_option maxHeartbeats 4000000 in
theorem e_insns_form (m : Nat → Nat) : EntryOK Tryd.prog (GI m) 24 sp_insns_form := by
  refine .of_F (C_insns_jump m) (by kernel_rfl) Tryd.func24 (by kernel_rfl) (by kernel_rfl) (fun args c v h hc => ?_)
  unfold sp_insns_form at h
  split at h
  · rename_i o w; cases h
    refine ⟨rfl, rfl, ?_⟩
    repeat' (first
      | (with_reducible apply Given.mk; intro h; (try exact absurd h (by decide)))
      | ((conv => whnf); with_reducible apply Both.mk))
    all_goals first
      | (with_reducible apply Ob.mk; kernel_rfl)
      | (with_reducible apply Ob.mk; decide)
      | (with_reducible apply Ob.mk; simp [ByteArray.size, catB, exB, fD, fS, fO, fI, fW, fK, oc, orr, isA, isJ, isLd, isLx, isSt, isSx, isNs]; done)
      | ((conv => whnf); refine ⟨?_⟩; first | with_reducible rfl | (simp only [fD, fS, fO, fI, fW, fK, oc, orr, isA, isJ, isLd, isLx, isSt, isSx, isNs, *, Bool.true_and, Bool.and_true, Bool.false_and, Bool.and_false, Bool.true_or, Bool.or_true, Bool.false_or, Bool.or_false, Bool.not_true, Bool.not_false, Bool.false_eq_true, Bool.true_eq_false, if_true, if_false, reduceCtorEq]; done) | (simp_all [fD, fS, fO, fI, fW, fK, oc, orr, isA, isJ, isLd, isLx, isSt, isSx, isNs]; done) | rfl)
  · cases h
abbrev tb_insns_form : List (Nat × Sp) := (24, sp_insns_form) :: tb_insns_jump
theorem C_insns_form (m : Nat → Nat) : CSound Tryd.prog (GI m) (tab (DI m) tb_insns_form) := (C_insns_jump m).cons (e_insns_form m)

def sp_insns_number : Sp
  | [.agg [.b8 false o, .b8 false d, .b8 false s, .b16 true f, .b32 true i]] => some (Cond.t, .one (.bool (iN' o i)))
  | _ => none
set_option maxRecDepth 100000 in
set_option maxHeartbeats 4000000 in
theorem e_insns_number (m : Nat → Nat) : EntryOK Tryd.prog (GI m) 25 sp_insns_number := by
  refine .of_F (C_insns_form m) (by kernel_rfl) Tryd.func25 (by kernel_rfl) (by kernel_rfl) (fun args c v h hc => ?_)
  unfold sp_insns_number at h
  split at h
  · rename_i o d s f i; cases h
    refine ⟨rfl, rfl, ?_⟩
    repeat' (first
      | (with_reducible apply Given.mk; intro h; (try exact absurd h (by decide)))
      | ((conv => whnf); with_reducible apply Both.mk))
    all_goals first
      | (with_reducible apply Ob.mk; kernel_rfl)
      | (with_reducible apply Ob.mk; decide)
      | (with_reducible apply Ob.mk; simp [ByteArray.size, catB, exB, iN', isA, oc]; done)
      | ((conv => whnf); refine ⟨?_⟩; first | with_reducible rfl | (simp only [iN', isA, oc, *, Bool.true_and, Bool.and_true, Bool.false_and, Bool.and_false, Bool.true_or, Bool.or_true, Bool.false_or, Bool.or_false, Bool.not_true, Bool.not_false, Bool.false_eq_true, Bool.true_eq_false, if_true, if_false, reduceCtorEq]; done) | (simp_all [iN', isA, oc]; done) | rfl)
  · cases h
abbrev tb_insns_number : List (Nat × Sp) := (25, sp_insns_number) :: tb_insns_form
theorem C_insns_number (m : Nat → Nat) : CSound Tryd.prog (GI m) (tab (DI m) tb_insns_number) := (C_insns_form m).cons (e_insns_number m)

def sp_insns_Check : Sp
  | [.agg [.b8 false o, .b8 false d, .b8 false s, .b16 true f, .b32 true i], .one (.bool w)] => some (Cond.t, .one (.b64 true (iCheck o d s f i w)))
  | _ => none
set_option maxRecDepth 100000 in
set_option maxHeartbeats 4000000 in
theorem e_insns_Check (m : Nat → Nat) : EntryOK Tryd.prog (GI m) 12 sp_insns_Check := by
  refine .of_F (C_insns_number m) (by kernel_rfl) Tryd.func12 (by kernel_rfl) (by kernel_rfl) (fun args c v h hc => ?_)
  unfold sp_insns_Check at h
  split at h
  · rename_i o d s f i w; cases h
    refine ⟨rfl, rfl, ?_⟩
    repeat' (first
      | (with_reducible apply Given.mk; intro h; (try exact absurd h (by decide)))
      | ((conv => whnf); with_reducible apply Both.mk))
    all_goals first
      | (with_reducible apply Ob.mk; kernel_rfl)
      | (with_reducible apply Ob.mk; decide)
      | (with_reducible apply Ob.mk; simp [ByteArray.size, catB, exB, iCheck]; done)
      | ((conv => whnf); refine ⟨?_⟩; first | with_reducible rfl | (simp only [iCheck, *, Bool.true_and, Bool.and_true, Bool.false_and, Bool.and_false, Bool.true_or, Bool.or_true, Bool.false_or, Bool.or_false, Bool.not_true, Bool.not_false, Bool.false_eq_true, Bool.true_eq_false, if_true, if_false, reduceCtorEq]; done) | (simp_all [iCheck]; done) | rfl)
  · cases h
abbrev tb_insns_Check : List (Nat × Sp) := (12, sp_insns_Check) :: tb_insns_number
theorem C_insns_Check (m : Nat → Nat) : CSound Tryd.prog (GI m) (tab (DI m) tb_insns_Check) := (C_insns_number m).cons (e_insns_Check m)

def sp_nums_Bytes : Sp
  | [.one (.b64 false v), .one (.b64 true n)] => match n.toNat with
    | 2 => some (Cond.t, .one (.str (bytes2 v)))
    | 4 => some (Cond.t, .one (.str (bytes4 v)))
    | _ => none
  | _ => none
set_option maxRecDepth 100000 in
set_option maxHeartbeats 4000000 in
theorem e_nums_Bytes (m : Nat → Nat) : EntryOK Tryd.prog (GI m) 39 sp_nums_Bytes := by
  refine .of_F (C_insns_Check m) (by kernel_rfl) Tryd.func39 (by kernel_rfl) (by kernel_rfl) (fun args c v h hc => ?_)
  unfold sp_nums_Bytes at h
  split at h
  · rename_i v n
    split at h
    · rename_i hn
      obtain rfl : n = 2#64 := BitVec.eq_of_toNat_eq hn
      cases h
      refine ⟨rfl, rfl, ?_⟩
      repeat' (first
        | (with_reducible apply Given.mk; intro h; (try exact absurd h (by decide)))
        | ((conv => whnf); first | with_reducible apply Both.mk | refine LoopP.times 9 ?_))
      all_goals first
        | (with_reducible apply Ob.mk; kernel_rfl)
        | (with_reducible apply Ob.mk; decide)
        | ((conv => whnf); exact ⟨rfl⟩)
    · rename_i hn
      obtain rfl : n = 4#64 := BitVec.eq_of_toNat_eq hn
      cases h
      refine ⟨rfl, rfl, ?_⟩
      repeat' (first
        | (with_reducible apply Given.mk; intro h; (try exact absurd h (by decide)))
        | ((conv => whnf); first | with_reducible apply Both.mk | refine LoopP.times 9 ?_))
      all_goals first
        | (with_reducible apply Ob.mk; kernel_rfl)
        | (with_reducible apply Ob.mk; decide)
        | ((conv => whnf); exact ⟨rfl⟩)
    · cases h
  · cases h
abbrev tb_nums_Bytes : List (Nat × Sp) := (39, sp_nums_Bytes) :: tb_insns_Check
theorem C_nums_Bytes (m : Nat → Nat) : CSound Tryd.prog (GI m) (tab (DI m) tb_nums_Bytes) := (C_insns_Check m).cons (e_nums_Bytes m)

def sp_insns_Encode : Sp
  | [.agg [.b8 false o, .b8 false d, .b8 false s, .b16 true f, .b32 true i]] => some (Cond.t, .one (.str (iEnc o d s f i)))
  | _ => none
set_option maxRecDepth 100000 in
set_option maxHeartbeats 4000000 in
theorem e_insns_Encode (m : Nat → Nat) : EntryOK Tryd.prog (GI m) 35 sp_insns_Encode := by
  refine .of_F (C_nums_Bytes m) (by kernel_rfl) Tryd.func35 (by kernel_rfl) (by kernel_rfl) (fun args c v h hc => ?_)
  unfold sp_insns_Encode at h
  split at h
  · rename_i o d s f i; cases h
    refine ⟨rfl, rfl, ?_⟩
    repeat' (first
      | (with_reducible apply Given.mk; intro h; (try exact absurd h (by decide)))
      | ((conv => whnf); with_reducible apply Both.mk))
    all_goals first
      | (with_reducible apply Ob.mk; kernel_rfl)
      | (with_reducible apply Ob.mk; decide)
      | (with_reducible apply Ob.mk; simp [ByteArray.size, catB, exB, bytes2, bytes4, iEnc]; done)
      | ((conv => whnf); refine ⟨?_⟩; first | with_reducible rfl | (simp only [bytes2, bytes4, iEnc, *, Bool.true_and, Bool.and_true, Bool.false_and, Bool.and_false, Bool.true_or, Bool.or_true, Bool.false_or, Bool.or_false, Bool.not_true, Bool.not_false, Bool.false_eq_true, Bool.true_eq_false, if_true, if_false, reduceCtorEq]; done) | (simp_all [bytes2, bytes4, iEnc]; done) | rfl)
  · cases h
abbrev tb_insns_Encode : List (Nat × Sp) := (35, sp_insns_Encode) :: tb_nums_Bytes
theorem C_insns_Encode (m : Nat → Nat) : CSound Tryd.prog (GI m) (tab (DI m) tb_insns_Encode) := (C_nums_Bytes m).cons (e_insns_Encode m)

def sp_firewalllaw02_checks : Sp
  | [] => some (Cond.t, .one (.bool true))
  | _ => none
set_option maxRecDepth 100000 in
set_option maxHeartbeats 4000000 in
theorem e_firewalllaw02_checks (m : Nat → Nat) : EntryOK Tryd.prog (GI m) 16 sp_firewalllaw02_checks := by
  refine .of_F (C_insns_Encode m) (by kernel_rfl) Tryd.func16 (by kernel_rfl) (by kernel_rfl) (fun args c v h hc => ?_)
  unfold sp_firewalllaw02_checks at h
  split at h
  · cases h
    refine ⟨rfl, rfl, ?_⟩
    repeat' (first
      | (with_reducible apply Given.mk; intro h; (try exact absurd h (by decide)))
      | ((conv => whnf); with_reducible apply Both.mk))
    all_goals first
      | (with_reducible apply Ob.mk; kernel_rfl)
      | (with_reducible apply Ob.mk; decide)
      | (with_reducible apply Ob.mk; simp [ByteArray.size, catB, exB]; done)
      | ((conv => whnf); refine ⟨?_⟩; first | with_reducible rfl | rfl)
  · cases h
abbrev tb_firewalllaw02_checks : List (Nat × Sp) := (16, sp_firewalllaw02_checks) :: tb_insns_Encode
theorem C_firewalllaw02_checks (m : Nat → Nat) : CSound Tryd.prog (GI m) (tab (DI m) tb_firewalllaw02_checks) := (C_insns_Encode m).cons (e_firewalllaw02_checks m)

end Go.Proofs.YtikhekbdliblnaaDoor

