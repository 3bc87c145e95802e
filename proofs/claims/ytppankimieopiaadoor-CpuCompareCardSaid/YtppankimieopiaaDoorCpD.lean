/-
  What the functions of package conds answer: by the evaluator. Conditions: as typed.
-/
import Derived.Test.YtppankimieopiaaDoorCpC
namespace Go.Proofs.YtppankimieopiaaDoor
open Go.El Go.RowKit
set_option linter.unusedVariables false
set_option linter.unusedSimpArgs false

theorem max_pos (n : BitVec 64) : 0 ≤ (if n.slt 0#64 then 0#64 else n).toInt := by
  by_cases h : n.slt 0#64 = true
  · rw [if_pos h]; decide
  · rw [if_neg h]
    rw [BitVec.slt_iff_toInt_lt] at h
    simpa using h
theorem rest_pos (n : BitVec 64) (h : n.sle 0#64 = false) : 0 ≤ (64#64 - (if (64#64).slt n then 64#64 else n)).toInt := by
  have h' : ¬ (n.sle 0#64 = true) := by rw [h]; decide
  rw [BitVec.sle_iff_toInt_le] at h'
  have h0 : (0#64).toInt = 0 := rfl
  rw [h0] at h'
  by_cases h2 : (64#64).slt n = true
  · rw [if_pos h2]; decide
  · rw [if_neg h2]
    rw [BitVec.slt_iff_toInt_lt] at h2
    have h64 : (64#64).toInt = 64 := rfl
    rw [h64] at h2
    have hn := BitVec.toInt_eq_toNat_cond n
    have hlt := n.isLt
    rw [BitVec.toInt_eq_toNat_cond, BitVec.toNat_sub]
    simp only [BitVec.toNat_ofNat]
    split at hn <;> split <;> omega

def sp_conds_order_in : Sp
  | [.agg [.bool a, .bool b, .bool c], .one (.b64 true n)] => some (Cond.t, .one (.bool (inO a b c n)))
  | _ => none
set_option maxRecDepth 100000 in
set_option maxHeartbeats 4000000 in
theorem e_conds_order_in (m : Nat → Nat) : EntryOK Tryd.prog (GV m) 69 sp_conds_order_in := by
  refine .of_F (C_v m) (by kernel_rfl) Tryd.func69 (by kernel_rfl) (by kernel_rfl) (fun args c v h hc => ?_)
  unfold sp_conds_order_in at h
  split at h
  · rename_i a b c n; cases h
    refine ⟨rfl, rfl, ?_⟩
    repeat' (first
      | (with_reducible apply Given.mk; intro h; (try exact absurd h (by decide)))
      | ((conv => whnf); with_reducible apply Both.mk))
    all_goals first
      | (with_reducible apply Ob.mk; kernel_rfl)
      | (with_reducible apply Ob.mk; decide)
      | (with_reducible apply Ob.mk; simp [ByteArray.size, catB, exB, inO]; done)
      | ((conv => whnf); refine ⟨?_⟩; first | with_reducible rfl | (simp only [inO, *, Bool.true_and, Bool.and_true, Bool.false_and, Bool.and_false, Bool.true_or, Bool.or_true, Bool.false_or, Bool.or_false, Bool.not_true, Bool.not_false, Bool.false_eq_true, Bool.true_eq_false, if_true, if_false, reduceCtorEq]; done) | (simp_all [inO]; done) | rfl)
  · cases h
abbrev tb_conds_order_in (m : Nat → Nat) : List (Nat × Sp) := (69, sp_conds_order_in) :: tb_v m
theorem C_conds_order_in (m : Nat → Nat) : CSound Tryd.prog (GV m) (tab (DV m) (tb_conds_order_in m)) := (C_v m).cons (e_conds_order_in m)

def sp_cmp_isNaN_int64 : Sp
  | [.one (.b64 true x)] => some (Cond.t, .one (.bool false))
  | _ => none
set_option maxRecDepth 100000 in
set_option maxHeartbeats 4000000 in
theorem e_cmp_isNaN_int64 (m : Nat → Nat) : EntryOK Tryd.prog (GV m) 90 sp_cmp_isNaN_int64 := by
  refine .of_F (C_conds_order_in m) (by kernel_rfl) Tryd.func90 (by kernel_rfl) (by kernel_rfl) (fun args c v h hc => ?_)
  unfold sp_cmp_isNaN_int64 at h
  split at h
  · rename_i x; cases h
    refine ⟨rfl, rfl, ?_⟩
    repeat' (first
      | (with_reducible apply Given.mk; intro h; (try exact absurd h (by decide)))
      | ((conv => whnf); with_reducible apply Both.mk))
    all_goals first
      | (with_reducible apply Ob.mk; kernel_rfl)
      | (with_reducible apply Ob.mk; decide)
      | (with_reducible apply Ob.mk; simp [ByteArray.size, catB, exB, bne_self_eq_false]; done)
      | ((conv => whnf); refine ⟨?_⟩; first | with_reducible rfl | (simp only [bne_self_eq_false, *, Bool.true_and, Bool.and_true, Bool.false_and, Bool.and_false, Bool.true_or, Bool.or_true, Bool.false_or, Bool.or_false, Bool.not_true, Bool.not_false, Bool.false_eq_true, Bool.true_eq_false, if_true, if_false, reduceCtorEq]; done) | (simp_all [bne_self_eq_false]; done) | rfl)
  · cases h
abbrev tb_cmp_isNaN_int64 (m : Nat → Nat) : List (Nat × Sp) := (90, sp_cmp_isNaN_int64) :: tb_conds_order_in m
theorem C_cmp_isNaN_int64 (m : Nat → Nat) : CSound Tryd.prog (GV m) (tab (DV m) (tb_cmp_isNaN_int64 m)) := (C_conds_order_in m).cons (e_cmp_isNaN_int64 m)

def sp_cmp_isNaN_uint64 : Sp
  | [.one (.b64 false x)] => some (Cond.t, .one (.bool false))
  | _ => none
set_option maxRecDepth 100000 in
set_option maxHeartbeats 4000000 in
theorem e_cmp_isNaN_uint64 (m : Nat → Nat) : EntryOK Tryd.prog (GV m) 91 sp_cmp_isNaN_uint64 := by
  refine .of_F (C_cmp_isNaN_int64 m) (by kernel_rfl) Tryd.func91 (by kernel_rfl) (by kernel_rfl) (fun args c v h hc => ?_)
  unfold sp_cmp_isNaN_uint64 at h
  split at h
  · rename_i x; cases h
    refine ⟨rfl, rfl, ?_⟩
    repeat' (first
      | (with_reducible apply Given.mk; intro h; (try exact absurd h (by decide)))
      | ((conv => whnf); with_reducible apply Both.mk))
    all_goals first
      | (with_reducible apply Ob.mk; kernel_rfl)
      | (with_reducible apply Ob.mk; decide)
      | (with_reducible apply Ob.mk; simp [ByteArray.size, catB, exB, bne_self_eq_false]; done)
      | ((conv => whnf); refine ⟨?_⟩; first | with_reducible rfl | (simp only [bne_self_eq_false, *, Bool.true_and, Bool.and_true, Bool.false_and, Bool.and_false, Bool.true_or, Bool.or_true, Bool.false_or, Bool.or_false, Bool.not_true, Bool.not_false, Bool.false_eq_true, Bool.true_eq_false, if_true, if_false, reduceCtorEq]; done) | (simp_all [bne_self_eq_false]; done) | rfl)
  · cases h
abbrev tb_cmp_isNaN_uint64 (m : Nat → Nat) : List (Nat × Sp) := (91, sp_cmp_isNaN_uint64) :: tb_cmp_isNaN_int64 m
theorem C_cmp_isNaN_uint64 (m : Nat → Nat) : CSound Tryd.prog (GV m) (tab (DV m) (tb_cmp_isNaN_uint64 m)) := (C_cmp_isNaN_int64 m).cons (e_cmp_isNaN_uint64 m)

def sp_cmp_Compare_int64 : Sp
  | [.one (.b64 true x), .one (.b64 true y)] => some (Cond.t, .one (.b64 true (cmpS x y)))
  | _ => none
set_option maxRecDepth 100000 in
set_option maxHeartbeats 4000000 in
theorem e_cmp_Compare_int64 (m : Nat → Nat) : EntryOK Tryd.prog (GV m) 70 sp_cmp_Compare_int64 := by
  refine .of_F (C_cmp_isNaN_uint64 m) (by kernel_rfl) Tryd.func70 (by kernel_rfl) (by kernel_rfl) (fun args c v h hc => ?_)
  unfold sp_cmp_Compare_int64 at h
  split at h
  · rename_i x y; cases h
    refine ⟨rfl, rfl, ?_⟩
    repeat' (first
      | (with_reducible apply Given.mk; intro h; (try exact absurd h (by decide)))
      | ((conv => whnf); with_reducible apply Both.mk))
    all_goals first
      | (with_reducible apply Ob.mk; kernel_rfl)
      | (with_reducible apply Ob.mk; decide)
      | (with_reducible apply Ob.mk; simp [ByteArray.size, catB, exB, cmpS]; done)
      | ((conv => whnf); refine ⟨?_⟩; first | with_reducible rfl | (simp only [cmpS, *, Bool.true_and, Bool.and_true, Bool.false_and, Bool.and_false, Bool.true_or, Bool.or_true, Bool.false_or, Bool.or_false, Bool.not_true, Bool.not_false, Bool.false_eq_true, Bool.true_eq_false, if_true, if_false, reduceCtorEq]; done) | (simp_all [cmpS]; done) | rfl)
  · cases h
abbrev tb_cmp_Compare_int64 (m : Nat → Nat) : List (Nat × Sp) := (70, sp_cmp_Compare_int64) :: tb_cmp_isNaN_uint64 m
theorem C_cmp_Compare_int64 (m : Nat → Nat) : CSound Tryd.prog (GV m) (tab (DV m) (tb_cmp_Compare_int64 m)) := (C_cmp_isNaN_uint64 m).cons (e_cmp_Compare_int64 m)

def sp_cmp_Compare_uint64 : Sp
  | [.one (.b64 false x), .one (.b64 false y)] => some (Cond.t, .one (.b64 true (cmpU x y)))
  | _ => none
set_option maxRecDepth 100000 in
set_option maxHeartbeats 4000000 in
theorem e_cmp_Compare_uint64 (m : Nat → Nat) : EntryOK Tryd.prog (GV m) 73 sp_cmp_Compare_uint64 := by
  refine .of_F (C_cmp_Compare_int64 m) (by kernel_rfl) Tryd.func73 (by kernel_rfl) (by kernel_rfl) (fun args c v h hc => ?_)
  unfold sp_cmp_Compare_uint64 at h
  split at h
  · rename_i x y; cases h
    refine ⟨rfl, rfl, ?_⟩
    repeat' (first
      | (with_reducible apply Given.mk; intro h; (try exact absurd h (by decide)))
      | ((conv => whnf); with_reducible apply Both.mk))
    all_goals first
      | (with_reducible apply Ob.mk; kernel_rfl)
      | (with_reducible apply Ob.mk; decide)
      | (with_reducible apply Ob.mk; simp [ByteArray.size, catB, exB, cmpU]; done)
      | ((conv => whnf); refine ⟨?_⟩; first | with_reducible rfl | (simp only [cmpU, *, Bool.true_and, Bool.and_true, Bool.false_and, Bool.and_false, Bool.true_or, Bool.or_true, Bool.false_or, Bool.or_false, Bool.not_true, Bool.not_false, Bool.false_eq_true, Bool.true_eq_false, if_true, if_false, reduceCtorEq]; done) | (simp_all [cmpU]; done) | rfl)
  · cases h
abbrev tb_cmp_Compare_uint64 (m : Nat → Nat) : List (Nat × Sp) := (73, sp_cmp_Compare_uint64) :: tb_cmp_Compare_int64 m
theorem C_cmp_Compare_uint64 (m : Nat → Nat) : CSound Tryd.prog (GV m) (tab (DV m) (tb_cmp_Compare_uint64 m)) := (C_cmp_Compare_int64 m).cons (e_cmp_Compare_uint64 m)

def sp_nums_Low : Sp
  | [.one (.b64 false v), .one (.b64 true n)] => some (Cond.t, .one (.b64 false (pLow v n)))
  | _ => none
set_option maxRecDepth 100000 in
set_option maxHeartbeats 4000000 in
theorem e_nums_Low (m : Nat → Nat) : EntryOK Tryd.prog (GV m) 72 sp_nums_Low := by
  refine .of_F (C_cmp_Compare_uint64 m) (by kernel_rfl) Tryd.func72 (by kernel_rfl) (by kernel_rfl) (fun args c v h hc => ?_)
  unfold sp_nums_Low at h
  split at h
  · rename_i v n; cases h
    refine ⟨rfl, rfl, ?_⟩
    repeat' (first
      | (with_reducible apply Given.mk; intro h; (try exact absurd h (by decide)))
      | ((conv => whnf); with_reducible apply Both.mk))
    all_goals first
      | (with_reducible apply Ob.mk; exact max_pos n)
      | ((conv => whnf); refine ⟨?_⟩; simp only [pLow, *, if_true, if_false, Bool.false_eq_true]; done)
  · cases h
abbrev tb_nums_Low (m : Nat → Nat) : List (Nat × Sp) := (72, sp_nums_Low) :: tb_cmp_Compare_uint64 m
theorem C_nums_Low (m : Nat → Nat) : CSound Tryd.prog (GV m) (tab (DV m) (tb_nums_Low m)) := (C_cmp_Compare_uint64 m).cons (e_nums_Low m)

def sp_nums_Sign : Sp
  | [.one (.b64 false v), .one (.b64 true n)] => some (Cond.t, .one (.b64 false (pSign v n)))
  | _ => none
set_option maxRecDepth 100000 in
set_option maxHeartbeats 4000000 in
theorem e_nums_Sign (m : Nat → Nat) : EntryOK Tryd.prog (GV m) 71 sp_nums_Sign := by
  refine .of_F (C_nums_Low m) (by kernel_rfl) Tryd.func71 (by kernel_rfl) (by kernel_rfl) (fun args c v h hc => ?_)
  unfold sp_nums_Sign at h
  split at h
  · rename_i v n; cases h
    refine ⟨rfl, rfl, ?_⟩
    repeat' (first
      | (with_reducible apply Given.mk; intro h; (try exact absurd h (by decide)))
      | ((conv => whnf); with_reducible apply Both.mk))
    all_goals first
      | (with_reducible apply Ob.mk; exact rest_pos n (by assumption))
      | ((conv => whnf); refine ⟨?_⟩; simp only [pSign, *, if_true, if_false, Bool.false_eq_true]; done)
  · cases h
abbrev tb_nums_Sign (m : Nat → Nat) : List (Nat × Sp) := (71, sp_nums_Sign) :: tb_nums_Low m
theorem C_nums_Sign (m : Nat → Nat) : CSound Tryd.prog (GV m) (tab (DV m) (tb_nums_Sign m)) := (C_nums_Low m).cons (e_nums_Sign m)

def sp_conds_Holds : Sp
  | [.one (.b8 false o), .one (.bool w), .one (.b64 false a), .one (.b64 false b)] => some (Cond.t, .one (.bool (cHolds o w a b)))
  | _ => none
set_option maxRecDepth 100000 in
set_option maxHeartbeats 4000000 in
theorem e_conds_Holds (m : Nat → Nat) : EntryOK Tryd.prog (GV m) 28 sp_conds_Holds := by
  refine .of_F (C_nums_Sign m) (by kernel_rfl) Tryd.func28 (by kernel_rfl) (by kernel_rfl) (fun args c v h hc => ?_)
  unfold sp_conds_Holds at h
  split at h
  · rename_i o w a b; cases h
    refine ⟨rfl, rfl, ?_⟩
    repeat' (first
      | (with_reducible apply Given.mk; intro h; (try exact absurd h (by decide)))
      | ((conv => whnf); with_reducible apply Both.mk))
    all_goals first
      | (with_reducible apply Ob.mk; kernel_rfl)
      | (with_reducible apply Ob.mk; rfl)
      | ((conv => whnf); refine ⟨?_⟩; simp_all [cHolds]; done)
  · cases h
abbrev tb_conds_Holds (m : Nat → Nat) : List (Nat × Sp) := (28, sp_conds_Holds) :: tb_nums_Sign m
theorem C_conds_Holds (m : Nat → Nat) : CSound Tryd.prog (GV m) (tab (DV m) (tb_conds_Holds m)) := (C_nums_Sign m).cons (e_conds_Holds m)

end Go.Proofs.YtppankimieopiaaDoor

