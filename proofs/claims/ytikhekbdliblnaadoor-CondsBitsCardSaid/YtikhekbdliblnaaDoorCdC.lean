/-
  What the functions of package conds answer, and the document's: by the evaluator. Conditions: none.
-/
import Derived.Test.YtikhekbdliblnaaDoorCdM
namespace Go.Proofs.YtikhekbdliblnaaDoor
open Go.Ev Go.RowKit
set_option linter.unusedVariables false
set_option linter.unusedSimpArgs false

theorem max_pos (n : BitVec 64) : 0 ≤ (if n.slt 0#64 then 0#64 else n).toInt := by
  by_cases h : n.slt 0#64 = true
  · rw [if_pos h]; decide
  · rw [if_neg h]
    rw [BitVec.slt_iff_toInt_lt] at h
    simpa using h
theorem rest_pos (n : BitVec 64) (h : n.sle 0#64 = false) : 0 ≤ (64#64 - (if (64#64).slt n then 64#64 else n)).toInt := by
  have h' : ¬ (n.sle 0#64 = true) := by rw [h]; decide
  rw [BitVec.sle_iff_toInt_le] at h'
  have h0 : (0#64).toInt = 0 := rfl
  rw [h0] at h'
  by_cases h2 : (64#64).slt n = true
  · rw [if_pos h2]; decide
  · rw [if_neg h2]
    rw [BitVec.slt_iff_toInt_lt] at h2
    have h64 : (64#64).toInt = 64 := rfl
    rw [h64] at h2
    have hn := BitVec.toInt_eq_toNat_cond n
    have hlt := n.isLt
    rw [BitVec.toInt_eq_toNat_cond, BitVec.toNat_sub]
    simp only [BitVec.toNat_ofNat]
    split at hn <;> split <;> omega

def sp_conds_order_in : Sp
  | [.agg [.bool a, .bool b, .bool c], .one (.b64 true n)] => some (Cond.t, .one (.bool (inO a b c n)))
  | _ => none
set_option maxRecDepth 100000 in
set_option maxHeartbeats 4000000 in
theorem e_conds_order_in (m : Nat → Nat) : EntryOK Tryd.prog (GC m) 17 sp_conds_order_in := by
  refine .of_F (C_start m) (by kernel_rfl) Tryd.func17 (by kernel_rfl) (by kernel_rfl) (fun args c v h hc => ?_)
  unfold sp_conds_order_in at h
  split at h
  · rename_i a b c n; cases h
    refine ⟨rfl, rfl, ?_⟩
    repeat' (first
      | (with_reducible apply Given.mk; intro h; (try exact absurd h (by decide)))
      | ((conv => whnf); with_reducible apply Both.mk))
    all_goals first
      | (with_reducible apply Ob.mk; kernel_rfl)
      | (with_reducible apply Ob.mk; decide)
      | ((conv => whnf); refine ⟨?_⟩; first | with_reducible rfl | (simp_all [inO]; done) | rfl)
  · cases h
abbrev tb_conds_order_in : List (Nat × Sp) := (17, sp_conds_order_in) :: tb_start
theorem C_conds_order_in (m : Nat → Nat) : CSound Tryd.prog (GC m) (tab (DC m) tb_conds_order_in) := (C_start m).cons (e_conds_order_in m)

def sp_cmp_isNaN_int64 : Sp
  | [.one (.b64 true x)] => some (Cond.t, .one (.bool false))
  | _ => none
set_option maxRecDepth 100000 in
set_option maxHeartbeats 4000000 in
theorem e_cmp_isNaN_int64 (m : Nat → Nat) : EntryOK Tryd.prog (GC m) 36 sp_cmp_isNaN_int64 := by
  refine .of_F (C_conds_order_in m) (by kernel_rfl) Tryd.func36 (by kernel_rfl) (by kernel_rfl) (fun args c v h hc => ?_)
  unfold sp_cmp_isNaN_int64 at h
  split at h
  · rename_i x; cases h
    refine ⟨rfl, rfl, ?_⟩
    repeat' (first
      | (with_reducible apply Given.mk; intro h; (try exact absurd h (by decide)))
      | ((conv => whnf); with_reducible apply Both.mk))
    all_goals first
      | (with_reducible apply Ob.mk; kernel_rfl)
      | (with_reducible apply Ob.mk; decide)
      | ((conv => whnf); refine ⟨?_⟩; first | with_reducible rfl | (simp_all [bne_self_eq_false]; done) | rfl)
  · cases h
abbrev tb_cmp_isNaN_int64 : List (Nat × Sp) := (36, sp_cmp_isNaN_int64) :: tb_conds_order_in
theorem C_cmp_isNaN_int64 (m : Nat → Nat) : CSound Tryd.prog (GC m) (tab (DC m) tb_cmp_isNaN_int64) := (C_conds_order_in m).cons (e_cmp_isNaN_int64 m)

def sp_cmp_isNaN_uint64 : Sp
  | [.one (.b64 false x)] => some (Cond.t, .one (.bool false))
  | _ => none
set_option maxRecDepth 100000 in
set_option maxHeartbeats 4000000 in
theorem e_cmp_isNaN_uint64 (m : Nat → Nat) : EntryOK Tryd.prog (GC m) 37 sp_cmp_isNaN_uint64 := by
  refine .of_F (C_cmp_isNaN_int64 m) (by kernel_rfl) Tryd.func37 (by kernel_rfl) (by kernel_rfl) (fun args c v h hc => ?_)
  unfold sp_cmp_isNaN_uint64 at h
  split at h
  · rename_i x; cases h
    refine ⟨rfl, rfl, ?_⟩
    repeat' (first
      | (with_reducible apply Given.mk; intro h; (try exact absurd h (by decide)))
      | ((conv => whnf); with_reducible apply Both.mk))
    all_goals first
      | (with_reducible apply Ob.mk; kernel_rfl)
      | (with_reducible apply Ob.mk; decide)
      | ((conv => whnf); refine ⟨?_⟩; first | with_reducible rfl | (simp_all [bne_self_eq_false]; done) | rfl)
  · cases h
abbrev tb_cmp_isNaN_uint64 : List (Nat × Sp) := (37, sp_cmp_isNaN_uint64) :: tb_cmp_isNaN_int64
theorem C_cmp_isNaN_uint64 (m : Nat → Nat) : CSound Tryd.prog (GC m) (tab (DC m) tb_cmp_isNaN_uint64) := (C_cmp_isNaN_int64 m).cons (e_cmp_isNaN_uint64 m)

def sp_cmp_Compare_int64 : Sp
  | [.one (.b64 true x), .one (.b64 true y)] => some (Cond.t, .one (.b64 true (cmpS x y)))
  | _ => none
set_option maxRecDepth 100000 in
set_option maxHeartbeats 4000000 in
theorem e_cmp_Compare_int64 (m : Nat → Nat) : EntryOK Tryd.prog (GC m) 18 sp_cmp_Compare_int64 := by
  refine .of_F (C_cmp_isNaN_uint64 m) (by kernel_rfl) Tryd.func18 (by kernel_rfl) (by kernel_rfl) (fun args c v h hc => ?_)
  unfold sp_cmp_Compare_int64 at h
  split at h
  · rename_i x y; cases h
    refine ⟨rfl, rfl, ?_⟩
    repeat' (first
      | (with_reducible apply Given.mk; intro h; (try exact absurd h (by decide)))
      | ((conv => whnf); with_reducible apply Both.mk))
    all_goals first
      | (with_reducible apply Ob.mk; kernel_rfl)
      | (with_reducible apply Ob.mk; decide)
      | ((conv => whnf); refine ⟨?_⟩; first | with_reducible rfl | (simp_all [cmpS]; done) | rfl)
  · cases h
abbrev tb_cmp_Compare_int64 : List (Nat × Sp) := (18, sp_cmp_Compare_int64) :: tb_cmp_isNaN_uint64
theorem C_cmp_Compare_int64 (m : Nat → Nat) : CSound Tryd.prog (GC m) (tab (DC m) tb_cmp_Compare_int64) := (C_cmp_isNaN_uint64 m).cons (e_cmp_Compare_int64 m)

def sp_cmp_Compare_uint64 : Sp
  | [.one (.b64 false x), .one (.b64 false y)] => some (Cond.t, .one (.b64 true (cmpU x y)))
  | _ => none
set_option maxRecDepth 100000 in
set_option maxHeartbeats 4000000 in
theorem e_cmp_Compare_uint64 (m : Nat → Nat) : EntryOK Tryd.prog (GC m) 21 sp_cmp_Compare_uint64 := by
  refine .of_F (C_cmp_Compare_int64 m) (by kernel_rfl) Tryd.func21 (by kernel_rfl) (by kernel_rfl) (fun args c v h hc => ?_)
  unfold sp_cmp_Compare_uint64 at h
  split at h
  · rename_i x y; cases h
    refine ⟨rfl, rfl, ?_⟩
    repeat' (first
      | (with_reducible apply Given.mk; intro h; (try exact absurd h (by decide)))
      | ((conv => whnf); with_reducible apply Both.mk))
    all_goals first
      | (with_reducible apply Ob.mk; kernel_rfl)
      | (with_reducible apply Ob.mk; decide)
      | ((conv => whnf); refine ⟨?_⟩; first | with_reducible rfl | (simp_all [cmpU]; done) | rfl)
  · cases h
abbrev tb_cmp_Compare_uint64 : List (Nat × Sp) := (21, sp_cmp_Compare_uint64) :: tb_cmp_Compare_int64
theorem C_cmp_Compare_uint64 (m : Nat → Nat) : CSound Tryd.prog (GC m) (tab (DC m) tb_cmp_Compare_uint64) := (C_cmp_Compare_int64 m).cons (e_cmp_Compare_uint64 m)

def sp_nums_Low : Sp
  | [.one (.b64 false v), .one (.b64 true n)] => some (Cond.t, .one (.b64 false (pLow v n)))
  | _ => none
set_option maxRecDepth 100000 in
set_option maxHeartbeats 4000000 in
theorem e_nums_Low (m : Nat → Nat) : EntryOK Tryd.prog (GC m) 20 sp_nums_Low := by
  refine .of_F (C_cmp_Compare_uint64 m) (by kernel_rfl) Tryd.func20 (by kernel_rfl) (by kernel_rfl) (fun args c v h hc => ?_)
  unfold sp_nums_Low at h
  split at h
  · rename_i v n; cases h
    refine ⟨rfl, rfl, ?_⟩
    repeat' (first
      | (with_reducible apply Given.mk; intro h; (try exact absurd h (by decide)))
      | ((conv => whnf); with_reducible apply Both.mk))
    all_goals first
      | (with_reducible apply Ob.mk; exact max_pos n)
      | ((conv => whnf); refine ⟨?_⟩; simp only [pLow, *, if_true, if_false, Bool.false_eq_true]; done)
  · cases h
abbrev tb_nums_Low : List (Nat × Sp) := (20, sp_nums_Low) :: tb_cmp_Compare_uint64
theorem C_nums_Low (m : Nat → Nat) : CSound Tryd.prog (GC m) (tab (DC m) tb_nums_Low) := (C_cmp_Compare_uint64 m).cons (e_nums_Low m)

def sp_nums_Sign : Sp
  | [.one (.b64 false v), .one (.b64 true n)] => some (Cond.t, .one (.b64 false (pSign v n)))
  | _ => none
set_option maxRecDepth 100000 in
set_option maxHeartbeats 4000000 in
theorem e_nums_Sign (m : Nat → Nat) : EntryOK Tryd.prog (GC m) 19 sp_nums_Sign := by
  refine .of_F (C_nums_Low m) (by kernel_rfl) Tryd.func19 (by kernel_rfl) (by kernel_rfl) (fun args c v h hc => ?_)
  unfold sp_nums_Sign at h
  split at h
  · rename_i v n; cases h
    refine ⟨rfl, rfl, ?_⟩
    repeat' (first
      | (with_reducible apply Given.mk; intro h; (try exact absurd h (by decide)))
      | ((conv => whnf); with_reducible apply Both.mk))
    all_goals first
      | (with_reducible apply Ob.mk; exact rest_pos n (by assumption))
      | ((conv => whnf); refine ⟨?_⟩; simp only [pSign, *, if_true, if_false, Bool.false_eq_true]; done)
  · cases h
abbrev tb_nums_Sign : List (Nat × Sp) := (19, sp_nums_Sign) :: tb_nums_Low
theorem C_nums_Sign (m : Nat → Nat) : CSound Tryd.prog (GC m) (tab (DC m) tb_nums_Sign) := (C_nums_Low m).cons (e_nums_Sign m)

def sp_conds_Holds : Sp
  | [.one (.b8 false o), .one (.bool w), .one (.b64 false a), .one (.b64 false b)] => some (Cond.t, .one (.bool (cHolds o w a b)))
  | _ => none
set_option maxRecDepth 100000 in
set_option maxHeartbeats 4000000 in
theorem e_conds_Holds (m : Nat → Nat) : EntryOK Tryd.prog (GC m) 9 sp_conds_Holds := by
  refine .of_F (C_nums_Sign m) (by kernel_rfl) Tryd.func9 (by kernel_rfl) (by kernel_rfl) (fun args c v h hc => ?_)
  unfold sp_conds_Holds at h
  split at h
  · rename_i o w a b; cases h
    refine ⟨rfl, rfl, ?_⟩
    repeat' (first
      | (with_reducible apply Given.mk; intro h; (try exact absurd h (by decide)))
      | ((conv => whnf); with_reducible apply Both.mk))
    all_goals first
      | (with_reducible apply Ob.mk; kernel_rfl)
      | (with_reducible apply Ob.mk; rfl)
      | ((conv => whnf); refine ⟨?_⟩; simp_all [cHolds]; done)
  · cases h
abbrev tb_conds_Holds : List (Nat × Sp) := (9, sp_conds_Holds) :: tb_nums_Sign
theorem C_conds_Holds (m : Nat → Nat) : CSound Tryd.prog (GC m) (tab (DC m) tb_conds_Holds) := (C_nums_Sign m).cons (e_conds_Holds m)

def sp_firewallref01_Power : Sp
  | [.one (.b64 true n)] => some (Cond.p (n.toNat < 64), .one (.b64 false (1#64 <<< n.toNat)))
  | _ => none
set_option maxRecDepth 100000 in
set_option maxHeartbeats 4000000 in
theorem e_firewallref01_Power (m : Nat → Nat) : EntryOK Tryd.prog (GC m) 23 sp_firewallref01_Power := by
  refine .of_F (C_conds_Holds m) (by kernel_rfl) Tryd.func23 (by kernel_rfl) (by kernel_rfl) (fun args c v h hc => ?_)
  unfold sp_firewallref01_Power at h
  split at h
  · rename_i n; cases h
    refine ⟨rfl, rfl, ?_⟩
    have hn : n.toNat < 64 := hc
    have hni : n.toInt = (n.toNat : Int) := by rw [BitVec.toInt_eq_toNat_cond]; split <;> omega
    conv => whnf
    refine LoopP.mk Nat (fun k => k ≤ n.toNat) (fun k => mkS 13 [(0, .one (.b64 true n)), (3, .one (.b64 false (1#64 <<< k))), (4, iN k)] []) (fun k => 64 - k) ⟨0, by omega, ?_⟩ (fun k hk => ?_)
    · refine ⟨?_, trivial, rfl, rfl⟩
      repeat' ((conv => whnf); first | exact trivial | refine Both.mk (by first | with_reducible rfl | rfl) ?_)
    · have hki : (BitVec.ofNat 64 k).toInt = (k : Int) := toInt_ofNat (by omega)
      conv => whnf
      refine Both.mk (Given.mk fun h => ?_) (Given.mk fun h => ?_)
      · have hlt : k < n.toNat := by
          rw [BitVec.slt_iff_toInt_lt, hki, hni] at h
          omega
        clear h
        repeat' ((conv => whnf); first | refine Both.mk (Ob.mk ?_) ?_)
        all_goals first
          | kernel_rfl
          | ((conv => whnf)
             refine ⟨k + 1, by omega, by omega, ?_⟩
             refine ⟨?_, trivial, rfl, rfl⟩
             repeat' ((conv => whnf); first | exact trivial | refine Both.mk (by first | with_reducible rfl | exact iN_succ k | rw [pow_succ']) ?_))
      · have hge : k = n.toNat := by
          have : ¬ ((BitVec.ofNat 64 k).slt n = true) := by rw [h]; decide
          rw [BitVec.slt_iff_toInt_lt, hki, hni] at this
          omega
        subst hge
        (conv => whnf)
        exact ⟨rfl⟩
  · cases h
abbrev tb_firewallref01_Power : List (Nat × Sp) := (23, sp_firewallref01_Power) :: tb_conds_Holds
theorem C_firewallref01_Power (m : Nat → Nat) : CSound Tryd.prog (GC m) (tab (DC m) tb_firewallref01_Power) := (C_conds_Holds m).cons (e_firewallref01_Power m)

def sp_firewallref01_Low : Sp
  | [.one (.b64 false v), .one (.b64 true n)] => some (Cond.t, .one (.b64 false (rLow v n)))
  | _ => none
set_option maxRecDepth 100000 in
set_option maxHeartbeats 4000000 in
theorem e_firewallref01_Low (m : Nat → Nat) : EntryOK Tryd.prog (GC m) 22 sp_firewallref01_Low := by
  refine .of_F (C_firewallref01_Power m) (by kernel_rfl) Tryd.func22 (by kernel_rfl) (by kernel_rfl) (fun args c v h hc => ?_)
  unfold sp_firewallref01_Low at h
  split at h
  · rename_i v n; cases h
    refine ⟨rfl, rfl, ?_⟩
    repeat' (first
      | (with_reducible apply Given.mk; intro h)
      | ((conv => whnf); with_reducible apply Both.mk))
    all_goals first
      | (with_reducible apply Ob.mk; kernel_rfl)
      | (with_reducible apply Ob.mk; exact sle_lt (by assumption) (by assumption))
      | (with_reducible apply Ob.mk; exact pow_ne (sle_lt (by assumption) (by assumption)))
      | ((conv => whnf); refine ⟨?_⟩; simp only [rLow, *, if_true, if_false, Bool.false_eq_true]; done)
  · cases h
abbrev tb_firewallref01_Low : List (Nat × Sp) := (22, sp_firewallref01_Low) :: tb_firewallref01_Power
theorem C_firewallref01_Low (m : Nat → Nat) : CSound Tryd.prog (GC m) (tab (DC m) tb_firewallref01_Low) := (C_firewallref01_Power m).cons (e_firewallref01_Low m)

def sp_firewallref06_Holds : Sp
  | [.one (.b8 false o), .one (.bool w), .one (.b64 false a), .one (.b64 false b)] => some (Cond.t, .one (.bool (rHolds o w a b)))
  | _ => none
set_option maxRecDepth 100000 in
set_option maxHeartbeats 4000000 in
theorem e_firewallref06_Holds (m : Nat → Nat) : EntryOK Tryd.prog (GC m) 10 sp_firewallref06_Holds := by
  refine .of_F (C_firewallref01_Low m) (by kernel_rfl) Tryd.func10 (by kernel_rfl) (by kernel_rfl) (fun args c v h hc => ?_)
  unfold sp_firewallref06_Holds at h
  split at h
  · rename_i o w a b; cases h
    refine ⟨rfl, rfl, ?_⟩
    cases w
    all_goals
      repeat' (first
        | (with_reducible apply Given.mk; intro h; (try exact absurd h (by decide)))
        | ((conv => whnf); with_reducible apply Both.mk))
      all_goals first
        | (with_reducible apply Ob.mk; decide)
        | (with_reducible apply Ob.mk; kernel_rfl)
        | ((conv => whnf); refine ⟨?_⟩; simp_all [rHolds, wid, flip]; done)
  · cases h
abbrev tb_firewallref06_Holds : List (Nat × Sp) := (10, sp_firewallref06_Holds) :: tb_firewallref01_Low
theorem C_firewallref06_Holds (m : Nat → Nat) : CSound Tryd.prog (GC m) (tab (DC m) tb_firewallref06_Holds) := (C_firewallref01_Low m).cons (e_firewallref06_Holds m)

end Go.Proofs.YtikhekbdliblnaaDoor

