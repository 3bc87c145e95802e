/-
  Package kinds, Add and Reach; the laws' own functions of chapter 18: what they answer, by the evaluator. Conditions: as typed.
-/
import Derived.Test.YtkmggidgfkchfaaDoorSqG
namespace Go.Proofs.YtkmggidgfkchfaaDoor
open Go.Ep Go.RowKit
set_option linter.unusedVariables false
set_option linter.unusedSimpArgs false

/-- What is known of a value. -/
structure VV where
  k : BitVec 64
  mp : BitVec 64
  id : BitVec 64
  off : BitVec 64
  su : BitVec 64
  n : NN
def vZ : VV := ⟨0#64, 0#64, 0#64, 0#64, 0#64, nZ⟩
structure VB where
  v : VV
  ok : Bool
abbrev mFar : BitVec 64 := BitVec.ofInt 64 (Int.negSucc 65535)
abbrev mNear : BitVec 64 := BitVec.ofInt 64 (Int.negSucc 199999)
def cOut (c : BitVec 64) : Bool := c.sle mFar || (65536#64).sle c
def cIn (c : BitVec 64) : Bool := mFar.slt c && c.slt 65536#64
def vMv (k : BitVec 64) : Bool := k == 3#64 || (k == 5#64 || (k == 7#64 || k == 2#64))
def vFix (v : VV) (c : BitVec 64) : VB :=
  if cOut c then ⟨vZ, false⟩ else if vMv v.k then ⟨⟨v.k, v.mp, v.id, v.off + c, v.su, v.n⟩, cIn (v.off + c)⟩ else ⟨vZ, false⟩
def vAdd (v : VV) (n : NN) (id : BitVec 64) : VB :=
  if n.tm == 0#64 then vFix v n.tv
  else if (65536#64).ule n.hi then ⟨vZ, false⟩
  else if v.k == 5#64 then ⟨⟨v.k, v.mp, v.id, v.off, v.su, nDo 0#8 true v.n n⟩, (nDo 0#8 true v.n n).hi.ult 65536#64⟩
  else if v.k == 7#64 then ⟨⟨v.k, v.mp, id, v.off, 0#64, nDo 0#8 true v.n n⟩, (nDo 0#8 true v.n n).hi.ult 65536#64⟩
  else ⟨vZ, false⟩
def vIn (at' n from' to' : BitVec 64) : Bool := from'.sle at' && n.sle (to' - at')
def vReach (v : VV) (off n size : BitVec 64) : Bool :=
  if n.slt 1#64 || off.sle mFar || (65536#64).sle off then false
  else if v.k == 2#64 then vIn (v.off + off) n 0#64 24#64
  else if v.k == 3#64 then vIn (v.off + off) n (BitVec.ofInt 64 (Int.negSucc 511)) 0#64
  else if v.k == 7#64 then vIn (v.off + off) n 0#64 v.su
  else if v.k == 5#64 then v.n.hi.ult 65536#64 && (0#64).sle (v.off + off + v.n.lo) && vIn (v.off + off + v.n.hi) n 0#64 size
  else false
def vPts (v : VV) : Bool := (1#64).slt v.k && v.k.sle 8#64

def sp_kinds_Number : Sp
  | [.agg [.b64 false na, .b64 false nb, .b64 false nc, .b64 false nd, .b64 true ne, .b64 true nf]] => some (Cond.t, .agg [.b64 true 1, .b64 true 0, .b64 true 0, .b64 true 0, .b64 true 0, .b64 false na, .b64 false nb, .b64 false nc, .b64 false nd, .b64 true ne, .b64 true nf])
  | _ => none
set_option maxRecDepth 100000 in
set_option maxHeartbeats 4000000 in
theorem e_kinds_Number (m : Nat → Nat) : EntryOK Tryd.prog (GS m) 21 sp_kinds_Number := by
  refine .of_F (C_firewalllaw17_Made m) (by kernel_rfl) Tryd.func21 (by kernel_rfl) (by kernel_rfl) (fun args c v h hc => ?_)
  unfold sp_kinds_Number at h
  split at h
  · rename_i na nb nc nd ne nf; cases h
    refine ⟨rfl, rfl, ?_⟩
    repeat' (first
      | (with_reducible apply Given.mk; intro h; (try exact absurd h (by decide)))
      | ((conv => whnf); with_reducible apply Both.mk))
    all_goals first
      | (with_reducible apply Ob.mk; kernel_rfl)
      | (with_reducible apply Ob.mk; decide)
      | (with_reducible apply Ob.mk; simp [ByteArray.size, catB, exB]; done)
      | ((conv => whnf); refine ⟨?_⟩; first | with_reducible rfl | rfl)
  · cases h
abbrev tb_kinds_Number : List (Nat × Sp) := (21, sp_kinds_Number) :: tb_firewalllaw17_Made
theorem C_kinds_Number (m : Nat → Nat) : CSound Tryd.prog (GS m) (tab (DS m) tb_kinds_Number) := (C_firewalllaw17_Made m).cons (e_kinds_Number m)

def sp_kinds_Points : Sp
  | [.agg [.b64 true v1, .b64 true v2, .b64 true v3, .b64 true v4, .b64 true v5, .b64 false va, .b64 false vb, .b64 false vc, .b64 false vd, .b64 true ve, .b64 true vf]] => some (Cond.t, .one (.bool (vPts (VV.mk v1 v2 v3 v4 v5 (NN.mk va vb vc vd ve vf)))))
  | _ => none
set_option maxRecDepth 100000 in
set_option maxHeartbeats 4000000 in
theorem e_kinds_Points (m : Nat → Nat) : EntryOK Tryd.prog (GS m) 35 sp_kinds_Points := by
  refine .of_F (C_kinds_Number m) (by kernel_rfl) Tryd.func35 (by kernel_rfl) (by kernel_rfl) (fun args c v h hc => ?_)
  unfold sp_kinds_Points at h
  split at h
  · rename_i v1 v2 v3 v4 v5 va vb vc vd ve vf; cases h
    refine ⟨rfl, rfl, ?_⟩
    repeat' (first
      | (with_reducible apply Given.mk; intro h; (try simp only [eq_self, Bool.not_true, Bool.not_false, Bool.false_eq_true, Bool.true_eq_false, reduceCtorEq] at h); (try exact absurd h (by decide)))
      | ((conv => whnf); with_reducible apply Both.mk))
    all_goals first
      | (with_reducible apply Ob.mk; kernel_rfl)
      | (with_reducible apply Ob.mk; decide)
      | (with_reducible apply Ob.mk; rfl)
      | ((conv => whnf); refine ⟨?_⟩; first | with_reducible rfl | (simp only [vPts, *, Bool.true_and, Bool.and_true, Bool.false_and, Bool.and_false, Bool.true_or, Bool.or_true, Bool.false_or, Bool.or_false, Bool.not_true, Bool.not_false, Bool.false_eq_true, Bool.true_eq_false, if_true, if_false, reduceCtorEq]; done) | (simp_all [vPts]; done) | rfl)
  · cases h
abbrev tb_kinds_Points : List (Nat × Sp) := (35, sp_kinds_Points) :: tb_kinds_Number
theorem C_kinds_Points (m : Nat → Nat) : CSound Tryd.prog (GS m) (tab (DS m) tb_kinds_Points) := (C_kinds_Number m).cons (e_kinds_Points m)

def sp_kinds_fixed : Sp
  | [.agg [.b64 true v1, .b64 true v2, .b64 true v3, .b64 true v4, .b64 true v5, .b64 false va, .b64 false vb, .b64 false vc, .b64 false vd, .b64 true ve, .b64 true vf], .one (.b64 true c)] => some (Cond.t, .tup [(true, [.b64 true (((vFix (VV.mk v1 v2 v3 v4 v5 (NN.mk va vb vc vd ve vf)) c).v).k), .b64 true (((vFix (VV.mk v1 v2 v3 v4 v5 (NN.mk va vb vc vd ve vf)) c).v).mp), .b64 true (((vFix (VV.mk v1 v2 v3 v4 v5 (NN.mk va vb vc vd ve vf)) c).v).id), .b64 true (((vFix (VV.mk v1 v2 v3 v4 v5 (NN.mk va vb vc vd ve vf)) c).v).off), .b64 true (((vFix (VV.mk v1 v2 v3 v4 v5 (NN.mk va vb vc vd ve vf)) c).v).su), .b64 false (((vFix (VV.mk v1 v2 v3 v4 v5 (NN.mk va vb vc vd ve vf)) c).v).n.tv), .b64 false (((vFix (VV.mk v1 v2 v3 v4 v5 (NN.mk va vb vc vd ve vf)) c).v).n.tm), .b64 false (((vFix (VV.mk v1 v2 v3 v4 v5 (NN.mk va vb vc vd ve vf)) c).v).n.lo), .b64 false (((vFix (VV.mk v1 v2 v3 v4 v5 (NN.mk va vb vc vd ve vf)) c).v).n.hi), .b64 true (((vFix (VV.mk v1 v2 v3 v4 v5 (NN.mk va vb vc vd ve vf)) c).v).n.slo), .b64 true (((vFix (VV.mk v1 v2 v3 v4 v5 (NN.mk va vb vc vd ve vf)) c).v).n.shi)]), (false, [.bool ((vFix (VV.mk v1 v2 v3 v4 v5 (NN.mk va vb vc vd ve vf)) c).ok)])])
  | _ => none
set_option maxRecDepth 100000 in
set_option maxHeartbeats 4000000 in
theorem e_kinds_fixed (m : Nat → Nat) : EntryOK Tryd.prog (GS m) 31 sp_kinds_fixed := by
  refine .of_F (C_kinds_Points m) (by kernel_rfl) Tryd.func31 (by kernel_rfl) (by kernel_rfl) (fun args c v h hc => ?_)
  unfold sp_kinds_fixed at h
  split at h
  · rename_i v1 v2 v3 v4 v5 va vb vc vd ve vf c; cases h
    refine ⟨rfl, rfl, ?_⟩
    repeat' (first
      | (with_reducible apply Given.mk; intro h; (try simp only [eq_self, Bool.not_true, Bool.not_false, Bool.false_eq_true, Bool.true_eq_false, reduceCtorEq] at h); (try exact absurd h (by decide)))
      | ((conv => whnf); with_reducible apply Both.mk))
    all_goals first
      | (with_reducible apply Ob.mk; kernel_rfl)
      | (with_reducible apply Ob.mk; decide)
      | (with_reducible apply Ob.mk; rfl)
      | ((conv => whnf); refine ⟨?_⟩; first | with_reducible rfl | (simp only [vFix, cOut, cIn, vMv, vZ, nZ, *, Bool.true_and, Bool.and_true, Bool.false_and, Bool.and_false, Bool.true_or, Bool.or_true, Bool.false_or, Bool.or_false, Bool.not_true, Bool.not_false, Bool.false_eq_true, Bool.true_eq_false, if_true, if_false, reduceCtorEq]; done) | (simp_all [vFix, cOut, cIn, vMv, vZ, nZ]; done) | rfl)
  · cases h
abbrev tb_kinds_fixed : List (Nat × Sp) := (31, sp_kinds_fixed) :: tb_kinds_Points
theorem C_kinds_fixed (m : Nat → Nat) : CSound Tryd.prog (GS m) (tab (DS m) tb_kinds_fixed) := (C_kinds_Points m).cons (e_kinds_fixed m)

def sp_kinds_Add : Sp
  | [.agg [.b64 true v1, .b64 true v2, .b64 true v3, .b64 true v4, .b64 true v5, .b64 false va, .b64 false vb, .b64 false vc, .b64 false vd, .b64 true ve, .b64 true vf], .agg [.b64 false na, .b64 false nb, .b64 false nc, .b64 false nd, .b64 true ne, .b64 true nf], .one (.b64 true j)] => some (Cond.t, .tup [(true, [.b64 true (((vAdd (VV.mk v1 v2 v3 v4 v5 (NN.mk va vb vc vd ve vf)) (NN.mk na nb nc nd ne nf) j).v).k), .b64 true (((vAdd (VV.mk v1 v2 v3 v4 v5 (NN.mk va vb vc vd ve vf)) (NN.mk na nb nc nd ne nf) j).v).mp), .b64 true (((vAdd (VV.mk v1 v2 v3 v4 v5 (NN.mk va vb vc vd ve vf)) (NN.mk na nb nc nd ne nf) j).v).id), .b64 true (((vAdd (VV.mk v1 v2 v3 v4 v5 (NN.mk va vb vc vd ve vf)) (NN.mk na nb nc nd ne nf) j).v).off), .b64 true (((vAdd (VV.mk v1 v2 v3 v4 v5 (NN.mk va vb vc vd ve vf)) (NN.mk na nb nc nd ne nf) j).v).su), .b64 false (((vAdd (VV.mk v1 v2 v3 v4 v5 (NN.mk va vb vc vd ve vf)) (NN.mk na nb nc nd ne nf) j).v).n.tv), .b64 false (((vAdd (VV.mk v1 v2 v3 v4 v5 (NN.mk va vb vc vd ve vf)) (NN.mk na nb nc nd ne nf) j).v).n.tm), .b64 false (((vAdd (VV.mk v1 v2 v3 v4 v5 (NN.mk va vb vc vd ve vf)) (NN.mk na nb nc nd ne nf) j).v).n.lo), .b64 false (((vAdd (VV.mk v1 v2 v3 v4 v5 (NN.mk va vb vc vd ve vf)) (NN.mk na nb nc nd ne nf) j).v).n.hi), .b64 true (((vAdd (VV.mk v1 v2 v3 v4 v5 (NN.mk va vb vc vd ve vf)) (NN.mk na nb nc nd ne nf) j).v).n.slo), .b64 true (((vAdd (VV.mk v1 v2 v3 v4 v5 (NN.mk va vb vc vd ve vf)) (NN.mk na nb nc nd ne nf) j).v).n.shi)]), (false, [.bool ((vAdd (VV.mk v1 v2 v3 v4 v5 (NN.mk va vb vc vd ve vf)) (NN.mk na nb nc nd ne nf) j).ok)])])
  | _ => none
set_option maxRecDepth 100000 in
set_option maxHeartbeats 4000000 in
theorem e_kinds_Add (m : Nat → Nat) : EntryOK Tryd.prog (GS m) 12 sp_kinds_Add := by
  refine .of_F (C_kinds_fixed m) (by kernel_rfl) Tryd.func12 (by kernel_rfl) (by kernel_rfl) (fun args c v h hc => ?_)
  unfold sp_kinds_Add at h
  split at h
  · rename_i v1 v2 v3 v4 v5 va vb vc vd ve vf na nb nc nd ne nf j; cases h
    refine ⟨rfl, rfl, ?_⟩
    repeat' (first
      | (with_reducible apply Given.mk; intro h; (try simp only [eq_self, Bool.not_true, Bool.not_false, Bool.false_eq_true, Bool.true_eq_false, reduceCtorEq] at h); (try exact absurd h (by decide)))
      | ((conv => whnf); with_reducible apply Both.mk))
    all_goals first
      | (with_reducible apply Ob.mk; kernel_rfl)
      | (with_reducible apply Ob.mk; decide)
      | (with_reducible apply Ob.mk; rfl)
      | ((conv => whnf); refine ⟨?_⟩; first | with_reducible rfl | (simp only [vAdd, vZ, nZ, *, Bool.true_and, Bool.and_true, Bool.false_and, Bool.and_false, Bool.true_or, Bool.or_true, Bool.false_or, Bool.or_false, Bool.not_true, Bool.not_false, Bool.false_eq_true, Bool.true_eq_false, if_true, if_false, reduceCtorEq]; done) | (simp_all [vAdd, vZ, nZ]; done) | rfl)
  · cases h
abbrev tb_kinds_Add : List (Nat × Sp) := (12, sp_kinds_Add) :: tb_kinds_fixed
theorem C_kinds_Add (m : Nat → Nat) : CSound Tryd.prog (GS m) (tab (DS m) tb_kinds_Add) := (C_kinds_fixed m).cons (e_kinds_Add m)

def sp_kinds_within : Sp
  | [.one (.b64 true a), .one (.b64 true n), .one (.b64 true f), .one (.b64 true t)] => some (Cond.t, .one (.bool (vIn a n f t)))
  | _ => none
set_option maxRecDepth 100000 in
set_option maxHeartbeats 4000000 in
theorem e_kinds_within (m : Nat → Nat) : EntryOK Tryd.prog (GS m) 57 sp_kinds_within := by
  refine .of_F (C_kinds_Add m) (by kernel_rfl) Tryd.func57 (by kernel_rfl) (by kernel_rfl) (fun args c v h hc => ?_)
  unfold sp_kinds_within at h
  split at h
  · rename_i a n f t; cases h
    refine ⟨rfl, rfl, ?_⟩
    repeat' (first
      | (with_reducible apply Given.mk; intro h; (try simp only [eq_self, Bool.not_true, Bool.not_false, Bool.false_eq_true, Bool.true_eq_false, reduceCtorEq] at h); (try exact absurd h (by decide)))
      | ((conv => whnf); with_reducible apply Both.mk))
    all_goals first
      | (with_reducible apply Ob.mk; kernel_rfl)
      | (with_reducible apply Ob.mk; decide)
      | (with_reducible apply Ob.mk; rfl)
      | ((conv => whnf); refine ⟨?_⟩; first | with_reducible rfl | (simp only [vIn, *, Bool.true_and, Bool.and_true, Bool.false_and, Bool.and_false, Bool.true_or, Bool.or_true, Bool.false_or, Bool.or_false, Bool.not_true, Bool.not_false, Bool.false_eq_true, Bool.true_eq_false, if_true, if_false, reduceCtorEq]; done) | (simp_all [vIn]; done) | rfl)
  · cases h
abbrev tb_kinds_within : List (Nat × Sp) := (57, sp_kinds_within) :: tb_kinds_Add
theorem C_kinds_within (m : Nat → Nat) : CSound Tryd.prog (GS m) (tab (DS m) tb_kinds_within) := (C_kinds_Add m).cons (e_kinds_within m)

def sp_kinds_Reach : Sp
  | [.agg [.b64 true v1, .b64 true v2, .b64 true v3, .b64 true v4, .b64 true v5, .b64 false va, .b64 false vb, .b64 false vc, .b64 false vd, .b64 true ve, .b64 true vf], .one (.b64 true o), .one (.b64 true n), .one (.b64 true z)] => some (Cond.t, .one (.bool (vReach (VV.mk v1 v2 v3 v4 v5 (NN.mk va vb vc vd ve vf)) o n z)))
  | _ => none
set_option maxRecDepth 100000 in
set_option maxHeartbeats 4000000 in
theorem e_kinds_Reach (m : Nat → Nat) : EntryOK Tryd.prog (GS m) 34 sp_kinds_Reach := by
  refine .of_F (C_kinds_within m) (by kernel_rfl) Tryd.func34 (by kernel_rfl) (by kernel_rfl) (fun args c v h hc => ?_)
  unfold sp_kinds_Reach at h
  split at h
  · rename_i v1 v2 v3 v4 v5 va vb vc vd ve vf o n z; cases h
    refine ⟨rfl, rfl, ?_⟩
    repeat' (first
      | (with_reducible apply Given.mk; intro h; (try simp only [eq_self, Bool.not_true, Bool.not_false, Bool.false_eq_true, Bool.true_eq_false, reduceCtorEq] at h); (try exact absurd h (by decide)))
      | ((conv => whnf); with_reducible apply Both.mk))
    all_goals first
      | (with_reducible apply Ob.mk; kernel_rfl)
      | (with_reducible apply Ob.mk; decide)
      | (with_reducible apply Ob.mk; rfl)
      | ((conv => whnf); refine ⟨?_⟩; first | with_reducible rfl | (simp only [vReach, *, Bool.true_and, Bool.and_true, Bool.false_and, Bool.and_false, Bool.true_or, Bool.or_true, Bool.false_or, Bool.or_false, Bool.not_true, Bool.not_false, Bool.false_eq_true, Bool.true_eq_false, if_true, if_false, reduceCtorEq]; done) | (simp_all [vReach]; done) | rfl)
  · cases h
abbrev tb_kinds_Reach : List (Nat × Sp) := (34, sp_kinds_Reach) :: tb_kinds_within
theorem C_kinds_Reach (m : Nat → Nat) : CSound Tryd.prog (GS m) (tab (DS m) tb_kinds_Reach) := (C_kinds_within m).cons (e_kinds_Reach m)

def sp_firewalllaw18_near : Sp
  | [.one (.b64 true n)] => some (Cond.t, .one (.bool (mNear.slt n && n.slt 200000#64)))
  | _ => none
set_option maxRecDepth 100000 in
set_option maxHeartbeats 4000000 in
theorem e_firewalllaw18_near (m : Nat → Nat) : EntryOK Tryd.prog (GS m) 14 sp_firewalllaw18_near := by
  refine .of_F (C_kinds_Reach m) (by kernel_rfl) Tryd.func14 (by kernel_rfl) (by kernel_rfl) (fun args c v h hc => ?_)
  unfold sp_firewalllaw18_near at h
  split at h
  · rename_i n; cases h
    refine ⟨rfl, rfl, ?_⟩
    repeat' (first
      | (with_reducible apply Given.mk; intro h; (try simp only [eq_self, Bool.not_true, Bool.not_false, Bool.false_eq_true, Bool.true_eq_false, reduceCtorEq] at h); (try exact absurd h (by decide)))
      | ((conv => whnf); with_reducible apply Both.mk))
    all_goals first
      | (with_reducible apply Ob.mk; kernel_rfl)
      | (with_reducible apply Ob.mk; decide)
      | (with_reducible apply Ob.mk; rfl)
      | ((conv => whnf); refine ⟨?_⟩; first | with_reducible rfl | (simp only [*, Bool.true_and, Bool.and_true, Bool.false_and, Bool.and_false, Bool.true_or, Bool.or_true, Bool.false_or, Bool.or_false, Bool.not_true, Bool.not_false, Bool.false_eq_true, Bool.true_eq_false, if_true, if_false, reduceCtorEq]; done) | (simp_all; done) | rfl)
  · cases h
abbrev tb_firewalllaw18_near : List (Nat × Sp) := (14, sp_firewalllaw18_near) :: tb_kinds_Reach
theorem C_firewalllaw18_near (m : Nat → Nat) : CSound Tryd.prog (GS m) (tab (DS m) tb_firewalllaw18_near) := (C_kinds_Reach m).cons (e_firewalllaw18_near m)

def sp_firewalllaw18_At_V : Sp
  | [.agg [.b64 true k, .b64 true p, .b64 true j, .b64 true o, .b64 true s, .b32 false q, .b64 false b1, .b64 false b2, .b64 false b3, .b64 false b4, .b64 false b5]] => some (Cond.t, .agg [.b64 true k, .b64 true p, .b64 true j, .b64 true o, .b64 true s, .b64 false ((nMade (q.setWidth 64) b1 b2 b3 b4 b5).tv), .b64 false ((nMade (q.setWidth 64) b1 b2 b3 b4 b5).tm), .b64 false ((nMade (q.setWidth 64) b1 b2 b3 b4 b5).lo), .b64 false ((nMade (q.setWidth 64) b1 b2 b3 b4 b5).hi), .b64 true ((nMade (q.setWidth 64) b1 b2 b3 b4 b5).slo), .b64 true ((nMade (q.setWidth 64) b1 b2 b3 b4 b5).shi)])
  | _ => none
set_option maxRecDepth 100000 in
set_option maxHeartbeats 4000000 in
theorem e_firewalllaw18_At_V (m : Nat → Nat) : EntryOK Tryd.prog (GS m) 11 sp_firewalllaw18_At_V := by
  refine .of_F (C_firewalllaw18_near m) (by kernel_rfl) Tryd.func11 (by kernel_rfl) (by kernel_rfl) (fun args c v h hc => ?_)
  unfold sp_firewalllaw18_At_V at h
  split at h
  · rename_i k p j o s q b1 b2 b3 b4 b5; cases h
    refine ⟨rfl, rfl, ?_⟩
    repeat' (first
      | (with_reducible apply Given.mk; intro h; (try exact absurd h (by decide)))
      | ((conv => whnf); with_reducible apply Both.mk))
    all_goals first
      | (with_reducible apply Ob.mk; kernel_rfl)
      | (with_reducible apply Ob.mk; decide)
      | (with_reducible apply Ob.mk; simp [ByteArray.size, catB, exB]; done)
      | ((conv => whnf); refine ⟨?_⟩; first | with_reducible rfl | rfl)
  · cases h
abbrev tb_firewalllaw18_At_V : List (Nat × Sp) := (11, sp_firewalllaw18_At_V) :: tb_firewalllaw18_near
theorem C_firewalllaw18_At_V (m : Nat → Nat) : CSound Tryd.prog (GS m) (tab (DS m) tb_firewalllaw18_At_V) := (C_firewalllaw18_near m).cons (e_firewalllaw18_At_V m)

def sp_firewalllaw18_points : Sp
  | [] => some (Cond.t, .one (.bool (true)))
  | _ => none
set_option maxRecDepth 100000 in
set_option maxHeartbeats 4000000 in
theorem e_firewalllaw18_points (m : Nat → Nat) : EntryOK Tryd.prog (GS m) 17 sp_firewalllaw18_points := by
  refine .of_F (C_firewalllaw18_At_V m) (by kernel_rfl) Tryd.func17 (by kernel_rfl) (by kernel_rfl) (fun args c v h hc => ?_)
  unfold sp_firewalllaw18_points at h
  split at h
  · cases h
    refine ⟨rfl, rfl, ?_⟩
    repeat' (first
      | (with_reducible apply Given.mk; intro h; (try exact absurd h (by decide +kernel)))
      | ((conv => whnf); with_reducible apply Both.mk))
    all_goals first
      | (with_reducible apply Ob.mk; kernel_rfl)
      | ((conv => whnf); refine ⟨?_⟩; first | with_reducible rfl | (refine congrArg (fun v => AV.one (.bool v)) ?_; decide +kernel))
  · cases h
abbrev tb_firewalllaw18_points : List (Nat × Sp) := (17, sp_firewalllaw18_points) :: tb_firewalllaw18_At_V
theorem C_firewalllaw18_points (m : Nat → Nat) : CSound Tryd.prog (GS m) (tab (DS m) tb_firewalllaw18_points) := (C_firewalllaw18_At_V m).cons (e_firewalllaw18_points m)

end Go.Proofs.YtkmggidgfkchfaaDoor

