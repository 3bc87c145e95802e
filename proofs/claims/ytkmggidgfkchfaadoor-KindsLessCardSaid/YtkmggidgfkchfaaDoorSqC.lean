/-
  Package scalars: what its functions answer, by the evaluator. Conditions: as typed.
-/
import Derived.Test.YtkmggidgfkchfaaDoorSqF
import Derived.Test.YtkmggidgfkchfaaDoorSqU
namespace Go.Proofs.YtkmggidgfkchfaaDoor
open Go.Ep Go.RowKit
set_option linter.unusedVariables false
set_option linter.unusedSimpArgs false

/-- Numbers of which some bits and their ends are known. -/
structure NN where
  tv : BitVec 64
  tm : BitVec 64
  lo : BitVec 64
  hi : BitVec 64
  slo : BitVec 64
  shi : BitVec 64
def NN.s (n : NN) : SS := ⟨n.lo, n.hi, n.slo, n.shi⟩
def nMk (v m : BitVec 64) (s : SS) : NN := ⟨v, m, s.lo, s.hi, s.slo, s.shi⟩
def NN.has (n : NN) (v : BitVec 64) : Bool := tHas n.tv n.tm v && n.s.has v
def nIn (a b : NN) : Bool := tIn a.tv a.tm b.tv b.tm && sIn a.s b.s
def nConst (v : BitVec 64) : NN := ⟨v, 0#64, v, v, v, v⟩
def nAny : NN := nMk 0#64 (~~~0#64) sAny
def nMost (n : BitVec 64) : BitVec 64 := (1#64 <<< (8#64 * n).toNat) - 1#64
def nBytes (n : BitVec 64) : NN := if n.slt 0#64 || (8#64).sle n then nAny else nMk 0#64 (nMost n) (sFrom 0#64 (nMost n))
def nS (a : NN) : SS := sMeet a.s ⟨a.tv, a.tv ||| a.tm, sMin, sMax⟩
def nBy (a : NN) : SS := sTight (nS a)
def nRv (a : NN) : BitVec 64 := if (nBy a).hi.ult (nBy a).lo then 0#64 else (nBy a).lo &&& ~~~ belowB ((nBy a).lo ^^^ (nBy a).hi)
def nRm (a : NN) : BitVec 64 := if (nBy a).hi.ult (nBy a).lo then ~~~0#64 else belowB ((nBy a).lo ^^^ (nBy a).hi)
def nOk1 (a : NN) : Bool := sOk (nS a) && tBothOk a.tv a.tm (nRv a) (nRm a)
def n1 (a : NN) : NN := nMk (tBothV a.tv a.tm (nRv a) (nRm a)) (tBothM a.tv a.tm (nRv a) (nRm a)) (nBy a)
def nIt (a : NN) : Nat → NN
  | 0 => a
  | k + 1 => n1 (nIt a k)
def nOk (a : NN) : Bool := tValid a.tv a.tm && nOk1 a && nOk1 (n1 a)
def nZ : NN := ⟨0#64, 0#64, 0#64, 0#64, 0#64, 0#64⟩
def nTight (a : NN) : NN := if nOk a then n1 (n1 a) else nZ
def nTt (a : NN) : NN := if nOk a then nTight a else a
def nLow (a : NN) : NN := nTt (nMk (a.tv &&& lowM 32#64) (a.tm &&& lowM 32#64) (sLow a.s))
def nShift (k : BitVec 8) (a : NN) (n : BitVec 64) : NN :=
  if k == 96#8 then nTt (nMk (a.tv <<< (n &&& 63#64).toNat) (a.tm <<< (n &&& 63#64).toNat) (sLsh a.s n))
  else if k == 112#8 then nTt (nMk (a.tv >>> (n &&& 63#64).toNat) (a.tm >>> (n &&& 63#64).toNat) (sFrom (a.lo >>> (n &&& 63#64).toNat) (a.hi >>> (n &&& 63#64).toNat)))
  else nTt (nMk (a.tv.sshiftRight (n &&& 63#64).toNat) (a.tm.sshiftRight (n &&& 63#64).toNat) (sTt ⟨0#64, ~~~0#64, a.slo.sshiftRight (n &&& 63#64).toNat, a.shi.sshiftRight (n &&& 63#64).toNat⟩))
def tOp (o : BitVec 8) (a b : NN) : BitVec 64 × BitVec 64 :=
  if o == 0#8 then (tAddV a.tv a.tm b.tv b.tm, tAddM a.tv a.tm b.tv b.tm) else if o == 16#8 then (tSubV a.tv a.tm b.tv b.tm, tSubM a.tv a.tm b.tv b.tm)
  else if o == 32#8 then tMul a.tv a.tm b.tv b.tm 64 else if o == 64#8 then (tOrV a.tv a.tm b.tv b.tm, tOrM a.tv a.tm b.tv b.tm)
  else if o == 80#8 then (tAndV a.tv a.tm b.tv b.tm, tAndM a.tv a.tm b.tv b.tm) else if o == 160#8 then (tXorV a.tv a.tm b.tv b.tm, tXorM a.tv a.tm b.tv b.tm)
  else (0#64, ~~~0#64)
def sOp (o : BitVec 8) (a b : SS) : SS :=
  if o == 0#8 then sAdd a b else if o == 16#8 then sSub a b else if o == 32#8 then sMul a b else if o == 48#8 then sDiv a b else if o == 144#8 then sMod a b
  else if o == 64#8 then sFrom (umax a.lo b.lo) (belowB (a.hi ||| b.hi)) else if o == 80#8 then sFrom 0#64 (umin a.hi b.hi) else sFrom 0#64 (belowB (a.hi ||| b.hi))
def nOp (o : BitVec 8) (a b : NN) : NN := nTt (nMk (tOp o a b).1 (tOp o a b).2 (sOp o a.s b.s))
def nWhole (o : BitVec 8) (a b : NN) : NN :=
  if opH o then nOp o a b else if o == 128#8 then nOp 16#8 (nConst 0#64) a else if o == 176#8 then b
  else if b.tm == 0#64 && (o == 96#8 || o == 112#8 || o == 192#8) then nShift o a (b.tv &&& 63#64) else nAny
def nDo (o : BitVec 8) (w : Bool) (a b : NN) : NN :=
  if w then nWhole o a b
  else if o == 96#8 || o == 112#8 || o == 192#8 then (if (nLow b).tm == 0#64 && !(o == 192#8) then nLow (nWhole o (nLow a) (nConst ((nLow b).tv &&& 31#64))) else nBytes 4#64)
  else nLow (nWhole o (nLow a) (nLow b))
theorem nOk_no {a : NN} {k : Nat} (hk : k < 2) (h : nOk1 (nIt a k) = false) : nOk a = false := by
  match k, hk with
  | 0, _ => have h : nOk1 a = false := h; simp [nOk, h]
  | 1, _ => have h : nOk1 (n1 a) = false := h; simp [nOk, h]
theorem nOk_yes {a : NN} (hv : tValid a.tv a.tm = true) (h : ∀ j, j < 2 → nOk1 (nIt a j) = true) : nOk a = true := by
  have h0 : nOk1 a = true := h 0 (by omega)
  have h1 : nOk1 (n1 a) = true := h 1 (by omega)
  simp [nOk, hv, h0, h1]
theorem nf {b : Bool} (h : (!b) = false) : b = true := by cases b; cases h; rfl
theorem nt {b : Bool} (h : (!b) = true) : b = false := by cases b; rfl; cases h
theorem nOk_v {a : NN} (h : tValid a.tv a.tm = false) : nOk a = false := by simp [nOk, h]
theorem nOk1_a {a : NN} (h : sOk (nS a) = false) : nOk1 a = false := by rw [nOk1, h]; rfl
theorem nOk1_b {a : NN} (h : tBothOk a.tv a.tm (nRv a) (nRm a) = false) : nOk1 a = false := by rw [nOk1, h, Bool.and_false]
theorem nOk1_y {a : NN} (h : sOk (nS a) = true) (h' : tBothOk a.tv a.tm (nRv a) (nRm a) = true) : nOk1 a = true := by rw [nOk1, h, h']; rfl
theorem fail_eq {a : NN} (e : nOk a = false) : AV.tup [(true, [.b64 false 0#64, .b64 false 0#64, .b64 false 0#64, .b64 false 0#64, .b64 true 0#64, .b64 true 0#64]), (false, [.bool false])] =
    AV.tup [(true, [.b64 false (nTight a).tv, .b64 false (nTight a).tm, .b64 false (nTight a).lo, .b64 false (nTight a).hi, .b64 true (nTight a).slo, .b64 true (nTight a).shi]), (false, [.bool (nOk a)])] := by
  rw [nTight, e]; rfl
theorem done_eq {a : NN} (e : nOk a = true) : AV.tup [(true, [.b64 false (nIt a 2).tv, .b64 false (nIt a 2).tm, .b64 false (nIt a 2).lo, .b64 false (nIt a 2).hi, .b64 true (nIt a 2).slo, .b64 true (nIt a 2).shi]), (false, [.bool true])] =
    AV.tup [(true, [.b64 false (nTight a).tv, .b64 false (nTight a).tm, .b64 false (nTight a).lo, .b64 false (nTight a).hi, .b64 true (nTight a).slo, .b64 true (nTight a).shi]), (false, [.bool (nOk a)])] := by
  rw [nTight, e]; rfl
theorem most_pos (n : BitVec 64) (h : n.slt 0#64 = false) (h' : (8#64).sle n = false) : 0 ≤ (8#64 * n).toInt := by
  have h1 : ¬ (n.slt 0#64 = true) := by rw [h]; decide
  have h2 : ¬ ((8#64).sle n = true) := by rw [h']; decide
  rw [slt_nat, sg_zero] at h1
  rw [sle_nat] at h2
  have e : sg 8#64 = 9223372036854775816 := rfl
  rw [e] at h2
  have := sg_cases n
  have hm : (8#64 * n).toNat = 8 * n.toNat := by
    rw [BitVec.toNat_mul, show (8#64).toNat = 8 from rfl, Nat.mod_eq_of_lt (by omega)]
  rw [BitVec.toInt_eq_toNat_cond, hm]
  split <;> omega

theorem nW0 (a1 a2 a3 a4 a5 a6 b1 b2 b3 b4 b5 b6 : BitVec 64) : nWhole 0#8 ⟨a1, a2, a3, a4, a5, a6⟩ ⟨b1, b2, b3, b4, b5, b6⟩ = nTt ⟨tAddV a1 a2 b1 b2, tAddM a1 a2 b1 b2, (sAdd ⟨a3, a4, a5, a6⟩ ⟨b3, b4, b5, b6⟩).lo, (sAdd ⟨a3, a4, a5, a6⟩ ⟨b3, b4, b5, b6⟩).hi, (sAdd ⟨a3, a4, a5, a6⟩ ⟨b3, b4, b5, b6⟩).slo, (sAdd ⟨a3, a4, a5, a6⟩ ⟨b3, b4, b5, b6⟩).shi⟩ := by
  rw [nWhole, if_pos (show opH 0#8 = true from rfl)]; rfl
theorem nW16 (a1 a2 a3 a4 a5 a6 b1 b2 b3 b4 b5 b6 : BitVec 64) : nWhole 16#8 ⟨a1, a2, a3, a4, a5, a6⟩ ⟨b1, b2, b3, b4, b5, b6⟩ = nTt ⟨tSubV a1 a2 b1 b2, tSubM a1 a2 b1 b2, (sSub ⟨a3, a4, a5, a6⟩ ⟨b3, b4, b5, b6⟩).lo, (sSub ⟨a3, a4, a5, a6⟩ ⟨b3, b4, b5, b6⟩).hi, (sSub ⟨a3, a4, a5, a6⟩ ⟨b3, b4, b5, b6⟩).slo, (sSub ⟨a3, a4, a5, a6⟩ ⟨b3, b4, b5, b6⟩).shi⟩ := by
  rw [nWhole, if_pos (show opH 16#8 = true from rfl)]; rfl
theorem nW32 (a1 a2 a3 a4 a5 a6 b1 b2 b3 b4 b5 b6 : BitVec 64) : nWhole 32#8 ⟨a1, a2, a3, a4, a5, a6⟩ ⟨b1, b2, b3, b4, b5, b6⟩ = nTt ⟨(tMul a1 a2 b1 b2 64).1, (tMul a1 a2 b1 b2 64).2, (sMul ⟨a3, a4, a5, a6⟩ ⟨b3, b4, b5, b6⟩).lo, (sMul ⟨a3, a4, a5, a6⟩ ⟨b3, b4, b5, b6⟩).hi, (sMul ⟨a3, a4, a5, a6⟩ ⟨b3, b4, b5, b6⟩).slo, (sMul ⟨a3, a4, a5, a6⟩ ⟨b3, b4, b5, b6⟩).shi⟩ := by
  rw [nWhole, if_pos (show opH 32#8 = true from rfl)]; rfl
theorem nW48 (a1 a2 a3 a4 a5 a6 b1 b2 b3 b4 b5 b6 : BitVec 64) : nWhole 48#8 ⟨a1, a2, a3, a4, a5, a6⟩ ⟨b1, b2, b3, b4, b5, b6⟩ = nTt ⟨0#64, ~~~0#64, (sDiv ⟨a3, a4, a5, a6⟩ ⟨b3, b4, b5, b6⟩).lo, (sDiv ⟨a3, a4, a5, a6⟩ ⟨b3, b4, b5, b6⟩).hi, (sDiv ⟨a3, a4, a5, a6⟩ ⟨b3, b4, b5, b6⟩).slo, (sDiv ⟨a3, a4, a5, a6⟩ ⟨b3, b4, b5, b6⟩).shi⟩ := by
  rw [nWhole, if_pos (show opH 48#8 = true from rfl)]; rfl
theorem nW64 (a1 a2 a3 a4 a5 a6 b1 b2 b3 b4 b5 b6 : BitVec 64) : nWhole 64#8 ⟨a1, a2, a3, a4, a5, a6⟩ ⟨b1, b2, b3, b4, b5, b6⟩ = nTt ⟨tOrV a1 a2 b1 b2, tOrM a1 a2 b1 b2, (sFrom (umax a3 b3) (belowB (a4 ||| b4))).lo, (sFrom (umax a3 b3) (belowB (a4 ||| b4))).hi, (sFrom (umax a3 b3) (belowB (a4 ||| b4))).slo, (sFrom (umax a3 b3) (belowB (a4 ||| b4))).shi⟩ := by
  rw [nWhole, if_pos (show opH 64#8 = true from rfl)]; rfl
theorem nW80 (a1 a2 a3 a4 a5 a6 b1 b2 b3 b4 b5 b6 : BitVec 64) : nWhole 80#8 ⟨a1, a2, a3, a4, a5, a6⟩ ⟨b1, b2, b3, b4, b5, b6⟩ = nTt ⟨tAndV a1 a2 b1 b2, tAndM a1 a2 b1 b2, (sFrom 0#64 (umin a4 b4)).lo, (sFrom 0#64 (umin a4 b4)).hi, (sFrom 0#64 (umin a4 b4)).slo, (sFrom 0#64 (umin a4 b4)).shi⟩ := by
  rw [nWhole, if_pos (show opH 80#8 = true from rfl)]; rfl
theorem nW144 (a1 a2 a3 a4 a5 a6 b1 b2 b3 b4 b5 b6 : BitVec 64) : nWhole 144#8 ⟨a1, a2, a3, a4, a5, a6⟩ ⟨b1, b2, b3, b4, b5, b6⟩ = nTt ⟨0#64, ~~~0#64, (sMod ⟨a3, a4, a5, a6⟩ ⟨b3, b4, b5, b6⟩).lo, (sMod ⟨a3, a4, a5, a6⟩ ⟨b3, b4, b5, b6⟩).hi, (sMod ⟨a3, a4, a5, a6⟩ ⟨b3, b4, b5, b6⟩).slo, (sMod ⟨a3, a4, a5, a6⟩ ⟨b3, b4, b5, b6⟩).shi⟩ := by
  rw [nWhole, if_pos (show opH 144#8 = true from rfl)]; rfl
theorem nW160 (a1 a2 a3 a4 a5 a6 b1 b2 b3 b4 b5 b6 : BitVec 64) : nWhole 160#8 ⟨a1, a2, a3, a4, a5, a6⟩ ⟨b1, b2, b3, b4, b5, b6⟩ = nTt ⟨tXorV a1 a2 b1 b2, tXorM a1 a2 b1 b2, (sFrom 0#64 (belowB (a4 ||| b4))).lo, (sFrom 0#64 (belowB (a4 ||| b4))).hi, (sFrom 0#64 (belowB (a4 ||| b4))).slo, (sFrom 0#64 (belowB (a4 ||| b4))).shi⟩ := by
  rw [nWhole, if_pos (show opH 160#8 = true from rfl)]; rfl

theorem nW128 (a b : NN) : nWhole 128#8 a b = nWhole 16#8 (nConst 0#64) a := by
  rw [nWhole, if_neg (show ¬ opH 128#8 = true by decide), if_pos (show (128#8 == 128#8) = true from rfl), nWhole, if_pos (show opH 16#8 = true from rfl)]


def sp_scalars_Const : Sp
  | [.one (.b64 false v)] => some (Cond.t, .agg [.b64 false ((nConst v).tv), .b64 false ((nConst v).tm), .b64 false ((nConst v).lo), .b64 false ((nConst v).hi), .b64 true ((nConst v).slo), .b64 true ((nConst v).shi)])
  | _ => none
set_option maxRecDepth 100000 in
set_option maxHeartbeats 4000000 in
theorem e_scalars_Const (m : Nat → Nat) : EntryOK Tryd.prog (GS m) 13 sp_scalars_Const := by
  refine .of_F (C_firewallref05_Do m) (by kernel_rfl) Tryd.func13 (by kernel_rfl) (by kernel_rfl) (fun args c v h hc => ?_)
  unfold sp_scalars_Const at h
  split at h
  · rename_i v; cases h
    refine ⟨rfl, rfl, ?_⟩
    repeat' (first
      | (with_reducible apply Given.mk; intro h; (try exact absurd h (by decide)))
      | ((conv => whnf); with_reducible apply Both.mk))
    all_goals first
      | (with_reducible apply Ob.mk; kernel_rfl)
      | (with_reducible apply Ob.mk; decide)
      | (with_reducible apply Ob.mk; simp [ByteArray.size, catB, exB]; done)
      | ((conv => whnf); refine ⟨?_⟩; first | with_reducible rfl | rfl)
  · cases h
abbrev tb_scalars_Const : List (Nat × Sp) := (13, sp_scalars_Const) :: tb_firewallref05_Do
theorem C_scalars_Const (m : Nat → Nat) : CSound Tryd.prog (GS m) (tab (DS m) tb_scalars_Const) := (C_firewallref05_Do m).cons (e_scalars_Const m)

def sp_scalars_Any : Sp
  | [] => some (Cond.t, .agg [.b64 false ((nAny).tv), .b64 false ((nAny).tm), .b64 false ((nAny).lo), .b64 false ((nAny).hi), .b64 true ((nAny).slo), .b64 true ((nAny).shi)])
  | _ => none
set_option maxRecDepth 100000 in
set_option maxHeartbeats 4000000 in
theorem e_scalars_Any (m : Nat → Nat) : EntryOK Tryd.prog (GS m) 20 sp_scalars_Any := by
  refine .of_F (C_scalars_Const m) (by kernel_rfl) Tryd.func20 (by kernel_rfl) (by kernel_rfl) (fun args c v h hc => ?_)
  unfold sp_scalars_Any at h
  split at h
  · cases h
    refine ⟨rfl, rfl, ?_⟩
    repeat' (first
      | (with_reducible apply Given.mk; intro h; (try exact absurd h (by decide)))
      | ((conv => whnf); with_reducible apply Both.mk))
    all_goals first
      | (with_reducible apply Ob.mk; kernel_rfl)
      | (with_reducible apply Ob.mk; decide)
      | (with_reducible apply Ob.mk; simp [ByteArray.size, catB, exB]; done)
      | ((conv => whnf); refine ⟨?_⟩; first | with_reducible rfl | rfl)
  · cases h
abbrev tb_scalars_Any : List (Nat × Sp) := (20, sp_scalars_Any) :: tb_scalars_Const
theorem C_scalars_Any (m : Nat → Nat) : CSound Tryd.prog (GS m) (tab (DS m) tb_scalars_Any) := (C_scalars_Const m).cons (e_scalars_Any m)

def sp_scalars_Bytes : Sp
  | [.one (.b64 true n)] => some (Cond.t, .agg [.b64 false ((nBytes n).tv), .b64 false ((nBytes n).tm), .b64 false ((nBytes n).lo), .b64 false ((nBytes n).hi), .b64 true ((nBytes n).slo), .b64 true ((nBytes n).shi)])
  | _ => none
set_option maxRecDepth 100000 in
set_option maxHeartbeats 4000000 in
theorem e_scalars_Bytes (m : Nat → Nat) : EntryOK Tryd.prog (GS m) 28 sp_scalars_Bytes := by
  refine .of_F (C_scalars_Any m) (by kernel_rfl) Tryd.func28 (by kernel_rfl) (by kernel_rfl) (fun args c v h hc => ?_)
  unfold sp_scalars_Bytes at h
  split at h
  · rename_i n; cases h
    refine ⟨rfl, rfl, ?_⟩
    repeat' (first
      | (with_reducible apply Given.mk; intro h; (try simp only [eq_self, Bool.not_true, Bool.not_false, Bool.false_eq_true, Bool.true_eq_false, reduceCtorEq] at h); (try exact absurd h (by decide)))
      | ((conv => whnf); with_reducible apply Both.mk))
    all_goals first
      | (with_reducible apply Ob.mk; kernel_rfl)
      | (with_reducible apply Ob.mk; decide)
      | (with_reducible apply Ob.mk; rfl)
      | (with_reducible apply Ob.mk; exact most_pos n (by assumption) (by assumption))
      | ((conv => whnf); refine ⟨?_⟩; first | with_reducible rfl | (simp only [nBytes, nMost, nAny, nMk, *, Bool.true_and, Bool.and_true, Bool.false_and, Bool.and_false, Bool.true_or, Bool.or_true, Bool.false_or, Bool.or_false, Bool.not_true, Bool.not_false, Bool.false_eq_true, Bool.true_eq_false, if_true, if_false, reduceCtorEq]; done) | (simp_all [nBytes, nMost, nAny, nMk]; done) | rfl)
  · cases h
abbrev tb_scalars_Bytes : List (Nat × Sp) := (28, sp_scalars_Bytes) :: tb_scalars_Any
theorem C_scalars_Bytes (m : Nat → Nat) : CSound Tryd.prog (GS m) (tab (DS m) tb_scalars_Bytes) := (C_scalars_Any m).cons (e_scalars_Bytes m)

def sp_scalars_Has : Sp
  | [.agg [.b64 false a1, .b64 false a2, .b64 false a3, .b64 false a4, .b64 true a5, .b64 true a6], .one (.b64 false v)] => some (Cond.t, .one (.bool ((NN.mk a1 a2 a3 a4 a5 a6).has v)))
  | _ => none
set_option maxRecDepth 100000 in
set_option maxHeartbeats 4000000 in
theorem e_scalars_Has (m : Nat → Nat) : EntryOK Tryd.prog (GS m) 30 sp_scalars_Has := by
  refine .of_F (C_scalars_Bytes m) (by kernel_rfl) Tryd.func30 (by kernel_rfl) (by kernel_rfl) (fun args c v h hc => ?_)
  unfold sp_scalars_Has at h
  split at h
  · rename_i a1 a2 a3 a4 a5 a6 v; cases h
    refine ⟨rfl, rfl, ?_⟩
    repeat' (first
      | (with_reducible apply Given.mk; intro h; (try simp only [eq_self, Bool.not_true, Bool.not_false, Bool.false_eq_true, Bool.true_eq_false, reduceCtorEq] at h); (try exact absurd h (by decide)))
      | ((conv => whnf); with_reducible apply Both.mk))
    all_goals first
      | (with_reducible apply Ob.mk; kernel_rfl)
      | (with_reducible apply Ob.mk; decide)
      | (with_reducible apply Ob.mk; rfl)
      | ((conv => whnf); refine ⟨?_⟩; first | with_reducible rfl | (simp only [NN.has, NN.s, *, Bool.true_and, Bool.and_true, Bool.false_and, Bool.and_false, Bool.true_or, Bool.or_true, Bool.false_or, Bool.or_false, Bool.not_true, Bool.not_false, Bool.false_eq_true, Bool.true_eq_false, if_true, if_false, reduceCtorEq]; done) | (simp_all [NN.has, NN.s]; done) | rfl)
  · cases h
abbrev tb_scalars_Has : List (Nat × Sp) := (30, sp_scalars_Has) :: tb_scalars_Bytes
theorem C_scalars_Has (m : Nat → Nat) : CSound Tryd.prog (GS m) (tab (DS m) tb_scalars_Has) := (C_scalars_Bytes m).cons (e_scalars_Has m)

def sp_scalars_In : Sp
  | [.agg [.b64 false a1, .b64 false a2, .b64 false a3, .b64 false a4, .b64 true a5, .b64 true a6], .agg [.b64 false b1, .b64 false b2, .b64 false b3, .b64 false b4, .b64 true b5, .b64 true b6]] => some (Cond.t, .one (.bool (nIn (NN.mk a1 a2 a3 a4 a5 a6) (NN.mk b1 b2 b3 b4 b5 b6))))
  | _ => none
set_option maxRecDepth 100000 in
set_option maxHeartbeats 4000000 in
theorem e_scalars_In (m : Nat → Nat) : EntryOK Tryd.prog (GS m) 29 sp_scalars_In := by
  refine .of_F (C_scalars_Has m) (by kernel_rfl) Tryd.func29 (by kernel_rfl) (by kernel_rfl) (fun args c v h hc => ?_)
  unfold sp_scalars_In at h
  split at h
  · rename_i a1 a2 a3 a4 a5 a6 b1 b2 b3 b4 b5 b6; cases h
    refine ⟨rfl, rfl, ?_⟩
    repeat' (first
      | (with_reducible apply Given.mk; intro h; (try simp only [eq_self, Bool.not_true, Bool.not_false, Bool.false_eq_true, Bool.true_eq_false, reduceCtorEq] at h); (try exact absurd h (by decide)))
      | ((conv => whnf); with_reducible apply Both.mk))
    all_goals first
      | (with_reducible apply Ob.mk; kernel_rfl)
      | (with_reducible apply Ob.mk; decide)
      | (with_reducible apply Ob.mk; rfl)
      | ((conv => whnf); refine ⟨?_⟩; first | with_reducible rfl | (simp only [nIn, NN.s, *, Bool.true_and, Bool.and_true, Bool.false_and, Bool.and_false, Bool.true_or, Bool.or_true, Bool.false_or, Bool.or_false, Bool.not_true, Bool.not_false, Bool.false_eq_true, Bool.true_eq_false, if_true, if_false, reduceCtorEq]; done) | (simp_all [nIn, NN.s]; done) | rfl)
  · cases h
abbrev tb_scalars_In : List (Nat × Sp) := (29, sp_scalars_In) :: tb_scalars_Has
theorem C_scalars_In (m : Nat → Nat) : CSound Tryd.prog (GS m) (tab (DS m) tb_scalars_In) := (C_scalars_Has m).cons (e_scalars_In m)

def sp_scalars_One : Sp
  | [.agg [.b64 false a1, .b64 false a2, .b64 false a3, .b64 false a4, .b64 true a5, .b64 true a6]] => some (Cond.t, .tup [(false, [.b64 false (if a2 == 0#64 then a1 else 0#64)]), (false, [.bool (a2 == 0#64)])])
  | _ => none
set_option maxRecDepth 100000 in
set_option maxHeartbeats 4000000 in
theorem e_scalars_One (m : Nat → Nat) : EntryOK Tryd.prog (GS m) 16 sp_scalars_One := by
  refine .of_F (C_scalars_In m) (by kernel_rfl) Tryd.func16 (by kernel_rfl) (by kernel_rfl) (fun args c v h hc => ?_)
  unfold sp_scalars_One at h
  split at h
  · rename_i a1 a2 a3 a4 a5 a6; cases h
    refine ⟨rfl, rfl, ?_⟩
    repeat' (first
      | (with_reducible apply Given.mk; intro h; (try simp only [eq_self, Bool.not_true, Bool.not_false, Bool.false_eq_true, Bool.true_eq_false, reduceCtorEq] at h); (try exact absurd h (by decide)))
      | ((conv => whnf); with_reducible apply Both.mk))
    all_goals first
      | (with_reducible apply Ob.mk; kernel_rfl)
      | (with_reducible apply Ob.mk; decide)
      | (with_reducible apply Ob.mk; rfl)
      | ((conv => whnf); refine ⟨?_⟩; first | with_reducible rfl | (simp only [ite_true, *, Bool.true_and, Bool.and_true, Bool.false_and, Bool.and_false, Bool.true_or, Bool.or_true, Bool.false_or, Bool.or_false, Bool.not_true, Bool.not_false, Bool.false_eq_true, Bool.true_eq_false, if_true, if_false, reduceCtorEq]; done) | (simp_all [ite_true]; done) | rfl)
  · cases h
abbrev tb_scalars_One : List (Nat × Sp) := (16, sp_scalars_One) :: tb_scalars_In
theorem C_scalars_One (m : Nat → Nat) : CSound Tryd.prog (GS m) (tab (DS m) tb_scalars_One) := (C_scalars_In m).cons (e_scalars_One m)

def sp_scalars_Tight : Sp
  | [.agg [.b64 false a1, .b64 false a2, .b64 false a3, .b64 false a4, .b64 true a5, .b64 true a6]] => some (Cond.t, .tup [(true, [.b64 false ((nTight (NN.mk a1 a2 a3 a4 a5 a6)).tv), .b64 false ((nTight (NN.mk a1 a2 a3 a4 a5 a6)).tm), .b64 false ((nTight (NN.mk a1 a2 a3 a4 a5 a6)).lo), .b64 false ((nTight (NN.mk a1 a2 a3 a4 a5 a6)).hi), .b64 true ((nTight (NN.mk a1 a2 a3 a4 a5 a6)).slo), .b64 true ((nTight (NN.mk a1 a2 a3 a4 a5 a6)).shi)]), (false, [.bool (nOk (NN.mk a1 a2 a3 a4 a5 a6))])])
  | _ => none
set_option maxRecDepth 100000 in
set_option maxHeartbeats 4000000 in
theorem e_scalars_Tight (m : Nat → Nat) : EntryOK Tryd.prog (GS m) 27 sp_scalars_Tight := by
  refine .of_F (C_scalars_One m) (by kernel_rfl) Tryd.func27 (by kernel_rfl) (by kernel_rfl) (fun args c v h hc => ?_)
  unfold sp_scalars_Tight at h
  split at h
  · rename_i a1 a2 a3 a4 a5 a6; cases h
    refine ⟨rfl, rfl, ?_⟩
    repeat' (first
      | (with_reducible apply Given.mk; intro h)
      | ((conv => whnf); first | with_reducible apply Both.mk | (refine LoopP.mk Nat (fun k => k ≤ 2 ∧ ∀ j, j < k → nOk1 (nIt ⟨a1, a2, a3, a4, a5, a6⟩ j) = true) (fun k => mkS 53 [(1, .one (.ptr 1 0)), (2, .one (.ptr 2 0)), (3, .one (.bool false)), (12, iN k)] [(2, .cells 33 [.b64 false 0#64, .b64 false 0#64, .b64 false 0#64, .b64 false 0#64, .b64 true 0#64, .b64 true 0#64]), (1, .cells 33 [.b64 false (nIt ⟨a1, a2, a3, a4, a5, a6⟩ k).tv, .b64 false (nIt ⟨a1, a2, a3, a4, a5, a6⟩ k).tm, .b64 false (nIt ⟨a1, a2, a3, a4, a5, a6⟩ k).lo, .b64 false (nIt ⟨a1, a2, a3, a4, a5, a6⟩ k).hi, .b64 true (nIt ⟨a1, a2, a3, a4, a5, a6⟩ k).slo, .b64 true (nIt ⟨a1, a2, a3, a4, a5, a6⟩ k).shi])]) (fun k => 2 - k) ⟨0, ⟨by omega, fun j hj => absurd hj (by omega)⟩, ⟨?_, ?_, rfl, rfl, rfl⟩⟩ ?_; (focus ((repeat' ((conv => whnf); first | exact trivial | refine Both.mk (by first | with_reducible rfl | rfl) ?_)); done)); (focus ((repeat' ((conv => whnf); first | exact trivial | refine Both.mk (by first | with_reducible rfl | rfl) ?_)); done)); (intro k hk; obtain ⟨hk, hks⟩ := hk; generalize hN : nIt ⟨a1, a2, a3, a4, a5, a6⟩ k = N))))
    all_goals first
      | (with_reducible apply Ob.mk; kernel_rfl)
      | ((conv => whnf); refine ⟨?_⟩; exact fail_eq (nOk_v (nt h)))
      | ((conv => whnf)
         have hlt := slt_yes (k := k) (n := 2) (by omega) (by omega) (by assumption)
         refine ⟨?_⟩
         first | exact fail_eq (nOk_no hlt ((congrArg nOk1 hN).trans (nOk1_a (nt h)))) | exact fail_eq (nOk_no hlt ((congrArg nOk1 hN).trans (nOk1_b (nt h)))))
      | ((conv => whnf)
         have hlt := slt_yes (k := k) (n := 2) (by omega) (by omega) (by assumption)
         have hB := nf h
         rename_i hA'
         have hA := nf hA'
         refine ⟨k + 1, ⟨by omega, fun j hj => ?_⟩, by omega, ?_, ?_, rfl, rfl, rfl⟩
         · rcases Nat.lt_or_ge j k with e | e
           · exact hks j e
           · obtain rfl : j = k := by omega
             rw [hN]; exact nOk1_y hA hB
         · repeat' ((conv => whnf); first | exact trivial | refine Both.mk (by first | with_reducible rfl | exact iN_succ k | rfl) ?_)
         · repeat' ((conv => whnf); first | exact trivial | refine Both.mk (by first | with_reducible rfl | (rw [if_pos hB, if_pos hB]; simp only [nIt, hN]; rfl) | rfl) ?_))
      | ((conv => whnf)
         have hge := slt_no (k := k) (n := 2) (by omega) (by omega) (by assumption)
         obtain rfl : k = 2 := by omega
         subst hN
         refine ⟨?_⟩
         exact done_eq (nOk_yes (nf (by assumption)) hks))
  · cases h
abbrev tb_scalars_Tight : List (Nat × Sp) := (27, sp_scalars_Tight) :: tb_scalars_One
theorem C_scalars_Tight (m : Nat → Nat) : CSound Tryd.prog (GS m) (tab (DS m) tb_scalars_Tight) := (C_scalars_One m).cons (e_scalars_Tight m)

def sp_scalars_tight : Sp
  | [.agg [.b64 false a1, .b64 false a2], .agg [.b64 false a3, .b64 false a4, .b64 true a5, .b64 true a6]] => some (Cond.t, .agg [.b64 false ((nTt (NN.mk a1 a2 a3 a4 a5 a6)).tv), .b64 false ((nTt (NN.mk a1 a2 a3 a4 a5 a6)).tm), .b64 false ((nTt (NN.mk a1 a2 a3 a4 a5 a6)).lo), .b64 false ((nTt (NN.mk a1 a2 a3 a4 a5 a6)).hi), .b64 true ((nTt (NN.mk a1 a2 a3 a4 a5 a6)).slo), .b64 true ((nTt (NN.mk a1 a2 a3 a4 a5 a6)).shi)])
  | _ => none
set_option maxRecDepth 100000 in
set_option maxHeartbeats 4000000 in
theorem e_scalars_tight (m : Nat → Nat) : EntryOK Tryd.prog (GS m) 60 sp_scalars_tight := by
  refine .of_F (C_scalars_Tight m) (by kernel_rfl) Tryd.func60 (by kernel_rfl) (by kernel_rfl) (fun args c v h hc => ?_)
  unfold sp_scalars_tight at h
  split at h
  · rename_i a1 a2 a3 a4 a5 a6; cases h
    refine ⟨rfl, rfl, ?_⟩
    repeat' (first
      | (with_reducible apply Given.mk; intro h; (try simp only [eq_self, Bool.not_true, Bool.not_false, Bool.false_eq_true, Bool.true_eq_false, reduceCtorEq] at h); (try exact absurd h (by decide)))
      | ((conv => whnf); with_reducible apply Both.mk))
    all_goals first
      | (with_reducible apply Ob.mk; kernel_rfl)
      | (with_reducible apply Ob.mk; decide)
      | (with_reducible apply Ob.mk; rfl)
      | ((conv => whnf); refine ⟨?_⟩; first | with_reducible rfl | (simp only [nTt, *, Bool.true_and, Bool.and_true, Bool.false_and, Bool.and_false, Bool.true_or, Bool.or_true, Bool.false_or, Bool.or_false, Bool.not_true, Bool.not_false, Bool.false_eq_true, Bool.true_eq_false, if_true, if_false, reduceCtorEq]; done) | (simp_all [nTt]; done) | rfl)
  · cases h
abbrev tb_scalars_tight : List (Nat × Sp) := (60, sp_scalars_tight) :: tb_scalars_Tight
theorem C_scalars_tight (m : Nat → Nat) : CSound Tryd.prog (GS m) (tab (DS m) tb_scalars_tight) := (C_scalars_Tight m).cons (e_scalars_tight m)

def sp_scalars_low : Sp
  | [.agg [.b64 false a1, .b64 false a2, .b64 false a3, .b64 false a4, .b64 true a5, .b64 true a6]] => some (Cond.t, .agg [.b64 false ((nLow (NN.mk a1 a2 a3 a4 a5 a6)).tv), .b64 false ((nLow (NN.mk a1 a2 a3 a4 a5 a6)).tm), .b64 false ((nLow (NN.mk a1 a2 a3 a4 a5 a6)).lo), .b64 false ((nLow (NN.mk a1 a2 a3 a4 a5 a6)).hi), .b64 true ((nLow (NN.mk a1 a2 a3 a4 a5 a6)).slo), .b64 true ((nLow (NN.mk a1 a2 a3 a4 a5 a6)).shi)])
  | _ => none
set_option maxRecDepth 100000 in
set_option maxHeartbeats 4000000 in
theorem e_scalars_low (m : Nat → Nat) : EntryOK Tryd.prog (GS m) 41 sp_scalars_low := by
  refine .of_F (C_scalars_tight m) (by kernel_rfl) Tryd.func41 (by kernel_rfl) (by kernel_rfl) (fun args c v h hc => ?_)
  unfold sp_scalars_low at h
  split at h
  · rename_i a1 a2 a3 a4 a5 a6; cases h
    refine ⟨rfl, rfl, ?_⟩
    repeat' (first
      | (with_reducible apply Given.mk; intro h; (try simp only [eq_self, Bool.not_true, Bool.not_false, Bool.false_eq_true, Bool.true_eq_false, reduceCtorEq] at h); (try exact absurd h (by decide)))
      | ((conv => whnf); with_reducible apply Both.mk))
    all_goals first
      | (with_reducible apply Ob.mk; kernel_rfl)
      | (with_reducible apply Ob.mk; decide)
      | (with_reducible apply Ob.mk; rfl)
      | ((conv => whnf); refine ⟨?_⟩; first | with_reducible rfl | (simp only [nLow, nMk, NN.s, *, Bool.true_and, Bool.and_true, Bool.false_and, Bool.and_false, Bool.true_or, Bool.or_true, Bool.false_or, Bool.or_false, Bool.not_true, Bool.not_false, Bool.false_eq_true, Bool.true_eq_false, if_true, if_false, reduceCtorEq]; done) | (simp_all [nLow, nMk, NN.s]; done) | rfl)
  · cases h
abbrev tb_scalars_low : List (Nat × Sp) := (41, sp_scalars_low) :: tb_scalars_tight
theorem C_scalars_low (m : Nat → Nat) : CSound Tryd.prog (GS m) (tab (DS m) tb_scalars_low) := (C_scalars_tight m).cons (e_scalars_low m)

def sp_scalars_open : Sp
  | [.agg [.b64 false a, .b64 false b], .agg [.b64 false c, .b64 false d]] => some (Cond.t, .agg [.b64 false (0#64), .b64 false (~~~0#64)])
  | _ => none
set_option maxRecDepth 100000 in
set_option maxHeartbeats 4000000 in
theorem e_scalars_open (m : Nat → Nat) : EntryOK Tryd.prog (GS m) 112 sp_scalars_open := by
  refine .of_F (C_scalars_low m) (by kernel_rfl) Tryd.func112 (by kernel_rfl) (by kernel_rfl) (fun args c v h hc => ?_)
  unfold sp_scalars_open at h
  split at h
  · rename_i a b c d; cases h
    refine ⟨rfl, rfl, ?_⟩
    repeat' (first
      | (with_reducible apply Given.mk; intro h; (try exact absurd h (by decide)))
      | ((conv => whnf); with_reducible apply Both.mk))
    all_goals first
      | (with_reducible apply Ob.mk; kernel_rfl)
      | (with_reducible apply Ob.mk; decide)
      | (with_reducible apply Ob.mk; simp [ByteArray.size, catB, exB]; done)
      | ((conv => whnf); refine ⟨?_⟩; first | with_reducible rfl | rfl)
  · cases h
abbrev tb_scalars_open : List (Nat × Sp) := (112, sp_scalars_open) :: tb_scalars_low
theorem C_scalars_open (m : Nat → Nat) : CSound Tryd.prog (GS m) (tab (DS m) tb_scalars_open) := (C_scalars_low m).cons (e_scalars_open m)

def sp_scalars_shift : Sp
  | [.one (.b8 false k), .agg [.b64 false a1, .b64 false a2, .b64 false a3, .b64 false a4, .b64 true a5, .b64 true a6], .one (.b64 true n)] => some (Cond.t, .agg [.b64 false ((nShift k (NN.mk a1 a2 a3 a4 a5 a6) n).tv), .b64 false ((nShift k (NN.mk a1 a2 a3 a4 a5 a6) n).tm), .b64 false ((nShift k (NN.mk a1 a2 a3 a4 a5 a6) n).lo), .b64 false ((nShift k (NN.mk a1 a2 a3 a4 a5 a6) n).hi), .b64 true ((nShift k (NN.mk a1 a2 a3 a4 a5 a6) n).slo), .b64 true ((nShift k (NN.mk a1 a2 a3 a4 a5 a6) n).shi)])
  | _ => none
set_option maxRecDepth 100000 in
set_option maxHeartbeats 4000000 in
theorem e_scalars_shift (m : Nat → Nat) : EntryOK Tryd.prog (GS m) 61 sp_scalars_shift := by
  refine .of_F (C_scalars_open m) (by kernel_rfl) Tryd.func61 (by kernel_rfl) (by kernel_rfl) (fun args c v h hc => ?_)
  unfold sp_scalars_shift at h
  split at h
  · rename_i k a1 a2 a3 a4 a5 a6 n; cases h
    refine ⟨rfl, rfl, ?_⟩
    repeat' (first
      | (with_reducible apply Given.mk; intro h; (try simp only [eq_self, Bool.not_true, Bool.not_false, Bool.false_eq_true, Bool.true_eq_false, reduceCtorEq] at h); (try exact absurd h (by decide)))
      | ((conv => whnf); with_reducible apply Both.mk))
    all_goals first
      | (with_reducible apply Ob.mk; kernel_rfl)
      | (with_reducible apply Ob.mk; decide)
      | (with_reducible apply Ob.mk; rfl)
      | ((conv => whnf); refine ⟨?_⟩; first | with_reducible rfl | (simp only [nShift, nMk, NN.s, *, Bool.true_and, Bool.and_true, Bool.false_and, Bool.and_false, Bool.true_or, Bool.or_true, Bool.false_or, Bool.or_false, Bool.not_true, Bool.not_false, Bool.false_eq_true, Bool.true_eq_false, if_true, if_false, reduceCtorEq]; done) | (simp_all [nShift, nMk, NN.s]; done) | rfl)
  · cases h
abbrev tb_scalars_shift : List (Nat × Sp) := (61, sp_scalars_shift) :: tb_scalars_open
theorem C_scalars_shift (m : Nat → Nat) : CSound Tryd.prog (GS m) (tab (DS m) tb_scalars_shift) := (C_scalars_open m).cons (e_scalars_shift m)

def sp_scalars_whole0 : Sp
  | [.one (.b8 false o), .agg [.b64 false a1, .b64 false a2, .b64 false a3, .b64 false a4, .b64 true a5, .b64 true a6], .agg [.b64 false b1, .b64 false b2, .b64 false b3, .b64 false b4, .b64 true b5, .b64 true b6]] => some (Cond.p (o = 16#8), .agg [.b64 false ((nWhole o (NN.mk a1 a2 a3 a4 a5 a6) (NN.mk b1 b2 b3 b4 b5 b6)).tv), .b64 false ((nWhole o (NN.mk a1 a2 a3 a4 a5 a6) (NN.mk b1 b2 b3 b4 b5 b6)).tm), .b64 false ((nWhole o (NN.mk a1 a2 a3 a4 a5 a6) (NN.mk b1 b2 b3 b4 b5 b6)).lo), .b64 false ((nWhole o (NN.mk a1 a2 a3 a4 a5 a6) (NN.mk b1 b2 b3 b4 b5 b6)).hi), .b64 true ((nWhole o (NN.mk a1 a2 a3 a4 a5 a6) (NN.mk b1 b2 b3 b4 b5 b6)).slo), .b64 true ((nWhole o (NN.mk a1 a2 a3 a4 a5 a6) (NN.mk b1 b2 b3 b4 b5 b6)).shi)])
  | _ => none
set_option maxRecDepth 100000 in
set_option maxHeartbeats 4000000 in
theorem e_scalars_whole0 (m : Nat → Nat) : EntryOK Tryd.prog (GS m) 40 sp_scalars_whole0 := by
  refine .of_F (C_scalars_shift m) (by kernel_rfl) Tryd.func40 (by kernel_rfl) (by kernel_rfl) (fun args c v h hc => ?_)
  unfold sp_scalars_whole0 at h
  split at h
  · rename_i o a1 a2 a3 a4 a5 a6 b1 b2 b3 b4 b5 b6; cases h
    refine ⟨rfl, rfl, ?_⟩
    have ho : o = 16#8 := hc
    subst ho
    repeat' (first
      | (with_reducible apply Given.mk; intro h; (try simp only [eq_self, Bool.not_true, Bool.not_false, Bool.false_eq_true, Bool.true_eq_false, reduceCtorEq] at h); (try exact absurd h (by decide)))
      | ((conv => whnf); with_reducible apply Both.mk))
    all_goals first
      | (with_reducible apply Ob.mk; kernel_rfl)
      | (with_reducible apply Ob.mk; decide)
      | (with_reducible apply Ob.mk; rfl)
      | ((conv => whnf); refine ⟨?_⟩; first | with_reducible rfl | (simp only [nW0, nW16, nW32, nW48, nW64, nW80, nW144, nW160, Bool.true_and, Bool.and_true, Bool.false_and, Bool.and_false, Bool.true_or, Bool.or_true, Bool.false_or, Bool.or_false, Bool.not_true, Bool.not_false, Bool.false_eq_true, Bool.true_eq_false, if_true, if_false, reduceCtorEq]; done))
  · cases h
abbrev tb_scalars_whole0 : List (Nat × Sp) := (40, sp_scalars_whole0) :: tb_scalars_shift
theorem C_scalars_whole0 (m : Nat → Nat) : CSound Tryd.prog (GS m) (tab (DS m) tb_scalars_whole0) := (C_scalars_shift m).cons (e_scalars_whole0 m)

def sp_scalars_whole : Sp
  | [.one (.b8 false o), .agg [.b64 false a1, .b64 false a2, .b64 false a3, .b64 false a4, .b64 true a5, .b64 true a6], .agg [.b64 false b1, .b64 false b2, .b64 false b3, .b64 false b4, .b64 true b5, .b64 true b6]] => some (Cond.t, .agg [.b64 false ((nWhole o (NN.mk a1 a2 a3 a4 a5 a6) (NN.mk b1 b2 b3 b4 b5 b6)).tv), .b64 false ((nWhole o (NN.mk a1 a2 a3 a4 a5 a6) (NN.mk b1 b2 b3 b4 b5 b6)).tm), .b64 false ((nWhole o (NN.mk a1 a2 a3 a4 a5 a6) (NN.mk b1 b2 b3 b4 b5 b6)).lo), .b64 false ((nWhole o (NN.mk a1 a2 a3 a4 a5 a6) (NN.mk b1 b2 b3 b4 b5 b6)).hi), .b64 true ((nWhole o (NN.mk a1 a2 a3 a4 a5 a6) (NN.mk b1 b2 b3 b4 b5 b6)).slo), .b64 true ((nWhole o (NN.mk a1 a2 a3 a4 a5 a6) (NN.mk b1 b2 b3 b4 b5 b6)).shi)])
  | _ => none
set_option maxRecDepth 100000 in
set_option maxHeartbeats 4000000 in
theorem e_scalars_whole (m : Nat → Nat) : EntryOK Tryd.prog (GS m) 40 sp_scalars_whole := by
  refine .of_F (C_scalars_whole0 m) (by kernel_rfl) Tryd.func40 (by kernel_rfl) (by kernel_rfl) (fun args c v h hc => ?_)
  unfold sp_scalars_whole at h
  split at h
  · rename_i o a1 a2 a3 a4 a5 a6 b1 b2 b3 b4 b5 b6; cases h
    refine ⟨rfl, rfl, ?_⟩
    by_cases hk : opH o = true
    · rcases op_cases o hk with rfl | rfl | rfl | rfl | rfl | rfl | rfl | rfl
      all_goals
        repeat' (first
          | (with_reducible apply Given.mk; intro h; (try simp only [eq_self, Bool.not_true, Bool.not_false, Bool.false_eq_true, Bool.true_eq_false, reduceCtorEq] at h); (try exact absurd h (by decide)))
          | ((conv => whnf); with_reducible apply Both.mk))
        all_goals first
          | (with_reducible apply Ob.mk; kernel_rfl)
          | (with_reducible apply Ob.mk; decide)
          | (with_reducible apply Ob.mk; rfl)
          | ((conv => whnf); refine ⟨?_⟩; first | with_reducible rfl | (simp only [nW0, nW16, nW32, nW48, nW64, nW80, nW144, nW160, Bool.true_and, Bool.and_true, Bool.false_and, Bool.and_false, Bool.true_or, Bool.or_true, Bool.false_or, Bool.or_false, Bool.not_true, Bool.not_false, Bool.false_eq_true, Bool.true_eq_false, if_true, if_false, reduceCtorEq]; done))
    · have hk' : opH o = false := by simpa using hk
      obtain ⟨e1, e2⟩ := op_none o hk'
      repeat' (first
        | (with_reducible apply Given.mk; intro h; (try simp only [hk', Bool.not_true, Bool.not_false, Bool.false_eq_true, Bool.true_eq_false, reduceCtorEq] at h); (try exact absurd h (by decide)))
        | ((conv => whnf); with_reducible apply Both.mk)
        | ((conv => whnf); rw [e1, e2]))
      all_goals first
        | (with_reducible apply Ob.mk; kernel_rfl)
        | (with_reducible apply Ob.mk; decide)
        | (with_reducible apply Ob.mk; rfl)
        | ((conv => whnf); refine ⟨?_⟩; first | with_reducible rfl | (simp only [nWhole, nShift, nMk, NN.s, hk', *, Bool.true_and, Bool.and_true, Bool.false_and, Bool.and_false, Bool.true_or, Bool.or_true, Bool.false_or, Bool.or_false, Bool.not_true, Bool.not_false, Bool.false_eq_true, Bool.true_eq_false, if_true, if_false, reduceCtorEq]; done) | (simp_all [nWhole, nShift, nMk, NN.s, hk']; done) | (obtain rfl := eq_of_beq h; rw [nW128]))
  · cases h
abbrev tb_scalars_whole : List (Nat × Sp) := (40, sp_scalars_whole) :: tb_scalars_whole0
theorem C_scalars_whole (m : Nat → Nat) : CSound Tryd.prog (GS m) (tab (DS m) tb_scalars_whole) := (C_scalars_whole0 m).cons (e_scalars_whole m)

def sp_scalars_Do : Sp
  | [.one (.b8 false o), .one (.bool w), .agg [.b64 false a1, .b64 false a2, .b64 false a3, .b64 false a4, .b64 true a5, .b64 true a6], .agg [.b64 false b1, .b64 false b2, .b64 false b3, .b64 false b4, .b64 true b5, .b64 true b6]] => some (Cond.t, .agg [.b64 false ((nDo o w (NN.mk a1 a2 a3 a4 a5 a6) (NN.mk b1 b2 b3 b4 b5 b6)).tv), .b64 false ((nDo o w (NN.mk a1 a2 a3 a4 a5 a6) (NN.mk b1 b2 b3 b4 b5 b6)).tm), .b64 false ((nDo o w (NN.mk a1 a2 a3 a4 a5 a6) (NN.mk b1 b2 b3 b4 b5 b6)).lo), .b64 false ((nDo o w (NN.mk a1 a2 a3 a4 a5 a6) (NN.mk b1 b2 b3 b4 b5 b6)).hi), .b64 true ((nDo o w (NN.mk a1 a2 a3 a4 a5 a6) (NN.mk b1 b2 b3 b4 b5 b6)).slo), .b64 true ((nDo o w (NN.mk a1 a2 a3 a4 a5 a6) (NN.mk b1 b2 b3 b4 b5 b6)).shi)])
  | _ => none
set_option maxRecDepth 100000 in
set_option maxHeartbeats 4000000 in
theorem e_scalars_Do (m : Nat → Nat) : EntryOK Tryd.prog (GS m) 22 sp_scalars_Do := by
  refine .of_F (C_scalars_whole m) (by kernel_rfl) Tryd.func22 (by kernel_rfl) (by kernel_rfl) (fun args c v h hc => ?_)
  unfold sp_scalars_Do at h
  split at h
  · rename_i o w a1 a2 a3 a4 a5 a6 b1 b2 b3 b4 b5 b6; cases h
    refine ⟨rfl, rfl, ?_⟩
    repeat' (first
      | (with_reducible apply Given.mk; intro h; (try simp only [eq_self, Bool.not_true, Bool.not_false, Bool.false_eq_true, Bool.true_eq_false, reduceCtorEq] at h); (try exact absurd h (by decide)))
      | ((conv => whnf); with_reducible apply Both.mk))
    all_goals first
      | (with_reducible apply Ob.mk; kernel_rfl)
      | (with_reducible apply Ob.mk; decide)
      | (with_reducible apply Ob.mk; rfl)
      | ((conv => whnf); refine ⟨?_⟩; first | with_reducible rfl | (simp only [nDo, *, Bool.true_and, Bool.and_true, Bool.false_and, Bool.and_false, Bool.true_or, Bool.or_true, Bool.false_or, Bool.or_false, Bool.not_true, Bool.not_false, Bool.false_eq_true, Bool.true_eq_false, if_true, if_false, reduceCtorEq]; done) | (simp_all [nDo]; done) | rfl)
  · cases h
abbrev tb_scalars_Do : List (Nat × Sp) := (22, sp_scalars_Do) :: tb_scalars_whole
theorem C_scalars_Do (m : Nat → Nat) : CSound Tryd.prog (GS m) (tab (DS m) tb_scalars_Do) := (C_scalars_whole m).cons (e_scalars_Do m)

end Go.Proofs.YtkmggidgfkchfaaDoor

