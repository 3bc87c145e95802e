/-
  Package scalars, Assume; the laws' own functions of chapter 17: what they answer, by the evaluator. Conditions: as typed.
-/
import Derived.Test.YtkmggidgfkchfaaDoorSkC
namespace Go.Proofs.YtkmggidgfkchfaaDoor
open Go.Ev Go.RowKit
set_option linter.unusedVariables false
set_option linter.unusedSimpArgs false

structure P3 where
  x : NN
  y : NN
  ok : Bool
def pNo : P3 := ⟨nZ, nZ, false⟩
def pBoth (a b : NN) : P3 := if nOk a && nOk b then ⟨nTight a, nTight b, true⟩ else pNo
def nMeet (a b : NN) : NN := nMk (tBothV a.tv a.tm b.tv b.tm) (tBothM a.tv a.tm b.tv b.tm) (sTight (sMeet a.s b.s))
def pEqual (a b : NN) : P3 := if tBothOk a.tv a.tm b.tv b.tm && sOk (sMeet a.s b.s) then pBoth (nMeet a b) (nMeet a b) else pNo
def wLo (a : NN) (v : BitVec 64) : BitVec 64 := if a.lo == v && v.ult a.hi then a.lo + 1#64 else a.lo
def wHi (a : NN) (v : BitVec 64) : BitVec 64 := if a.hi == v && (wLo a v).ult v then a.hi - 1#64 else a.hi
def nWithout (a : NN) (v : BitVec 64) : NN := ⟨a.tv, a.tm, wLo a v, wHi a v, a.slo, a.shi⟩
def pUnlike (a b : NN) : P3 := if a.tm == 0#64 && b.tm == 0#64 && a.tv == b.tv then pNo else pBoth (if b.tm == 0#64 then nWithout a b.tv else a) (if a.tm == 0#64 then nWithout b a.tv else b)
def byB (same : Bool) : BitVec 64 := if same then 0#64 else 1#64
def pLess (a b : NN) (same : Bool) : P3 :=
  if b.hi.ult (byB same) || (18446744073709551615#64 - byB same).ult a.lo then pNo
  else pBoth ⟨a.tv, a.tm, a.lo, umin a.hi (b.hi - byB same), a.slo, a.shi⟩ ⟨b.tv, b.tm, umax b.lo (a.lo + byB same), b.hi, b.slo, b.shi⟩
def pLessS (a b : NN) (same : Bool) : P3 :=
  if b.shi.slt (sMin + byB same) || (sMax - byB same).slt a.slo then pNo
  else pBoth ⟨a.tv, a.tm, a.lo, a.hi, a.slo, smin a.shi (b.shi - byB same)⟩ ⟨b.tv, b.tm, b.lo, b.hi, smax b.slo (a.slo + byB same), b.shi⟩
theorem pLess_1 {a b : NN} {w : Bool} (h : b.hi.ult (byB w) = true) : pLess a b w = pNo := by rw [pLess, h]; rfl
theorem pLess_2 {a b : NN} {w : Bool} (h : (18446744073709551615#64 - byB w).ult a.lo = true) : pLess a b w = pNo := by rw [pLess, h, Bool.or_true]; rfl
theorem pLess_3 {a b : NN} {w : Bool} (h : b.hi.ult (byB w) = false) (h' : (18446744073709551615#64 - byB w).ult a.lo = false) : pLess a b w =
    pBoth ⟨a.tv, a.tm, a.lo, umin a.hi (b.hi - byB w), a.slo, a.shi⟩ ⟨b.tv, b.tm, umax b.lo (a.lo + byB w), b.hi, b.slo, b.shi⟩ := by rw [pLess, h, h']; rfl
theorem pLessS_1 {a b : NN} {w : Bool} (h : b.shi.slt (sMin + byB w) = true) : pLessS a b w = pNo := by rw [pLessS, h]; rfl
theorem pLessS_2 {a b : NN} {w : Bool} (h : (sMax - byB w).slt a.slo = true) : pLessS a b w = pNo := by rw [pLessS, h, Bool.or_true]; rfl
theorem pLessS_3 {a b : NN} {w : Bool} (h : b.shi.slt (sMin + byB w) = false) (h' : (sMax - byB w).slt a.slo = false) : pLessS a b w =
    pBoth ⟨a.tv, a.tm, a.lo, a.hi, a.slo, smin a.shi (b.shi - byB w)⟩ ⟨b.tv, b.tm, b.lo, b.hi, smax b.slo (a.slo + byB w), b.shi⟩ := by rw [pLessS, h, h']; rfl
def pApart (a b : NN) : P3 := if a.tv &&& b.tv == 0#64 then pBoth ⟨a.tv, a.tm &&& ~~~b.tv, a.lo, a.hi, a.slo, a.shi⟩ ⟨b.tv, b.tm &&& ~~~a.tv, b.lo, b.hi, b.slo, b.shi⟩ else pNo
def P3.swap (p : P3) : P3 := ⟨p.y, p.x, p.ok⟩
def pHold (o : BitVec 8) (a b : NN) : P3 :=
  if o == 16#8 then pEqual a b else if o == 80#8 then pUnlike a b
  else if o == 160#8 || o == 176#8 then pLess a b (o == 176#8) else if o == 32#8 || o == 48#8 then (pLess b a (o == 48#8)).swap
  else if o == 192#8 || o == 208#8 then pLessS a b (o == 208#8) else if o == 96#8 || o == 112#8 then (pLessS b a (o == 112#8)).swap
  else if o == 64#8 && (a.tv ||| a.tm) &&& (b.tv ||| b.tm) == 0#64 then pNo else ⟨a, b, true⟩
def most (o : BitVec 8) : BitVec 64 := if o == 96#8 || o == 112#8 || o == 192#8 || o == 208#8 then 2147483647#64 else 4294967295#64
def nSmall (o : BitVec 8) (a b : NN) : Bool := a.hi.ule (most o) && b.hi.ule (most o)
def pAssume (o : BitVec 8) (w h : Bool) (a b : NN) : P3 :=
  if !w && !(nSmall o a b) then ⟨a, b, true⟩ else if h then pHold o a b else if o == 64#8 then pApart a b
  else if turnH o then pHold (turnV o) a b else ⟨a, b, !(o == 0#8)⟩
def nMade (v k p q r s : BitVec 64) : NN := nMk (v &&& ~~~k) k (sMade v p q r s)


def sp_scalars_both : Sp
  | [.agg [.b64 false a1, .b64 false a2, .b64 false a3, .b64 false a4, .b64 true a5, .b64 true a6], .agg [.b64 false b1, .b64 false b2, .b64 false b3, .b64 false b4, .b64 true b5, .b64 true b6]] => some (Cond.t, .tup [(true, [.b64 false (((pBoth (NN.mk a1 a2 a3 a4 a5 a6) (NN.mk b1 b2 b3 b4 b5 b6)).x).tv), .b64 false (((pBoth (NN.mk a1 a2 a3 a4 a5 a6) (NN.mk b1 b2 b3 b4 b5 b6)).x).tm), .b64 false (((pBoth (NN.mk a1 a2 a3 a4 a5 a6) (NN.mk b1 b2 b3 b4 b5 b6)).x).lo), .b64 false (((pBoth (NN.mk a1 a2 a3 a4 a5 a6) (NN.mk b1 b2 b3 b4 b5 b6)).x).hi), .b64 true (((pBoth (NN.mk a1 a2 a3 a4 a5 a6) (NN.mk b1 b2 b3 b4 b5 b6)).x).slo), .b64 true (((pBoth (NN.mk a1 a2 a3 a4 a5 a6) (NN.mk b1 b2 b3 b4 b5 b6)).x).shi)]), (true, [.b64 false (((pBoth (NN.mk a1 a2 a3 a4 a5 a6) (NN.mk b1 b2 b3 b4 b5 b6)).y).tv), .b64 false (((pBoth (NN.mk a1 a2 a3 a4 a5 a6) (NN.mk b1 b2 b3 b4 b5 b6)).y).tm), .b64 false (((pBoth (NN.mk a1 a2 a3 a4 a5 a6) (NN.mk b1 b2 b3 b4 b5 b6)).y).lo), .b64 false (((pBoth (NN.mk a1 a2 a3 a4 a5 a6) (NN.mk b1 b2 b3 b4 b5 b6)).y).hi), .b64 true (((pBoth (NN.mk a1 a2 a3 a4 a5 a6) (NN.mk b1 b2 b3 b4 b5 b6)).y).slo), .b64 true (((pBoth (NN.mk a1 a2 a3 a4 a5 a6) (NN.mk b1 b2 b3 b4 b5 b6)).y).shi)]), (false, [.bool ((pBoth (NN.mk a1 a2 a3 a4 a5 a6) (NN.mk b1 b2 b3 b4 b5 b6)).ok)])])
  | _ => none
set_option maxRecDepth 100000 in
set_option maxHeartbeats 4000000 in
theorem e_scalars_both (m : Nat → Nat) : EntryOK Tryd.prog (GS m) 69 sp_scalars_both := by
  refine .of_F (C_scalars_Do m) (by kernel_rfl) Tryd.func69 (by kernel_rfl) (by kernel_rfl) (fun args c v h hc => ?_)
  unfold sp_scalars_both at h
  split at h
  · rename_i a1 a2 a3 a4 a5 a6 b1 b2 b3 b4 b5 b6; cases h
    refine ⟨rfl, rfl, ?_⟩
    repeat' (first
      | (with_reducible apply Given.mk; intro h; (try simp only [eq_self, Bool.not_true, Bool.not_false, Bool.false_eq_true, Bool.true_eq_false, reduceCtorEq] at h); (try exact absurd h (by decide)))
      | ((conv => whnf); with_reducible apply Both.mk))
    all_goals first
      | (with_reducible apply Ob.mk; kernel_rfl)
      | (with_reducible apply Ob.mk; decide)
      | (with_reducible apply Ob.mk; rfl)
      | ((conv => whnf); refine ⟨?_⟩; first | with_reducible rfl | (simp only [pBoth, pNo, nZ, *, Bool.true_and, Bool.and_true, Bool.false_and, Bool.and_false, Bool.true_or, Bool.or_true, Bool.false_or, Bool.or_false, Bool.not_true, Bool.not_false, Bool.false_eq_true, Bool.true_eq_false, if_true, if_false, reduceCtorEq]; done) | (simp_all [pBoth, pNo, nZ]; done) | rfl)
  · cases h
abbrev tb_scalars_both : List (Nat × Sp) := (69, sp_scalars_both) :: tb_scalars_Do
theorem C_scalars_both (m : Nat → Nat) : CSound Tryd.prog (GS m) (tab (DS m) tb_scalars_both) := (C_scalars_Do m).cons (e_scalars_both m)

def sp_scalars_equal : Sp
  | [.agg [.b64 false a1, .b64 false a2, .b64 false a3, .b64 false a4, .b64 true a5, .b64 true a6], .agg [.b64 false b1, .b64 false b2, .b64 false b3, .b64 false b4, .b64 true b5, .b64 true b6]] => some (Cond.t, .tup [(true, [.b64 false (((pEqual (NN.mk a1 a2 a3 a4 a5 a6) (NN.mk b1 b2 b3 b4 b5 b6)).x).tv), .b64 false (((pEqual (NN.mk a1 a2 a3 a4 a5 a6) (NN.mk b1 b2 b3 b4 b5 b6)).x).tm), .b64 false (((pEqual (NN.mk a1 a2 a3 a4 a5 a6) (NN.mk b1 b2 b3 b4 b5 b6)).x).lo), .b64 false (((pEqual (NN.mk a1 a2 a3 a4 a5 a6) (NN.mk b1 b2 b3 b4 b5 b6)).x).hi), .b64 true (((pEqual (NN.mk a1 a2 a3 a4 a5 a6) (NN.mk b1 b2 b3 b4 b5 b6)).x).slo), .b64 true (((pEqual (NN.mk a1 a2 a3 a4 a5 a6) (NN.mk b1 b2 b3 b4 b5 b6)).x).shi)]), (true, [.b64 false (((pEqual (NN.mk a1 a2 a3 a4 a5 a6) (NN.mk b1 b2 b3 b4 b5 b6)).y).tv), .b64 false (((pEqual (NN.mk a1 a2 a3 a4 a5 a6) (NN.mk b1 b2 b3 b4 b5 b6)).y).tm), .b64 false (((pEqual (NN.mk a1 a2 a3 a4 a5 a6) (NN.mk b1 b2 b3 b4 b5 b6)).y).lo), .b64 false (((pEqual (NN.mk a1 a2 a3 a4 a5 a6) (NN.mk b1 b2 b3 b4 b5 b6)).y).hi), .b64 true (((pEqual (NN.mk a1 a2 a3 a4 a5 a6) (NN.mk b1 b2 b3 b4 b5 b6)).y).slo), .b64 true (((pEqual (NN.mk a1 a2 a3 a4 a5 a6) (NN.mk b1 b2 b3 b4 b5 b6)).y).shi)]), (false, [.bool ((pEqual (NN.mk a1 a2 a3 a4 a5 a6) (NN.mk b1 b2 b3 b4 b5 b6)).ok)])])
  | _ => none
set_option maxRecDepth 100000 in
set_option maxHeartbeats 4000000 in
theorem e_scalars_equal (m : Nat → Nat) : EntryOK Tryd.prog (GS m) 64 sp_scalars_equal := by
  refine .of_F (C_scalars_both m) (by kernel_rfl) Tryd.func64 (by kernel_rfl) (by kernel_rfl) (fun args c v h hc => ?_)
  unfold sp_scalars_equal at h
  split at h
  · rename_i a1 a2 a3 a4 a5 a6 b1 b2 b3 b4 b5 b6; cases h
    refine ⟨rfl, rfl, ?_⟩
    repeat' (first
      | (with_reducible apply Given.mk; intro h; (try simp only [eq_self, Bool.not_true, Bool.not_false, Bool.false_eq_true, Bool.true_eq_false, reduceCtorEq] at h); (try exact absurd h (by decide)))
      | ((conv => whnf); with_reducible apply Both.mk))
    all_goals first
      | (with_reducible apply Ob.mk; kernel_rfl)
      | (with_reducible apply Ob.mk; decide)
      | (with_reducible apply Ob.mk; rfl)
      | ((conv => whnf); refine ⟨?_⟩; first | with_reducible rfl | (simp only [pEqual, pNo, nZ, nMeet, nMk, NN.s, *, Bool.true_and, Bool.and_true, Bool.false_and, Bool.and_false, Bool.true_or, Bool.or_true, Bool.false_or, Bool.or_false, Bool.not_true, Bool.not_false, Bool.false_eq_true, Bool.true_eq_false, if_true, if_false, reduceCtorEq]; done) | (simp_all [pEqual, pNo, nZ, nMeet, nMk, NN.s]; done) | rfl)
  · cases h
abbrev tb_scalars_equal : List (Nat × Sp) := (64, sp_scalars_equal) :: tb_scalars_both
theorem C_scalars_equal (m : Nat → Nat) : CSound Tryd.prog (GS m) (tab (DS m) tb_scalars_equal) := (C_scalars_both m).cons (e_scalars_equal m)

def sp_scalars_without : Sp
  | [.agg [.b64 false a1, .b64 false a2, .b64 false a3, .b64 false a4, .b64 true a5, .b64 true a6], .one (.b64 false v)] => some (Cond.t, .agg [.b64 false ((nWithout (NN.mk a1 a2 a3 a4 a5 a6) v).tv), .b64 false ((nWithout (NN.mk a1 a2 a3 a4 a5 a6) v).tm), .b64 false ((nWithout (NN.mk a1 a2 a3 a4 a5 a6) v).lo), .b64 false ((nWithout (NN.mk a1 a2 a3 a4 a5 a6) v).hi), .b64 true ((nWithout (NN.mk a1 a2 a3 a4 a5 a6) v).slo), .b64 true ((nWithout (NN.mk a1 a2 a3 a4 a5 a6) v).shi)])
  | _ => none
set_option maxRecDepth 100000 in
set_option maxHeartbeats 4000000 in
theorem e_scalars_without (m : Nat → Nat) : EntryOK Tryd.prog (GS m) 80 sp_scalars_without := by
  refine .of_F (C_scalars_equal m) (by kernel_rfl) Tryd.func80 (by kernel_rfl) (by kernel_rfl) (fun args c v h hc => ?_)
  unfold sp_scalars_without at h
  split at h
  · rename_i a1 a2 a3 a4 a5 a6 v; cases h
    refine ⟨rfl, rfl, ?_⟩
    repeat' (first
      | (with_reducible apply Given.mk; intro h; (try simp only [eq_self, Bool.not_true, Bool.not_false, Bool.false_eq_true, Bool.true_eq_false, reduceCtorEq] at h); (try exact absurd h (by decide)))
      | ((conv => whnf); with_reducible apply Both.mk))
    all_goals first
      | (with_reducible apply Ob.mk; kernel_rfl)
      | (with_reducible apply Ob.mk; decide)
      | (with_reducible apply Ob.mk; rfl)
      | ((conv => whnf); refine ⟨?_⟩; first | with_reducible rfl | (simp only [nWithout, wLo, wHi, *, Bool.true_and, Bool.and_true, Bool.false_and, Bool.and_false, Bool.true_or, Bool.or_true, Bool.false_or, Bool.or_false, Bool.not_true, Bool.not_false, Bool.false_eq_true, Bool.true_eq_false, if_true, if_false, reduceCtorEq]; done) | (simp_all [nWithout, wLo, wHi]; done) | rfl)
  · cases h
abbrev tb_scalars_without : List (Nat × Sp) := (80, sp_scalars_without) :: tb_scalars_equal
theorem C_scalars_without (m : Nat → Nat) : CSound Tryd.prog (GS m) (tab (DS m) tb_scalars_without) := (C_scalars_equal m).cons (e_scalars_without m)

def sp_scalars_unlike : Sp
  | [.agg [.b64 false a1, .b64 false a2, .b64 false a3, .b64 false a4, .b64 true a5, .b64 true a6], .agg [.b64 false b1, .b64 false b2, .b64 false b3, .b64 false b4, .b64 true b5, .b64 true b6]] => some (Cond.t, .tup [(true, [.b64 false (((pUnlike (NN.mk a1 a2 a3 a4 a5 a6) (NN.mk b1 b2 b3 b4 b5 b6)).x).tv), .b64 false (((pUnlike (NN.mk a1 a2 a3 a4 a5 a6) (NN.mk b1 b2 b3 b4 b5 b6)).x).tm), .b64 false (((pUnlike (NN.mk a1 a2 a3 a4 a5 a6) (NN.mk b1 b2 b3 b4 b5 b6)).x).lo), .b64 false (((pUnlike (NN.mk a1 a2 a3 a4 a5 a6) (NN.mk b1 b2 b3 b4 b5 b6)).x).hi), .b64 true (((pUnlike (NN.mk a1 a2 a3 a4 a5 a6) (NN.mk b1 b2 b3 b4 b5 b6)).x).slo), .b64 true (((pUnlike (NN.mk a1 a2 a3 a4 a5 a6) (NN.mk b1 b2 b3 b4 b5 b6)).x).shi)]), (true, [.b64 false (((pUnlike (NN.mk a1 a2 a3 a4 a5 a6) (NN.mk b1 b2 b3 b4 b5 b6)).y).tv), .b64 false (((pUnlike (NN.mk a1 a2 a3 a4 a5 a6) (NN.mk b1 b2 b3 b4 b5 b6)).y).tm), .b64 false (((pUnlike (NN.mk a1 a2 a3 a4 a5 a6) (NN.mk b1 b2 b3 b4 b5 b6)).y).lo), .b64 false (((pUnlike (NN.mk a1 a2 a3 a4 a5 a6) (NN.mk b1 b2 b3 b4 b5 b6)).y).hi), .b64 true (((pUnlike (NN.mk a1 a2 a3 a4 a5 a6) (NN.mk b1 b2 b3 b4 b5 b6)).y).slo), .b64 true (((pUnlike (NN.mk a1 a2 a3 a4 a5 a6) (NN.mk b1 b2 b3 b4 b5 b6)).y).shi)]), (false, [.bool ((pUnlike (NN.mk a1 a2 a3 a4 a5 a6) (NN.mk b1 b2 b3 b4 b5 b6)).ok)])])
  | _ => none
set_option maxRecDepth 100000 in
set_option maxHeartbeats 4000000 in
theorem e_scalars_unlike (m : Nat → Nat) : EntryOK Tryd.prog (GS m) 65 sp_scalars_unlike := by
  refine .of_F (C_scalars_without m) (by kernel_rfl) Tryd.func65 (by kernel_rfl) (by kernel_rfl) (fun args c v h hc => ?_)
  unfold sp_scalars_unlike at h
  split at h
  · rename_i a1 a2 a3 a4 a5 a6 b1 b2 b3 b4 b5 b6; cases h
    refine ⟨rfl, rfl, ?_⟩
    repeat' (first
      | (with_reducible apply Given.mk; intro h; (try simp only [eq_self, Bool.not_true, Bool.not_false, Bool.false_eq_true, Bool.true_eq_false, reduceCtorEq] at h); (try exact absurd h (by decide)))
      | ((conv => whnf); with_reducible apply Both.mk))
    all_goals first
      | (with_reducible apply Ob.mk; kernel_rfl)
      | (with_reducible apply Ob.mk; decide)
      | (with_reducible apply Ob.mk; rfl)
      | ((conv => whnf); refine ⟨?_⟩; first | with_reducible rfl | (simp only [pUnlike, pNo, nZ, *, Bool.true_and, Bool.and_true, Bool.false_and, Bool.and_false, Bool.true_or, Bool.or_true, Bool.false_or, Bool.or_false, Bool.not_true, Bool.not_false, Bool.false_eq_true, Bool.true_eq_false, if_true, if_false, reduceCtorEq]; done) | (simp_all [pUnlike, pNo, nZ]; done) | rfl)
  · cases h
abbrev tb_scalars_unlike : List (Nat × Sp) := (65, sp_scalars_unlike) :: tb_scalars_without
theorem C_scalars_unlike (m : Nat → Nat) : CSound Tryd.prog (GS m) (tab (DS m) tb_scalars_unlike) := (C_scalars_without m).cons (e_scalars_unlike m)

def sp_scalars_less : Sp
  | [.agg [.b64 false a1, .b64 false a2, .b64 false a3, .b64 false a4, .b64 true a5, .b64 true a6], .agg [.b64 false b1, .b64 false b2, .b64 false b3, .b64 false b4, .b64 true b5, .b64 true b6], .one (.bool w)] => some (Cond.t, .tup [(true, [.b64 false (((pLess (NN.mk a1 a2 a3 a4 a5 a6) (NN.mk b1 b2 b3 b4 b5 b6) w).x).tv), .b64 false (((pLess (NN.mk a1 a2 a3 a4 a5 a6) (NN.mk b1 b2 b3 b4 b5 b6) w).x).tm), .b64 false (((pLess (NN.mk a1 a2 a3 a4 a5 a6) (NN.mk b1 b2 b3 b4 b5 b6) w).x).lo), .b64 false (((pLess (NN.mk a1 a2 a3 a4 a5 a6) (NN.mk b1 b2 b3 b4 b5 b6) w).x).hi), .b64 true (((pLess (NN.mk a1 a2 a3 a4 a5 a6) (NN.mk b1 b2 b3 b4 b5 b6) w).x).slo), .b64 true (((pLess (NN.mk a1 a2 a3 a4 a5 a6) (NN.mk b1 b2 b3 b4 b5 b6) w).x).shi)]), (true, [.b64 false (((pLess (NN.mk a1 a2 a3 a4 a5 a6) (NN.mk b1 b2 b3 b4 b5 b6) w).y).tv), .b64 false (((pLess (NN.mk a1 a2 a3 a4 a5 a6) (NN.mk b1 b2 b3 b4 b5 b6) w).y).tm), .b64 false (((pLess (NN.mk a1 a2 a3 a4 a5 a6) (NN.mk b1 b2 b3 b4 b5 b6) w).y).lo), .b64 false (((pLess (NN.mk a1 a2 a3 a4 a5 a6) (NN.mk b1 b2 b3 b4 b5 b6) w).y).hi), .b64 true (((pLess (NN.mk a1 a2 a3 a4 a5 a6) (NN.mk b1 b2 b3 b4 b5 b6) w).y).slo), .b64 true (((pLess (NN.mk a1 a2 a3 a4 a5 a6) (NN.mk b1 b2 b3 b4 b5 b6) w).y).shi)]), (false, [.bool ((pLess (NN.mk a1 a2 a3 a4 a5 a6) (NN.mk b1 b2 b3 b4 b5 b6) w).ok)])])
  | _ => none
set_option maxRecDepth 100000 in
set_option maxHeartbeats 4000000 in
theorem e_scalars_less (m : Nat → Nat) : EntryOK Tryd.prog (GS m) 66 sp_scalars_less := by
  refine .of_F (C_scalars_unlike m) (by kernel_rfl) Tryd.func66 (by kernel_rfl) (by kernel_rfl) (fun args c v h hc => ?_)
  unfold sp_scalars_less at h
  split at h
  · rename_i a1 a2 a3 a4 a5 a6 b1 b2 b3 b4 b5 b6 w; cases h
    refine ⟨rfl, rfl, ?_⟩
    cases w
    · repeat' (first
        | (with_reducible apply Given.mk; intro h; (try exact absurd h (by decide)); (try (replace h := (id h : true = true); clear h)); (try (replace h := (id h : false = false); clear h)))
        | ((conv => whnf); with_reducible apply Both.mk))
      all_goals first
        | (with_reducible apply Ob.mk; kernel_rfl)
        | ((conv => whnf); refine ⟨?_⟩; first | (rw [pLess_1 (a := ⟨a1, a2, a3, a4, a5, a6⟩) (b := ⟨b1, b2, b3, b4, b5, b6⟩) (w := false) h]; rfl) | (rw [pLess_2 (a := ⟨a1, a2, a3, a4, a5, a6⟩) (b := ⟨b1, b2, b3, b4, b5, b6⟩) (w := false) h]; rfl) | (rename_i h2; rw [pLess_3 (a := ⟨a1, a2, a3, a4, a5, a6⟩) (b := ⟨b1, b2, b3, b4, b5, b6⟩) (w := false) h2 h]; rfl))
    · repeat' (first
        | (with_reducible apply Given.mk; intro h; (try exact absurd h (by decide)); (try (replace h := (id h : true = true); clear h)); (try (replace h := (id h : false = false); clear h)))
        | ((conv => whnf); with_reducible apply Both.mk))
      all_goals first
        | (with_reducible apply Ob.mk; kernel_rfl)
        | ((conv => whnf); refine ⟨?_⟩; first | (rw [pLess_1 (a := ⟨a1, a2, a3, a4, a5, a6⟩) (b := ⟨b1, b2, b3, b4, b5, b6⟩) (w := true) h]; rfl) | (rw [pLess_2 (a := ⟨a1, a2, a3, a4, a5, a6⟩) (b := ⟨b1, b2, b3, b4, b5, b6⟩) (w := true) h]; rfl) | (rename_i h2; rw [pLess_3 (a := ⟨a1, a2, a3, a4, a5, a6⟩) (b := ⟨b1, b2, b3, b4, b5, b6⟩) (w := true) h2 h]; rfl))
  · cases h
abbrev tb_scalars_less : List (Nat × Sp) := (66, sp_scalars_less) :: tb_scalars_unlike
theorem C_scalars_less (m : Nat → Nat) : CSound Tryd.prog (GS m) (tab (DS m) tb_scalars_less) := (C_scalars_unlike m).cons (e_scalars_less m)

def sp_scalars_lessSigned : Sp
  | [.agg [.b64 false a1, .b64 false a2, .b64 false a3, .b64 false a4, .b64 true a5, .b64 true a6], .agg [.b64 false b1, .b64 false b2, .b64 false b3, .b64 false b4, .b64 true b5, .b64 true b6], .one (.bool w)] => some (Cond.t, .tup [(true, [.b64 false (((pLessS (NN.mk a1 a2 a3 a4 a5 a6) (NN.mk b1 b2 b3 b4 b5 b6) w).x).tv), .b64 false (((pLessS (NN.mk a1 a2 a3 a4 a5 a6) (NN.mk b1 b2 b3 b4 b5 b6) w).x).tm), .b64 false (((pLessS (NN.mk a1 a2 a3 a4 a5 a6) (NN.mk b1 b2 b3 b4 b5 b6) w).x).lo), .b64 false (((pLessS (NN.mk a1 a2 a3 a4 a5 a6) (NN.mk b1 b2 b3 b4 b5 b6) w).x).hi), .b64 true (((pLessS (NN.mk a1 a2 a3 a4 a5 a6) (NN.mk b1 b2 b3 b4 b5 b6) w).x).slo), .b64 true (((pLessS (NN.mk a1 a2 a3 a4 a5 a6) (NN.mk b1 b2 b3 b4 b5 b6) w).x).shi)]), (true, [.b64 false (((pLessS (NN.mk a1 a2 a3 a4 a5 a6) (NN.mk b1 b2 b3 b4 b5 b6) w).y).tv), .b64 false (((pLessS (NN.mk a1 a2 a3 a4 a5 a6) (NN.mk b1 b2 b3 b4 b5 b6) w).y).tm), .b64 false (((pLessS (NN.mk a1 a2 a3 a4 a5 a6) (NN.mk b1 b2 b3 b4 b5 b6) w).y).lo), .b64 false (((pLessS (NN.mk a1 a2 a3 a4 a5 a6) (NN.mk b1 b2 b3 b4 b5 b6) w).y).hi), .b64 true (((pLessS (NN.mk a1 a2 a3 a4 a5 a6) (NN.mk b1 b2 b3 b4 b5 b6) w).y).slo), .b64 true (((pLessS (NN.mk a1 a2 a3 a4 a5 a6) (NN.mk b1 b2 b3 b4 b5 b6) w).y).shi)]), (false, [.bool ((pLessS (NN.mk a1 a2 a3 a4 a5 a6) (NN.mk b1 b2 b3 b4 b5 b6) w).ok)])])
  | _ => none
set_option maxRecDepth 100000 in
set_option maxHeartbeats 4000000 in
theorem e_scalars_lessSigned (m : Nat → Nat) : EntryOK Tryd.prog (GS m) 68 sp_scalars_lessSigned := by
  refine .of_F (C_scalars_less m) (by kernel_rfl) Tryd.func68 (by kernel_rfl) (by kernel_rfl) (fun args c v h hc => ?_)
  unfold sp_scalars_lessSigned at h
  split at h
  · rename_i a1 a2 a3 a4 a5 a6 b1 b2 b3 b4 b5 b6 w; cases h
    refine ⟨rfl, rfl, ?_⟩
    cases w
    · repeat' (first
        | (with_reducible apply Given.mk; intro h; (try exact absurd h (by decide)); (try (replace h := (id h : true = true); clear h)); (try (replace h := (id h : false = false); clear h)))
        | ((conv => whnf); with_reducible apply Both.mk))
      all_goals first
        | (with_reducible apply Ob.mk; kernel_rfl)
        | ((conv => whnf); refine ⟨?_⟩; first | (rw [pLessS_1 (a := ⟨a1, a2, a3, a4, a5, a6⟩) (b := ⟨b1, b2, b3, b4, b5, b6⟩) (w := false) h]; rfl) | (rw [pLessS_2 (a := ⟨a1, a2, a3, a4, a5, a6⟩) (b := ⟨b1, b2, b3, b4, b5, b6⟩) (w := false) h]; rfl) | (rename_i h2; rw [pLessS_3 (a := ⟨a1, a2, a3, a4, a5, a6⟩) (b := ⟨b1, b2, b3, b4, b5, b6⟩) (w := false) h2 h]; rfl))
    · repeat' (first
        | (with_reducible apply Given.mk; intro h; (try exact absurd h (by decide)); (try (replace h := (id h : true = true); clear h)); (try (replace h := (id h : false = false); clear h)))
        | ((conv => whnf); with_reducible apply Both.mk))
      all_goals first
        | (with_reducible apply Ob.mk; kernel_rfl)
        | ((conv => whnf); refine ⟨?_⟩; first | (rw [pLessS_1 (a := ⟨a1, a2, a3, a4, a5, a6⟩) (b := ⟨b1, b2, b3, b4, b5, b6⟩) (w := true) h]; rfl) | (rw [pLessS_2 (a := ⟨a1, a2, a3, a4, a5, a6⟩) (b := ⟨b1, b2, b3, b4, b5, b6⟩) (w := true) h]; rfl) | (rename_i h2; rw [pLessS_3 (a := ⟨a1, a2, a3, a4, a5, a6⟩) (b := ⟨b1, b2, b3, b4, b5, b6⟩) (w := true) h2 h]; rfl))
  · cases h
abbrev tb_scalars_lessSigned : List (Nat × Sp) := (68, sp_scalars_lessSigned) :: tb_scalars_less
theorem C_scalars_lessSigned (m : Nat → Nat) : CSound Tryd.prog (GS m) (tab (DS m) tb_scalars_lessSigned) := (C_scalars_less m).cons (e_scalars_lessSigned m)

def sp_scalars_apart : Sp
  | [.agg [.b64 false a1, .b64 false a2, .b64 false a3, .b64 false a4, .b64 true a5, .b64 true a6], .agg [.b64 false b1, .b64 false b2, .b64 false b3, .b64 false b4, .b64 true b5, .b64 true b6]] => some (Cond.t, .tup [(true, [.b64 false (((pApart (NN.mk a1 a2 a3 a4 a5 a6) (NN.mk b1 b2 b3 b4 b5 b6)).x).tv), .b64 false (((pApart (NN.mk a1 a2 a3 a4 a5 a6) (NN.mk b1 b2 b3 b4 b5 b6)).x).tm), .b64 false (((pApart (NN.mk a1 a2 a3 a4 a5 a6) (NN.mk b1 b2 b3 b4 b5 b6)).x).lo), .b64 false (((pApart (NN.mk a1 a2 a3 a4 a5 a6) (NN.mk b1 b2 b3 b4 b5 b6)).x).hi), .b64 true (((pApart (NN.mk a1 a2 a3 a4 a5 a6) (NN.mk b1 b2 b3 b4 b5 b6)).x).slo), .b64 true (((pApart (NN.mk a1 a2 a3 a4 a5 a6) (NN.mk b1 b2 b3 b4 b5 b6)).x).shi)]), (true, [.b64 false (((pApart (NN.mk a1 a2 a3 a4 a5 a6) (NN.mk b1 b2 b3 b4 b5 b6)).y).tv), .b64 false (((pApart (NN.mk a1 a2 a3 a4 a5 a6) (NN.mk b1 b2 b3 b4 b5 b6)).y).tm), .b64 false (((pApart (NN.mk a1 a2 a3 a4 a5 a6) (NN.mk b1 b2 b3 b4 b5 b6)).y).lo), .b64 false (((pApart (NN.mk a1 a2 a3 a4 a5 a6) (NN.mk b1 b2 b3 b4 b5 b6)).y).hi), .b64 true (((pApart (NN.mk a1 a2 a3 a4 a5 a6) (NN.mk b1 b2 b3 b4 b5 b6)).y).slo), .b64 true (((pApart (NN.mk a1 a2 a3 a4 a5 a6) (NN.mk b1 b2 b3 b4 b5 b6)).y).shi)]), (false, [.bool ((pApart (NN.mk a1 a2 a3 a4 a5 a6) (NN.mk b1 b2 b3 b4 b5 b6)).ok)])])
  | _ => none
set_option maxRecDepth 100000 in
set_option maxHeartbeats 4000000 in
theorem e_scalars_apart (m : Nat → Nat) : EntryOK Tryd.prog (GS m) 47 sp_scalars_apart := by
  refine .of_F (C_scalars_lessSigned m) (by kernel_rfl) Tryd.func47 (by kernel_rfl) (by kernel_rfl) (fun args c v h hc => ?_)
  unfold sp_scalars_apart at h
  split at h
  · rename_i a1 a2 a3 a4 a5 a6 b1 b2 b3 b4 b5 b6; cases h
    refine ⟨rfl, rfl, ?_⟩
    repeat' (first
      | (with_reducible apply Given.mk; intro h; (try simp only [eq_self, Bool.not_true, Bool.not_false, Bool.false_eq_true, Bool.true_eq_false, reduceCtorEq] at h); (try exact absurd h (by decide)))
      | ((conv => whnf); with_reducible apply Both.mk))
    all_goals first
      | (with_reducible apply Ob.mk; kernel_rfl)
      | (with_reducible apply Ob.mk; decide)
      | (with_reducible apply Ob.mk; rfl)
      | ((conv => whnf); refine ⟨?_⟩; first | with_reducible rfl | (simp only [pApart, pNo, nZ, *, Bool.true_and, Bool.and_true, Bool.false_and, Bool.and_false, Bool.true_or, Bool.or_true, Bool.false_or, Bool.or_false, Bool.not_true, Bool.not_false, Bool.false_eq_true, Bool.true_eq_false, if_true, if_false, reduceCtorEq]; done) | (simp_all [pApart, pNo, nZ]; done) | rfl)
  · cases h
abbrev tb_scalars_apart : List (Nat × Sp) := (47, sp_scalars_apart) :: tb_scalars_lessSigned
theorem C_scalars_apart (m : Nat → Nat) : CSound Tryd.prog (GS m) (tab (DS m) tb_scalars_apart) := (C_scalars_lessSigned m).cons (e_scalars_apart m)

def sp_scalars_swapped : Sp
  | [.agg [.b64 false a1, .b64 false a2, .b64 false a3, .b64 false a4, .b64 true a5, .b64 true a6], .agg [.b64 false b1, .b64 false b2, .b64 false b3, .b64 false b4, .b64 true b5, .b64 true b6], .one (.bool w)] => some (Cond.t, .tup [(true, [.b64 false b1, .b64 false b2, .b64 false b3, .b64 false b4, .b64 true b5, .b64 true b6]), (true, [.b64 false a1, .b64 false a2, .b64 false a3, .b64 false a4, .b64 true a5, .b64 true a6]), (false, [.bool w])])
  | _ => none
set_option maxRecDepth 100000 in
set_option maxHeartbeats 4000000 in
theorem e_scalars_swapped (m : Nat → Nat) : EntryOK Tryd.prog (GS m) 67 sp_scalars_swapped := by
  refine .of_F (C_scalars_apart m) (by kernel_rfl) Tryd.func67 (by kernel_rfl) (by kernel_rfl) (fun args c v h hc => ?_)
  unfold sp_scalars_swapped at h
  split at h
  · rename_i a1 a2 a3 a4 a5 a6 b1 b2 b3 b4 b5 b6 w; cases h
    refine ⟨rfl, rfl, ?_⟩
    repeat' (first
      | (with_reducible apply Given.mk; intro h; (try exact absurd h (by decide)))
      | ((conv => whnf); with_reducible apply Both.mk))
    all_goals first
      | (with_reducible apply Ob.mk; kernel_rfl)
      | (with_reducible apply Ob.mk; decide)
      | (with_reducible apply Ob.mk; simp [ByteArray.size, catB, exB]; done)
      | ((conv => whnf); refine ⟨?_⟩; first | with_reducible rfl | rfl)
  · cases h
abbrev tb_scalars_swapped : List (Nat × Sp) := (67, sp_scalars_swapped) :: tb_scalars_apart
theorem C_scalars_swapped (m : Nat → Nat) : CSound Tryd.prog (GS m) (tab (DS m) tb_scalars_swapped) := (C_scalars_apart m).cons (e_scalars_swapped m)

def sp_scalars_holding : Sp
  | [.one (.b8 false o), .agg [.b64 false a1, .b64 false a2, .b64 false a3, .b64 false a4, .b64 true a5, .b64 true a6], .agg [.b64 false b1, .b64 false b2, .b64 false b3, .b64 false b4, .b64 true b5, .b64 true b6]] => some (Cond.t, .tup [(true, [.b64 false (((pHold o (NN.mk a1 a2 a3 a4 a5 a6) (NN.mk b1 b2 b3 b4 b5 b6)).x).tv), .b64 false (((pHold o (NN.mk a1 a2 a3 a4 a5 a6) (NN.mk b1 b2 b3 b4 b5 b6)).x).tm), .b64 false (((pHold o (NN.mk a1 a2 a3 a4 a5 a6) (NN.mk b1 b2 b3 b4 b5 b6)).x).lo), .b64 false (((pHold o (NN.mk a1 a2 a3 a4 a5 a6) (NN.mk b1 b2 b3 b4 b5 b6)).x).hi), .b64 true (((pHold o (NN.mk a1 a2 a3 a4 a5 a6) (NN.mk b1 b2 b3 b4 b5 b6)).x).slo), .b64 true (((pHold o (NN.mk a1 a2 a3 a4 a5 a6) (NN.mk b1 b2 b3 b4 b5 b6)).x).shi)]), (true, [.b64 false (((pHold o (NN.mk a1 a2 a3 a4 a5 a6) (NN.mk b1 b2 b3 b4 b5 b6)).y).tv), .b64 false (((pHold o (NN.mk a1 a2 a3 a4 a5 a6) (NN.mk b1 b2 b3 b4 b5 b6)).y).tm), .b64 false (((pHold o (NN.mk a1 a2 a3 a4 a5 a6) (NN.mk b1 b2 b3 b4 b5 b6)).y).lo), .b64 false (((pHold o (NN.mk a1 a2 a3 a4 a5 a6) (NN.mk b1 b2 b3 b4 b5 b6)).y).hi), .b64 true (((pHold o (NN.mk a1 a2 a3 a4 a5 a6) (NN.mk b1 b2 b3 b4 b5 b6)).y).slo), .b64 true (((pHold o (NN.mk a1 a2 a3 a4 a5 a6) (NN.mk b1 b2 b3 b4 b5 b6)).y).shi)]), (false, [.bool ((pHold o (NN.mk a1 a2 a3 a4 a5 a6) (NN.mk b1 b2 b3 b4 b5 b6)).ok)])])
  | _ => none
set_option maxRecDepth 100000 in
set_option maxHeartbeats 4000000 in
theorem e_scalars_holding (m : Nat → Nat) : EntryOK Tryd.prog (GS m) 46 sp_scalars_holding := by
  refine .of_F (C_scalars_swapped m) (by kernel_rfl) Tryd.func46 (by kernel_rfl) (by kernel_rfl) (fun args c v h hc => ?_)
  unfold sp_scalars_holding at h
  split at h
  · rename_i o a1 a2 a3 a4 a5 a6 b1 b2 b3 b4 b5 b6; cases h
    refine ⟨rfl, rfl, ?_⟩
    repeat' (first
      | (with_reducible apply Given.mk; intro h; (try simp only [eq_self, Bool.not_true, Bool.not_false, Bool.false_eq_true, Bool.true_eq_false, reduceCtorEq] at h); (try exact absurd h (by decide)))
      | ((conv => whnf); with_reducible apply Both.mk))
    all_goals first
      | (with_reducible apply Ob.mk; kernel_rfl)
      | (with_reducible apply Ob.mk; decide)
      | (with_reducible apply Ob.mk; rfl)
      | ((conv => whnf); refine ⟨?_⟩; first | with_reducible rfl | (simp only [pHold, P3.swap, pNo, nZ, *, Bool.true_and, Bool.and_true, Bool.false_and, Bool.and_false, Bool.true_or, Bool.or_true, Bool.false_or, Bool.or_false, Bool.not_true, Bool.not_false, Bool.false_eq_true, Bool.true_eq_false, if_true, if_false, reduceCtorEq]; done) | (simp_all [pHold, P3.swap, pNo, nZ]; done) | rfl)
  · cases h
abbrev tb_scalars_holding : List (Nat × Sp) := (46, sp_scalars_holding) :: tb_scalars_swapped
theorem C_scalars_holding (m : Nat → Nat) : CSound Tryd.prog (GS m) (tab (DS m) tb_scalars_holding) := (C_scalars_swapped m).cons (e_scalars_holding m)

def sp_scalars_small : Sp
  | [.one (.b8 false o), .agg [.b64 false a1, .b64 false a2, .b64 false a3, .b64 false a4, .b64 true a5, .b64 true a6], .agg [.b64 false b1, .b64 false b2, .b64 false b3, .b64 false b4, .b64 true b5, .b64 true b6]] => some (Cond.t, .one (.bool (nSmall o (NN.mk a1 a2 a3 a4 a5 a6) (NN.mk b1 b2 b3 b4 b5 b6))))
  | _ => none
set_option maxRecDepth 100000 in
set_option maxHeartbeats 4000000 in
theorem e_scalars_small (m : Nat → Nat) : EntryOK Tryd.prog (GS m) 45 sp_scalars_small := by
  refine .of_F (C_scalars_holding m) (by kernel_rfl) Tryd.func45 (by kernel_rfl) (by kernel_rfl) (fun args c v h hc => ?_)
  unfold sp_scalars_small at h
  split at h
  · rename_i o a1 a2 a3 a4 a5 a6 b1 b2 b3 b4 b5 b6; cases h
    refine ⟨rfl, rfl, ?_⟩
    repeat' (first
      | (with_reducible apply Given.mk; intro h; (try simp only [eq_self, Bool.not_true, Bool.not_false, Bool.false_eq_true, Bool.true_eq_false, reduceCtorEq] at h); (try exact absurd h (by decide)))
      | ((conv => whnf); with_reducible apply Both.mk))
    all_goals first
      | (with_reducible apply Ob.mk; kernel_rfl)
      | (with_reducible apply Ob.mk; decide)
      | (with_reducible apply Ob.mk; rfl)
      | ((conv => whnf); refine ⟨?_⟩; first | with_reducible rfl | (simp only [nSmall, most, *, Bool.true_and, Bool.and_true, Bool.false_and, Bool.and_false, Bool.true_or, Bool.or_true, Bool.false_or, Bool.or_false, Bool.not_true, Bool.not_false, Bool.false_eq_true, Bool.true_eq_false, if_true, if_false, reduceCtorEq]; done) | (simp_all [nSmall, most]; done) | rfl)
  · cases h
abbrev tb_scalars_small : List (Nat × Sp) := (45, sp_scalars_small) :: tb_scalars_holding
theorem C_scalars_small (m : Nat → Nat) : CSound Tryd.prog (GS m) (tab (DS m) tb_scalars_small) := (C_scalars_holding m).cons (e_scalars_small m)

def sp_firewallref17_Has : Sp
  | [.agg [.b64 false a1, .b64 false a2], .agg [.b64 false a3, .b64 false a4], .agg [.b64 true a5, .b64 true a6], .one (.b64 false v)] => some (Cond.t, .one (.bool ((NN.mk a1 a2 a3 a4 a5 a6).has v)))
  | _ => none
set_option maxRecDepth 100000 in
set_option maxHeartbeats 4000000 in
theorem e_firewallref17_Has (m : Nat → Nat) : EntryOK Tryd.prog (GS m) 36 sp_firewallref17_Has := by
  refine .of_F (C_scalars_small m) (by kernel_rfl) Tryd.func36 (by kernel_rfl) (by kernel_rfl) (fun args c v h hc => ?_)
  unfold sp_firewallref17_Has at h
  split at h
  · rename_i a1 a2 a3 a4 a5 a6 v; cases h
    refine ⟨rfl, rfl, ?_⟩
    repeat' (first
      | (with_reducible apply Given.mk; intro h; (try simp only [eq_self, Bool.not_true, Bool.not_false, Bool.false_eq_true, Bool.true_eq_false, reduceCtorEq] at h); (try exact absurd h (by decide)))
      | ((conv => whnf); with_reducible apply Both.mk))
    all_goals first
      | (with_reducible apply Ob.mk; kernel_rfl)
      | (with_reducible apply Ob.mk; decide)
      | (with_reducible apply Ob.mk; rfl)
      | ((conv => whnf); refine ⟨?_⟩; first | with_reducible rfl | (simp only [NN.has, NN.s, *, Bool.true_and, Bool.and_true, Bool.false_and, Bool.and_false, Bool.true_or, Bool.or_true, Bool.false_or, Bool.or_false, Bool.not_true, Bool.not_false, Bool.false_eq_true, Bool.true_eq_false, if_true, if_false, reduceCtorEq]; done) | (simp_all [NN.has, NN.s]; done) | rfl)
  · cases h
abbrev tb_firewallref17_Has : List (Nat × Sp) := (36, sp_firewallref17_Has) :: tb_scalars_small
theorem C_firewallref17_Has (m : Nat → Nat) : CSound Tryd.prog (GS m) (tab (DS m) tb_firewallref17_Has) := (C_scalars_small m).cons (e_firewallref17_Has m)

def sp_firewalllaw17_Has : Sp
  | [.agg [.b64 false a1, .b64 false a2, .b64 false a3, .b64 false a4, .b64 true a5, .b64 true a6], .one (.b64 false v)] => some (Cond.t, .one (.bool ((NN.mk a1 a2 a3 a4 a5 a6).has v)))
  | _ => none
set_option maxRecDepth 100000 in
set_option maxHeartbeats 4000000 in
theorem e_firewalllaw17_Has (m : Nat → Nat) : EntryOK Tryd.prog (GS m) 18 sp_firewalllaw17_Has := by
  refine .of_F (C_firewallref17_Has m) (by kernel_rfl) Tryd.func18 (by kernel_rfl) (by kernel_rfl) (fun args c v h hc => ?_)
  unfold sp_firewalllaw17_Has at h
  split at h
  · rename_i a1 a2 a3 a4 a5 a6 v; cases h
    refine ⟨rfl, rfl, ?_⟩
    repeat' (first
      | (with_reducible apply Given.mk; intro h; (try exact absurd h (by decide)))
      | ((conv => whnf); with_reducible apply Both.mk))
    all_goals first
      | (with_reducible apply Ob.mk; kernel_rfl)
      | (with_reducible apply Ob.mk; decide)
      | (with_reducible apply Ob.mk; simp [ByteArray.size, catB, exB]; done)
      | ((conv => whnf); refine ⟨?_⟩; first | with_reducible rfl | rfl)
  · cases h
abbrev tb_firewalllaw17_Has : List (Nat × Sp) := (18, sp_firewalllaw17_Has) :: tb_firewallref17_Has
theorem C_firewalllaw17_Has (m : Nat → Nat) : CSound Tryd.prog (GS m) (tab (DS m) tb_firewalllaw17_Has) := (C_firewallref17_Has m).cons (e_firewalllaw17_Has m)

def sp_firewalllaw17_Made : Sp
  | [.one (.b64 false v), .agg [.b64 false k, .b64 false p, .b64 false q, .b64 false r, .b64 false s]] => some (Cond.t, .agg [.b64 false ((nMade v k p q r s).tv), .b64 false ((nMade v k p q r s).tm), .b64 false ((nMade v k p q r s).lo), .b64 false ((nMade v k p q r s).hi), .b64 true ((nMade v k p q r s).slo), .b64 true ((nMade v k p q r s).shi)])
  | _ => none
set_option maxRecDepth 100000 in
set_option maxHeartbeats 4000000 in
theorem e_firewalllaw17_Made (m : Nat → Nat) : EntryOK Tryd.prog (GS m) 15 sp_firewalllaw17_Made := by
  refine .of_F (C_firewalllaw17_Has m) (by kernel_rfl) Tryd.func15 (by kernel_rfl) (by kernel_rfl) (fun args c v h hc => ?_)
  unfold sp_firewalllaw17_Made at h
  split at h
  · rename_i v k p q r s; cases h
    refine ⟨rfl, rfl, ?_⟩
    repeat' (first
      | (with_reducible apply Given.mk; intro h; (try exact absurd h (by decide)))
      | ((conv => whnf); with_reducible apply Both.mk))
    all_goals first
      | (with_reducible apply Ob.mk; kernel_rfl)
      | (with_reducible apply Ob.mk; decide)
      | (with_reducible apply Ob.mk; simp [ByteArray.size, catB, exB]; done)
      | ((conv => whnf); refine ⟨?_⟩; first | with_reducible rfl | rfl)
  · cases h
abbrev tb_firewalllaw17_Made : List (Nat × Sp) := (15, sp_firewalllaw17_Made) :: tb_firewalllaw17_Has
theorem C_firewalllaw17_Made (m : Nat → Nat) : CSound Tryd.prog (GS m) (tab (DS m) tb_firewalllaw17_Made) := (C_firewalllaw17_Has m).cons (e_firewalllaw17_Made m)

end Go.Proofs.YtkmggidgfkchfaaDoor

