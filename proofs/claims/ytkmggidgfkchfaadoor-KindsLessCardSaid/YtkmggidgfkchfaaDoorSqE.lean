/-
  Package scalars, Assume; the laws' own functions of chapter 17: what they answer, by the evaluator. Conditions: as typed.
-/
import Derived.Test.YtkmggidgfkchfaaDoorSqC
namespace Go.Proofs.YtkmggidgfkchfaaDoor
open Go.Ep Go.RowKit
set_option linter.unusedVariables false
set_option linter.unusedSimpArgs false

structure P3 where
  x : NN
  y : NN
  ok : Bool
def pNo : P3 := ⟨nZ, nZ, false⟩
def pBoth (a b : NN) : P3 := if nOk a && nOk b then ⟨nTight a, nTight b, true⟩ else pNo
def nMeet (a b : NN) : NN := nMk (tBothV a.tv a.tm b.tv b.tm) (tBothM a.tv a.tm b.tv b.tm) (sTight (sMeet a.s b.s))
def pEqual (a b : NN) : P3 := if tBothOk a.tv a.tm b.tv b.tm && sOk (sMeet a.s b.s) then pBoth (nMeet a b) (nMeet a b) else pNo
def wLo (a : NN) (v : BitVec 64) : BitVec 64 := if a.lo == v && v.ult a.hi then a.lo + 1#64 else a.lo
def wHi (a : NN) (v : BitVec 64) : BitVec 64 := if a.hi == v && (wLo a v).ult v then a.hi - 1#64 else a.hi
def nWithout (a : NN) (v : BitVec 64) : NN := ⟨a.tv, a.tm, wLo a v, wHi a v, a.slo, a.shi⟩
def pUnlike (a b : NN) : P3 := if a.tm == 0#64 && b.tm == 0#64 && a.tv == b.tv then pNo else pBoth (if b.tm == 0#64 then nWithout a b.tv else a) (if a.tm == 0#64 then nWithout b a.tv else b)
def byB (same : Bool) : BitVec 64 := if same then 0#64 else 1#64
def pLess (a b : NN) (same : Bool) : P3 :=
  if b.hi.ult (byB same) || (18446744073709551615#64 - byB same).ult a.lo then pNo
  else pBoth ⟨a.tv, a.tm, a.lo, umin a.hi (b.hi - byB same), a.slo, a.shi⟩ ⟨b.tv, b.tm, umax b.lo (a.lo + byB same), b.hi, b.slo, b.shi⟩
def pLessS (a b : NN) (same : Bool) : P3 :=
  if b.shi.slt (sMin + byB same) || (sMax - byB same).slt a.slo then pNo
  else pBoth ⟨a.tv, a.tm, a.lo, a.hi, a.slo, smin a.shi (b.shi - byB same)⟩ ⟨b.tv, b.tm, b.lo, b.hi, smax b.slo (a.slo + byB same), b.shi⟩
theorem pLess_1 {a b : NN} {w : Bool} (h : b.hi.ult (byB w) = true) : pLess a b w = pNo := by rw [pLess, h]; rfl
theorem pLess_2 {a b : NN} {w : Bool} (h : (18446744073709551615#64 - byB w).ult a.lo = true) : pLess a b w = pNo := by rw [pLess, h, Bool.or_true]; rfl
theorem pLess_3 {a b : NN} {w : Bool} (h : b.hi.ult (byB w) = false) (h' : (18446744073709551615#64 - byB w).ult a.lo = false) : pLess a b w =
    pBoth ⟨a.tv, a.tm, a.lo, umin a.hi (b.hi - byB w), a.slo, a.shi⟩ ⟨b.tv, b.tm, umax b.lo (a.lo + byB w), b.hi, b.slo, b.shi⟩ := by rw [pLess, h, h']; rfl
theorem pLessS_1 {a b : NN} {w : Bool} (h : b.shi.slt (sMin + byB w) = true) : pLessS a b w = pNo := by rw [pLessS, h]; rfl
theorem pLessS_2 {a b : NN} {w : Bool} (h : (sMax - byB w).slt a.slo = true) : pLessS a b w = pNo := by rw [pLessS, h, Bool.or_true]; rfl
theorem pLessS_3 {a b : NN} {w : Bool} (h : b.shi.slt (sMin + byB w) = false) (h' : (sMax - byB w).slt a.slo = false) : pLessS a b w =
    pBoth ⟨a.tv, a.tm, a.lo, a.hi, a.slo, smin a.shi (b.shi - byB w)⟩ ⟨b.tv, b.tm, b.lo, b.hi, smax b.slo (a.slo + byB w), b.shi⟩ := by rw [pLessS, h, h']; rfl
def pApart (a b : NN) : P3 := if a.tv &&& b.tv == 0#64 then pBoth ⟨a.tv, a.tm &&& ~~~b.tv, a.lo, a.hi, a.slo, a.shi⟩ ⟨b.tv, b.tm &&& ~~~a.tv, b.lo, b.hi, b.slo, b.shi⟩ else pNo
def P3.swap (p : P3) : P3 := ⟨p.y, p.x, p.ok⟩
def pHold (o : BitVec 8) (a b : NN) : P3 :=
  if o == 16#8 then pEqual a b else if o == 80#8 then pUnlike a b
  else if o == 160#8 || o == 176#8 then pLess a b (o == 176#8) else if o == 32#8 || o == 48#8 then (pLess b a (o == 48#8)).swap
  else if o == 192#8 || o == 208#8 then pLessS a b (o == 208#8) else if o == 96#8 || o == 112#8 then (pLessS b a (o == 112#8)).swap
  else if o == 64#8 && (a.tv ||| a.tm) &&& (b.tv ||| b.tm) == 0#64 then pNo else ⟨a, b, true⟩
def most (o : BitVec 8) : BitVec 64 := if o == 96#8 || o == 112#8 || o == 192#8 || o == 208#8 then 2147483647#64 else 4294967295#64
def nSmall (o : BitVec 8) (a b : NN) : Bool := a.hi.ule (most o) && b.hi.ule (most o)
def pAssume (o : BitVec 8) (w h : Bool) (a b : NN) : P3 :=
  if !w && !(nSmall o a b) then ⟨a, b, true⟩ else if h then pHold o a b else if o == 64#8 then pApart a b
  else if turnH o then pHold (turnV o) a b else ⟨a, b, !(o == 0#8)⟩
def nMade (v k p q r s : BitVec 64) : NN := nMk (v &&& ~~~k) k (sMade v p q r s)


def sp_firewalllaw17_Made : Sp
  | [.one (.b64 false v), .agg [.b64 false k, .b64 false p, .b64 false q, .b64 false r, .b64 false s]] => some (Cond.t, .agg [.b64 false ((nMade v k p q r s).tv), .b64 false ((nMade v k p q r s).tm), .b64 false ((nMade v k p q r s).lo), .b64 false ((nMade v k p q r s).hi), .b64 true ((nMade v k p q r s).slo), .b64 true ((nMade v k p q r s).shi)])
  | _ => none
set_option maxRecDepth 100000 in
set_option maxHeartbeats 4000000 in
theorem e_firewalllaw17_Made (m : Nat → Nat) : EntryOK Tryd.prog (GS m) 15 sp_firewalllaw17_Made := by
  refine .of_F (C_scalars_Do m) (by kernel_rfl) Tryd.func15 (by kernel_rfl) (by kernel_rfl) (fun args c v h hc => ?_)
  unfold sp_firewalllaw17_Made at h
  split at h
  · rename_i v k p q r s; cases h
    refine ⟨rfl, rfl, ?_⟩
    repeat' (first
      | (with_reducible apply Given.mk; intro h; (try exact absurd h (by decide)))
      | ((conv => whnf); with_reducible apply Both.mk))
    all_goals first
      | (with_reducible apply Ob.mk; kernel_rfl)
      | (with_reducible apply Ob.mk; decide)
      | (with_reducible apply Ob.mk; simp [ByteArray.size, catB, exB]; done)
      | ((conv => whnf); refine ⟨?_⟩; first | with_reducible rfl | rfl)
  · cases h
abbrev tb_firewalllaw17_Made : List (Nat × Sp) := (15, sp_firewalllaw17_Made) :: tb_scalars_Do
theorem C_firewalllaw17_Made (m : Nat → Nat) : CSound Tryd.prog (GS m) (tab (DS m) tb_firewalllaw17_Made) := (C_scalars_Do m).cons (e_firewalllaw17_Made m)

end Go.Proofs.YtkmggidgfkchfaaDoor

