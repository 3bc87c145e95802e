/-
  cpu.part exactly; what cpu.Exec answers: definitions. Conditions: as typed.
-/
import Derived.Test.YtppankimieopiaaDoorEg
import Derived.Test.YtppankimieopiaaDoorCq
namespace Go.Proofs.YtppankimieopiaaDoor
open Go.Ep Go.RowKit
set_option linter.unusedVariables false
set_option linter.unusedSimpArgs false

def ptQ2 (w : Bool) (h l y : BitVec 64) : BitVec 64 := if w then dvQ h l y else (dQ (h.setWidth 32) (l.setWidth 32) (y.setWidth 32)).setWidth 64
def ptR2 (w : Bool) (h l y : BitVec 64) : BitVec 64 := if w then dvR h l y else (dR (h.setWidth 32) (l.setWidth 32) (y.setWidth 32)).setWidth 64
def sp_part2 : Sp
  | [.one (.bool wd), .one (.b64 false hh), .one (.b64 false l), .one (.b64 false y)] => some (Cond.t, .tup [(false, [.b64 false (if ptK wd hh y then ptQ2 wd hh l y else 0#64)]), (false, [.b64 false (if ptK wd hh y then ptR2 wd hh l y else 0#64)]), (false, [.bool (ptK wd hh y)])])
  | _ => none
set_option maxRecDepth 100000 in
set_option maxHeartbeats 4000000 in
theorem e_part2 (G2 : World → Prop) (D2 : VData) (k2 : DataOK Tryd.prog G2 D2) (m : Nat → Nat) : EntryOK Tryd.prog (and2 (GB m) (and2 (GP m) G2)) 32 sp_part2 := by
  refine .of_F (C_D64 G2 D2 k2 m) (by kernel_rfl) Tryd.func32 (by kernel_rfl) (by kernel_rfl) (fun args c v h hc => ?_)
  unfold sp_part2 at h
  split at h
  · rename_i wd hh l y; cases h
    refine ⟨rfl, rfl, ?_⟩
    cases wd
    all_goals
      repeat' (first
        | (with_reducible apply Given.mk; intro h'; (try exact absurd h' (by decide)); (try exact no2 h' (by with_reducible assumption)); (try exact no2 (by with_reducible assumption) h'))
        | ((conv => whnf); with_reducible apply Both.mk))
      all_goals first
        | (with_reducible apply Ob.mk; assumption)
        | (with_reducible apply Ob.mk; kernel_rfl)
        | ((conv => whnf); refine ⟨?_⟩; first | with_reducible rfl | (simp only [ptK, ptQ2, ptR2, *, if_true, if_false, Bool.not_true, Bool.not_false, Bool.false_eq_true]; done) | rfl)
  · cases h
abbrev tb_part2 (m : Nat → Nat) : List (Nat × Sp) := (32, sp_part2) :: tb_D64 m
theorem C_part2 (G2 : World → Prop) (D2 : VData) (k2 : DataOK Tryd.prog G2 D2) (m : Nat → Nat) : CSound Tryd.prog (and2 (GB m) (and2 (GP m) G2)) (tab (or2 (DB m) (or2 (DP m) D2)) (tb_part2 m)) := (C_D64 G2 D2 k2 m).cons (e_part2 G2 D2 k2 m)
/-- An instruction's fields; a state. -/
structure MX where
  k : BitVec 64
  al : BitVec 64
  cc : BitVec 64
  sz : BitVec 64
  w : Bool
  sh : Bool
  d : BitVec 64
  s : BitVec 64
  dp : BitVec 32
  rl : BitVec 32
  im : BitVec 64
structure MS where
  R : Nat → BitVec 64
  z : Bool
  s : Bool
  c : Bool
  o : Bool
  pc : BitVec 64
abbrev vX (x : MX) : Bool := vld x.k x.al x.cc x.sz x.w x.sh x.d x.s x.dp x.rl x.im
def LS (S : MS) : List L := [.b64 false (S.R 0), .b64 false (S.R 1), .b64 false (S.R 2), .b64 false (S.R 3), .b64 false (S.R 4), .b64 false (S.R 5), .b64 false (S.R 6), .b64 false (S.R 7), .b64 false (S.R 8), .b64 false (S.R 9), .b64 false (S.R 10), .b64 false (S.R 11), .b64 false (S.R 12), .b64 false (S.R 13), .b64 false (S.R 14), .b64 false (S.R 15), .bool S.z, .bool S.s, .bool S.c, .bool S.o, .b64 false S.pc]
def S0 : MS := ⟨fun _ => 0#64, false, false, false, false, 0#64⟩
def setR (R : Nat → BitVec 64) (d : BitVec 64) (v : BitVec 64) : Nat → BitVec 64 := fun j => if d.toNat = j then v else R j
def mvA (w : Bool) (v : BitVec 64) : BitVec 64 := aluD 176#8 w 0#64 v
def arR (w : Bool) (op a b : BitVec 64) : BitVec 64 := aluD (dzV op) w a b
/- The flags of what arithmetic comes to. -/
def mi64 (v : BitVec 64) : Bool := (9223372036854775807#64).ult v
def mi32 (v : BitVec 32) : Bool := (2147483647#32).ult v
def fZ (w : Bool) (r : BitVec 64) : Bool := if w then r == 0#64 else r.setWidth 32 == 0#32
def fS (w : Bool) (r : BitVec 64) : Bool := if w then mi64 r else mi32 (r.setWidth 32)
def fC (w : Bool) (op a b r : BitVec 64) : Bool :=
  if op == 0#64 then (if w then r.ult a else (r.setWidth 32).ult (a.setWidth 32))
  else if op == 5#64 || op == 7#64 then (if w then a.ult b else (a.setWidth 32).ult (b.setWidth 32)) else false
def fO (w : Bool) (op a b r : BitVec 64) : Bool :=
  if op == 0#64 then (if w then mi64 ((a ^^^ r) &&& (b ^^^ r)) else mi32 ((a.setWidth 32 ^^^ r.setWidth 32) &&& (b.setWidth 32 ^^^ r.setWidth 32)))
  else if op == 5#64 || op == 7#64 then (if w then mi64 ((a ^^^ b) &&& (a ^^^ r)) else mi32 ((a.setWidth 32 ^^^ b.setWidth 32) &&& (a.setWidth 32 ^^^ r.setWidth 32))) else false
/-- A state behind arithmetic: its flags; and the register. -/
def arF (w : Bool) (op a b : BitVec 64) (S : MS) : MS := ⟨S.R, fZ w (arR w op a b), fS w (arR w op a b), fC w op a b (arR w op a b), fO w op a b (arR w op a b), S.pc⟩
def put (S : MS) (d v : BitVec 64) : MS := ⟨setR S.R d v, S.z, S.s, S.c, S.o, S.pc⟩
def arP (x : MX) (S : MS) (b : BitVec 64) : MS := if x.al == 7#64 then arF x.w x.al (S.R x.d.toNat) b S else put (arF x.w x.al (S.R x.d.toNat) b S) x.d (mvA x.w (arR x.w x.al (S.R x.d.toNat) b))
def two (S : MS) (a c : BitVec 64) : MS := ⟨fun j => if j = 0 then a else if j = 2 then c else S.R j, S.z, S.s, S.c, S.o, S.pc⟩
/-- What an instruction does, kind by kind. -/
def X_1 (x : MX) (S : MS) : MS := put S x.d (mvA x.w (S.R x.s.toNat))
def X_2 (x : MX) (S : MS) : MS := put S x.d (mvA x.w x.im)
def X_4 (x : MX) (S : MS) : MS := arP x S (S.R x.s.toNat)
def X_5 (x : MX) (S : MS) : MS := arP x S x.im
def X_6 (x : MX) (S : MS) : MS := arF x.w 4#64 (S.R x.d.toNat) (S.R x.s.toNat) S
def X_7 (x : MX) (S : MS) : MS := put (arF x.w 5#64 0#64 (S.R x.d.toNat) S) x.d (mvA x.w (arR x.w 5#64 0#64 (S.R x.d.toNat)))
def X_8 (x : MX) (S : MS) : MS := two S (tmL x.w (S.R 0) (S.R x.d.toNat)) (tmH x.w (S.R 0) (S.R x.d.toNat))
def X_9 (x : MX) (S : MS) : MS := two S (ptQ2 x.w (S.R 2) (S.R 0) (S.R x.d.toNat)) (ptR2 x.w (S.R 2) (S.R 0) (S.R x.d.toNat))
def X_10 (x : MX) (S : MS) : MS := put S x.d (mvA x.w (aluD 32#8 x.w (S.R x.d.toNat) (S.R x.s.toNat)))
def X_11 (x : MX) (S : MS) : MS := put S x.d (mvA x.w (aluD (sfV x.al) x.w (S.R x.d.toNat) x.im))
def X_12 (x : MX) (S : MS) : MS := put S x.d (mvA x.w (aluD (sfV x.al) x.w (S.R x.d.toNat) (S.R 1)))
/-- 0: it does; 2: it may not be; 120: a division that is none. -/
def doB (k : BitVec 64) : Bool := (k.toNat < 13 && !(k.toNat == 0)) || k.toNat == 21
def exE (x : MX) (S : MS) : BitVec 64 := if vX x && doB x.k then (if x.k.toNat == 9 then (if ptK x.w (S.R 2) (S.R x.d.toNat) then 0#64 else 120#64) else 0#64) else 2#64
def exD (x : MX) (S : MS) : MS := match x.k.toNat with
  | 1 => X_1 x S
  | 2 => X_2 x S
  | 3 => X_2 x S
  | 4 => X_4 x S
  | 5 => X_5 x S
  | 6 => X_6 x S
  | 7 => X_7 x S
  | 8 => X_8 x S
  | 9 => X_9 x S
  | 10 => X_10 x S
  | 11 => X_11 x S
  | 12 => X_12 x S
  | _ => S
def exS (x : MX) (S : MS) : MS := if exE x S == 0#64 then exD x S else S0
/-- What Exec answers. -/
def exA (x : MX) (S : MS) : AV := .tup [(true, LS (exS x S)), (false, [.b64 true (exE x S)])]
def sp_Exec : Sp
  | [.agg [.b64 true k, .b64 true al, .b64 true cc, .b64 true sz, .bool w, .bool sh, .b64 true d, .b64 true s, .b32 true dp, .b32 true rl, .b64 true im], .agg [.b64 false r0, .b64 false r1, .b64 false r2, .b64 false r3, .b64 false r4, .b64 false r5, .b64 false r6, .b64 false r7, .b64 false r8, .b64 false r9, .b64 false r10, .b64 false r11, .b64 false r12, .b64 false r13, .b64 false r14, .b64 false r15, .bool fz, .bool fs, .bool fc, .bool fo, .b64 false pc]] => some (Cond.t, exA ⟨k, al, cc, sz, w, sh, d, s, dp, rl, im⟩ ⟨fun j => nthW [r0, r1, r2, r3, r4, r5, r6, r7, r8, r9, r10, r11, r12, r13, r14, r15] j, fz, fs, fc, fo, pc⟩)
  | _ => none
end Go.Proofs.YtppankimieopiaaDoor
