/-
  Package spans. Conditions: as typed.
-/
import Derived.Test.YtkmggidgfkchfaaDoorSqT
import Derived.Laws.Externs
namespace Go.Proofs.YtkmggidgfkchfaaDoor
open Go.Ep Go.RowKit
set_option linter.unusedVariables false
set_option linter.unusedSimpArgs false




structure SS where
  lo : BitVec 64
  hi : BitVec 64
  slo : BitVec 64
  shi : BitVec 64
def smax (x y : BitVec 64) : BitVec 64 := if x.slt y then y else x
def smin (x y : BitVec 64) : BitVec 64 := if y.slt x then y else x
def umax (x y : BitVec 64) : BitVec 64 := if x.ult y then y else x
def umin (x y : BitVec 64) : BitVec 64 := if y.ult x then y else x
abbrev sMin : BitVec 64 := 9223372036854775808#64
abbrev sMax : BitVec 64 := 9223372036854775807#64
def SS.valid (s : SS) : Bool := s.lo.ule s.hi && s.slo.sle s.shi
def SS.has (s : SS) (v : BitVec 64) : Bool := s.lo.ule v && v.ule s.hi && s.slo.sle v && v.sle s.shi
def sIn (a b : SS) : Bool := a.lo.ule b.lo && b.hi.ule a.hi && a.slo.sle b.slo && b.shi.sle a.shi
def step1 (s : SS) : SS := if s.lo.sle s.hi then ⟨s.lo, s.hi, smax s.slo s.lo, smin s.shi s.hi⟩ else s
def step2 (s : SS) : SS := if (0#64).sle s.slo || s.shi.slt 0#64 then ⟨umax s.lo s.slo, umin s.hi s.shi, s.slo, s.shi⟩ else s
def sOk (s : SS) : Bool := s.valid && (step2 (step1 s)).valid
def sTight (s : SS) : SS := if sOk s then step2 (step1 s) else ⟨0#64, 0#64, 0#64, 0#64⟩
def sTt (s : SS) : SS := if sOk s then sTight s else s
def sAny : SS := ⟨0#64, ~~~0#64, sMin, sMax⟩
def sFrom (lo hi : BitVec 64) : SS := sTt ⟨lo, hi, sMin, sMax⟩
def sMeet (a b : SS) : SS := ⟨umax a.lo b.lo, umin a.hi b.hi, smax a.slo b.slo, smin a.shi b.shi⟩

def sAdd (a b : SS) : SS :=
  sTt ⟨if BitVec.ofNat 64 ((a.hi.toNat + b.hi.toNat + (0#64).toNat) / 18446744073709551616) == 0#64 then a.lo + b.lo else 0#64, if BitVec.ofNat 64 ((a.hi.toNat + b.hi.toNat + (0#64).toNat) / 18446744073709551616) == 0#64 then a.hi + b.hi + 0#64 else ~~~0#64,
    if (a.slo + b.slo).slt a.slo == b.slo.slt 0#64 && (a.shi + b.shi).slt a.shi == b.shi.slt 0#64 then a.slo + b.slo else sMin, if (a.slo + b.slo).slt a.slo == b.slo.slt 0#64 && (a.shi + b.shi).slt a.shi == b.shi.slt 0#64 then a.shi + b.shi else sMax⟩
def sSub (a b : SS) : SS :=
  sTt ⟨if b.hi.ule a.lo then a.lo - b.hi else 0#64, if b.hi.ule a.lo then a.hi - b.lo else ~~~0#64,
    if a.slo.slt (a.slo - b.shi) == b.shi.slt 0#64 && a.shi.slt (a.shi - b.slo) == b.slo.slt 0#64 then a.slo - b.shi else sMin, if a.slo.slt (a.slo - b.shi) == b.shi.slt 0#64 && a.shi.slt (a.shi - b.slo) == b.slo.slt 0#64 then a.shi - b.slo else sMax⟩
def sMul (a b : SS) : SS := if BitVec.ofNat 64 (a.hi.toNat * b.hi.toNat / 18446744073709551616) == 0#64 then sFrom (a.lo * b.lo) (a.hi * b.hi) else sAny
def sDiv (a b : SS) : SS := if b.lo == 0#64 || b.hi == 0#64 then sFrom 0#64 a.hi else sFrom (a.lo / b.hi) (a.hi / b.lo)
def sMod (a b : SS) : SS := if b.lo == 0#64 then sFrom 0#64 a.hi else sFrom 0#64 (umin a.hi (b.hi - 1#64))
def sLsh (a : SS) (n : BitVec 64) : SS := if a.hi.ule (~~~0#64 >>> (n &&& 63#64).toNat) then sFrom (a.lo <<< (n &&& 63#64).toNat) (a.hi <<< (n &&& 63#64).toNat) else sAny
def sLow (a : SS) : SS := if a.hi.ule 4294967295#64 then sTt a else sFrom 0#64 4294967295#64



def sp_spans_Const : Sp
  | [.one (.b64 false v)] => some (Cond.t, .agg [.b64 false v, .b64 false v, .b64 true v, .b64 true v])
  | _ => none
set_option maxRecDepth 100000 in
set_option maxHeartbeats 4000000 in
theorem e_spans_Const (m : Nat → Nat) : EntryOK Tryd.prog (GS m) 33 sp_spans_Const := by
  refine .of_F (C_tnums_Mul m) (by kernel_rfl) Tryd.func33 (by kernel_rfl) (by kernel_rfl) (fun args c v h hc => ?_)
  unfold sp_spans_Const at h
  split at h
  · rename_i v; cases h
    refine ⟨rfl, rfl, ?_⟩
    repeat' (first
      | (with_reducible apply Given.mk; intro h; (try exact absurd h (by decide)))
      | ((conv => whnf); with_reducible apply Both.mk))
    all_goals first
      | (with_reducible apply Ob.mk; kernel_rfl)
      | (with_reducible apply Ob.mk; decide)
      | (with_reducible apply Ob.mk; simp [ByteArray.size, catB, exB]; done)
      | ((conv => whnf); refine ⟨?_⟩; first | with_reducible rfl | rfl)
  · cases h
abbrev tb_spans_Const : List (Nat × Sp) := (33, sp_spans_Const) :: tb_tnums_Mul
theorem C_spans_Const (m : Nat → Nat) : CSound Tryd.prog (GS m) (tab (DS m) tb_spans_Const) := (C_tnums_Mul m).cons (e_spans_Const m)

def sp_spans_Any : Sp
  | [] => some (Cond.t, .agg [.b64 false (sAny.lo), .b64 false (sAny.hi), .b64 true (sAny.slo), .b64 true (sAny.shi)])
  | _ => none
set_option maxRecDepth 100000 in
set_option maxHeartbeats 4000000 in
theorem e_spans_Any (m : Nat → Nat) : EntryOK Tryd.prog (GS m) 39 sp_spans_Any := by
  refine .of_F (C_spans_Const m) (by kernel_rfl) Tryd.func39 (by kernel_rfl) (by kernel_rfl) (fun args c v h hc => ?_)
  unfold sp_spans_Any at h
  split at h
  · cases h
    refine ⟨rfl, rfl, ?_⟩
    repeat' (first
      | (with_reducible apply Given.mk; intro h; (try exact absurd h (by decide)))
      | ((conv => whnf); with_reducible apply Both.mk))
    all_goals first
      | (with_reducible apply Ob.mk; kernel_rfl)
      | (with_reducible apply Ob.mk; decide)
      | (with_reducible apply Ob.mk; simp [ByteArray.size, catB, exB]; done)
      | ((conv => whnf); refine ⟨?_⟩; first | with_reducible rfl | rfl)
  · cases h
abbrev tb_spans_Any : List (Nat × Sp) := (39, sp_spans_Any) :: tb_spans_Const
theorem C_spans_Any (m : Nat → Nat) : CSound Tryd.prog (GS m) (tab (DS m) tb_spans_Any) := (C_spans_Const m).cons (e_spans_Any m)

def sp_spans_Valid : Sp
  | [.agg [.b64 false a, .b64 false b, .b64 true c, .b64 true d]] => some (Cond.t, .one (.bool ((SS.mk a b c d).valid)))
  | _ => none
set_option maxRecDepth 100000 in
set_option maxHeartbeats 4000000 in
theorem e_spans_Valid (m : Nat → Nat) : EntryOK Tryd.prog (GS m) 81 sp_spans_Valid := by
  refine .of_F (C_spans_Any m) (by kernel_rfl) Tryd.func81 (by kernel_rfl) (by kernel_rfl) (fun args c v h hc => ?_)
  unfold sp_spans_Valid at h
  split at h
  · rename_i a b c d; cases h
    refine ⟨rfl, rfl, ?_⟩
    conv => whnf
    refine Both.mk (Given.mk fun h => ?_) (Given.mk fun h => ?_)
    · conv => whnf
      refine ⟨?_⟩
      simp only [SS.valid, h, Bool.true_and]
    · conv => whnf
      refine ⟨?_⟩
      simp only [SS.valid, h, Bool.false_and]
  · cases h
abbrev tb_spans_Valid : List (Nat × Sp) := (81, sp_spans_Valid) :: tb_spans_Any
theorem C_spans_Valid (m : Nat → Nat) : CSound Tryd.prog (GS m) (tab (DS m) tb_spans_Valid) := (C_spans_Any m).cons (e_spans_Valid m)

def sp_spans_Has : Sp
  | [.agg [.b64 false a, .b64 false b, .b64 true c, .b64 true d], .one (.b64 false v)] => some (Cond.t, .one (.bool ((SS.mk a b c d).has v)))
  | _ => none
set_option maxRecDepth 100000 in
set_option maxHeartbeats 4000000 in
theorem e_spans_Has (m : Nat → Nat) : EntryOK Tryd.prog (GS m) 56 sp_spans_Has := by
  refine .of_F (C_spans_Valid m) (by kernel_rfl) Tryd.func56 (by kernel_rfl) (by kernel_rfl) (fun args c v h hc => ?_)
  unfold sp_spans_Has at h
  split at h
  · rename_i a b c d v; cases h
    refine ⟨rfl, rfl, ?_⟩
    repeat' (first
      | (with_reducible apply Given.mk; intro h)
      | ((conv => whnf); with_reducible apply Both.mk))
    all_goals first
      | (with_reducible apply Ob.mk; kernel_rfl)
      | ((conv => whnf); refine ⟨?_⟩; simp only [SS.has, *, Bool.true_and, Bool.and_true, Bool.false_and, Bool.and_false, Bool.false_eq_true, Bool.true_eq_false, reduceCtorEq] at *; done)
      | ((conv => whnf); refine ⟨?_⟩; simp_all [SS.has]; done)
  · cases h
abbrev tb_spans_Has : List (Nat × Sp) := (56, sp_spans_Has) :: tb_spans_Valid
theorem C_spans_Has (m : Nat → Nat) : CSound Tryd.prog (GS m) (tab (DS m) tb_spans_Has) := (C_spans_Valid m).cons (e_spans_Has m)

def sp_spans_In : Sp
  | [.agg [.b64 false a, .b64 false b, .b64 true c, .b64 true d], .agg [.b64 false e, .b64 false f, .b64 true g, .b64 true k]] => some (Cond.t, .one (.bool (sIn ⟨a, b, c, d⟩ ⟨e, f, g, k⟩)))
  | _ => none
set_option maxRecDepth 100000 in
set_option maxHeartbeats 4000000 in
theorem e_spans_In (m : Nat → Nat) : EntryOK Tryd.prog (GS m) 54 sp_spans_In := by
  refine .of_F (C_spans_Has m) (by kernel_rfl) Tryd.func54 (by kernel_rfl) (by kernel_rfl) (fun args c v h hc => ?_)
  unfold sp_spans_In at h
  split at h
  · rename_i a b c d e f g k; cases h
    refine ⟨rfl, rfl, ?_⟩
    repeat' (first
      | (with_reducible apply Given.mk; intro h)
      | ((conv => whnf); with_reducible apply Both.mk))
    all_goals first
      | (with_reducible apply Ob.mk; kernel_rfl)
      | ((conv => whnf); refine ⟨?_⟩; simp_all [sIn]; done)
  · cases h
abbrev tb_spans_In : List (Nat × Sp) := (54, sp_spans_In) :: tb_spans_Has
theorem C_spans_In (m : Nat → Nat) : CSound Tryd.prog (GS m) (tab (DS m) tb_spans_In) := (C_spans_Has m).cons (e_spans_In m)

def sp_spans_Tight : Sp
  | [.agg [.b64 false a, .b64 false b, .b64 true c, .b64 true d]] => some (Cond.t, .tup [(true, [.b64 false ((sTight ⟨a, b, c, d⟩).lo), .b64 false ((sTight ⟨a, b, c, d⟩).hi), .b64 true ((sTight ⟨a, b, c, d⟩).slo), .b64 true ((sTight ⟨a, b, c, d⟩).shi)]), (false, [.bool (sOk ⟨a, b, c, d⟩)])])
  | _ => none
set_option maxRecDepth 100000 in
set_option maxHeartbeats 4000000 in
theorem e_spans_Tight (m : Nat → Nat) : EntryOK Tryd.prog (GS m) 70 sp_spans_Tight := by
  refine .of_F (C_spans_In m) (by kernel_rfl) Tryd.func70 (by kernel_rfl) (by kernel_rfl) (fun args c v h hc => ?_)
  unfold sp_spans_Tight at h
  split at h
  · rename_i a b c d; cases h
    refine ⟨rfl, rfl, ?_⟩
    repeat' (first
      | (with_reducible apply Given.mk; intro h)
      | ((conv => whnf); with_reducible apply Both.mk))
    all_goals first
      | (with_reducible apply Ob.mk; kernel_rfl)
      | ((conv => whnf); refine ⟨?_⟩; simp_all [sTight, sOk, step1, step2, smax, smin, umax, umin]; done)
  · cases h
abbrev tb_spans_Tight : List (Nat × Sp) := (70, sp_spans_Tight) :: tb_spans_In
theorem C_spans_Tight (m : Nat → Nat) : CSound Tryd.prog (GS m) (tab (DS m) tb_spans_Tight) := (C_spans_In m).cons (e_spans_Tight m)

def sp_spans_tight : Sp
  | [.agg [.b64 false a, .b64 false b, .b64 true c, .b64 true d]] => some (Cond.t, .agg [.b64 false ((sTt ⟨a, b, c, d⟩).lo), .b64 false ((sTt ⟨a, b, c, d⟩).hi), .b64 true ((sTt ⟨a, b, c, d⟩).slo), .b64 true ((sTt ⟨a, b, c, d⟩).shi)])
  | _ => none
set_option maxRecDepth 100000 in
set_option maxHeartbeats 4000000 in
theorem e_spans_tight (m : Nat → Nat) : EntryOK Tryd.prog (GS m) 72 sp_spans_tight := by
  refine .of_F (C_spans_Tight m) (by kernel_rfl) Tryd.func72 (by kernel_rfl) (by kernel_rfl) (fun args c v h hc => ?_)
  unfold sp_spans_tight at h
  split at h
  · rename_i a b c d; cases h
    refine ⟨rfl, rfl, ?_⟩
    repeat' (first
      | (with_reducible apply Given.mk; intro h)
      | ((conv => whnf); with_reducible apply Both.mk))
    all_goals first
      | (with_reducible apply Ob.mk; kernel_rfl)
      | ((conv => whnf); refine ⟨?_⟩; simp_all [sTt]; done)
  · cases h
abbrev tb_spans_tight : List (Nat × Sp) := (72, sp_spans_tight) :: tb_spans_Tight
theorem C_spans_tight (m : Nat → Nat) : CSound Tryd.prog (GS m) (tab (DS m) tb_spans_tight) := (C_spans_Tight m).cons (e_spans_tight m)

def sp_spans_Upto : Sp
  | [.one (.b64 false b)] => some (Cond.t, .agg [.b64 false ((sFrom 0#64 b).lo), .b64 false ((sFrom 0#64 b).hi), .b64 true ((sFrom 0#64 b).slo), .b64 true ((sFrom 0#64 b).shi)])
  | _ => none
set_option maxRecDepth 100000 in
set_option maxHeartbeats 4000000 in
theorem e_spans_Upto (m : Nat → Nat) : EntryOK Tryd.prog (GS m) 52 sp_spans_Upto := by
  refine .of_F (C_spans_tight m) (by kernel_rfl) Tryd.func52 (by kernel_rfl) (by kernel_rfl) (fun args c v h hc => ?_)
  unfold sp_spans_Upto at h
  split at h
  · rename_i b; cases h
    refine ⟨rfl, rfl, ?_⟩
    repeat' (first
      | (with_reducible apply Given.mk; intro h)
      | ((conv => whnf); with_reducible apply Both.mk))
    all_goals first
      | (with_reducible apply Ob.mk; kernel_rfl)
      | ((conv => whnf); exact ⟨rfl⟩)
  · cases h
abbrev tb_spans_Upto : List (Nat × Sp) := (52, sp_spans_Upto) :: tb_spans_tight
theorem C_spans_Upto (m : Nat → Nat) : CSound Tryd.prog (GS m) (tab (DS m) tb_spans_Upto) := (C_spans_tight m).cons (e_spans_Upto m)

def sp_spans_from : Sp
  | [.one (.b64 false a), .one (.b64 false b)] => some (Cond.t, .agg [.b64 false ((sFrom a b).lo), .b64 false ((sFrom a b).hi), .b64 true ((sFrom a b).slo), .b64 true ((sFrom a b).shi)])
  | _ => none
set_option maxRecDepth 100000 in
set_option maxHeartbeats 4000000 in
theorem e_spans_from (m : Nat → Nat) : EntryOK Tryd.prog (GS m) 79 sp_spans_from := by
  refine .of_F (C_spans_Upto m) (by kernel_rfl) Tryd.func79 (by kernel_rfl) (by kernel_rfl) (fun args c v h hc => ?_)
  unfold sp_spans_from at h
  split at h
  · rename_i a b; cases h
    refine ⟨rfl, rfl, ?_⟩
    repeat' (first
      | (with_reducible apply Given.mk; intro h)
      | ((conv => whnf); with_reducible apply Both.mk))
    all_goals first
      | (with_reducible apply Ob.mk; kernel_rfl)
      | ((conv => whnf); exact ⟨rfl⟩)
  · cases h
abbrev tb_spans_from : List (Nat × Sp) := (79, sp_spans_from) :: tb_spans_Upto
theorem C_spans_from (m : Nat → Nat) : CSound Tryd.prog (GS m) (tab (DS m) tb_spans_from) := (C_spans_Upto m).cons (e_spans_from m)

def sp_spans_Both : Sp
  | [.agg [.b64 false a, .b64 false b, .b64 true c, .b64 true d], .agg [.b64 false e, .b64 false f, .b64 true g, .b64 true k]] => some (Cond.t, .tup [(true, [.b64 false ((sTight (sMeet ⟨a, b, c, d⟩ ⟨e, f, g, k⟩)).lo), .b64 false ((sTight (sMeet ⟨a, b, c, d⟩ ⟨e, f, g, k⟩)).hi), .b64 true ((sTight (sMeet ⟨a, b, c, d⟩ ⟨e, f, g, k⟩)).slo), .b64 true ((sTight (sMeet ⟨a, b, c, d⟩ ⟨e, f, g, k⟩)).shi)]), (false, [.bool (sOk (sMeet ⟨a, b, c, d⟩ ⟨e, f, g, k⟩))])])
  | _ => none
set_option maxRecDepth 100000 in
set_option maxHeartbeats 4000000 in
theorem e_spans_Both (m : Nat → Nat) : EntryOK Tryd.prog (GS m) 49 sp_spans_Both := by
  refine .of_F (C_spans_from m) (by kernel_rfl) Tryd.func49 (by kernel_rfl) (by kernel_rfl) (fun args c v h hc => ?_)
  unfold sp_spans_Both at h
  split at h
  · rename_i a b c d e f g k; cases h
    refine ⟨rfl, rfl, ?_⟩
    repeat' (first
      | (with_reducible apply Given.mk; intro h)
      | ((conv => whnf); with_reducible apply Both.mk))
    all_goals first
      | (with_reducible apply Ob.mk; kernel_rfl)
      | ((conv => whnf); exact ⟨rfl⟩)
  · cases h
abbrev tb_spans_Both : List (Nat × Sp) := (49, sp_spans_Both) :: tb_spans_from
theorem C_spans_Both (m : Nat → Nat) : CSound Tryd.prog (GS m) (tab (DS m) tb_spans_Both) := (C_spans_from m).cons (e_spans_Both m)

def sp_bits_Add64 : Sp
  | [.one (.b64 false x), .one (.b64 false y), .one (.b64 false c)] => some (Cond.p (c.toNat ≤ 1), .tup [(false, [.b64 false (x + y + c)]), (false, [.b64 false (BitVec.ofNat 64 ((x.toNat + y.toNat + c.toNat) / 18446744073709551616))])])
  | _ => none
set_option maxRecDepth 100000 in
theorem e_bits_Add64 (m : Nat → Nat) : EntryX Tryd.prog (GS m) 115 sp_bits_Add64 := by
  refine ⟨fun args c v h hc => ?_⟩
  unfold sp_bits_Add64 at h
  split at h
  · rename_i x y c; cases h
    refine ⟨rfl, fun us ρ hr w _ => ?_⟩
    obtain ⟨u, v, t, rfl, h1, h2, h3⟩ : ∃ u v t, us = [u, v, t] ∧ RelL ρ (.b64 false x) u ∧ RelL ρ (.b64 false y) v ∧ RelL ρ (.b64 false c) t := by
      match us, hr with
      | [u, v, t], ⟨h1, h2, h3, _⟩ => exact ⟨u, v, t, rfl, h1, h2, h3⟩
    obtain rfl := h1 (by simp)
    obtain rfl := h2 (by simp)
    obtain rfl := h3 (by simp)
    have hc : c.toNat ≤ 1 := hc
    have h4 := x.isLt
    have h5 := y.isLt
    have hrun : (callFunc 115 #[.int .u64 (x.toNat : Int), .int .u64 (y.toNat : Int), .int .u64 (c.toNat : Int)]).run Tryd.prog w =
        .ok (.value (.tuple #[.int .u64 (((x.toNat + y.toNat + c.toNat : Nat) : Int) % 18446744073709551616), .int .u64 (((x.toNat + y.toNat + c.toNat : Nat) : Int) / 18446744073709551616)])) w := by
      rw [run_callFunc_extern Tryd.func115 (by kernel_rfl) (by kernel_rfl) (by kernel_rfl) (e := add64Entry) (by kernel_rfl), run_add64 _ _ _ (by omega) (by omega) (by omega) (by omega)]
      simp only [Result.andThen, Int.natCast_add]
    refine ⟨_, w, hrun, ⟨_, rfl, fun _ => ?_, fun _ => ?_, trivial⟩, Below.refl _ _⟩
    · simp only [gL, k64, vI, BitVec.toNat_add]
      congr 1
      omega
    · simp only [gL, k64, vI, BitVec.toNat_ofNat]
      congr 1
      omega
  · cases h
abbrev tb_bits_Add64 : List (Nat × Sp) := (115, sp_bits_Add64) :: tb_spans_Both
theorem C_bits_Add64 (m : Nat → Nat) : CSound Tryd.prog (GS m) (tab (DS m) tb_bits_Add64) := (C_spans_Both m).consX (e_bits_Add64 m)

def sp_bits_Mul64 : Sp
  | [.one (.b64 false x), .one (.b64 false y)] => some (Cond.t, .tup [(false, [.b64 false (BitVec.ofNat 64 (x.toNat * y.toNat / 18446744073709551616))]), (false, [.b64 false (x * y)])])
  | _ => none
set_option maxRecDepth 100000 in
theorem e_bits_Mul64 (m : Nat → Nat) : EntryOK Tryd.prog (GS m) 117 sp_bits_Mul64 := by
  refine ⟨⟨_, Tryd.func117, by kernel_rfl, by kernel_rfl⟩, fun args c v h hc => ?_⟩
  unfold sp_bits_Mul64 at h
  split at h
  · rename_i x y; cases h
    refine ⟨rfl, fun us ρ hr w _ => ?_⟩
    obtain ⟨u, v, rfl, h1, h2⟩ : ∃ u v, us = [u, v] ∧ RelL ρ (.b64 false x) u ∧ RelL ρ (.b64 false y) v := by
      match us, hr with
      | [u, v], ⟨h1, h2, _⟩ => exact ⟨u, v, rfl, h1, h2⟩
    obtain rfl := h1 (by simp)
    obtain rfl := h2 (by simp)
    have h3 := x.isLt
    have h4 := y.isLt
    refine (Tryd.bits_Mul64 x.toNat y.toNat h3 h4 w).mono ?_
    rintro e w' ⟨rfl, rfl⟩
    refine ⟨_, rfl, ⟨_, rfl, fun _ => ?_, fun _ => ?_, trivial⟩, Below.refl _ _⟩
    · have h5 : x.toNat * y.toNat / 18446744073709551616 < 18446744073709551616 := by
        apply Nat.div_lt_of_lt_mul
        exact Nat.mul_lt_mul'' h3 h4
      simp only [gL, k64, vI, BitVec.toNat_ofNat]
      rw [Nat.mod_eq_of_lt h5]
    · simp only [gL, k64, vI, BitVec.toNat_mul]
  · cases h
abbrev tb_bits_Mul64 : List (Nat × Sp) := (117, sp_bits_Mul64) :: tb_bits_Add64
theorem C_bits_Mul64 (m : Nat → Nat) : CSound Tryd.prog (GS m) (tab (DS m) tb_bits_Mul64) := (C_bits_Add64 m).cons (e_bits_Mul64 m)

def sp_spans_Add : Sp
  | [.agg [.b64 false a, .b64 false b, .b64 true c, .b64 true d], .agg [.b64 false e, .b64 false f, .b64 true g, .b64 true k]] => some (Cond.t, .agg [.b64 false ((sAdd ⟨a, b, c, d⟩ ⟨e, f, g, k⟩).lo), .b64 false ((sAdd ⟨a, b, c, d⟩ ⟨e, f, g, k⟩).hi), .b64 true ((sAdd ⟨a, b, c, d⟩ ⟨e, f, g, k⟩).slo), .b64 true ((sAdd ⟨a, b, c, d⟩ ⟨e, f, g, k⟩).shi)])
  | _ => none
set_option maxRecDepth 100000 in
set_option maxHeartbeats 4000000 in
theorem e_spans_Add (m : Nat → Nat) : EntryOK Tryd.prog (GS m) 101 sp_spans_Add := by
  refine .of_F (C_bits_Mul64 m) (by kernel_rfl) Tryd.func101 (by kernel_rfl) (by kernel_rfl) (fun args c v h hc => ?_)
  unfold sp_spans_Add at h
  split at h
  · rename_i a b c d e f g k; cases h
    refine ⟨rfl, rfl, ?_⟩
    repeat' (first
      | (with_reducible apply Given.mk; intro h)
      | ((conv => whnf); with_reducible apply Both.mk))
    all_goals first
      | (with_reducible apply Ob.mk; kernel_rfl)
      | ((conv => whnf); refine ⟨?_⟩; simp_all [sAdd, sAny]; done)
  · cases h
abbrev tb_spans_Add : List (Nat × Sp) := (101, sp_spans_Add) :: tb_bits_Mul64
theorem C_spans_Add (m : Nat → Nat) : CSound Tryd.prog (GS m) (tab (DS m) tb_spans_Add) := (C_bits_Mul64 m).cons (e_spans_Add m)

def sp_spans_Sub : Sp
  | [.agg [.b64 false a, .b64 false b, .b64 true c, .b64 true d], .agg [.b64 false e, .b64 false f, .b64 true g, .b64 true k]] => some (Cond.t, .agg [.b64 false ((sSub ⟨a, b, c, d⟩ ⟨e, f, g, k⟩).lo), .b64 false ((sSub ⟨a, b, c, d⟩ ⟨e, f, g, k⟩).hi), .b64 true ((sSub ⟨a, b, c, d⟩ ⟨e, f, g, k⟩).slo), .b64 true ((sSub ⟨a, b, c, d⟩ ⟨e, f, g, k⟩).shi)])
  | _ => none
set_option maxRecDepth 100000 in
set_option maxHeartbeats 4000000 in
theorem e_spans_Sub (m : Nat → Nat) : EntryOK Tryd.prog (GS m) 103 sp_spans_Sub := by
  refine .of_F (C_spans_Add m) (by kernel_rfl) Tryd.func103 (by kernel_rfl) (by kernel_rfl) (fun args c v h hc => ?_)
  unfold sp_spans_Sub at h
  split at h
  · rename_i a b c d e f g k; cases h
    refine ⟨rfl, rfl, ?_⟩
    repeat' (first
      | (with_reducible apply Given.mk; intro h)
      | ((conv => whnf); with_reducible apply Both.mk))
    all_goals first
      | (with_reducible apply Ob.mk; kernel_rfl)
      | ((conv => whnf); refine ⟨?_⟩; simp_all [sSub, sAny]; done)
  · cases h
abbrev tb_spans_Sub : List (Nat × Sp) := (103, sp_spans_Sub) :: tb_spans_Add
theorem C_spans_Sub (m : Nat → Nat) : CSound Tryd.prog (GS m) (tab (DS m) tb_spans_Sub) := (C_spans_Add m).cons (e_spans_Sub m)

def sp_spans_Mul : Sp
  | [.agg [.b64 false a, .b64 false b, .b64 true c, .b64 true d], .agg [.b64 false e, .b64 false f, .b64 true g, .b64 true k]] => some (Cond.t, .agg [.b64 false ((sMul ⟨a, b, c, d⟩ ⟨e, f, g, k⟩).lo), .b64 false ((sMul ⟨a, b, c, d⟩ ⟨e, f, g, k⟩).hi), .b64 true ((sMul ⟨a, b, c, d⟩ ⟨e, f, g, k⟩).slo), .b64 true ((sMul ⟨a, b, c, d⟩ ⟨e, f, g, k⟩).shi)])
  | _ => none
set_option maxRecDepth 100000 in
set_option maxHeartbeats 4000000 in
theorem e_spans_Mul (m : Nat → Nat) : EntryOK Tryd.prog (GS m) 105 sp_spans_Mul := by
  refine .of_F (C_spans_Sub m) (by kernel_rfl) Tryd.func105 (by kernel_rfl) (by kernel_rfl) (fun args c v h hc => ?_)
  unfold sp_spans_Mul at h
  split at h
  · rename_i a b c d e f g k; cases h
    refine ⟨rfl, rfl, ?_⟩
    repeat' (first
      | (with_reducible apply Given.mk; intro h)
      | ((conv => whnf); with_reducible apply Both.mk))
    all_goals first
      | (with_reducible apply Ob.mk; kernel_rfl)
      | ((conv => whnf); refine ⟨?_⟩; simp_all [sMul, sAny]; done)
  · cases h
abbrev tb_spans_Mul : List (Nat × Sp) := (105, sp_spans_Mul) :: tb_spans_Sub
theorem C_spans_Mul (m : Nat → Nat) : CSound Tryd.prog (GS m) (tab (DS m) tb_spans_Mul) := (C_spans_Sub m).cons (e_spans_Mul m)

def sp_spans_And : Sp
  | [.agg [.b64 false a, .b64 false b, .b64 true c, .b64 true d], .agg [.b64 false e, .b64 false f, .b64 true g, .b64 true k]] => some (Cond.t, .agg [.b64 false ((sFrom 0#64 (umin b f)).lo), .b64 false ((sFrom 0#64 (umin b f)).hi), .b64 true ((sFrom 0#64 (umin b f)).slo), .b64 true ((sFrom 0#64 (umin b f)).shi)])
  | _ => none
set_option maxRecDepth 100000 in
set_option maxHeartbeats 4000000 in
theorem e_spans_And (m : Nat → Nat) : EntryOK Tryd.prog (GS m) 107 sp_spans_And := by
  refine .of_F (C_spans_Mul m) (by kernel_rfl) Tryd.func107 (by kernel_rfl) (by kernel_rfl) (fun args c v h hc => ?_)
  unfold sp_spans_And at h
  split at h
  · rename_i a b c d e f g k; cases h
    refine ⟨rfl, rfl, ?_⟩
    repeat' (first
      | (with_reducible apply Given.mk; intro h)
      | ((conv => whnf); with_reducible apply Both.mk))
    all_goals first
      | (with_reducible apply Ob.mk; kernel_rfl)
      | ((conv => whnf); exact ⟨rfl⟩)
  · cases h
abbrev tb_spans_And : List (Nat × Sp) := (107, sp_spans_And) :: tb_spans_Mul
theorem C_spans_And (m : Nat → Nat) : CSound Tryd.prog (GS m) (tab (DS m) tb_spans_And) := (C_spans_Mul m).cons (e_spans_And m)

def sp_spans_below : Sp
  | [.one (.b64 false v)] => some (Cond.t, .one (.b64 false (belowB v)))
  | _ => none
set_option maxRecDepth 100000 in
set_option maxHeartbeats 4000000 in
theorem e_spans_below (m : Nat → Nat) : EntryOK Tryd.prog (GS m) 118 sp_spans_below := by
  refine .of_F (C_spans_And m) (by kernel_rfl) Tryd.func118 (by kernel_rfl) (by kernel_rfl) (fun args c v h hc => ?_)
  unfold sp_spans_below at h
  split at h
  · rename_i v; cases h
    refine ⟨rfl, rfl, ?_⟩
    have hl := bitLen_le64 v.toNat
    conv => whnf
    refine Both.mk (Ob.mk ?_) ?_
    · have : (BitVec.ofNat 64 (Lib.bitLen v.toNat)).toInt = vI true (BitVec.ofNat 64 (Lib.bitLen v.toNat)) := rfl
      rw [this, vI_len (by omega)]; omega
    · conv => whnf
      refine ⟨?_⟩
      have : (BitVec.ofNat 64 (Lib.bitLen v.toNat)).toNat = Lib.bitLen v.toNat := by rw [BitVec.toNat_ofNat]; omega
      rw [this]; rfl
  · cases h
abbrev tb_spans_below : List (Nat × Sp) := (118, sp_spans_below) :: tb_spans_And
theorem C_spans_below (m : Nat → Nat) : CSound Tryd.prog (GS m) (tab (DS m) tb_spans_below) := (C_spans_And m).cons (e_spans_below m)

def sp_spans_Or : Sp
  | [.agg [.b64 false a, .b64 false b, .b64 true c, .b64 true d], .agg [.b64 false e, .b64 false f, .b64 true g, .b64 true k]] => some (Cond.t, .agg [.b64 false ((sFrom (umax a e) (belowB (b ||| f))).lo), .b64 false ((sFrom (umax a e) (belowB (b ||| f))).hi), .b64 true ((sFrom (umax a e) (belowB (b ||| f))).slo), .b64 true ((sFrom (umax a e) (belowB (b ||| f))).shi)])
  | _ => none
set_option maxRecDepth 100000 in
set_option maxHeartbeats 4000000 in
theorem e_spans_Or (m : Nat → Nat) : EntryOK Tryd.prog (GS m) 109 sp_spans_Or := by
  refine .of_F (C_spans_below m) (by kernel_rfl) Tryd.func109 (by kernel_rfl) (by kernel_rfl) (fun args c v h hc => ?_)
  unfold sp_spans_Or at h
  split at h
  · rename_i a b c d e f g k; cases h
    refine ⟨rfl, rfl, ?_⟩
    repeat' (first
      | (with_reducible apply Given.mk; intro h)
      | ((conv => whnf); with_reducible apply Both.mk))
    all_goals first
      | (with_reducible apply Ob.mk; kernel_rfl)
      | ((conv => whnf); exact ⟨rfl⟩)
  · cases h
abbrev tb_spans_Or : List (Nat × Sp) := (109, sp_spans_Or) :: tb_spans_below
theorem C_spans_Or (m : Nat → Nat) : CSound Tryd.prog (GS m) (tab (DS m) tb_spans_Or) := (C_spans_below m).cons (e_spans_Or m)

def sp_spans_Xor : Sp
  | [.agg [.b64 false a, .b64 false b, .b64 true c, .b64 true d], .agg [.b64 false e, .b64 false f, .b64 true g, .b64 true k]] => some (Cond.t, .agg [.b64 false ((sFrom 0#64 (belowB (b ||| f))).lo), .b64 false ((sFrom 0#64 (belowB (b ||| f))).hi), .b64 true ((sFrom 0#64 (belowB (b ||| f))).slo), .b64 true ((sFrom 0#64 (belowB (b ||| f))).shi)])
  | _ => none
set_option maxRecDepth 100000 in
set_option maxHeartbeats 4000000 in
theorem e_spans_Xor (m : Nat → Nat) : EntryOK Tryd.prog (GS m) 111 sp_spans_Xor := by
  refine .of_F (C_spans_Or m) (by kernel_rfl) Tryd.func111 (by kernel_rfl) (by kernel_rfl) (fun args c v h hc => ?_)
  unfold sp_spans_Xor at h
  split at h
  · rename_i a b c d e f g k; cases h
    refine ⟨rfl, rfl, ?_⟩
    repeat' (first
      | (with_reducible apply Given.mk; intro h)
      | ((conv => whnf); with_reducible apply Both.mk))
    all_goals first
      | (with_reducible apply Ob.mk; kernel_rfl)
      | ((conv => whnf); exact ⟨rfl⟩)
  · cases h
abbrev tb_spans_Xor : List (Nat × Sp) := (111, sp_spans_Xor) :: tb_spans_Or
theorem C_spans_Xor (m : Nat → Nat) : CSound Tryd.prog (GS m) (tab (DS m) tb_spans_Xor) := (C_spans_Or m).cons (e_spans_Xor m)

def sp_spans_Div : Sp
  | [.agg [.b64 false a, .b64 false b, .b64 true c, .b64 true d], .agg [.b64 false e, .b64 false f, .b64 true g, .b64 true k]] => some (Cond.t, .agg [.b64 false ((sDiv ⟨a, b, c, d⟩ ⟨e, f, g, k⟩).lo), .b64 false ((sDiv ⟨a, b, c, d⟩ ⟨e, f, g, k⟩).hi), .b64 true ((sDiv ⟨a, b, c, d⟩ ⟨e, f, g, k⟩).slo), .b64 true ((sDiv ⟨a, b, c, d⟩ ⟨e, f, g, k⟩).shi)])
  | _ => none
set_option maxRecDepth 100000 in
set_option maxHeartbeats 4000000 in
theorem e_spans_Div (m : Nat → Nat) : EntryOK Tryd.prog (GS m) 113 sp_spans_Div := by
  refine .of_F (C_spans_Xor m) (by kernel_rfl) Tryd.func113 (by kernel_rfl) (by kernel_rfl) (fun args c v h hc => ?_)
  unfold sp_spans_Div at h
  split at h
  · rename_i a b c d e f g k; cases h
    refine ⟨rfl, rfl, ?_⟩
    repeat' (first
      | (with_reducible apply Given.mk; intro h)
      | ((conv => whnf); with_reducible apply Both.mk))
    all_goals first
      | (with_reducible apply Ob.mk; kernel_rfl)
      | (with_reducible apply Ob.mk; simp_all; done)
      | ((conv => whnf); refine ⟨?_⟩; simp_all [sDiv]; done)
  · cases h
abbrev tb_spans_Div : List (Nat × Sp) := (113, sp_spans_Div) :: tb_spans_Xor
theorem C_spans_Div (m : Nat → Nat) : CSound Tryd.prog (GS m) (tab (DS m) tb_spans_Div) := (C_spans_Xor m).cons (e_spans_Div m)

def sp_spans_Mod : Sp
  | [.agg [.b64 false a, .b64 false b, .b64 true c, .b64 true d], .agg [.b64 false e, .b64 false f, .b64 true g, .b64 true k]] => some (Cond.t, .agg [.b64 false ((sMod ⟨a, b, c, d⟩ ⟨e, f, g, k⟩).lo), .b64 false ((sMod ⟨a, b, c, d⟩ ⟨e, f, g, k⟩).hi), .b64 true ((sMod ⟨a, b, c, d⟩ ⟨e, f, g, k⟩).slo), .b64 true ((sMod ⟨a, b, c, d⟩ ⟨e, f, g, k⟩).shi)])
  | _ => none
set_option maxRecDepth 100000 in
set_option maxHeartbeats 4000000 in
theorem e_spans_Mod (m : Nat → Nat) : EntryOK Tryd.prog (GS m) 114 sp_spans_Mod := by
  refine .of_F (C_spans_Div m) (by kernel_rfl) Tryd.func114 (by kernel_rfl) (by kernel_rfl) (fun args c v h hc => ?_)
  unfold sp_spans_Mod at h
  split at h
  · rename_i a b c d e f g k; cases h
    refine ⟨rfl, rfl, ?_⟩
    repeat' (first
      | (with_reducible apply Given.mk; intro h)
      | ((conv => whnf); with_reducible apply Both.mk))
    all_goals first
      | (with_reducible apply Ob.mk; kernel_rfl)
      | (with_reducible apply Ob.mk; simp_all; done)
      | ((conv => whnf); refine ⟨?_⟩; simp_all [sMod, umin]; done)
  · cases h
abbrev tb_spans_Mod : List (Nat × Sp) := (114, sp_spans_Mod) :: tb_spans_Div
theorem C_spans_Mod (m : Nat → Nat) : CSound Tryd.prog (GS m) (tab (DS m) tb_spans_Mod) := (C_spans_Div m).cons (e_spans_Mod m)

def sp_spans_Lsh : Sp
  | [.agg [.b64 false a, .b64 false b, .b64 true c, .b64 true d], .one (.b64 true n)] => some (Cond.t, .agg [.b64 false ((sLsh ⟨a, b, c, d⟩ n).lo), .b64 false ((sLsh ⟨a, b, c, d⟩ n).hi), .b64 true ((sLsh ⟨a, b, c, d⟩ n).slo), .b64 true ((sLsh ⟨a, b, c, d⟩ n).shi)])
  | _ => none
set_option maxRecDepth 100000 in
set_option maxHeartbeats 4000000 in
theorem e_spans_Lsh (m : Nat → Nat) : EntryOK Tryd.prog (GS m) 74 sp_spans_Lsh := by
  refine .of_F (C_spans_Mod m) (by kernel_rfl) Tryd.func74 (by kernel_rfl) (by kernel_rfl) (fun args c v h hc => ?_)
  unfold sp_spans_Lsh at h
  split at h
  · rename_i a b c d n; cases h
    refine ⟨rfl, rfl, ?_⟩
    repeat' (first
      | (with_reducible apply Given.mk; intro h)
      | ((conv => whnf); with_reducible apply Both.mk))
    all_goals first
      | (with_reducible apply Ob.mk; kernel_rfl)
      | (with_reducible apply Ob.mk; exact cnt_pos n)
      | ((conv => whnf); refine ⟨?_⟩; simp_all [sLsh, sAny]; done)
  · cases h
abbrev tb_spans_Lsh : List (Nat × Sp) := (74, sp_spans_Lsh) :: tb_spans_Mod
theorem C_spans_Lsh (m : Nat → Nat) : CSound Tryd.prog (GS m) (tab (DS m) tb_spans_Lsh) := (C_spans_Mod m).cons (e_spans_Lsh m)

def sp_spans_Rsh : Sp
  | [.agg [.b64 false a, .b64 false b, .b64 true c, .b64 true d], .one (.b64 true n)] => some (Cond.t, .agg [.b64 false ((sFrom (a >>> (n &&& 63#64).toNat) (b >>> (n &&& 63#64).toNat)).lo), .b64 false ((sFrom (a >>> (n &&& 63#64).toNat) (b >>> (n &&& 63#64).toNat)).hi), .b64 true ((sFrom (a >>> (n &&& 63#64).toNat) (b >>> (n &&& 63#64).toNat)).slo), .b64 true ((sFrom (a >>> (n &&& 63#64).toNat) (b >>> (n &&& 63#64).toNat)).shi)])
  | _ => none
set_option maxRecDepth 100000 in
set_option maxHeartbeats 4000000 in
theorem e_spans_Rsh (m : Nat → Nat) : EntryOK Tryd.prog (GS m) 76 sp_spans_Rsh := by
  refine .of_F (C_spans_Lsh m) (by kernel_rfl) Tryd.func76 (by kernel_rfl) (by kernel_rfl) (fun args c v h hc => ?_)
  unfold sp_spans_Rsh at h
  split at h
  · rename_i a b c d n; cases h
    refine ⟨rfl, rfl, ?_⟩
    repeat' (first
      | (with_reducible apply Given.mk; intro h)
      | ((conv => whnf); with_reducible apply Both.mk))
    all_goals first
      | (with_reducible apply Ob.mk; kernel_rfl)
      | (with_reducible apply Ob.mk; exact cnt_pos n)
      | ((conv => whnf); exact ⟨rfl⟩)
  · cases h
abbrev tb_spans_Rsh : List (Nat × Sp) := (76, sp_spans_Rsh) :: tb_spans_Lsh
theorem C_spans_Rsh (m : Nat → Nat) : CSound Tryd.prog (GS m) (tab (DS m) tb_spans_Rsh) := (C_spans_Lsh m).cons (e_spans_Rsh m)

def sp_spans_Arsh : Sp
  | [.agg [.b64 false a, .b64 false b, .b64 true c, .b64 true d], .one (.b64 true n)] => some (Cond.t, .agg [.b64 false ((sTt ⟨0#64, ~~~0#64, c.sshiftRight (n &&& 63#64).toNat, d.sshiftRight (n &&& 63#64).toNat⟩).lo), .b64 false ((sTt ⟨0#64, ~~~0#64, c.sshiftRight (n &&& 63#64).toNat, d.sshiftRight (n &&& 63#64).toNat⟩).hi), .b64 true ((sTt ⟨0#64, ~~~0#64, c.sshiftRight (n &&& 63#64).toNat, d.sshiftRight (n &&& 63#64).toNat⟩).slo), .b64 true ((sTt ⟨0#64, ~~~0#64, c.sshiftRight (n &&& 63#64).toNat, d.sshiftRight (n &&& 63#64).toNat⟩).shi)])
  | _ => none
set_option maxRecDepth 100000 in
set_option maxHeartbeats 4000000 in
theorem e_spans_Arsh (m : Nat → Nat) : EntryOK Tryd.prog (GS m) 78 sp_spans_Arsh := by
  refine .of_F (C_spans_Rsh m) (by kernel_rfl) Tryd.func78 (by kernel_rfl) (by kernel_rfl) (fun args c v h hc => ?_)
  unfold sp_spans_Arsh at h
  split at h
  · rename_i a b c d n; cases h
    refine ⟨rfl, rfl, ?_⟩
    repeat' (first
      | (with_reducible apply Given.mk; intro h)
      | ((conv => whnf); with_reducible apply Both.mk))
    all_goals first
      | (with_reducible apply Ob.mk; kernel_rfl)
      | (with_reducible apply Ob.mk; exact cnt_pos n)
      | ((conv => whnf); exact ⟨rfl⟩)
  · cases h
abbrev tb_spans_Arsh : List (Nat × Sp) := (78, sp_spans_Arsh) :: tb_spans_Rsh
theorem C_spans_Arsh (m : Nat → Nat) : CSound Tryd.prog (GS m) (tab (DS m) tb_spans_Arsh) := (C_spans_Rsh m).cons (e_spans_Arsh m)

def sp_spans_Low32 : Sp
  | [.agg [.b64 false a, .b64 false b, .b64 true c, .b64 true d]] => some (Cond.t, .agg [.b64 false ((sLow ⟨a, b, c, d⟩).lo), .b64 false ((sLow ⟨a, b, c, d⟩).hi), .b64 true ((sLow ⟨a, b, c, d⟩).slo), .b64 true ((sLow ⟨a, b, c, d⟩).shi)])
  | _ => none
set_option maxRecDepth 100000 in
set_option maxHeartbeats 4000000 in
theorem e_spans_Low32 (m : Nat → Nat) : EntryOK Tryd.prog (GS m) 63 sp_spans_Low32 := by
  refine .of_F (C_spans_Arsh m) (by kernel_rfl) Tryd.func63 (by kernel_rfl) (by kernel_rfl) (fun args c v h hc => ?_)
  unfold sp_spans_Low32 at h
  split at h
  · rename_i a b c d; cases h
    refine ⟨rfl, rfl, ?_⟩
    repeat' (first
      | (with_reducible apply Given.mk; intro h)
      | ((conv => whnf); with_reducible apply Both.mk))
    all_goals first
      | (with_reducible apply Ob.mk; kernel_rfl)
      | ((conv => whnf); refine ⟨?_⟩; simp_all [sLow]; done)
  · cases h
abbrev tb_spans_Low32 : List (Nat × Sp) := (63, sp_spans_Low32) :: tb_spans_Arsh
theorem C_spans_Low32 (m : Nat → Nat) : CSound Tryd.prog (GS m) (tab (DS m) tb_spans_Low32) := (C_spans_Arsh m).cons (e_spans_Low32 m)


def sDown (v b : BitVec 64) : BitVec 64 := umin (umin (v - sMin) b) sMax
def sUp (v b : BitVec 64) : BitVec 64 := umin (umin (sMax - v) b) sMax
def sMade (v p q r s : BitVec 64) : SS := ⟨v - umin v p, v + umin (~~~v) q, v - sDown v r, v + sUp v s⟩


def sp_firewallref16_Has : Sp
  | [.one (.b64 false a), .one (.b64 false b), .one (.b64 true c), .one (.b64 true d), .one (.b64 false v)] => some (Cond.t, .one (.bool ((SS.mk a b c d).has v)))
  | _ => none
set_option maxRecDepth 100000 in
set_option maxHeartbeats 4000000 in
theorem e_firewallref16_Has (m : Nat → Nat) : EntryOK Tryd.prog (GS m) 59 sp_firewallref16_Has := by
  refine .of_F (C_spans_Low32 m) (by kernel_rfl) Tryd.func59 (by kernel_rfl) (by kernel_rfl) (fun args c v h hc => ?_)
  unfold sp_firewallref16_Has at h
  split at h
  · rename_i a b c d v; cases h
    refine ⟨rfl, rfl, ?_⟩
    repeat' (first
      | (with_reducible apply Given.mk; intro h)
      | ((conv => whnf); with_reducible apply Both.mk))
    all_goals first
      | (with_reducible apply Ob.mk; kernel_rfl)
      | ((conv => whnf); refine ⟨?_⟩; simp only [SS.has, *, Bool.true_and, Bool.and_true, Bool.false_and, Bool.and_false, Bool.false_eq_true, Bool.true_eq_false, reduceCtorEq] at *; done)
  · cases h
abbrev tb_firewallref16_Has : List (Nat × Sp) := (59, sp_firewallref16_Has) :: tb_spans_Low32
theorem C_firewallref16_Has (m : Nat → Nat) : CSound Tryd.prog (GS m) (tab (DS m) tb_firewallref16_Has) := (C_spans_Low32 m).cons (e_firewallref16_Has m)

end Go.Proofs.YtkmggidgfkchfaaDoor

