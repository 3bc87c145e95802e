/-
  What the functions of packages tnums, spans, scalars and kinds answer that slots and frames ask, and the laws' own: by the evaluator. Conditions: as typed.
-/
import Derived.Test.YtiopddomdpoaaaaPk
import Derived.Test.YtiopddomdpoaaaaTnM
import Derived.Test.YtiopddomdpoaaaaProg
namespace Go.Proofs.Ytiopddomdpoaaaa
open Go.Ep Go.RowKit
set_option linter.unusedVariables false
set_option linter.unusedSimpArgs false

structure SS where
  lo : BitVec 64
  hi : BitVec 64
  slo : BitVec 64
  shi : BitVec 64
def smax (x y : BitVec 64) : BitVec 64 := if x.slt y then y else x
def smin (x y : BitVec 64) : BitVec 64 := if y.slt x then y else x
def umax (x y : BitVec 64) : BitVec 64 := if x.ult y then y else x
def umin (x y : BitVec 64) : BitVec 64 := if y.ult x then y else x
abbrev sMin : BitVec 64 := 9223372036854775808#64
abbrev sMax : BitVec 64 := 9223372036854775807#64
def SS.valid (s : SS) : Bool := s.lo.ule s.hi && s.slo.sle s.shi
def SS.has (s : SS) (v : BitVec 64) : Bool := s.lo.ule v && v.ule s.hi && s.slo.sle v && v.sle s.shi
def sIn (a b : SS) : Bool := a.lo.ule b.lo && b.hi.ule a.hi && a.slo.sle b.slo && b.shi.sle a.shi
def step1 (s : SS) : SS := if s.lo.sle s.hi then ⟨s.lo, s.hi, smax s.slo s.lo, smin s.shi s.hi⟩ else s
def step2 (s : SS) : SS := if (0#64).sle s.slo || s.shi.slt 0#64 then ⟨umax s.lo s.slo, umin s.hi s.shi, s.slo, s.shi⟩ else s
def sOk (s : SS) : Bool := s.valid && (step2 (step1 s)).valid
def sTight (s : SS) : SS := if sOk s then step2 (step1 s) else ⟨0#64, 0#64, 0#64, 0#64⟩
def sTt (s : SS) : SS := if sOk s then sTight s else s
def sAny : SS := ⟨0#64, ~~~0#64, sMin, sMax⟩
def sFrom (lo hi : BitVec 64) : SS := sTt ⟨lo, hi, sMin, sMax⟩

/-- Numbers of which some bits and their ends are known. -/
structure NN where
  tv : BitVec 64
  tm : BitVec 64
  lo : BitVec 64
  hi : BitVec 64
  slo : BitVec 64
  shi : BitVec 64
def NN.s (n : NN) : SS := ⟨n.lo, n.hi, n.slo, n.shi⟩
def nMk (v m : BitVec 64) (s : SS) : NN := ⟨v, m, s.lo, s.hi, s.slo, s.shi⟩
def NN.has (n : NN) (v : BitVec 64) : Bool := tHas n.tv n.tm v && n.s.has v
def nIn (a b : NN) : Bool := tIn a.tv a.tm b.tv b.tm && sIn a.s b.s
def nConst (v : BitVec 64) : NN := ⟨v, 0#64, v, v, v, v⟩
def nAny : NN := nMk 0#64 (~~~0#64) sAny
def nMost (n : BitVec 64) : BitVec 64 := (1#64 <<< (8#64 * n).toNat) - 1#64
def nBytes (n : BitVec 64) : NN := if n.slt 0#64 || (8#64).sle n then nAny else nMk 0#64 (nMost n) (sFrom 0#64 (nMost n))

def sg (x : BitVec 64) : Nat := (x.toNat + 9223372036854775808) % 18446744073709551616
theorem sg_cases (x : BitVec 64) : (x.toNat < 9223372036854775808 ∧ sg x = x.toNat + 9223372036854775808) ∨ (9223372036854775808 ≤ x.toNat ∧ x.toNat < 18446744073709551616 ∧ sg x = x.toNat - 9223372036854775808) := by
  have := x.isLt
  unfold sg
  omega
theorem sg_lt (x : BitVec 64) : sg x < 18446744073709551616 := by unfold sg; omega
theorem sg_sub (v d : BitVec 64) (h : d.toNat ≤ sg v) : sg (v - d) = sg v - d.toNat := by
  have := v.isLt; have := d.isLt
  have e : (v - d).toNat = (18446744073709551616 - d.toNat + v.toNat) % 18446744073709551616 := BitVec.toNat_sub _ _
  have h1 := sg_cases v; have h2 := sg_cases (v - d)
  rw [e] at h2
  generalize v.toNat = V at *; generalize d.toNat = D at *; generalize sg v = sv at *; generalize sg (v - d) = sd at *
  omega
theorem sg_add (v d : BitVec 64) (h : sg v + d.toNat < 18446744073709551616) : sg (v + d) = sg v + d.toNat := by
  have := v.isLt; have := d.isLt
  have e : (v + d).toNat = (v.toNat + d.toNat) % 18446744073709551616 := BitVec.toNat_add _ _
  have h1 := sg_cases v; have h2 := sg_cases (v + d)
  rw [e] at h2
  generalize v.toNat = V at *; generalize d.toNat = D at *; generalize sg v = sv at *; generalize sg (v + d) = sd at *
  omega
theorem ule_nat (x y : BitVec 64) : x.ule y = true ↔ x.toNat ≤ y.toNat := by simp [BitVec.ule]
theorem ult_nat (x y : BitVec 64) : x.ult y = true ↔ x.toNat < y.toNat := by simp [BitVec.ult]
theorem sg_int (x : BitVec 64) : (sg x : Int) = x.toInt + 9223372036854775808 := by
  have := x.isLt
  rw [BitVec.toInt_eq_toNat_cond]
  split <;> simp only [sg] <;> omega
theorem sle_nat (x y : BitVec 64) : x.sle y = true ↔ sg x ≤ sg y := by
  rw [BitVec.sle_iff_toInt_le]
  have := sg_int x; have := sg_int y
  omega
theorem slt_nat (x y : BitVec 64) : x.slt y = true ↔ sg x < sg y := by
  rw [BitVec.slt_iff_toInt_lt]
  have := sg_int x; have := sg_int y
  omega
theorem shas_iff (s : SS) (v : BitVec 64) : s.has v = true ↔ s.lo.toNat ≤ v.toNat ∧ v.toNat ≤ s.hi.toNat ∧ sg s.slo ≤ sg v ∧ sg v ≤ sg s.shi := by
  simp only [SS.has, Bool.and_eq_true, ule_nat, sle_nat, and_assoc]
theorem svalid_iff (s : SS) : s.valid = true ↔ s.lo.toNat ≤ s.hi.toNat ∧ sg s.slo ≤ sg s.shi := by
  simp only [SS.valid, Bool.and_eq_true, ule_nat, sle_nat]
theorem sin_iff (a b : SS) : sIn a b = true ↔ a.lo.toNat ≤ b.lo.toNat ∧ b.hi.toNat ≤ a.hi.toNat ∧ sg a.slo ≤ sg b.slo ∧ sg b.shi ≤ sg a.shi := by
  simp only [sIn, Bool.and_eq_true, ule_nat, sle_nat, and_assoc]
theorem umax_nat (x y : BitVec 64) : (umax x y).toNat = max x.toNat y.toNat := by
  unfold umax; split <;> rename_i h <;> rw [ult_nat] at h <;> omega
theorem umin_nat (x y : BitVec 64) : (umin x y).toNat = min x.toNat y.toNat := by
  unfold umin; split <;> rename_i h <;> rw [ult_nat] at h <;> omega
theorem smax_nat (x y : BitVec 64) : sg (smax x y) = max (sg x) (sg y) := by
  unfold smax; split <;> rename_i h <;> rw [slt_nat] at h <;> omega
theorem smin_nat (x y : BitVec 64) : sg (smin x y) = min (sg x) (sg y) := by
  unfold smin; split <;> rename_i h <;> rw [slt_nat] at h <;> omega
theorem shas_valid {s : SS} {v : BitVec 64} (h : s.has v = true) : s.valid = true := by
  rw [shas_iff] at h; rw [svalid_iff]; omega
theorem sg_zero : sg 0#64 = 9223372036854775808 := rfl

theorem most_pos (n : BitVec 64) (h : n.slt 0#64 = false) (h' : (8#64).sle n = false) : 0 ≤ (8#64 * n).toInt := by
  have h1 : ¬ (n.slt 0#64 = true) := by rw [h]; decide
  have h2 : ¬ ((8#64).sle n = true) := by rw [h']; decide
  rw [slt_nat, sg_zero] at h1
  rw [sle_nat] at h2
  have e : sg 8#64 = 9223372036854775816 := rfl
  rw [e] at h2
  have := sg_cases n
  have hm : (8#64 * n).toNat = 8 * n.toNat := by
    rw [BitVec.toNat_mul, show (8#64).toNat = 8 from rfl, Nat.mod_eq_of_lt (by omega)]
  rw [BitVec.toInt_eq_toNat_cond, hm]
  split <;> omega


def sDown (v b : BitVec 64) : BitVec 64 := umin (umin (v - sMin) b) sMax
def sUp (v b : BitVec 64) : BitVec 64 := umin (umin (sMax - v) b) sMax
def sMade (v p q r s : BitVec 64) : SS := ⟨v - umin v p, v + umin (~~~v) q, v - sDown v r, v + sUp v s⟩



def nMade (v k p q r s : BitVec 64) : NN := nMk (v &&& ~~~k) k (sMade v p q r s)
def nZ : NN := ⟨0#64, 0#64, 0#64, 0#64, 0#64, 0#64⟩
/-- What is known of a value. -/
structure VV where
  k : BitVec 64
  mp : BitVec 64
  id : BitVec 64
  off : BitVec 64
  su : BitVec 64
  n : NN
def vZ : VV := ⟨0#64, 0#64, 0#64, 0#64, 0#64, nZ⟩

abbrev mFar : BitVec 64 := BitVec.ofInt 64 (Int.negSucc 65535)
def vIn (at' n from' to' : BitVec 64) : Bool := from'.sle at' && n.sle (to' - at')
def vReach (v : VV) (off n size : BitVec 64) : Bool :=
  if n.slt 1#64 || off.sle mFar || (65536#64).sle off then false
  else if v.k == 2#64 then vIn (v.off + off) n 0#64 24#64
  else if v.k == 3#64 then vIn (v.off + off) n (BitVec.ofInt 64 (Int.negSucc 511)) 0#64
  else if v.k == 7#64 then vIn (v.off + off) n 0#64 v.su
  else if v.k == 5#64 then v.n.hi.ult 65536#64 && (0#64).sle (v.off + off + v.n.lo) && vIn (v.off + off + v.n.hi) n 0#64 size
  else false
def vPts (v : VV) : Bool := (1#64).slt v.k && v.k.sle 8#64


abbrev tb_start : List (Nat × Sp) := []
theorem C_start : CSound Try.prog anyWorld (tab noData tb_start) := CSound.start

def sp_tnums_Const : Sp
  | [.one (.b64 false v)] => some (Cond.t, .agg [.b64 false v, .b64 false (0#64)])
  | _ => none
set_option maxRecDepth 100000 in
set_option maxHeartbeats 4000000 in
theorem e_tnums_Const : EntryOK Try.prog anyWorld 46 sp_tnums_Const := by
  refine .of_F C_start (by kernel_rfl) Try.func46 (by kernel_rfl) (by kernel_rfl) (fun args c v h hc => ?_)
  unfold sp_tnums_Const at h
  split at h
  · rename_i v; cases h
    refine ⟨rfl, rfl, ?_⟩
    repeat' (first
      | (with_reducible apply Given.mk; intro h; (try exact absurd h (by decide)))
      | ((conv => whnf); with_reducible apply Both.mk))
    all_goals first
      | (with_reducible apply Ob.mk; kernel_rfl)
      | (with_reducible apply Ob.mk; decide)
      | (with_reducible apply Ob.mk; simp [ByteArray.size, catB, exB]; done)
      | ((conv => whnf); refine ⟨?_⟩; first | with_reducible rfl | rfl)
  · cases h
abbrev tb_tnums_Const : List (Nat × Sp) := (46, sp_tnums_Const) :: tb_start
theorem C_tnums_Const : CSound Try.prog anyWorld (tab noData tb_tnums_Const) := C_start.cons e_tnums_Const

def sp_tnums_Any : Sp
  | [] => some (Cond.t, .agg [.b64 false (0#64), .b64 false (~~~0#64)])
  | _ => none
set_option maxRecDepth 100000 in
set_option maxHeartbeats 4000000 in
theorem e_tnums_Any : EntryOK Try.prog anyWorld 35 sp_tnums_Any := by
  refine .of_F C_tnums_Const (by kernel_rfl) Try.func35 (by kernel_rfl) (by kernel_rfl) (fun args c v h hc => ?_)
  unfold sp_tnums_Any at h
  split at h
  · cases h
    refine ⟨rfl, rfl, ?_⟩
    repeat' (first
      | (with_reducible apply Given.mk; intro h; (try exact absurd h (by decide)))
      | ((conv => whnf); with_reducible apply Both.mk))
    all_goals first
      | (with_reducible apply Ob.mk; kernel_rfl)
      | (with_reducible apply Ob.mk; decide)
      | (with_reducible apply Ob.mk; simp [ByteArray.size, catB, exB]; done)
      | ((conv => whnf); refine ⟨?_⟩; first | with_reducible rfl | rfl)
  · cases h
abbrev tb_tnums_Any : List (Nat × Sp) := (35, sp_tnums_Any) :: tb_tnums_Const
theorem C_tnums_Any : CSound Try.prog anyWorld (tab noData tb_tnums_Any) := C_tnums_Const.cons e_tnums_Any

def sp_tnums_Has : Sp
  | [.agg [.b64 false a, .b64 false b], .one (.b64 false x)] => some (Cond.t, .one (.bool (tHas a b x)))
  | _ => none
set_option maxRecDepth 100000 in
set_option maxHeartbeats 4000000 in
theorem e_tnums_Has : EntryOK Try.prog anyWorld 55 sp_tnums_Has := by
  refine .of_F C_tnums_Any (by kernel_rfl) Try.func55 (by kernel_rfl) (by kernel_rfl) (fun args c v h hc => ?_)
  unfold sp_tnums_Has at h
  split at h
  · rename_i a b x; cases h
    refine ⟨rfl, rfl, ?_⟩
    repeat' (first
      | (with_reducible apply Given.mk; intro h; (try exact absurd h (by decide)))
      | ((conv => whnf); with_reducible apply Both.mk))
    all_goals first
      | (with_reducible apply Ob.mk; kernel_rfl)
      | (with_reducible apply Ob.mk; decide)
      | (with_reducible apply Ob.mk; simp [ByteArray.size, catB, exB]; done)
      | ((conv => whnf); refine ⟨?_⟩; first | with_reducible rfl | rfl)
  · cases h
abbrev tb_tnums_Has : List (Nat × Sp) := (55, sp_tnums_Has) :: tb_tnums_Any
theorem C_tnums_Has : CSound Try.prog anyWorld (tab noData tb_tnums_Has) := C_tnums_Any.cons e_tnums_Has

def sp_tnums_In : Sp
  | [.agg [.b64 false a, .b64 false b], .agg [.b64 false c, .b64 false d]] => some (Cond.t, .one (.bool (tIn a b c d)))
  | _ => none
set_option maxRecDepth 100000 in
set_option maxHeartbeats 4000000 in
theorem e_tnums_In : EntryOK Try.prog anyWorld 52 sp_tnums_In := by
  refine .of_F C_tnums_Has (by kernel_rfl) Try.func52 (by kernel_rfl) (by kernel_rfl) (fun args c v h hc => ?_)
  unfold sp_tnums_In at h
  split at h
  · rename_i a b c d; cases h
    refine ⟨rfl, rfl, ?_⟩
    conv => whnf
    refine Both.mk (Given.mk fun h => ?_) (Given.mk fun h => ?_)
    · conv => whnf
      refine ⟨?_⟩
      simp [tIn, h]
    · conv => whnf
      refine ⟨?_⟩
      simp [tIn, h]
  · cases h
abbrev tb_tnums_In : List (Nat × Sp) := (52, sp_tnums_In) :: tb_tnums_Has
theorem C_tnums_In : CSound Try.prog anyWorld (tab noData tb_tnums_In) := C_tnums_Has.cons e_tnums_In

def sp_spans_Const : Sp
  | [.one (.b64 false v)] => some (Cond.t, .agg [.b64 false v, .b64 false v, .b64 true v, .b64 true v])
  | _ => none
set_option maxRecDepth 100000 in
set_option maxHeartbeats 4000000 in
theorem e_spans_Const : EntryOK Try.prog anyWorld 47 sp_spans_Const := by
  refine .of_F C_tnums_In (by kernel_rfl) Try.func47 (by kernel_rfl) (by kernel_rfl) (fun args c v h hc => ?_)
  unfold sp_spans_Const at h
  split at h
  · rename_i v; cases h
    refine ⟨rfl, rfl, ?_⟩
    repeat' (first
      | (with_reducible apply Given.mk; intro h; (try exact absurd h (by decide)))
      | ((conv => whnf); with_reducible apply Both.mk))
    all_goals first
      | (with_reducible apply Ob.mk; kernel_rfl)
      | (with_reducible apply Ob.mk; decide)
      | (with_reducible apply Ob.mk; simp [ByteArray.size, catB, exB]; done)
      | ((conv => whnf); refine ⟨?_⟩; first | with_reducible rfl | rfl)
  · cases h
abbrev tb_spans_Const : List (Nat × Sp) := (47, sp_spans_Const) :: tb_tnums_In
theorem C_spans_Const : CSound Try.prog anyWorld (tab noData tb_spans_Const) := C_tnums_In.cons e_spans_Const

def sp_spans_Any : Sp
  | [] => some (Cond.t, .agg [.b64 false (sAny.lo), .b64 false (sAny.hi), .b64 true (sAny.slo), .b64 true (sAny.shi)])
  | _ => none
set_option maxRecDepth 100000 in
set_option maxHeartbeats 4000000 in
theorem e_spans_Any : EntryOK Try.prog anyWorld 36 sp_spans_Any := by
  refine .of_F C_spans_Const (by kernel_rfl) Try.func36 (by kernel_rfl) (by kernel_rfl) (fun args c v h hc => ?_)
  unfold sp_spans_Any at h
  split at h
  · cases h
    refine ⟨rfl, rfl, ?_⟩
    repeat' (first
      | (with_reducible apply Given.mk; intro h; (try exact absurd h (by decide)))
      | ((conv => whnf); with_reducible apply Both.mk))
    all_goals first
      | (with_reducible apply Ob.mk; kernel_rfl)
      | (with_reducible apply Ob.mk; decide)
      | (with_reducible apply Ob.mk; simp [ByteArray.size, catB, exB]; done)
      | ((conv => whnf); refine ⟨?_⟩; first | with_reducible rfl | rfl)
  · cases h
abbrev tb_spans_Any : List (Nat × Sp) := (36, sp_spans_Any) :: tb_spans_Const
theorem C_spans_Any : CSound Try.prog anyWorld (tab noData tb_spans_Any) := C_spans_Const.cons e_spans_Any

def sp_spans_Valid : Sp
  | [.agg [.b64 false a, .b64 false b, .b64 true c, .b64 true d]] => some (Cond.t, .one (.bool ((SS.mk a b c d).valid)))
  | _ => none
set_option maxRecDepth 100000 in
set_option maxHeartbeats 4000000 in
theorem e_spans_Valid : EntryOK Try.prog anyWorld 56 sp_spans_Valid := by
  refine .of_F C_spans_Any (by kernel_rfl) Try.func56 (by kernel_rfl) (by kernel_rfl) (fun args c v h hc => ?_)
  unfold sp_spans_Valid at h
  split at h
  · rename_i a b c d; cases h
    refine ⟨rfl, rfl, ?_⟩
    conv => whnf
    refine Both.mk (Given.mk fun h => ?_) (Given.mk fun h => ?_)
    · conv => whnf
      refine ⟨?_⟩
      simp only [SS.valid, h, Bool.true_and]
    · conv => whnf
      refine ⟨?_⟩
      simp only [SS.valid, h, Bool.false_and]
  · cases h
abbrev tb_spans_Valid : List (Nat × Sp) := (56, sp_spans_Valid) :: tb_spans_Any
theorem C_spans_Valid : CSound Try.prog anyWorld (tab noData tb_spans_Valid) := C_spans_Any.cons e_spans_Valid

def sp_spans_In : Sp
  | [.agg [.b64 false a, .b64 false b, .b64 true c, .b64 true d], .agg [.b64 false e, .b64 false f, .b64 true g, .b64 true k]] => some (Cond.t, .one (.bool (sIn ⟨a, b, c, d⟩ ⟨e, f, g, k⟩)))
  | _ => none
set_option maxRecDepth 100000 in
set_option maxHeartbeats 4000000 in
theorem e_spans_In : EntryOK Try.prog anyWorld 53 sp_spans_In := by
  refine .of_F C_spans_Valid (by kernel_rfl) Try.func53 (by kernel_rfl) (by kernel_rfl) (fun args c v h hc => ?_)
  unfold sp_spans_In at h
  split at h
  · rename_i a b c d e f g k; cases h
    refine ⟨rfl, rfl, ?_⟩
    repeat' (first
      | (with_reducible apply Given.mk; intro h)
      | ((conv => whnf); with_reducible apply Both.mk))
    all_goals first
      | (with_reducible apply Ob.mk; kernel_rfl)
      | ((conv => whnf); refine ⟨?_⟩; simp_all [sIn]; done)
  · cases h
abbrev tb_spans_In : List (Nat × Sp) := (53, sp_spans_In) :: tb_spans_Valid
theorem C_spans_In : CSound Try.prog anyWorld (tab noData tb_spans_In) := C_spans_Valid.cons e_spans_In

def sp_spans_Tight : Sp
  | [.agg [.b64 false a, .b64 false b, .b64 true c, .b64 true d]] => some (Cond.t, .tup [(true, [.b64 false ((sTight ⟨a, b, c, d⟩).lo), .b64 false ((sTight ⟨a, b, c, d⟩).hi), .b64 true ((sTight ⟨a, b, c, d⟩).slo), .b64 true ((sTight ⟨a, b, c, d⟩).shi)]), (false, [.bool (sOk ⟨a, b, c, d⟩)])])
  | _ => none
set_option maxRecDepth 100000 in
set_option maxHeartbeats 4000000 in
theorem e_spans_Tight : EntryOK Try.prog anyWorld 54 sp_spans_Tight := by
  refine .of_F C_spans_In (by kernel_rfl) Try.func54 (by kernel_rfl) (by kernel_rfl) (fun args c v h hc => ?_)
  unfold sp_spans_Tight at h
  split at h
  · rename_i a b c d; cases h
    refine ⟨rfl, rfl, ?_⟩
    repeat' (first
      | (with_reducible apply Given.mk; intro h)
      | ((conv => whnf); with_reducible apply Both.mk))
    all_goals first
      | (with_reducible apply Ob.mk; kernel_rfl)
      | ((conv => whnf); refine ⟨?_⟩; simp_all [sTight, sOk, step1, step2, smax, smin, umax, umin]; done)
  · cases h
abbrev tb_spans_Tight : List (Nat × Sp) := (54, sp_spans_Tight) :: tb_spans_In
theorem C_spans_Tight : CSound Try.prog anyWorld (tab noData tb_spans_Tight) := C_spans_In.cons e_spans_Tight

def sp_spans_tight : Sp
  | [.agg [.b64 false a, .b64 false b, .b64 true c, .b64 true d]] => some (Cond.t, .agg [.b64 false ((sTt ⟨a, b, c, d⟩).lo), .b64 false ((sTt ⟨a, b, c, d⟩).hi), .b64 true ((sTt ⟨a, b, c, d⟩).slo), .b64 true ((sTt ⟨a, b, c, d⟩).shi)])
  | _ => none
set_option maxRecDepth 100000 in
set_option maxHeartbeats 4000000 in
theorem e_spans_tight : EntryOK Try.prog anyWorld 51 sp_spans_tight := by
  refine .of_F C_spans_Tight (by kernel_rfl) Try.func51 (by kernel_rfl) (by kernel_rfl) (fun args c v h hc => ?_)
  unfold sp_spans_tight at h
  split at h
  · rename_i a b c d; cases h
    refine ⟨rfl, rfl, ?_⟩
    repeat' (first
      | (with_reducible apply Given.mk; intro h)
      | ((conv => whnf); with_reducible apply Both.mk))
    all_goals first
      | (with_reducible apply Ob.mk; kernel_rfl)
      | ((conv => whnf); refine ⟨?_⟩; simp_all [sTt]; done)
  · cases h
abbrev tb_spans_tight : List (Nat × Sp) := (51, sp_spans_tight) :: tb_spans_Tight
theorem C_spans_tight : CSound Try.prog anyWorld (tab noData tb_spans_tight) := C_spans_Tight.cons e_spans_tight

def sp_spans_Upto : Sp
  | [.one (.b64 false b)] => some (Cond.t, .agg [.b64 false ((sFrom 0#64 b).lo), .b64 false ((sFrom 0#64 b).hi), .b64 true ((sFrom 0#64 b).slo), .b64 true ((sFrom 0#64 b).shi)])
  | _ => none
set_option maxRecDepth 100000 in
set_option maxHeartbeats 4000000 in
theorem e_spans_Upto : EntryOK Try.prog anyWorld 48 sp_spans_Upto := by
  refine .of_F C_spans_tight (by kernel_rfl) Try.func48 (by kernel_rfl) (by kernel_rfl) (fun args c v h hc => ?_)
  unfold sp_spans_Upto at h
  split at h
  · rename_i b; cases h
    refine ⟨rfl, rfl, ?_⟩
    repeat' (first
      | (with_reducible apply Given.mk; intro h)
      | ((conv => whnf); with_reducible apply Both.mk))
    all_goals first
      | (with_reducible apply Ob.mk; kernel_rfl)
      | ((conv => whnf); exact ⟨rfl⟩)
  · cases h
abbrev tb_spans_Upto : List (Nat × Sp) := (48, sp_spans_Upto) :: tb_spans_tight
theorem C_spans_Upto : CSound Try.prog anyWorld (tab noData tb_spans_Upto) := C_spans_tight.cons e_spans_Upto

def sp_scalars_Const : Sp
  | [.one (.b64 false v)] => some (Cond.t, .agg [.b64 false ((nConst v).tv), .b64 false ((nConst v).tm), .b64 false ((nConst v).lo), .b64 false ((nConst v).hi), .b64 true ((nConst v).slo), .b64 true ((nConst v).shi)])
  | _ => none
set_option maxRecDepth 100000 in
set_option maxHeartbeats 4000000 in
theorem e_scalars_Const : EntryOK Try.prog anyWorld 29 sp_scalars_Const := by
  refine .of_F C_spans_Upto (by kernel_rfl) Try.func29 (by kernel_rfl) (by kernel_rfl) (fun args c v h hc => ?_)
  unfold sp_scalars_Const at h
  split at h
  · rename_i v; cases h
    refine ⟨rfl, rfl, ?_⟩
    repeat' (first
      | (with_reducible apply Given.mk; intro h; (try exact absurd h (by decide)))
      | ((conv => whnf); with_reducible apply Both.mk))
    all_goals first
      | (with_reducible apply Ob.mk; kernel_rfl)
      | (with_reducible apply Ob.mk; decide)
      | (with_reducible apply Ob.mk; simp [ByteArray.size, catB, exB]; done)
      | ((conv => whnf); refine ⟨?_⟩; first | with_reducible rfl | rfl)
  · cases h
abbrev tb_scalars_Const : List (Nat × Sp) := (29, sp_scalars_Const) :: tb_spans_Upto
theorem C_scalars_Const : CSound Try.prog anyWorld (tab noData tb_scalars_Const) := C_spans_Upto.cons e_scalars_Const

def sp_scalars_Any : Sp
  | [] => some (Cond.t, .agg [.b64 false ((nAny).tv), .b64 false ((nAny).tm), .b64 false ((nAny).lo), .b64 false ((nAny).hi), .b64 true ((nAny).slo), .b64 true ((nAny).shi)])
  | _ => none
set_option maxRecDepth 100000 in
set_option maxHeartbeats 4000000 in
theorem e_scalars_Any : EntryOK Try.prog anyWorld 14 sp_scalars_Any := by
  refine .of_F C_scalars_Const (by kernel_rfl) Try.func14 (by kernel_rfl) (by kernel_rfl) (fun args c v h hc => ?_)
  unfold sp_scalars_Any at h
  split at h
  · cases h
    refine ⟨rfl, rfl, ?_⟩
    repeat' (first
      | (with_reducible apply Given.mk; intro h; (try exact absurd h (by decide)))
      | ((conv => whnf); with_reducible apply Both.mk))
    all_goals first
      | (with_reducible apply Ob.mk; kernel_rfl)
      | (with_reducible apply Ob.mk; decide)
      | (with_reducible apply Ob.mk; simp [ByteArray.size, catB, exB]; done)
      | ((conv => whnf); refine ⟨?_⟩; first | with_reducible rfl | rfl)
  · cases h
abbrev tb_scalars_Any : List (Nat × Sp) := (14, sp_scalars_Any) :: tb_scalars_Const
theorem C_scalars_Any : CSound Try.prog anyWorld (tab noData tb_scalars_Any) := C_scalars_Const.cons e_scalars_Any

def sp_scalars_Bytes : Sp
  | [.one (.b64 true n)] => some (Cond.t, .agg [.b64 false ((nBytes n).tv), .b64 false ((nBytes n).tm), .b64 false ((nBytes n).lo), .b64 false ((nBytes n).hi), .b64 true ((nBytes n).slo), .b64 true ((nBytes n).shi)])
  | _ => none
set_option maxRecDepth 100000 in
set_option maxHeartbeats 4000000 in
theorem e_scalars_Bytes : EntryOK Try.prog anyWorld 30 sp_scalars_Bytes := by
  refine .of_F C_scalars_Any (by kernel_rfl) Try.func30 (by kernel_rfl) (by kernel_rfl) (fun args c v h hc => ?_)
  unfold sp_scalars_Bytes at h
  split at h
  · rename_i n; cases h
    refine ⟨rfl, rfl, ?_⟩
    repeat' (first
      | (with_reducible apply Given.mk; intro h; (try simp only [eq_self, Bool.not_true, Bool.not_false, Bool.false_eq_true, Bool.true_eq_false, reduceCtorEq] at h); (try exact absurd h (by decide)))
      | ((conv => whnf); with_reducible apply Both.mk))
    all_goals first
      | (with_reducible apply Ob.mk; kernel_rfl)
      | (with_reducible apply Ob.mk; decide)
      | (with_reducible apply Ob.mk; rfl)
      | (with_reducible apply Ob.mk; exact most_pos n (by assumption) (by assumption))
      | ((conv => whnf); refine ⟨?_⟩; first | with_reducible rfl | (simp only [nBytes, nMost, nAny, nMk, *, Bool.true_and, Bool.and_true, Bool.false_and, Bool.and_false, Bool.true_or, Bool.or_true, Bool.false_or, Bool.or_false, Bool.not_true, Bool.not_false, Bool.false_eq_true, Bool.true_eq_false, if_true, if_false, reduceCtorEq]; done) | (simp_all [nBytes, nMost, nAny, nMk]; done) | rfl)
  · cases h
abbrev tb_scalars_Bytes : List (Nat × Sp) := (30, sp_scalars_Bytes) :: tb_scalars_Any
theorem C_scalars_Bytes : CSound Try.prog anyWorld (tab noData tb_scalars_Bytes) := C_scalars_Any.cons e_scalars_Bytes

def sp_scalars_In : Sp
  | [.agg [.b64 false a1, .b64 false a2, .b64 false a3, .b64 false a4, .b64 true a5, .b64 true a6], .agg [.b64 false b1, .b64 false b2, .b64 false b3, .b64 false b4, .b64 true b5, .b64 true b6]] => some (Cond.t, .one (.bool (nIn (NN.mk a1 a2 a3 a4 a5 a6) (NN.mk b1 b2 b3 b4 b5 b6))))
  | _ => none
set_option maxRecDepth 100000 in
set_option maxHeartbeats 4000000 in
theorem e_scalars_In : EntryOK Try.prog anyWorld 49 sp_scalars_In := by
  refine .of_F C_scalars_Bytes (by kernel_rfl) Try.func49 (by kernel_rfl) (by kernel_rfl) (fun args c v h hc => ?_)
  unfold sp_scalars_In at h
  split at h
  · rename_i a1 a2 a3 a4 a5 a6 b1 b2 b3 b4 b5 b6; cases h
    refine ⟨rfl, rfl, ?_⟩
    repeat' (first
      | (with_reducible apply Given.mk; intro h; (try simp only [eq_self, Bool.not_true, Bool.not_false, Bool.false_eq_true, Bool.true_eq_false, reduceCtorEq] at h); (try exact absurd h (by decide)))
      | ((conv => whnf); with_reducible apply Both.mk))
    all_goals first
      | (with_reducible apply Ob.mk; kernel_rfl)
      | (with_reducible apply Ob.mk; decide)
      | (with_reducible apply Ob.mk; rfl)
      | ((conv => whnf); refine ⟨?_⟩; first | with_reducible rfl | (simp only [nIn, NN.s, *, Bool.true_and, Bool.and_true, Bool.false_and, Bool.and_false, Bool.true_or, Bool.or_true, Bool.false_or, Bool.or_false, Bool.not_true, Bool.not_false, Bool.false_eq_true, Bool.true_eq_false, if_true, if_false, reduceCtorEq]; done) | (simp_all [nIn, NN.s]; done) | rfl)
  · cases h
abbrev tb_scalars_In : List (Nat × Sp) := (49, sp_scalars_In) :: tb_scalars_Bytes
theorem C_scalars_In : CSound Try.prog anyWorld (tab noData tb_scalars_In) := C_scalars_Bytes.cons e_scalars_In

def sp_firewalllaw17_Made : Sp
  | [.one (.b64 false v), .agg [.b64 false k, .b64 false p, .b64 false q, .b64 false r, .b64 false s]] => some (Cond.t, .agg [.b64 false ((nMade v k p q r s).tv), .b64 false ((nMade v k p q r s).tm), .b64 false ((nMade v k p q r s).lo), .b64 false ((nMade v k p q r s).hi), .b64 true ((nMade v k p q r s).slo), .b64 true ((nMade v k p q r s).shi)])
  | _ => none
set_option maxRecDepth 100000 in
set_option maxHeartbeats 4000000 in
theorem e_firewalllaw17_Made : EntryOK Try.prog anyWorld 39 sp_firewalllaw17_Made := by
  refine .of_F C_scalars_In (by kernel_rfl) Try.func39 (by kernel_rfl) (by kernel_rfl) (fun args c v h hc => ?_)
  unfold sp_firewalllaw17_Made at h
  split at h
  · rename_i v k p q r s; cases h
    refine ⟨rfl, rfl, ?_⟩
    repeat' (first
      | (with_reducible apply Given.mk; intro h; (try exact absurd h (by decide)))
      | ((conv => whnf); with_reducible apply Both.mk))
    all_goals first
      | (with_reducible apply Ob.mk; kernel_rfl)
      | (with_reducible apply Ob.mk; decide)
      | (with_reducible apply Ob.mk; simp [ByteArray.size, catB, exB]; done)
      | ((conv => whnf); refine ⟨?_⟩; first | with_reducible rfl | rfl)
  · cases h
abbrev tb_firewalllaw17_Made : List (Nat × Sp) := (39, sp_firewalllaw17_Made) :: tb_scalars_In
theorem C_firewalllaw17_Made : CSound Try.prog anyWorld (tab noData tb_firewalllaw17_Made) := C_scalars_In.cons e_firewalllaw17_Made

def sp_kinds_Number : Sp
  | [.agg [.b64 false na, .b64 false nb, .b64 false nc, .b64 false nd, .b64 true ne, .b64 true nf]] => some (Cond.t, .agg [.b64 true 1, .b64 true 0, .b64 true 0, .b64 true 0, .b64 true 0, .b64 false na, .b64 false nb, .b64 false nc, .b64 false nd, .b64 true ne, .b64 true nf])
  | _ => none
set_option maxRecDepth 100000 in
set_option maxHeartbeats 4000000 in
theorem e_kinds_Number : EntryOK Try.prog anyWorld 13 sp_kinds_Number := by
  refine .of_F C_firewalllaw17_Made (by kernel_rfl) Try.func13 (by kernel_rfl) (by kernel_rfl) (fun args c v h hc => ?_)
  unfold sp_kinds_Number at h
  split at h
  · rename_i na nb nc nd ne nf; cases h
    refine ⟨rfl, rfl, ?_⟩
    repeat' (first
      | (with_reducible apply Given.mk; intro h; (try exact absurd h (by decide)))
      | ((conv => whnf); with_reducible apply Both.mk))
    all_goals first
      | (with_reducible apply Ob.mk; kernel_rfl)
      | (with_reducible apply Ob.mk; decide)
      | (with_reducible apply Ob.mk; simp [ByteArray.size, catB, exB]; done)
      | ((conv => whnf); refine ⟨?_⟩; first | with_reducible rfl | rfl)
  · cases h
abbrev tb_kinds_Number : List (Nat × Sp) := (13, sp_kinds_Number) :: tb_firewalllaw17_Made
theorem C_kinds_Number : CSound Try.prog anyWorld (tab noData tb_kinds_Number) := C_firewalllaw17_Made.cons e_kinds_Number

def sp_kinds_Points : Sp
  | [.agg [.b64 true v1, .b64 true v2, .b64 true v3, .b64 true v4, .b64 true v5, .b64 false va, .b64 false vb, .b64 false vc, .b64 false vd, .b64 true ve, .b64 true vf]] => some (Cond.t, .one (.bool (vPts (VV.mk v1 v2 v3 v4 v5 (NN.mk va vb vc vd ve vf)))))
  | _ => none
set_option maxRecDepth 100000 in
set_option maxHeartbeats 4000000 in
theorem e_kinds_Points : EntryOK Try.prog anyWorld 34 sp_kinds_Points := by
  refine .of_F C_kinds_Number (by kernel_rfl) Try.func34 (by kernel_rfl) (by kernel_rfl) (fun args c v h hc => ?_)
  unfold sp_kinds_Points at h
  split at h
  · rename_i v1 v2 v3 v4 v5 va vb vc vd ve vf; cases h
    refine ⟨rfl, rfl, ?_⟩
    repeat' (first
      | (with_reducible apply Given.mk; intro h; (try simp only [eq_self, Bool.not_true, Bool.not_false, Bool.false_eq_true, Bool.true_eq_false, reduceCtorEq] at h); (try exact absurd h (by decide)))
      | ((conv => whnf); with_reducible apply Both.mk))
    all_goals first
      | (with_reducible apply Ob.mk; kernel_rfl)
      | (with_reducible apply Ob.mk; decide)
      | (with_reducible apply Ob.mk; rfl)
      | ((conv => whnf); refine ⟨?_⟩; first | with_reducible rfl | (simp only [vPts, *, Bool.true_and, Bool.and_true, Bool.false_and, Bool.and_false, Bool.true_or, Bool.or_true, Bool.false_or, Bool.or_false, Bool.not_true, Bool.not_false, Bool.false_eq_true, Bool.true_eq_false, if_true, if_false, reduceCtorEq]; done) | (simp_all [vPts]; done) | rfl)
  · cases h
abbrev tb_kinds_Points : List (Nat × Sp) := (34, sp_kinds_Points) :: tb_kinds_Number
theorem C_kinds_Points : CSound Try.prog anyWorld (tab noData tb_kinds_Points) := C_kinds_Number.cons e_kinds_Points

def sp_kinds_within : Sp
  | [.one (.b64 true a), .one (.b64 true n), .one (.b64 true f), .one (.b64 true t)] => some (Cond.t, .one (.bool (vIn a n f t)))
  | _ => none
set_option maxRecDepth 100000 in
set_option maxHeartbeats 4000000 in
theorem e_kinds_within : EntryOK Try.prog anyWorld 41 sp_kinds_within := by
  refine .of_F C_kinds_Points (by kernel_rfl) Try.func41 (by kernel_rfl) (by kernel_rfl) (fun args c v h hc => ?_)
  unfold sp_kinds_within at h
  split at h
  · rename_i a n f t; cases h
    refine ⟨rfl, rfl, ?_⟩
    repeat' (first
      | (with_reducible apply Given.mk; intro h; (try simp only [eq_self, Bool.not_true, Bool.not_false, Bool.false_eq_true, Bool.true_eq_false, reduceCtorEq] at h); (try exact absurd h (by decide)))
      | ((conv => whnf); with_reducible apply Both.mk))
    all_goals first
      | (with_reducible apply Ob.mk; kernel_rfl)
      | (with_reducible apply Ob.mk; decide)
      | (with_reducible apply Ob.mk; rfl)
      | ((conv => whnf); refine ⟨?_⟩; first | with_reducible rfl | (simp only [vIn, *, Bool.true_and, Bool.and_true, Bool.false_and, Bool.and_false, Bool.true_or, Bool.or_true, Bool.false_or, Bool.or_false, Bool.not_true, Bool.not_false, Bool.false_eq_true, Bool.true_eq_false, if_true, if_false, reduceCtorEq]; done) | (simp_all [vIn]; done) | rfl)
  · cases h
abbrev tb_kinds_within : List (Nat × Sp) := (41, sp_kinds_within) :: tb_kinds_Points
theorem C_kinds_within : CSound Try.prog anyWorld (tab noData tb_kinds_within) := C_kinds_Points.cons e_kinds_within

def sp_kinds_Reach : Sp
  | [.agg [.b64 true v1, .b64 true v2, .b64 true v3, .b64 true v4, .b64 true v5, .b64 false va, .b64 false vb, .b64 false vc, .b64 false vd, .b64 true ve, .b64 true vf], .one (.b64 true o), .one (.b64 true n), .one (.b64 true z)] => some (Cond.t, .one (.bool (vReach (VV.mk v1 v2 v3 v4 v5 (NN.mk va vb vc vd ve vf)) o n z)))
  | _ => none
set_option maxRecDepth 100000 in
set_option maxHeartbeats 4000000 in
theorem e_kinds_Reach : EntryOK Try.prog anyWorld 23 sp_kinds_Reach := by
  refine .of_F C_kinds_within (by kernel_rfl) Try.func23 (by kernel_rfl) (by kernel_rfl) (fun args c v h hc => ?_)
  unfold sp_kinds_Reach at h
  split at h
  · rename_i v1 v2 v3 v4 v5 va vb vc vd ve vf o n z; cases h
    refine ⟨rfl, rfl, ?_⟩
    repeat' (first
      | (with_reducible apply Given.mk; intro h; (try simp only [eq_self, Bool.not_true, Bool.not_false, Bool.false_eq_true, Bool.true_eq_false, reduceCtorEq] at h); (try exact absurd h (by decide)))
      | ((conv => whnf); with_reducible apply Both.mk))
    all_goals first
      | (with_reducible apply Ob.mk; kernel_rfl)
      | (with_reducible apply Ob.mk; decide)
      | (with_reducible apply Ob.mk; rfl)
      | ((conv => whnf); refine ⟨?_⟩; first | with_reducible rfl | (simp only [vReach, *, Bool.true_and, Bool.and_true, Bool.false_and, Bool.and_false, Bool.true_or, Bool.or_true, Bool.false_or, Bool.or_false, Bool.not_true, Bool.not_false, Bool.false_eq_true, Bool.true_eq_false, if_true, if_false, reduceCtorEq]; done) | (simp_all [vReach]; done) | rfl)
  · cases h
abbrev tb_kinds_Reach : List (Nat × Sp) := (23, sp_kinds_Reach) :: tb_kinds_within
theorem C_kinds_Reach : CSound Try.prog anyWorld (tab noData tb_kinds_Reach) := C_kinds_within.cons e_kinds_Reach

def sp_firewalllaw18_At_V : Sp
  | [.agg [.b64 true k, .b64 true p, .b64 true j, .b64 true o, .b64 true s, .b32 false q, .b64 false b1, .b64 false b2, .b64 false b3, .b64 false b4, .b64 false b5]] => some (Cond.t, .agg [.b64 true k, .b64 true p, .b64 true j, .b64 true o, .b64 true s, .b64 false ((nMade (q.setWidth 64) b1 b2 b3 b4 b5).tv), .b64 false ((nMade (q.setWidth 64) b1 b2 b3 b4 b5).tm), .b64 false ((nMade (q.setWidth 64) b1 b2 b3 b4 b5).lo), .b64 false ((nMade (q.setWidth 64) b1 b2 b3 b4 b5).hi), .b64 true ((nMade (q.setWidth 64) b1 b2 b3 b4 b5).slo), .b64 true ((nMade (q.setWidth 64) b1 b2 b3 b4 b5).shi)])
  | _ => none
set_option maxRecDepth 100000 in
set_option maxHeartbeats 4000000 in
theorem e_firewalllaw18_At_V : EntryOK Try.prog anyWorld 19 sp_firewalllaw18_At_V := by
  refine .of_F C_kinds_Reach (by kernel_rfl) Try.func19 (by kernel_rfl) (by kernel_rfl) (fun args c v h hc => ?_)
  unfold sp_firewalllaw18_At_V at h
  split at h
  · rename_i k p j o s q b1 b2 b3 b4 b5; cases h
    refine ⟨rfl, rfl, ?_⟩
    repeat' (first
      | (with_reducible apply Given.mk; intro h; (try exact absurd h (by decide)))
      | ((conv => whnf); with_reducible apply Both.mk))
    all_goals first
      | (with_reducible apply Ob.mk; kernel_rfl)
      | (with_reducible apply Ob.mk; decide)
      | (with_reducible apply Ob.mk; simp [ByteArray.size, catB, exB]; done)
      | ((conv => whnf); refine ⟨?_⟩; first | with_reducible rfl | rfl)
  · cases h
abbrev tb_firewalllaw18_At_V : List (Nat × Sp) := (19, sp_firewalllaw18_At_V) :: tb_kinds_Reach
theorem C_firewalllaw18_At_V : CSound Try.prog anyWorld (tab noData tb_firewalllaw18_At_V) := C_kinds_Reach.cons e_firewalllaw18_At_V

end Go.Proofs.Ytiopddomdpoaaaa
