/-
  Arithmetic of the machine, and the chapter's examples: by the evaluator. Conditions: as typed.
-/
import Derived.Test.YtppankimieopiaaDoorCpT
namespace Go.Proofs.YtppankimieopiaaDoor
open Go.Ep Go.RowKit
set_option linter.unusedVariables false
set_option linter.unusedSimpArgs false

/-- What arithmetic comes to; by: by how much is moved; minus: moved down with the sign told on. -/
def aluW {w : Nat} (op : BitVec 8) (a b : BitVec w) (n : Nat) (minus : BitVec w) : BitVec w :=
  if op == 0#8 then a + b else if op == 16#8 then a - b else if op == 32#8 then a * b
  else if op == 48#8 then (if b == 0#w then 0#w else a / b) else if op == 144#8 then (if b == 0#w then a else a % b)
  else if op == 64#8 then a ||| b else if op == 80#8 then a &&& b else if op == 160#8 then a ^^^ b
  else if op == 96#8 then a <<< n else if op == 112#8 then a >>> n else if op == 192#8 then minus
  else if op == 128#8 then -a else if op == 176#8 then b else 0#w
def aluD (op : BitVec 8) (wide : Bool) (a b : BitVec 64) : BitVec 64 :=
  if wide then aluW op a b (b % 64#64).toNat (a.sshiftRight (b % 64#64).toNat)
  else (aluW op (a.setWidth 32) (b.setWidth 32) (b % 32#64).toNat ((a.setWidth 32).sshiftRight (b % 32#64).toNat)).setWidth 64


def tmL (w : Bool) (a b : BitVec 64) : BitVec 64 := if w then a * b else ((a.setWidth 32).setWidth 64 * (b.setWidth 32).setWidth 64) &&& 4294967295#64
def tmH (w : Bool) (a b : BitVec 64) : BitVec 64 := if w then BitVec.ofNat 64 (a.toNat * b.toNat / 18446744073709551616) else ((a.setWidth 32).setWidth 64 * (b.setWidth 32).setWidth 64) >>> (32#64).toNat
def dQ (h l y : BitVec 32) : BitVec 32 := (((h.setWidth 64 <<< 32) ||| l.setWidth 64) / y.setWidth 64).setWidth 32
def dR (h l y : BitVec 32) : BitVec 32 := (((h.setWidth 64 <<< 32) ||| l.setWidth 64) % y.setWidth 64).setWidth 32
def ptK (w : Bool) (h y : BitVec 64) : Bool := if w then !(y.ule h) else !((y.setWidth 32).ule (h.setWidth 32))
def ptQ (w : Bool) (h l y : BitVec 64) : BitVec 64 := if w then l / y else (dQ (h.setWidth 32) (l.setWidth 32) (y.setWidth 32)).setWidth 64
def ptR (w : Bool) (h l y : BitVec 64) : BitVec 64 := if w then l % y else (dR (h.setWidth 32) (l.setWidth 32) (y.setWidth 32)).setWidth 64
theorem ne_of_lt32 {h y : BitVec 32} (c : y.ule h = false) : y ≠ 0#32 := by
  rintro rfl
  simp [BitVec.ule] at c
theorem ne_of_lt64 {h y : BitVec 64} (c : y.ule h = false) : y ≠ 0#64 := by
  rintro rfl
  simp [BitVec.ule] at c
theorem wide_ne {y : BitVec 32} (h : y ≠ 0#32) : y.setWidth 64 ≠ 0#64 := by
  intro e
  apply h
  apply BitVec.eq_of_toNat_eq
  have := congrArg BitVec.toNat e
  have hy := y.isLt
  simp at this
  show y.toNat = 0
  omega
theorem ne_b32 {h y : BitVec 32} (c : y.ule h = false) : (y == 0#32) = false := by simpa using ne_of_lt32 c
theorem ne_b64 {h y : BitVec 64} (c : y.ule h = false) : (y == 0#64) = false := by simpa using ne_of_lt64 c

def sp_alu_do_uint64 : Sp
  | [.one (.b8 false op), .one (.b64 false a), .one (.b64 false b), .one (.b64 false n), .one (.b64 false m)] => some (Cond.t, .one (.b64 false (aluW op a b n.toNat m)))
  | _ => none
set_option maxRecDepth 100000 in
set_option maxHeartbeats 4000000 in
theorem e_alu_do_uint64 (G2 : World → Prop) (D2 : VData) (k2 : DataOK Tryd.prog G2 D2) (m : Nat → Nat) : EntryOK Tryd.prog (and2 (GB m) (and2 (GP m) G2)) 40 sp_alu_do_uint64 := by
  refine .of_F (C_firewallref12_Taken G2 D2 k2 m) (by kernel_rfl) Tryd.func40 (by kernel_rfl) (by kernel_rfl) (fun args c v h hc => ?_)
  unfold sp_alu_do_uint64 at h
  split at h
  · rename_i op a b n m; cases h
    refine ⟨rfl, rfl, ?_⟩
    repeat' (first
      | (with_reducible apply Given.mk; intro h)
      | ((conv => whnf); with_reducible apply Both.mk))
    all_goals first
      | (with_reducible apply Ob.mk; simp_all; done)
      | ((conv => whnf); refine ⟨?_⟩; simp only [aluW, *, if_true, if_false, Bool.false_eq_true]; done)
  · cases h
abbrev tb_alu_do_uint64 (m : Nat → Nat) : List (Nat × Sp) := (40, sp_alu_do_uint64) :: tb_firewallref12_Taken m
theorem C_alu_do_uint64 (G2 : World → Prop) (D2 : VData) (k2 : DataOK Tryd.prog G2 D2) (m : Nat → Nat) : CSound Tryd.prog (and2 (GB m) (and2 (GP m) G2)) (tab (or2 (DB m) (or2 (DP m) D2)) (tb_alu_do_uint64 m)) := (C_firewallref12_Taken G2 D2 k2 m).cons (e_alu_do_uint64 G2 D2 k2 m)

def sp_alu_do_uint32 : Sp
  | [.one (.b8 false op), .one (.b32 false a), .one (.b32 false b), .one (.b64 false n), .one (.b32 false m)] => some (Cond.t, .one (.b32 false (aluW op a b n.toNat m)))
  | _ => none
set_option maxRecDepth 100000 in
set_option maxHeartbeats 4000000 in
theorem e_alu_do_uint32 (G2 : World → Prop) (D2 : VData) (k2 : DataOK Tryd.prog G2 D2) (m : Nat → Nat) : EntryOK Tryd.prog (and2 (GB m) (and2 (GP m) G2)) 41 sp_alu_do_uint32 := by
  refine .of_F (C_alu_do_uint64 G2 D2 k2 m) (by kernel_rfl) Tryd.func41 (by kernel_rfl) (by kernel_rfl) (fun args c v h hc => ?_)
  unfold sp_alu_do_uint32 at h
  split at h
  · rename_i op a b n m; cases h
    refine ⟨rfl, rfl, ?_⟩
    repeat' (first
      | (with_reducible apply Given.mk; intro h)
      | ((conv => whnf); with_reducible apply Both.mk))
    all_goals first
      | (with_reducible apply Ob.mk; simp_all; done)
      | ((conv => whnf); refine ⟨?_⟩; simp only [aluW, *, if_true, if_false, Bool.false_eq_true]; done)
  · cases h
abbrev tb_alu_do_uint32 (m : Nat → Nat) : List (Nat × Sp) := (41, sp_alu_do_uint32) :: tb_alu_do_uint64 m
theorem C_alu_do_uint32 (G2 : World → Prop) (D2 : VData) (k2 : DataOK Tryd.prog G2 D2) (m : Nat → Nat) : CSound Tryd.prog (and2 (GB m) (and2 (GP m) G2)) (tab (or2 (DB m) (or2 (DP m) D2)) (tb_alu_do_uint32 m)) := (C_alu_do_uint64 G2 D2 k2 m).cons (e_alu_do_uint32 G2 D2 k2 m)

def sp_alu_Do : Sp
  | [.one (.b8 false op), .one (.bool wide), .one (.b64 false a), .one (.b64 false b)] => some (Cond.t, .one (.b64 false (aluD op wide a b)))
  | _ => none
set_option maxRecDepth 100000 in
set_option maxHeartbeats 4000000 in
theorem e_alu_Do (G2 : World → Prop) (D2 : VData) (k2 : DataOK Tryd.prog G2 D2) (m : Nat → Nat) : EntryOK Tryd.prog (and2 (GB m) (and2 (GP m) G2)) 17 sp_alu_Do := by
  refine .of_F (C_alu_do_uint32 G2 D2 k2 m) (by kernel_rfl) Tryd.func17 (by kernel_rfl) (by kernel_rfl) (fun args c v h hc => ?_)
  unfold sp_alu_Do at h
  split at h
  · rename_i op wide a b; cases h
    refine ⟨rfl, rfl, ?_⟩
    repeat' (first
      | (with_reducible apply Given.mk; intro h)
      | ((conv => whnf); with_reducible apply Both.mk))
    all_goals first
      | (with_reducible apply Ob.mk; decide)
      | (with_reducible apply Ob.mk; kernel_rfl)
      | ((conv => whnf); refine ⟨?_⟩; simp only [aluD, *, if_true, if_false, Bool.false_eq_true]; done)
  · cases h
abbrev tb_alu_Do (m : Nat → Nat) : List (Nat × Sp) := (17, sp_alu_Do) :: tb_alu_do_uint32 m
theorem C_alu_Do (G2 : World → Prop) (D2 : VData) (k2 : DataOK Tryd.prog G2 D2) (m : Nat → Nat) : CSound Tryd.prog (and2 (GB m) (and2 (GP m) G2)) (tab (or2 (DB m) (or2 (DP m) D2)) (tb_alu_Do m)) := (C_alu_do_uint32 G2 D2 k2 m).cons (e_alu_Do G2 D2 k2 m)

def sp_bits_Mul64 : Sp
  | [.one (.b64 false x), .one (.b64 false y)] => some (Cond.t, .tup [(false, [.b64 false (BitVec.ofNat 64 (x.toNat * y.toNat / 18446744073709551616))]), (false, [.b64 false (x * y)])])
  | _ => none
set_option maxRecDepth 100000 in
theorem e_bits_Mul64 (G2 : World → Prop) (D2 : VData) (k2 : DataOK Tryd.prog G2 D2) (m : Nat → Nat) : EntryOK Tryd.prog (and2 (GB m) (and2 (GP m) G2)) 76 sp_bits_Mul64 := by
  refine ⟨⟨_, Tryd.func76, by kernel_rfl, by kernel_rfl⟩, fun args c v h hc => ?_⟩
  unfold sp_bits_Mul64 at h
  split at h
  · rename_i x y; cases h
    refine ⟨rfl, fun us ρ hr w _ => ?_⟩
    obtain ⟨u, v, rfl, h1, h2⟩ : ∃ u v, us = [u, v] ∧ RelL ρ (.b64 false x) u ∧ RelL ρ (.b64 false y) v := by
      match us, hr with
      | [u, v], ⟨h1, h2, _⟩ => exact ⟨u, v, rfl, h1, h2⟩
    obtain rfl := h1 (by simp)
    obtain rfl := h2 (by simp)
    have h3 := x.isLt
    have h4 := y.isLt
    refine (Tryd.bits_Mul64 x.toNat y.toNat h3 h4 w).mono ?_
    rintro e w' ⟨rfl, rfl⟩
    refine ⟨_, rfl, ⟨_, rfl, fun _ => ?_, fun _ => ?_, trivial⟩, Below.refl _ _⟩
    · have h5 : x.toNat * y.toNat / 18446744073709551616 < 18446744073709551616 := by
        apply Nat.div_lt_of_lt_mul
        exact Nat.mul_lt_mul'' h3 h4
      simp only [gL, k64, vI, BitVec.toNat_ofNat]
      rw [Nat.mod_eq_of_lt h5]
    · simp only [gL, k64, vI, BitVec.toNat_mul]
  · cases h
abbrev tb_bits_Mul64 (m : Nat → Nat) : List (Nat × Sp) := (76, sp_bits_Mul64) :: tb_alu_Do m
theorem C_bits_Mul64 (G2 : World → Prop) (D2 : VData) (k2 : DataOK Tryd.prog G2 D2) (m : Nat → Nat) : CSound Tryd.prog (and2 (GB m) (and2 (GP m) G2)) (tab (or2 (DB m) (or2 (DP m) D2)) (tb_bits_Mul64 m)) := (C_alu_Do G2 D2 k2 m).cons (e_bits_Mul64 G2 D2 k2 m)

def sp_bits_Div32 : Sp
  | [.one (.b32 false hh), .one (.b32 false l), .one (.b32 false y)] => some (Cond.p (y.ule hh = false), .tup [(false, [.b32 false (dQ hh l y)]), (false, [.b32 false (dR hh l y)])])
  | _ => none
set_option maxRecDepth 100000 in
set_option maxHeartbeats 4000000 in
theorem e_bits_Div32 (G2 : World → Prop) (D2 : VData) (k2 : DataOK Tryd.prog G2 D2) (m : Nat → Nat) : EntryOK Tryd.prog (and2 (GB m) (and2 (GP m) G2)) 78 sp_bits_Div32 := by
  refine .of_F (C_bits_Mul64 G2 D2 k2 m) (by kernel_rfl) Tryd.func78 (by kernel_rfl) (by kernel_rfl) (fun args c v h hc => ?_)
  unfold sp_bits_Div32 at h
  split at h
  · rename_i hh l y; cases h
    refine ⟨rfl, rfl, ?_⟩
    have hd : y.ule hh = false := hc
    have hb := ne_b32 hd
    have hn := wide_ne (ne_of_lt32 hd)
    repeat' (first
      | (with_reducible apply Given.mk; intro h; (try simp only [hd, hb, Bool.not_true, Bool.not_false, Bool.false_and, Bool.true_and, Bool.and_false, Bool.and_true, Bool.false_or, Bool.true_or, Bool.false_eq_true, Bool.true_eq_false, reduceCtorEq] at h); (try exact absurd h (by decide)); (try exact no2 h (by with_reducible assumption)); (try exact no2 (by with_reducible assumption) h))
      | ((conv => whnf); with_reducible apply Both.mk))
    all_goals first
      | (with_reducible apply Ob.mk; kernel_rfl)
      | (with_reducible apply Ob.mk; decide)
      | (with_reducible apply Ob.mk; exact hn)
      | ((conv => whnf); refine ⟨?_⟩; first | with_reducible rfl | (simp only [dQ, dR, *, if_true, if_false, Bool.not_true, Bool.not_false, Bool.false_eq_true]; done) | rfl)
  · cases h
abbrev tb_bits_Div32 (m : Nat → Nat) : List (Nat × Sp) := (78, sp_bits_Div32) :: tb_bits_Mul64 m
theorem C_bits_Div32 (G2 : World → Prop) (D2 : VData) (k2 : DataOK Tryd.prog G2 D2) (m : Nat → Nat) : CSound Tryd.prog (and2 (GB m) (and2 (GP m) G2)) (tab (or2 (DB m) (or2 (DP m) D2)) (tb_bits_Div32 m)) := (C_bits_Mul64 G2 D2 k2 m).cons (e_bits_Div32 G2 D2 k2 m)

def sp_bits_Div64 : Sp
  | [.one (.b64 false hh), .one (.b64 false l), .one (.b64 false y)] => some (Cond.p (hh = 0#64 ∧ y.ule hh = false), .tup [(false, [.b64 false (l / y)]), (false, [.b64 false (l % y)])])
  | _ => none
set_option maxRecDepth 100000 in
set_option maxHeartbeats 4000000 in
theorem e_bits_Div64 (G2 : World → Prop) (D2 : VData) (k2 : DataOK Tryd.prog G2 D2) (m : Nat → Nat) : EntryOK Tryd.prog (and2 (GB m) (and2 (GP m) G2)) 77 sp_bits_Div64 := by
  refine .of_F (C_bits_Div32 G2 D2 k2 m) (by kernel_rfl) Tryd.func77 (by kernel_rfl) (by kernel_rfl) (fun args c v h hc => ?_)
  unfold sp_bits_Div64 at h
  split at h
  · rename_i hh l y; cases h
    refine ⟨rfl, rfl, ?_⟩
    obtain ⟨rfl, hd⟩ := hc
    have hb := ne_b64 hd
    have hn := ne_of_lt64 hd
    repeat' (first
      | (with_reducible apply Given.mk; intro h; (try simp only [hd, hb, Bool.not_true, Bool.not_false, Bool.false_and, Bool.true_and, Bool.and_false, Bool.and_true, Bool.false_or, Bool.true_or, Bool.false_eq_true, Bool.true_eq_false, reduceCtorEq] at h); (try exact absurd h (by decide)); (try exact no2 h (by with_reducible assumption)); (try exact no2 (by with_reducible assumption) h))
      | ((conv => whnf); with_reducible apply Both.mk))
    all_goals first
      | (with_reducible apply Ob.mk; kernel_rfl)
      | (with_reducible apply Ob.mk; decide)
      | (with_reducible apply Ob.mk; exact hn)
      | ((conv => whnf); refine ⟨?_⟩; first | with_reducible rfl | (simp only [dQ, dR, *, if_true, if_false, Bool.not_true, Bool.not_false, Bool.false_eq_true]; done) | rfl)
  · cases h
abbrev tb_bits_Div64 (m : Nat → Nat) : List (Nat × Sp) := (77, sp_bits_Div64) :: tb_bits_Div32 m
theorem C_bits_Div64 (G2 : World → Prop) (D2 : VData) (k2 : DataOK Tryd.prog G2 D2) (m : Nat → Nat) : CSound Tryd.prog (and2 (GB m) (and2 (GP m) G2)) (tab (or2 (DB m) (or2 (DP m) D2)) (tb_bits_Div64 m)) := (C_bits_Div32 G2 D2 k2 m).cons (e_bits_Div64 G2 D2 k2 m)

def sp_cpu_minus_uint64 : Sp
  | [.one (.b64 false v)] => some (Cond.t, .one (.bool ((9223372036854775807#64).ult v)))
  | _ => none
set_option maxRecDepth 100000 in
set_option maxHeartbeats 4000000 in
theorem e_cpu_minus_uint64 (G2 : World → Prop) (D2 : VData) (k2 : DataOK Tryd.prog G2 D2) (m : Nat → Nat) : EntryOK Tryd.prog (and2 (GB m) (and2 (GP m) G2)) 92 sp_cpu_minus_uint64 := by
  refine .of_F (C_bits_Div64 G2 D2 k2 m) (by kernel_rfl) Tryd.func92 (by kernel_rfl) (by kernel_rfl) (fun args c v h hc => ?_)
  unfold sp_cpu_minus_uint64 at h
  split at h
  · rename_i v; cases h
    refine ⟨rfl, rfl, ?_⟩
    repeat' (first
      | (with_reducible apply Given.mk; intro h; (try exact absurd h (by decide)))
      | ((conv => whnf); with_reducible apply Both.mk))
    all_goals first
      | (with_reducible apply Ob.mk; kernel_rfl)
      | (with_reducible apply Ob.mk; decide)
      | (with_reducible apply Ob.mk; simp [ByteArray.size, catB, exB]; done)
      | ((conv => whnf); refine ⟨?_⟩; first | with_reducible rfl | rfl)
  · cases h
abbrev tb_cpu_minus_uint64 (m : Nat → Nat) : List (Nat × Sp) := (92, sp_cpu_minus_uint64) :: tb_bits_Div64 m
theorem C_cpu_minus_uint64 (G2 : World → Prop) (D2 : VData) (k2 : DataOK Tryd.prog G2 D2) (m : Nat → Nat) : CSound Tryd.prog (and2 (GB m) (and2 (GP m) G2)) (tab (or2 (DB m) (or2 (DP m) D2)) (tb_cpu_minus_uint64 m)) := (C_bits_Div64 G2 D2 k2 m).cons (e_cpu_minus_uint64 G2 D2 k2 m)

def sp_cpu_minus_uint32 : Sp
  | [.one (.b32 false v)] => some (Cond.t, .one (.bool ((2147483647#32).ult v)))
  | _ => none
set_option maxRecDepth 100000 in
set_option maxHeartbeats 4000000 in
theorem e_cpu_minus_uint32 (G2 : World → Prop) (D2 : VData) (k2 : DataOK Tryd.prog G2 D2) (m : Nat → Nat) : EntryOK Tryd.prog (and2 (GB m) (and2 (GP m) G2)) 93 sp_cpu_minus_uint32 := by
  refine .of_F (C_cpu_minus_uint64 G2 D2 k2 m) (by kernel_rfl) Tryd.func93 (by kernel_rfl) (by kernel_rfl) (fun args c v h hc => ?_)
  unfold sp_cpu_minus_uint32 at h
  split at h
  · rename_i v; cases h
    refine ⟨rfl, rfl, ?_⟩
    repeat' (first
      | (with_reducible apply Given.mk; intro h; (try exact absurd h (by decide)))
      | ((conv => whnf); with_reducible apply Both.mk))
    all_goals first
      | (with_reducible apply Ob.mk; kernel_rfl)
      | (with_reducible apply Ob.mk; decide)
      | (with_reducible apply Ob.mk; simp [ByteArray.size, catB, exB]; done)
      | ((conv => whnf); refine ⟨?_⟩; first | with_reducible rfl | rfl)
  · cases h
abbrev tb_cpu_minus_uint32 (m : Nat → Nat) : List (Nat × Sp) := (93, sp_cpu_minus_uint32) :: tb_cpu_minus_uint64 m
theorem C_cpu_minus_uint32 (G2 : World → Prop) (D2 : VData) (k2 : DataOK Tryd.prog G2 D2) (m : Nat → Nat) : CSound Tryd.prog (and2 (GB m) (and2 (GP m) G2)) (tab (or2 (DB m) (or2 (DP m) D2)) (tb_cpu_minus_uint32 m)) := (C_cpu_minus_uint64 G2 D2 k2 m).cons (e_cpu_minus_uint32 G2 D2 k2 m)

def sp_cpu_times : Sp
  | [.one (.bool wd), .one (.b64 false a), .one (.b64 false b)] => some (Cond.t, .tup [(false, [.b64 false (tmL wd a b)]), (false, [.b64 false (tmH wd a b)])])
  | _ => none
set_option maxRecDepth 100000 in
set_option maxHeartbeats 4000000 in
theorem e_cpu_times (G2 : World → Prop) (D2 : VData) (k2 : DataOK Tryd.prog G2 D2) (m : Nat → Nat) : EntryOK Tryd.prog (and2 (GB m) (and2 (GP m) G2)) 31 sp_cpu_times := by
  refine .of_F (C_cpu_minus_uint32 G2 D2 k2 m) (by kernel_rfl) Tryd.func31 (by kernel_rfl) (by kernel_rfl) (fun args c v h hc => ?_)
  unfold sp_cpu_times at h
  split at h
  · rename_i wd a b; cases h
    refine ⟨rfl, rfl, ?_⟩
    repeat' (first
      | (with_reducible apply Given.mk; intro h; (try simp only [eq_self, Bool.not_true, Bool.not_false, Bool.false_and, Bool.true_and, Bool.and_false, Bool.and_true, Bool.false_or, Bool.true_or, Bool.false_eq_true, Bool.true_eq_false, reduceCtorEq] at h); (try exact absurd h (by decide)); (try exact no2 h (by with_reducible assumption)); (try exact no2 (by with_reducible assumption) h))
      | ((conv => whnf); with_reducible apply Both.mk))
    all_goals first
      | (with_reducible apply Ob.mk; kernel_rfl)
      | (with_reducible apply Ob.mk; decide)
      | (with_reducible apply Ob.mk; rfl)
      | ((conv => whnf); refine ⟨?_⟩; first | with_reducible rfl | (simp only [tmL, tmH, *, if_true, if_false, Bool.not_true, Bool.not_false, Bool.false_eq_true]; done) | rfl)
  · cases h
abbrev tb_cpu_times (m : Nat → Nat) : List (Nat × Sp) := (31, sp_cpu_times) :: tb_cpu_minus_uint32 m
theorem C_cpu_times (G2 : World → Prop) (D2 : VData) (k2 : DataOK Tryd.prog G2 D2) (m : Nat → Nat) : CSound Tryd.prog (and2 (GB m) (and2 (GP m) G2)) (tab (or2 (DB m) (or2 (DP m) D2)) (tb_cpu_times m)) := (C_cpu_minus_uint32 G2 D2 k2 m).cons (e_cpu_times G2 D2 k2 m)

def sp_cpu_part : Sp
  | [.one (.bool wd), .one (.b64 false hh), .one (.b64 false l), .one (.b64 false y)] => some (Cond.p (wd = false ∨ hh = 0#64), .tup [(false, [.b64 false (if ptK wd hh y then ptQ wd hh l y else 0#64)]), (false, [.b64 false (if ptK wd hh y then ptR wd hh l y else 0#64)]), (false, [.bool (ptK wd hh y)])])
  | _ => none
set_option maxRecDepth 100000 in
set_option maxHeartbeats 4000000 in
theorem e_cpu_part (G2 : World → Prop) (D2 : VData) (k2 : DataOK Tryd.prog G2 D2) (m : Nat → Nat) : EntryOK Tryd.prog (and2 (GB m) (and2 (GP m) G2)) 32 sp_cpu_part := by
  refine .of_F (C_cpu_times G2 D2 k2 m) (by kernel_rfl) Tryd.func32 (by kernel_rfl) (by kernel_rfl) (fun args c v h hc => ?_)
  unfold sp_cpu_part at h
  split at h
  · rename_i wd hh l y; cases h
    refine ⟨rfl, rfl, ?_⟩
    have hd : wd = false ∨ hh = 0#64 := hc
    clear hc
    cases wd
    all_goals
      repeat' (first
        | (with_reducible apply Given.mk; intro h'; (try exact absurd h' (by decide)); (try exact no2 h' (by with_reducible assumption)); (try exact no2 (by with_reducible assumption) h'))
        | ((conv => whnf); with_reducible apply Both.mk))
      all_goals first
        | (with_reducible apply Ob.mk; assumption)
        | (with_reducible apply Ob.mk; exact ⟨by simpa using hd, by assumption⟩)
        | (with_reducible apply Ob.mk; kernel_rfl)
        | ((conv => whnf); refine ⟨?_⟩; first | with_reducible rfl | (simp only [ptK, ptQ, ptR, *, if_true, if_false, Bool.not_true, Bool.not_false, Bool.false_eq_true]; done) | rfl)
  · cases h
abbrev tb_cpu_part (m : Nat → Nat) : List (Nat × Sp) := (32, sp_cpu_part) :: tb_cpu_times m
theorem C_cpu_part (G2 : World → Prop) (D2 : VData) (k2 : DataOK Tryd.prog G2 D2) (m : Nat → Nat) : CSound Tryd.prog (and2 (GB m) (and2 (GP m) G2)) (tab (or2 (DB m) (or2 (DP m) D2)) (tb_cpu_part m)) := (C_cpu_times G2 D2 k2 m).cons (e_cpu_part G2 D2 k2 m)

def sp_firewalllaw12_done : Sp
  | [] => some (Cond.t, .one (.bool (true)))
  | _ => none
theorem fs_firewalllaw12_done : FsOK Tryd.prog [(39, Tryd.f39), (13, Tryd.f13), (29, Tryd.f29), (30, Tryd.f30), (74, Tryd.f74), (75, Tryd.f75)] := FsOK.cons Tryd.func39 (by kernel_rfl) (by kernel_rfl) (FsOK.cons Tryd.func13 (by kernel_rfl) (by kernel_rfl) (FsOK.cons Tryd.func29 (by kernel_rfl) (by kernel_rfl) (FsOK.cons Tryd.func30 (by kernel_rfl) (by kernel_rfl) (FsOK.cons Tryd.func74 (by kernel_rfl) (by kernel_rfl) (FsOK.cons Tryd.func75 (by kernel_rfl) (by kernel_rfl) (FsOK.nil))))))
set_option maxRecDepth 100000 in
set_option maxHeartbeats 4000000 in
theorem e_firewalllaw12_done (G2 : World → Prop) (D2 : VData) (k2 : DataOK Tryd.prog G2 D2) (m : Nat → Nat) : EntryOK Tryd.prog (and2 (GB m) (and2 (GP m) G2)) 16 sp_firewalllaw12_done := by
  refine .of_F (CSound.tabI (C_cpu_part G2 D2 k2 m) (by kernel_rfl) fs_firewalllaw12_done 6) (by kernel_rfl) Tryd.func16 (by kernel_rfl) (by kernel_rfl) (fun args c v h hc => ?_)
  unfold sp_firewalllaw12_done at h
  split at h
  · cases h
    refine ⟨rfl, rfl, ?_⟩
    repeat' (first
      | (with_reducible apply Given.mk; intro h; (try exact absurd h (by decide +kernel)))
      | ((conv => whnf); with_reducible apply Both.mk))
    all_goals first
      | (with_reducible apply Ob.mk; kernel_rfl)
      | (with_reducible apply Ob.mk; decide +kernel)
      | ((conv => whnf); refine ⟨?_⟩; first | with_reducible rfl | (refine congrArg (fun v => AV.one (.bool v)) ?_; decide +kernel))
  · cases h
abbrev tb_firewalllaw12_done (m : Nat → Nat) : List (Nat × Sp) := (16, sp_firewalllaw12_done) :: tb_cpu_part m
theorem C_firewalllaw12_done (G2 : World → Prop) (D2 : VData) (k2 : DataOK Tryd.prog G2 D2) (m : Nat → Nat) : CSound Tryd.prog (and2 (GB m) (and2 (GP m) G2)) (tab (or2 (DB m) (or2 (DP m) D2)) (tb_firewalllaw12_done m)) := (C_cpu_part G2 D2 k2 m).cons (e_firewalllaw12_done G2 D2 k2 m)

end Go.Proofs.YtppankimieopiaaDoor

