/-
  Chapter 23: HardenTell: its walk where nothing is wrong. Conditions: as typed.
-/
import Derived.Test.YthkgakelgdncjaaDoorHd
namespace Go.Proofs.YthkgakelgdncjaaDoor
open Go.Ep Go.RowKit
set_option linter.unusedVariables false
set_option linter.unusedSimpArgs false
theorem slt_m {k m : Nat} (hm : m < 65536) (h : k < m) : (BitVec.ofNat 64 k).slt (BitVec.ofNat 64 m) = true := by
  rw [slt_nat (by omega) (by omega)]
  exact decide_eq_true h
theorem slt_0 {k : Nat} (h : k < 65536) : (bv k).slt 0#64 = false := by
  have e : (0#64).toInt = 0 := rfl
  rw [← Bool.not_eq_true, BitVec.slt_iff_toInt_lt, e, toInt_ofNat (by omega)]
  omega
theorem slt_rr (n : Nat) : (BitVec.ofNat 64 n).slt (BitVec.ofNat 64 n) = false := by
  rw [BitVec.slt_eq_decide]
  exact decide_eq_false (by omega)
theorem slt_t {k len : Nat} (hl : len ≤ 64) (h : k < len) : (BitVec.ofNat 64 k).slt (BitVec.ofNat 64 len) = true := by
  rw [slt_nat (by omega) (by omega)]
  exact decide_eq_true h
theorem k_nat {k len ns : Nat} (hl : len ≤ 64) (h : k ≤ len) : (BitVec.ofNat 64 k).toNat = k ∧ k < 65536 := ⟨nat_ofNat (by omega), by omega⟩
theorem ix64 {k len : Nat} (hl : len ≤ 64) (h : k < len) : 0 ≤ (BitVec.ofNat 64 k).toInt ∧ (BitVec.ofNat 64 k).toNat < len := by
  rw [toInt_ofNat (by omega), nat_ofNat (by omega)]
  omega
theorem ix65 {k len : Nat} (hl : len ≤ 64) (h : k < len) : 0 ≤ (BitVec.ofNat 64 k).toInt ∧ (BitVec.ofNat 64 k).toNat < len + 1 := by
  rw [toInt_ofNat (by omega), nat_ofNat (by omega)]
  omega
theorem ixs {k ns : Nat} (hn : ns < 9223372036854775808) (hk : k < 65536) (h : (BitVec.ofNat 64 k).slt (BitVec.ofNat 64 ns) = true) : 0 ≤ (BitVec.ofNat 64 k).toInt ∧ (BitVec.ofNat 64 k).toNat < ns := by
  rw [slt_nat (by omega) hn, decide_eq_true_eq] at h
  rw [toInt_ofNat (by omega), nat_ofNat (by omega)]
  omega
theorem lenO_b {b : Nat → Bool} {k len : Nat} (hl : len ≤ 64) (h : k < len) : lenO b k < 9223372036854775808 := by have := (lenO_le b k).2; omega
theorem lenO_c {b : Nat → Bool} {k : Nat} (hl : k ≤ 64) : lenO b k < 9223372036854775808 := by have := (lenO_le b k).2; omega
theorem lenO_m {b : Nat → Bool} {k : Nat} (hl : k ≤ 64) : lenO b k < 65536 := by have := (lenO_le b k).2; omega
theorem clipA {m : Nat} (h : m < 65536) : (0 ≤ (BitVec.ofNat 64 m).toInt ∧ 0 ≤ (BitVec.ofNat 64 m).toInt) ∧ (BitVec.ofNat 64 m).toNat ≤ (BitVec.ofNat 64 m).toNat := by
  rw [toInt_ofNat (by omega)]
  omega
theorem clipB {m : Nat} (h : m < 65536) : (BitVec.ofNat 64 m).toNat ≤ m := by
  rw [nat_ofNat (by omega)]
  exact Nat.le_refl _
theorem l_b {k : Nat} (hl : k ≤ 64) : k < 9223372036854775808 := by omega
theorem capK {k len : Nat} (hl : len ≤ 64) (h : k < len) : k + 1 < 65536 := by omega
theorem pd_ix {k n : Nat} (hl : n ≤ 64) (h : k + 1 < n) : (0 ≤ (BitVec.ofNat 64 (k + 1) - 1#64).toInt ∧ (BitVec.ofNat 64 (k + 1) - 1#64).toNat < n) ∧ (BitVec.ofNat 64 (k + 1) - 1#64).toNat ≤ n := by
  have e : BitVec.ofNat 64 (k + 1) - 1#64 = BitVec.ofNat 64 k := bv_pred k (by omega)
  rw [e, toInt_ofNat (by omega), nat_ofNat (by omega)]
  omega
theorem pd_s {k ns : Nat} (hn : ns < 9223372036854775808) (hk : k < 65536) (h : (BitVec.ofNat 64 k).slt (BitVec.ofNat 64 ns) = true) : 0 ≤ (BitVec.ofNat 64 (k + 1) - 1#64).toInt ∧ (BitVec.ofNat 64 (k + 1) - 1#64).toNat < ns := by
  have e : BitVec.ofNat 64 (k + 1) - 1#64 = BitVec.ofNat 64 k := bv_pred k (by omega)
  rw [e]
  exact ixs hn hk h
theorem capA {b : Nat → Bool} {k len : Nat} (hl : len ≤ 64) (h : k < len) : lenO b k + 1 < 65536 := by have := (lenO_le b k).2; omega
theorem capB {b : Nat → Bool} {k len : Nat} (hl : len ≤ 64) (h : k < len) : lenO b k + 1 + 1 < 65536 := by have := (lenO_le b k).2; omega
def iF (f : Nat → BitVec 64) : Nat → List PL := fun j => [PL.b64 true (f j)]
def fiF (b : Nat → Bool) : Nat → Nat → BitVec 64
  | 0 => fun _ => 0#64
  | k + 1 => appI (fiF b k) k (bv (lenO b k))
theorem fiS' {b : Nat → Bool} {k : Nat} : joinF k (iF (fiF b k)) (fun _ => [PL.b64 true (BitVec.ofNat 64 (lenO b k))]) = iF (fiF b (k + 1)) := by
  funext j
  by_cases h : k ≤ j <;> simp [joinF, mergeP, pickP, iF, fiF, appI, h]
def stF (b : Nat → Bool) (k : Nat) : Nat → BitVec 64 := fun j => if j < k then bv (lenO b j) else 0#64
theorem st_start {b : Nat → Bool} {len : Nat} (hl : len ≤ 8000) : Blk.row 3 1 (BitVec.ofNat 64 len + 1#64).toNat (fun _ => [PL.b64 true 0#64]) = Blk.row 3 1 (len + 1) (iF (stF b 0)) := by
  rw [l1_nat hl]
  rfl
theorem ixm {k m : Nat} (hm : m < 65536) (h : k < m) : 0 ≤ (BitVec.ofNat 64 k).toInt ∧ (BitVec.ofNat 64 k).toNat < m := by
  rw [toInt_ofNat (by omega), nat_ofNat (by omega)]
  omega
theorem to65 {x : IT} {pc n : Nat} (np : (BitVec.ofNat 64 pc).toNat = pc) (h : 0 ≤ (toV x (bv pc)).toInt ∧ (toV x (bv pc)).toNat < n) : 0 ≤ (bv pc + 1#64 + BitVec.signExtend 64 (x pc).f).toInt ∧ (bv pc + 1#64 + BitVec.signExtend 64 (x pc).f).toNat < n + 1 := by
  have e : bv pc + 1#64 + BitVec.signExtend 64 (x pc).f = toV x (bv pc) := toV_eq np
  rw [e]
  omega
theorem to64 {x : IT} {pc n : Nat} (np : (BitVec.ofNat 64 pc).toNat = pc) (h : 0 ≤ (toV x (bv pc)).toInt ∧ (toV x (bv pc)).toNat < n) : 0 ≤ (bv pc + 1#64 + BitVec.signExtend 64 (x pc).f).toInt ∧ (bv pc + 1#64 + BitVec.signExtend 64 (x pc).f).toNat < n := by
  have e : bv pc + 1#64 + BitVec.signExtend 64 (x pc).f = toV x (bv pc) := toV_eq np
  rw [e]
  exact h
theorem cn1 {x : IT} {b : Nat → Bool} {n t : Nat} (ef : frO b n t = BitVec.ofInt 64 (Int.negSucc 0)) : condO x b n t = false := by unfold condO; rw [ef]; rfl
theorem cn2 {x : IT} {b : Nat → Bool} {n t pc : Nat} (ef : frO b n t = bv pc) (np : (bv pc).toNat = pc) (h : hf x pc = true) : condO x b n t = false := by unfold condO; rw [ef, np, h, Bool.not_true, Bool.false_and, Bool.and_false]
theorem cn3 {x : IT} {b : Nat → Bool} {n t pc : Nat} (ef : frO b n t = bv pc) (np : (bv pc).toNat = pc) (h : jmpB (x pc).o = false) : condO x b n t = false := by unfold condO; rw [ef, np, h, Bool.and_false, Bool.and_false]
theorem cn4 {x : IT} {b : Nat → Bool} {n t pc : Nat} (ef : frO b n t = bv pc) (np : (bv pc).toNat = pc) (n0 : (bv pc).slt 0#64 = false) (h1 : hf x pc = false) (h : jmpB (x pc).o = true) : condO x b n t = true := by unfold condO; rw [ef, np, n0, h1, h]; rfl
theorem o2N {x : IT} {b : Nat → Bool} {n t m : Nat} (hc : condO x b n t = false) : Blk.row 54 5 m (inF (out2 x b n t)) = Blk.row 54 5 m (inF (out2 x b n (t + 1))) := by rw [o2_no hc]
theorem o2Y {x : IT} {b : Nat → Bool} {n t m : Nat} {s : Nat → BitVec 64} (hs : ∀ j, j < n → s j = bv (lenO b j)) (na : (BitVec.ofNat 64 t).toNat = t) (hc : condO x b n t = true) (ht : (toV x (frO b n t)).toNat < n) :
    Blk.row 54 5 m (updF (inF (out2 x b n t)) (BitVec.ofNat 64 t).toNat 3 [PL.b16 true (BitVec.signExtend 16 (s (frO b n (BitVec.ofNat 64 t).toNat + 1#64 + BitVec.signExtend 64 (x (frO b n (BitVec.ofNat 64 t).toNat).toNat).f).toNat - BitVec.ofNat 64 t - 1#64))]) = Blk.row 54 5 m (inF (out2 x b n (t + 1))) := by
  rw [na, o2_yes hc, updF_in3]
  have e : s (frO b n t + 1#64 + BitVec.signExtend 64 (x (frO b n t).toNat).f).toNat = bv (lenO b (toV x (frO b n t)).toNat) := hs _ ht
  rw [e]
  rfl
theorem fiS {b : Nat → Bool} {k m : Nat} : Blk.row 3 1 m (joinF k (iF (fiF b k)) fun _ => [PL.b64 true (BitVec.ofNat 64 (lenO b k))]) = Blk.row 3 1 m (iF (fiF b (k + 1))) := congrArg (Blk.row 3 1 m) fiS'
theorem fi0 {b : Nat → Bool} {m : Nat} : Blk.row 3 1 m (fun _ => [PL.b64 true 0#64]) = Blk.row 3 1 m (iF (fiF b (0 + 1))) := by
  have e : fiF b (0 + 1) = fun _ => 0#64 := app_zero _ _
  rw [e]
  rfl
theorem moreN {p : Nat → Prop} {j : Nat} (h : ∀ i, i < j → ¬ p i) (hj : ¬ p j) : ∀ i, i < j + 1 → ¬ p i := fun i hi => by
  rcases Nat.lt_or_ge i j with g | g
  · exact h i g
  · obtain rfl : i = j := by omega
    exact hj
theorem nj1 {x : IT} {j K : Nat} (h : mayB (x j).o = false) : ¬ (mayB (x j).o = true ∧ (toV x (bv j)).toNat = K) := fun c => absurd (h.symm.trans c.1) (by decide)
theorem nj2 {x : IT} {j K : Nat} (naj : (BitVec.ofNat 64 j).toNat = j) (h : (BitVec.ofNat 64 j + 1#64 + BitVec.signExtend 64 (x j).f == BitVec.ofNat 64 K) = false) : ¬ (mayB (x j).o = true ∧ (toV x (bv j)).toNat = K) := fun c => by
  rw [toV_eq naj, beq_eq_false_iff_ne] at h
  exact h (BitVec.eq_of_toNat_eq (by rw [← c.2, BitVec.toNat_ofNat]; exact (Nat.mod_eq_of_lt (BitVec.isLt _)).symm))
theorem nj3 {x : IT} {n j K : Nat} {m : BitVec 64} {w : Bool} (G : Good x n m w) (gj : j < n) (h : (!hf (inOf (inF x)) j) = false) : ¬ (mayB (x j).o = true ∧ (toV x (bv j)).toNat = K) := fun c => by
  have h' : (!hf x j) = false := h
  have e : hf x j = true := by simpa using h'
  exact absurd ((may_first G gj c.1).symm.trans e) (by decide)
theorem ct1 {x : IT} {n j K : Nat} (hK : K < 65536) (naj : (BitVec.ofNat 64 j).toNat = j) (hb2 : ledF x n K = false) (gj : j < n) (h1 : mayB (x j).o = true) (h2 : (BitVec.ofNat 64 j + 1#64 + BitVec.signExtend 64 (x j).f == BitVec.ofNat 64 K) = true) : False := by
  rw [toV_eq naj, beq_iff_eq] at h2
  have : ledF x n K = true := ledF_some.2 ⟨j, gj, h1, by rw [h2]; exact nat_ofNat (by omega)⟩
  exact absurd (hb2.symm.trans this) (by decide)
theorem ct2 {k : Nat} (hk : k < 65536) (h : (BitVec.ofNat 64 (k + 1) == 0#64) = true) : False := by
  rw [beq_iff_eq] at h
  have := congrArg BitVec.toNat h
  rw [nat_ofNat (by omega)] at this
  exact absurd this (Nat.succ_ne_zero k)
theorem slt_of2 {k ns : Nat} {b : Bool} (hk : k < 65536) (hn : ns < 9223372036854775808) (h : (BitVec.ofNat 64 k).slt (BitVec.ofNat 64 ns) = b) : decide (k < ns) = b := by rw [← h, slt_nat (by omega) hn]
section
variable {x : IT} {st : Nat → Bool} {ns k : Nat}
theorem cb1 (hb : behP x st ns (k + 1) = true) (h : hf (inOf (inF x)) k = true) : False := by
  have h : hf x k = true := h
  rw [behP, behB, h, Bool.not_true, Bool.false_and] at hb
  exact absurd hb (by decide)
theorem cb2 (hb : behP x st ns (k + 1) = false) (h : hf (inOf (inF x)) k = false) (h2 : mayB (x k).o = true) : False := by
  have h : hf x k = false := h
  rw [behP, behB, h, h2, Bool.not_false, Bool.true_or, Bool.true_and] at hb
  exact absurd hb (by decide)
theorem cb3 (hk : k < 65536) (hn : ns < 9223372036854775808) (hb : behP x st ns (k + 1) = false) (h : hf (inOf (inF x)) k = false) (h3 : (BitVec.ofNat 64 k).slt (BitVec.ofNat 64 ns) = true) (h4 : st k = true) (h5 : ((x k).o &&& 7#8 == 2#8) = true) : False := by
  have h : hf x k = false := h
  rw [behP, behB, h, slt_of2 hk hn h3, h4, stB, h5] at hb
  exact absurd hb (by simp)
theorem cb4 (hk : k < 65536) (hn : ns < 9223372036854775808) (hb : behP x st ns (k + 1) = false) (h : hf (inOf (inF x)) k = false) (h3 : (BitVec.ofNat 64 k).slt (BitVec.ofNat 64 ns) = true) (h4 : st k = true) (h5 : ((x k).o &&& 7#8 == 3#8) = true) : False := by
  have h : hf x k = false := h
  rw [behP, behB, h, slt_of2 hk hn h3, h4, stB, h5, Bool.or_true] at hb
  exact absurd hb (by simp)
theorem cb5 (hk : k < 65536) (hn : ns < 9223372036854775808) (hb : behP x st ns (k + 1) = true) (h2 : mayB (x k).o = false) (h3 : (BitVec.ofNat 64 k).slt (BitVec.ofNat 64 ns) = false) : False := by
  rw [behP, behB, h2, slt_of2 hk hn h3] at hb
  exact absurd hb (by simp)
theorem cb6 (hb : behP x st ns (k + 1) = true) (h2 : mayB (x k).o = false) (h4 : st k = false) : False := by
  rw [behP, behB, h2, h4, Bool.false_and, Bool.and_false, Bool.or_false, Bool.and_false] at hb
  exact absurd hb (by decide)
theorem cb7 (hb : behP x st ns (k + 1) = true) (h2 : mayB (x k).o = false) (h5 : ((x k).o &&& 7#8 == 2#8) = false) (h6 : ((x k).o &&& 7#8 == 3#8) = false) : False := by
  rw [behP, behB, h2, stB, h5, h6, Bool.or_false, Bool.and_false, Bool.and_false, Bool.or_false, Bool.and_false] at hb
  exact absurd hb (by decide)
end
theorem fi_val {b : Nat → Bool} : ∀ n j, j < n → fiF b n j = bv (lenO b j)
  | 0, j, h => absurd h (Nat.not_lt_zero _)
  | n + 1, j, h => by
    show (if n ≤ j then bv (lenO b n) else fiF b n j) = _
    by_cases g : n ≤ j
    · obtain rfl : j = n := by omega
      rw [if_pos g]
    · rw [if_neg g, fi_val n j (by omega)]
theorem sle_0 {k : Nat} (h : k < 65536) : (0#64).sle (bv k) = true := by
  have e : (0#64).toInt = 0 := rfl
  rw [BitVec.sle_iff_toInt_le, e, toInt_ofNat (by omega)]
  omega
section
variable {x : IT} {b : Nat → Bool} {n t pc : Nat} (ef : frO b n t = bv pc) (np : (bv pc).toNat = pc)
include ef np
theorem cm2 (h : (!hf (inOf (inF x)) pc) = false) : condO x b n t = false := by
  have h' : (!hf x pc) = false := h
  exact cn2 ef np (by simpa using h')
variable {m : BitVec 64} {w : Bool} (G : Good x n m w) (gp : pc < n) (h1 : (!hf (inOf (inF x)) pc) = true)
include G gp h1
theorem cm3 (h2 : mayB (x pc).o = false) (h3 : ((x pc).o == 5#8) = false) : condO x b n t = false := by
  have h' : (!hf x pc) = true := h1
  exact cn3 ef np (by rw [is_eq G gp (by simpa using h'), h2, h3]; rfl)
theorem cm4 (h2 : mayB (x pc).o = true) (n0 : (bv pc).slt 0#64 = false) : condO x b n t = true ∧ (toV x (frO b n t)).toNat < n := by
  have h' : (!hf x pc) = true := h1
  have hh : hf x pc = false := by simpa using h'
  have hj : jmpB (x pc).o = true := may_jmp h2
  exact ⟨cn4 ef np n0 hh hj, by rw [ef]; exact (jto_lt G gp hh hj).2⟩
theorem cm5 (h3 : ((x pc).o == 5#8) = true) (n0 : (bv pc).slt 0#64 = false) : condO x b n t = true ∧ (toV x (frO b n t)).toNat < n := by
  have h' : (!hf x pc) = true := h1
  have hh : hf x pc = false := by simpa using h'
  have hj : jmpB (x pc).o = true := by rw [is_eq G gp hh, h3, Bool.or_true]
  exact ⟨cn4 ef np n0 hh hj, by rw [ef]; exact (jto_lt G gp hh hj).2⟩
end
theorem jt4 {x : IT} {n pc : Nat} {m : BitVec 64} {w : Bool} (G : Good x n m w) (gp : pc < n) (np : (BitVec.ofNat 64 pc).toNat = pc) (h1 : (!hf (inOf (inF x)) pc) = true) (h2 : mayB (x pc).o = true ∨ ((x pc).o == 5#8) = true) :
    0 ≤ (bv pc + 1#64 + BitVec.signExtend 64 (x pc).f).toInt ∧ (bv pc + 1#64 + BitVec.signExtend 64 (x pc).f).toNat < n := by
  have h' : (!hf x pc) = true := h1
  have hh : hf x pc = false := by simpa using h'
  have hj : jmpB (x pc).o = true := by
    rcases h2 with h2 | h2
    · exact may_jmp h2
    · rw [is_eq G gp hh, h2, Bool.or_true]
  exact to64 np (jto_lt G gp hh hj)
theorem st_val {b : Nat → Bool} {n : Nat} : ∀ j, j < n → stF b n j = bv (lenO b j) := fun j h => if_pos h
theorem bar_of {x : IT} {n ns k : Nat} {st : Nat → Bool} {b1 b2 : Bool} (h1 : behP x st ns k = b1) (h2 : ledF x n k = b2) : barB x n st ns k = (b1 || b2) := by
  unfold barB
  rw [h1, h2]
theorem lnA {b : Nat → Bool} {k i : Nat} (h : b k = false) : AV.one (.rsl i (lenO b k + 1)) = AV.one (.rsl i (lenO b (k + 1))) := by
  have e : lenO b (k + 1) = lenO b k + 1 := by rw [lenO, h]; rfl
  rw [e]
theorem lnB {b : Nat → Bool} {k i : Nat} (h : b k = true) : AV.one (.rsl i (lenO b k + 1 + 1)) = AV.one (.rsl i (lenO b (k + 1))) := by
  have e : lenO b (k + 1) = lenO b k + 2 := by rw [lenO, h]; rfl
  rw [e]
theorem joinF_i (m : Nat) (f : Nat → BitVec 64) (v : BitVec 64) : joinF m (iF f) (fun _ => [PL.b64 true v]) = iF (appI f m v) := by
  funext j
  by_cases h : m ≤ j <;> simp [joinF, mergeP, pickP, iF, appI, h]
theorem updF_i (k : Nat) (f : Nat → BitVec 64) (v : BitVec 64) : updF (iF f) k 0 [PL.b64 true v] = iF (fun j => if j = k then v else f j) := by
  funext j
  by_cases h : j = k <;> simp [updF, mergeP, pickP, iF, h]
theorem frA {b : Nat → Bool} {k : Nat} (h : b k = false) : Blk.row 3 1 (lenO b k + 1) (joinF (lenO b k) (iF (frO b k)) fun _ => [PL.b64 true (BitVec.ofNat 64 k)]) = Blk.row 3 1 (lenO b (k + 1)) (iF (frO b (k + 1))) := by
  have e : lenO b (k + 1) = lenO b k + 1 := by rw [lenO, h]; rfl
  have e2 : frO b (k + 1) = appI (frO b k) (lenO b k) (bv k) := by rw [frO, h]; rfl
  rw [e, e2, joinF_i]
theorem frB {b : Nat → Bool} {k : Nat} (h : b k = true) : Blk.row 3 1 (lenO b k + 1 + 1) (joinF (lenO b k + 1) (joinF (lenO b k) (iF (frO b k)) fun _ => [PL.b64 true (BitVec.ofInt 64 (Int.negSucc 0))]) fun _ => [PL.b64 true (BitVec.ofNat 64 k)]) = Blk.row 3 1 (lenO b (k + 1)) (iF (frO b (k + 1))) := by
  have e : lenO b (k + 1) = lenO b k + 2 := by rw [lenO, h]; rfl
  have e2 : frO b (k + 1) = appI (appI (frO b k) (lenO b k) (BitVec.ofInt 64 (Int.negSucc 0))) (lenO b k + 1) (bv k) := by rw [frO, h]; rfl
  rw [e, e2, joinF_i, joinF_i]
theorem fr0A {b : Nat → Bool} (h : b 0 = false) : Blk.row 3 1 1 (fun _ => [PL.b64 true 0#64]) = Blk.row 3 1 (lenO b (0 + 1)) (iF (frO b (0 + 1))) := by
  have e : lenO b (0 + 1) = 1 := by rw [lenO, h]; rfl
  have e2 : frO b (0 + 1) = fun _ => 0#64 := by rw [frO, h]; exact app_zero _ _
  rw [e, e2]
  rfl
theorem fr0B {b : Nat → Bool} (h : b 0 = true) : Blk.row 3 1 (1 + 1) (joinF 1 (fun _ => [PL.b64 true (BitVec.ofInt 64 (Int.negSucc 0))]) fun _ => [PL.b64 true 0#64]) = Blk.row 3 1 (lenO b (0 + 1)) (iF (frO b (0 + 1))) := by
  have e : lenO b (0 + 1) = 2 := by rw [lenO, h]; rfl
  have e2 : frO b (0 + 1) = appI (fun _ => BitVec.ofInt 64 (Int.negSucc 0)) 1 0#64 := by rw [frO, h, if_pos rfl, show lenO b 0 = 0 from rfl, app_zero]
  rw [e, e2, ← joinF_i]
  rfl
theorem outA {x : IT} {b : Nat → Bool} {k : Nat} (na : (BitVec.ofNat 64 k).toNat = k) (h : b k = false) : Blk.row 54 5 (lenO b k + 1) (joinF (lenO b k) (inF (outO x b k)) fun _ => inP (x (BitVec.ofNat 64 k).toNat)) = Blk.row 54 5 (lenO b (k + 1)) (inF (outO x b (k + 1))) := by
  have e : lenO b (k + 1) = lenO b k + 1 := by rw [lenO, h]; rfl
  have e2 : outO x b (k + 1) = appI (outO x b k) (lenO b k) (x k) := by rw [outO, h]; rfl
  rw [e, e2, na, joinF_in]
  rfl
theorem outB {x : IT} {b : Nat → Bool} {k : Nat} (na : (BitVec.ofNat 64 k).toNat = k) (h : b k = true) : Blk.row 54 5 (lenO b k + 1 + 1) (joinF (lenO b k + 1) (joinF (lenO b k) (inF (outO x b k)) fun _ => inP barI) fun _ => inP (x (BitVec.ofNat 64 k).toNat)) = Blk.row 54 5 (lenO b (k + 1)) (inF (outO x b (k + 1))) := by
  have e : lenO b (k + 1) = lenO b k + 2 := by rw [lenO, h]; rfl
  have e2 : outO x b (k + 1) = appI (appI (outO x b k) (lenO b k) barI) (lenO b k + 1) (x k) := by rw [outO, h]; rfl
  rw [e, e2, na, joinF_in, joinF_in]
  rfl
theorem out0A {x : IT} {b : Nat → Bool} (h : b 0 = false) : Blk.row 54 5 1 (fun _ => inP (x (0#64).toNat)) = Blk.row 54 5 (lenO b (0 + 1)) (inF (outO x b (0 + 1))) := by
  have e : lenO b (0 + 1) = 1 := by rw [lenO, h]; rfl
  have e2 : outO x b (0 + 1) = fun _ => x 0 := by rw [outO, h]; exact app_zero _ _
  rw [e, e2]
  rfl
theorem out0B {x : IT} {b : Nat → Bool} (h : b 0 = true) : Blk.row 54 5 (1 + 1) (joinF 1 (fun _ => inP barI) fun _ => inP (x (0#64).toNat)) = Blk.row 54 5 (lenO b (0 + 1)) (inF (outO x b (0 + 1))) := by
  have e : lenO b (0 + 1) = 2 := by rw [lenO, h]; rfl
  have e2 : outO x b (0 + 1) = appI (fun _ => barI) 1 (x 0) := by rw [outO, h, if_pos rfl, show lenO b 0 = 0 from rfl, app_zero]
  rw [e, e2]
  have := joinF_in 1 (fun _ => barI) (x 0)
  exact congrArg (Blk.row 54 5 2) this
theorem stS {b : Nat → Bool} {k n : Nat} (na : (BitVec.ofNat 64 k).toNat = k) : Blk.row 3 1 n (updF (iF (stF b k)) (BitVec.ofNat 64 k).toNat 0 [PL.b64 true (BitVec.ofNat 64 (lenO b k))]) = Blk.row 3 1 n (iF (stF b (k + 1))) := by
  rw [na, updF_i]
  congr 2
  funext j
  unfold stF
  by_cases e : j = k
  · subst e; rw [if_pos rfl, if_pos (by omega)]
  · rw [if_neg e]
    by_cases h : j < k
    · rw [if_pos h, if_pos (by omega)]
    · rw [if_neg h, if_neg (by omega)]
theorem hf_of {x : IT} {len k : Nat} (g : k < len) : hfN x (len + 1) k = hf x k := by
  unfold hfN
  rw [decide_eq_true (by omega), Bool.true_and]
theorem slt_of {k ns : Nat} {b : Bool} (hk : k < 65536) (hn : ns < 9223372036854775808) (h : (BitVec.ofNat 64 k).slt (BitVec.ofNat 64 ns) = b) : decide (k < ns) = b := by rw [← h, slt_nat (by omega) hn]
section
variable {x : IT} {st : Nat → Bool} {len ns k : Nat} (g : k < len) (hk : k < 65536) (hn : ns < 9223372036854775808)
include g
theorem be1 (h1 : (!hfN x (len + 1) k) = true) (h2 : mayB (x k).o = true) : AV.one (.bool true) = AV.one (.bool (behP x st ns (k + 1))) := by
  rw [hf_of g] at h1
  rw [behP, behB, h1, h2]; rfl
theorem be6 (h1 : (!hfN x (len + 1) k) = false) : AV.one (.bool false) = AV.one (.bool (behP x st ns (k + 1))) := by
  rw [hf_of g] at h1
  rw [behP, behB, h1]; rfl
include hk hn
theorem be2 (h1 : (!hfN x (len + 1) k) = true) (h2 : mayB (x k).o = false) (h3 : (BitVec.ofNat 64 k).slt (BitVec.ofNat 64 ns) = true) (h4 : st k = true) (h5 : ((x k).o &&& 7#8 == 2#8) = true) : AV.one (.bool true) = AV.one (.bool (behP x st ns (k + 1))) := by
  rw [hf_of g] at h1
  rw [behP, behB, h1, h2, slt_of hk hn h3, h4, stB, h5]; rfl
theorem be3 (h1 : (!hfN x (len + 1) k) = true) (h2 : mayB (x k).o = false) (h3 : (BitVec.ofNat 64 k).slt (BitVec.ofNat 64 ns) = true) (h4 : st k = true) (h5 : ((x k).o &&& 7#8 == 2#8) = false) : AV.one (.bool ((x (BitVec.ofNat 64 k).toNat).o &&& 7#8 == 3#8)) = AV.one (.bool (behP x st ns (k + 1))) := by
  rw [hf_of g] at h1
  rw [behP, behB, h1, h2, slt_of hk hn h3, h4, stB, h5, nat_ofNat (by omega)]; rfl
theorem be4 (h1 : (!hfN x (len + 1) k) = true) (h2 : mayB (x k).o = false) (h3 : (BitVec.ofNat 64 k).slt (BitVec.ofNat 64 ns) = true) (h4 : st k = false) : AV.one (.bool false) = AV.one (.bool (behP x st ns (k + 1))) := by
  rw [hf_of g] at h1
  rw [behP, behB, h1, h2, slt_of hk hn h3, h4]; rfl
theorem be5 (h1 : (!hfN x (len + 1) k) = true) (h2 : mayB (x k).o = false) (h3 : (BitVec.ofNat 64 k).slt (BitVec.ofNat 64 ns) = false) : AV.one (.bool false) = AV.one (.bool (behP x st ns (k + 1))) := by
  rw [hf_of g] at h1
  rw [behP, behB, h1, h2, slt_of hk hn h3]; rfl
end
end Go.Proofs.YthkgakelgdncjaaDoor
