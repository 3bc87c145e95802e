/-
  Chapter 23: where barriers stand, and what a program with barriers is: definitions and their steps. Conditions: as typed.
-/
import Derived.Test.YthkgakelgdncjaaDoorOv
import Derived.Test.YthkgakelgdncjaaDoorNn
namespace Go.Proofs.YthkgakelgdncjaaDoor
open Go.Ep Go.RowKit
set_option linter.unusedVariables false
set_option linter.unusedSimpArgs false
/-- A jump that may not be taken; a store. -/
def mayB (o : BitVec 8) : Bool := jmpB o && o &&& 240#8 != 0#8
def stB (o : BitVec 8) : Bool := o &&& 7#8 == 2#8 || o &&& 7#8 == 3#8
/-- Does such a jump, of the first k, lead to a slot? -/
def ledF (x : IT) (k : Nat) : Nat → Bool := fun j => (List.range k).any fun i => mayB (x i).o && decide ((toV x (bv i)).toNat = j)
theorem ledF_zero (x : IT) : ledF x 0 = fun _ => false := rfl
theorem ledF_no {x : IT} {k : Nat} (h : mayB (x k).o = false) : ledF x (k + 1) = ledF x k := by
  funext j
  unfold ledF
  rw [List.range_succ, List.any_append, List.any_cons, List.any_nil, h, Bool.false_and, Bool.or_false, Bool.or_false]
theorem ledF_yes {x : IT} {k : Nat} (h : mayB (x k).o = true) : ledF x (k + 1) = mark (ledF x k) (toV x (bv k)).toNat := by
  funext j
  unfold ledF mark
  rw [List.range_succ, List.any_append, List.any_cons, List.any_nil, h, Bool.true_and, Bool.or_false]
  by_cases e : j = (toV x (bv k)).toNat
  · rw [if_pos e, decide_eq_true e.symm, Bool.or_true]
  · rw [if_neg e, decide_eq_false (fun h => e h.symm), Bool.or_false]
theorem ledF_some {x : IT} {n j : Nat} : ledF x n j = true ↔ ∃ k, k < n ∧ mayB (x k).o = true ∧ (toV x (bv k)).toNat = j := by
  unfold ledF
  rw [List.any_eq_true]
  constructor
  · rintro ⟨k, h1, h2⟩
    rw [Bool.and_eq_true, decide_eq_true_eq] at h2
    exact ⟨k, List.mem_range.1 h1, h2.1, h2.2⟩
  · rintro ⟨k, h1, h2, h3⟩
    exact ⟨k, List.mem_range.2 h1, by rw [h2, decide_eq_true h3]; rfl⟩
theorem ledF_none {x : IT} {n j : Nat} (h : ∀ k, k < n → ¬ (mayB (x k).o = true ∧ (toV x (bv k)).toNat = j)) : ledF x n j = false := by
  cases e : ledF x n j with
  | false => rfl
  | true =>
    obtain ⟨k, h1, h2, h3⟩ := ledF_some.1 e
    exact absurd ⟨h2, h3⟩ (h k h1)
/-- Second halves, of n slots and the one behind. -/
def hfN (x : IT) (a : Nat) : Nat → Bool := fun j => decide (j < a) && hf x j
theorem hfN_zero (x : IT) : hfN x 0 = fun _ => false := by
  funext j
  unfold hfN
  rw [decide_eq_false (by omega), Bool.false_and]
theorem hfN_no {x : IT} {a : Nat} (h : hf x a = false) : hfN x (a + 1) = hfN x a := by
  funext j
  unfold hfN
  by_cases e : j = a
  · subst e; rw [h, Bool.and_false, Bool.and_false]
  · by_cases h1 : j < a
    · rw [decide_eq_true h1, decide_eq_true (by omega)]
    · rw [decide_eq_false h1, decide_eq_false (by omega)]
theorem hfN_yes {x : IT} {a : Nat} (h : hf x a = false) (ho : ((x a).o == 24#8) = true) : hfN x (a + 2) = mark (hfN x a) (a + 1) := by
  have h1 : hf x (a + 1) = true := by rw [hf, h, ho]; rfl
  funext j
  unfold hfN mark
  by_cases e : j = a + 1
  · subst e; rw [if_pos rfl, h1, decide_eq_true (by omega)]; rfl
  · rw [if_neg e]
    show (decide (j < a + 2) && hf x j) = (decide (j < a) && hf x j)
    by_cases e2 : j = a
    · subst e2; rw [h, Bool.and_false, Bool.and_false]
    · by_cases h3 : j < a
      · rw [decide_eq_true h3, decide_eq_true (by omega)]
      · rw [decide_eq_false h3, decide_eq_false (by omega)]
/-- What stands behind a slot: a jump that may not be taken, or a store that is told. -/
def behB (x : IT) (st : Nat → Bool) (ns : Nat) (k : Nat) : Bool := !hf x k && (mayB (x k).o || (decide (k < ns) && (st k && stB (x k).o)))
def behP (x : IT) (st : Nat → Bool) (ns : Nat) : Nat → Bool
  | 0 => false
  | k + 1 => behB x st ns k
/-- Does a barrier stand ahead of a slot? -/
def barB (x : IT) (n : Nat) (st : Nat → Bool) (ns : Nat) (k : Nat) : Bool := behP x st ns k || ledF x n k
/- The program with barriers: how long, after k slots; its slots; which slot each was. -/
def barI : IN := ⟨194#8, 0#8, 0#8, 0#16, 0#32⟩
def lenO (b : Nat → Bool) : Nat → Nat
  | 0 => 0
  | k + 1 => lenO b k + (if b k then 2 else 1)
def appI {α : Type} (f : Nat → α) (m : Nat) (v : α) : Nat → α := fun j => if m ≤ j then v else f j
def outO (x : IT) (b : Nat → Bool) : Nat → IT
  | 0 => fun _ => barI
  | k + 1 => if b k then appI (appI (outO x b k) (lenO b k) barI) (lenO b k + 1) (x k) else appI (outO x b k) (lenO b k) (x k)
def frO (b : Nat → Bool) : Nat → Nat → BitVec 64
  | 0 => fun _ => 0#64
  | k + 1 => if b k then appI (appI (frO b k) (lenO b k) (BitVec.ofInt 64 (Int.negSucc 0))) (lenO b k + 1) (bv k) else appI (frO b k) (lenO b k) (bv k)
theorem app_zero {α : Type} (f : Nat → α) (v : α) : appI f 0 v = fun _ => v := by
  funext j
  exact if_pos (Nat.zero_le _)
theorem lenO_le (b : Nat → Bool) : ∀ k, k ≤ lenO b k ∧ lenO b k ≤ 2 * k
  | 0 => ⟨Nat.le_refl _, Nat.le_refl _⟩
  | k + 1 => by
    have := lenO_le b k
    unfold lenO
    split <;> omega
theorem fr_in (b : Nat → Bool) : ∀ n t, t < lenO b n → frO b n t = BitVec.ofInt 64 (Int.negSucc 0) ∨ ∃ pc, pc < n ∧ frO b n t = bv pc
  | 0, t, h => absurd h (Nat.not_lt_zero _)
  | n + 1, t, h => by
    have ih := fr_in b n t
    cases hb : b n with
    | false =>
      have e : lenO b (n + 1) = lenO b n + 1 := by rw [lenO, hb]; rfl
      have e2 : frO b (n + 1) = appI (frO b n) (lenO b n) (bv n) := by rw [frO, hb]; rfl
      rw [e] at h
      rw [e2]
      unfold appI
      by_cases g : lenO b n ≤ t
      · rw [if_pos g]; exact .inr ⟨n, Nat.lt_succ_self n, rfl⟩
      · rw [if_neg g]
        rcases ih (by omega) with q | ⟨pc, q1, q2⟩
        · exact .inl q
        · exact .inr ⟨pc, by omega, q2⟩
    | true =>
      have e : lenO b (n + 1) = lenO b n + 2 := by rw [lenO, hb]; rfl
      have e2 : frO b (n + 1) = appI (appI (frO b n) (lenO b n) (BitVec.ofInt 64 (Int.negSucc 0))) (lenO b n + 1) (bv n) := by rw [frO, hb]; rfl
      rw [e] at h
      rw [e2]
      unfold appI
      by_cases g : lenO b n + 1 ≤ t
      · rw [if_pos g]; exact .inr ⟨n, Nat.lt_succ_self n, rfl⟩
      · rw [if_neg g]
        by_cases g2 : lenO b n ≤ t
        · rw [if_pos g2]; exact .inl rfl
        · rw [if_neg g2]
          rcases ih (by omega) with q | ⟨pc, q1, q2⟩
          · exact .inl q
          · exact .inr ⟨pc, by omega, q2⟩
/- Which slots' jumps are made anew, and what they become. -/
def condO (x : IT) (b : Nat → Bool) (n t : Nat) : Bool := !(frO b n t).slt 0#64 && (!hf x (frO b n t).toNat && jmpB (x (frO b n t).toNat).o)
def valO (x : IT) (b : Nat → Bool) (n t : Nat) : BitVec 16 := BitVec.signExtend 16 (bv (lenO b (toV x (frO b n t)).toNat) - BitVec.ofNat 64 t - 1#64)
def out2 (x : IT) (b : Nat → Bool) (n : Nat) : Nat → IT
  | 0 => outO x b n
  | t + 1 => if condO x b n t then (fun j => if j = t then { out2 x b n t t with f := valO x b n t } else out2 x b n t j) else out2 x b n t
theorem updF_in3 (k : Nat) (y : IT) (v : BitVec 16) : updF (inF y) k 3 [PL.b16 true v] = inF (fun j => if j = k then { y k with f := v } else y j) := by
  funext j
  by_cases h : j = k
  · subst h; simp [updF, mergeP, pickP, inF]
  · simp [updF, mergeP, pickP, inF, h]
theorem o2_no {x : IT} {b : Nat → Bool} {n t : Nat} (h : condO x b n t = false) : out2 x b n (t + 1) = out2 x b n t := by rw [out2, h]; rfl
theorem o2_yes {x : IT} {b : Nat → Bool} {n t : Nat} (h : condO x b n t = true) : out2 x b n (t + 1) = fun j => if j = t then { out2 x b n t t with f := valO x b n t } else out2 x b n t j := by rw [out2, h]; rfl
end Go.Proofs.YthkgakelgdncjaaDoor
