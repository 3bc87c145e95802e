/-
  Chapter 04: what follows where nothing is wrong: second halves, ways, rounds. Conditions: as each says.
-/
import Derived.Test.YthkgakelgdncjaaDoorOe
namespace Go.Proofs.YthkgakelgdncjaaDoor
open Go.Ep Go.RowKit
set_option linter.unusedVariables false
set_option linter.unusedSimpArgs false
/-- Nothing is wrong. -/
structure Good (x : IT) (n : Nat) (m : BitVec 64) (w : Bool) : Prop where
  pos : 0 < n
  most : n ≤ mostN w
  alone : ∀ p, p < n → hf x p = false → aloneE x n (bv p) m w = 0#64
  ways : WaysOK x n
  led : ∀ p, p < n → hf x p = false → reachB x p = true
theorem good_of {x : IT} {n : Nat} {m : BitVec 64} {w : Bool} (h : (chk4 x n m w).2 = 0#64) : Good x n m w := by
  unfold chk4 at h
  split at h
  · cases h
  · rename_i hn
    have h0 : 0 < n := by omega
    have hm : n ≤ mostN w := by omega
    have h8 : n ≤ 8000 := by have : mostN w ≤ 192 := by cases w <;> decide
                             omega
    split at h
    · rename_i k e
      have := (fstN_inv e).2.1
      unfold badA at this
      rw [show aloneE x n (bv k) m w = 0#64 from h] at this
      simp at this
    · rename_i e
      have e := fstN_none_inv e
      split at h
      · rename_i k e2
        have := (fstN_inv e2).2.1
        unfold badW at this
        rw [show wayE x n (bv k) = 0#64 from h] at this
        simp at this
      · rename_i e2
        have e2 := fstN_none_inv e2
        split at h
        · cases h
        · rename_i e3
          have e3 := fstN_none_inv e3
          refine ⟨h0, hm, fun p hp hh => ?_, ways_of h8 e2, fun p hp hh => ?_⟩
          · have := e p hp
            unfold badA at this
            rw [hh] at this
            simpa using this
          · have := e3 p hp
            rw [hh] at this
            simpa using this
/-- Where something is wrong: which slot. -/
theorem chk_at (x : IT) (n : Nat) (m : BitVec 64) (w : Bool) : (chk4 x n m w).1 = 0#64 ∨ ∃ k, k < n ∧ n ≤ mostN w ∧ (chk4 x n m w).1 = bv k := by
  unfold chk4
  split
  · exact .inl rfl
  · rename_i hn
    have hm : n ≤ mostN w := by omega
    split
    · rename_i k e; exact .inr ⟨k, (fstN_inv e).1, hm, rfl⟩
    · split
      · rename_i k e; exact .inr ⟨k, (fstN_inv e).1, hm, rfl⟩
      · split
        · rename_i k e; exact .inr ⟨k, (fstN_inv e).1, hm, rfl⟩
        · exact .inl rfl
/-- Second halves below a slot. -/
def secB (x : IT) (k : Nat) : Nat → Bool := fun j => decide (j ≤ k) && hf x j
theorem sec_start (x : IT) : secB x 0 = fun _ => false := by
  funext j
  unfold secB
  by_cases e : j = 0
  · subst e; rfl
  · rw [decide_eq_false (by omega)]; rfl
theorem sec_yes {x : IT} {k : Nat} (ho : ((x k).o == 24#8) = true) (h : secB x k k = false) : mark (secB x k) (k + 1) = secB x (k + 1) := by
  have hh : hf x k = false := by unfold secB at h; rw [decide_eq_true (Nat.le_refl _)] at h; exact h
  funext j
  by_cases e : j = k + 1
  · subst e; rw [mark_self, secB, decide_eq_true (Nat.le_refl _), hf, hh, ho]; rfl
  · rw [mark_other _ e]
    unfold secB
    by_cases h1 : j ≤ k
    · rw [decide_eq_true h1, decide_eq_true (by omega)]
    · rw [decide_eq_false h1, decide_eq_false (by omega)]
theorem sec_no {x : IT} {k : Nat} (h : ((x k).o == 24#8) = false ∨ secB x k k = true) : secB x k = secB x (k + 1) := by
  have hh : hf x (k + 1) = false := by
    rw [hf]
    rcases h with h | h
    · rw [h, Bool.and_false]
    · unfold secB at h
      rw [decide_eq_true (Nat.le_refl _)] at h
      rw [show hf x k = true from h]; rfl
  funext j
  unfold secB
  by_cases e : j = k + 1
  · subst e; rw [hh, Bool.and_false, Bool.and_false]
  · by_cases h1 : j ≤ k
    · rw [decide_eq_true h1, decide_eq_true (by omega)]
    · rw [decide_eq_false h1, decide_eq_false (by omega)]
theorem sec_at {x : IT} {k j : Nat} (h : j ≤ k) : secB x k j = hf x j := by unfold secB; rw [decide_eq_true h]; rfl
theorem half_o {x : IT} {n p : Nat} {m : BitVec 64} {w : Bool} (G : Good x n m w) (hp : p < n) (hh : hf x p = true) : (x p).o = 0#8 ∧ p + 1 < n := by
  have hn := G.ways.small
  cases p with
  | zero => cases hh
  | succ q =>
    rw [hf, Bool.and_eq_true, Bool.not_eq_true', beq_iff_eq] at hh
    have h1 := G.alone q (by omega) hh.1
    have hb : (bv q).toNat = q := nat_ofNat (by omega)
    have hb1 : (bv q + 1#64).toNat = q + 1 := by rw [show bv q + 1#64 = bv (q + 1) from (BitVec.ofNat_add _ _).symm, bv, nat_ofNat (by omega)]
    have hf1 := fall_lt G.ways (p := q) (by omega) hh.1 (by rw [hh.2]; decide) (by rw [hh.2]; decide)
    have hz : szN (x q).o = 2 := by rw [hh.2]; decide
    refine ⟨?_, by omega⟩
    unfold aloneE at h1
    rw [hb, hb1, hh.2] at h1
    split at h1
    · rename_i e; rw [h1] at e; exact absurd e (by decide)
    · rw [if_neg (by decide), if_pos (by decide)] at h1
      split at h1
      · cases h1
      · rename_i e
        rw [Bool.not_eq_true, Bool.or_eq_false_iff, Bool.not_eq_false', Bool.and_eq_true, beq_iff_eq] at e
        exact e.2.1
/-- What kind of slot: what comes behind it. -/
inductive Kind (x : IT) (n k : Nat) : Prop
  | stop (h : n = k)
  | e (hl : (BitVec.ofNat 64 k).slt (BitVec.ofNat 64 n) = true) (he : endB (x (BitVec.ofNat 64 k).toNat).o = true) (hs : succ x k = [])
  | a (hl : (BitVec.ofNat 64 k).slt (BitVec.ofNat 64 n) = true) (he : endB (x (BitVec.ofNat 64 k).toNat).o = false) (ha : alwB (x (BitVec.ofNat 64 k).toNat).o = true) (hj : jmpB (x (BitVec.ofNat 64 k).toNat).o = true) (t0 : (toK x k).slt 0#64 = false) (t1 : (BitVec.ofNat 64 n).sle (toK x k) = false) (t2 : 0 ≤ (toK x k).toInt ∧ (toK x k).toNat < n) (hs : succ x k = [(toK x k).toNat])
  | c (hl : (BitVec.ofNat 64 k).slt (BitVec.ofNat 64 n) = true) (he : endB (x (BitVec.ofNat 64 k).toNat).o = false) (ha : alwB (x (BitVec.ofNat 64 k).toNat).o = false) (hj : jmpB (x (BitVec.ofNat 64 k).toNat).o = true) (n0 : (BitVec.ofNat 64 k + szV (x (BitVec.ofNat 64 k).toNat).o).slt 0#64 = false) (n1 : (BitVec.ofNat 64 n).sle (BitVec.ofNat 64 k + szV (x (BitVec.ofNat 64 k).toNat).o) = false) (n2 : 0 ≤ (BitVec.ofNat 64 k + szV (x (BitVec.ofNat 64 k).toNat).o).toInt ∧ (BitVec.ofNat 64 k + szV (x (BitVec.ofNat 64 k).toNat).o).toNat < n)
      (t0 : (toK x k).slt 0#64 = false) (t1 : (BitVec.ofNat 64 n).sle (toK x k) = false) (t2 : 0 ≤ (toK x k).toInt ∧ (toK x k).toNat < n) (hs : succ x k = [(BitVec.ofNat 64 k + szV (x (BitVec.ofNat 64 k).toNat).o).toNat, (toK x k).toNat])
  | s (hl : (BitVec.ofNat 64 k).slt (BitVec.ofNat 64 n) = true) (he : endB (x (BitVec.ofNat 64 k).toNat).o = false) (ha : alwB (x (BitVec.ofNat 64 k).toNat).o = false) (hj : jmpB (x (BitVec.ofNat 64 k).toNat).o = false) (n0 : (BitVec.ofNat 64 k + szV (x (BitVec.ofNat 64 k).toNat).o).slt 0#64 = false) (n1 : (BitVec.ofNat 64 n).sle (BitVec.ofNat 64 k + szV (x (BitVec.ofNat 64 k).toNat).o) = false) (n2 : 0 ≤ (BitVec.ofNat 64 k + szV (x (BitVec.ofNat 64 k).toNat).o).toInt ∧ (BitVec.ofNat 64 k + szV (x (BitVec.ofNat 64 k).toNat).o).toNat < n)
      (hs : succ x k = [(BitVec.ofNat 64 k + szV (x (BitVec.ofNat 64 k).toNat).o).toNat])
theorem kind_of {x : IT} {n k : Nat} {m : BitVec 64} {w : Bool} (G : Good x n m w) (hk : k ≤ n) : Kind x n k := by
  have W := G.ways
  have hn := W.small
  have ek : (BitVec.ofNat 64 k).toNat = k := nat8 hn hk
  rcases Nat.lt_or_ge k n with hlt | hge
  case inr => exact .stop (by omega)
  have hl : (BitVec.ofNat 64 k).slt (BitVec.ofNat 64 n) = true := (slt_nat (by omega) (by omega)).trans (decide_eq_true hlt)
  have hfall : BitVec.ofNat 64 k + szV (x k).o = BitVec.ofNat 64 (k + szN (x k).o) := by rw [szV_nat]; exact (BitVec.ofNat_add _ _).symm
  have etv : toV x (bv k) = toK x k := rfl
  have fall : ∀ (hf : k + szN (x k).o < n), (BitVec.ofNat 64 k + szV (x k).o).slt 0#64 = false ∧ (BitVec.ofNat 64 n).sle (BitVec.ofNat 64 k + szV (x k).o) = false ∧ (0 ≤ (BitVec.ofNat 64 k + szV (x k).o).toInt ∧ (BitVec.ofNat 64 k + szV (x k).o).toNat < n) ∧ (BitVec.ofNat 64 k + szV (x k).o).toNat = k + szN (x k).o := fun hf => by
    rw [hfall]
    exact ⟨(slt_nat (b := 0) (by omega) (by decide)).trans (decide_eq_false (by omega)), (sle_nat (by omega) (by omega)).trans (decide_eq_false (by omega)), ix_ofNat (by omega) hf, nat_ofNat (by omega)⟩
  cases hh : hf x k with
  | true =>
    obtain ⟨ho, h1⟩ := half_o G hlt hh
    have hz : szN (x k).o = 1 := by rw [ho]; decide
    obtain ⟨f0, f1, f2, f3⟩ := fall (by omega)
    have e1 : endB (x k).o = false := by rw [ho]; decide
    have e2 : alwB (x k).o = false := by rw [ho]; decide
    have e3 : jmpB (x k).o = false := by rw [ho]; decide
    refine .s hl ?_ ?_ ?_ ?_ ?_ ?_ ?_ <;> rw [ek]
    · exact e1
    · exact e2
    · exact e3
    · exact f0
    · exact f1
    · exact f2
    · rw [f3, succ, e1, e2, e3]; rfl
  | false =>
    have jump : ∀ (hj : jmpB (x k).o = true), (toK x k).slt 0#64 = false ∧ (BitVec.ofNat 64 n).sle (toK x k) = false ∧ (0 ≤ (toK x k).toInt ∧ (toK x k).toNat < n) := fun hj => by
      obtain ⟨h1, -, h3, h4⟩ := toV_lt W hlt hh hj
      rw [etv] at h1 h3 h4
      exact ⟨h3, h4, to_in hn h3 h4⟩
    cases he : endB (x k).o with
    | true => exact .e hl (by rw [ek]; exact he) (by rw [succ, he]; rfl)
    | false =>
      cases ha : alwB (x k).o with
      | true =>
        have hj : jmpB (x k).o = true := by simp only [alwB, Bool.and_eq_true] at ha; exact ha.1
        obtain ⟨j1, j2, j3⟩ := jump hj
        exact .a hl (by rw [ek]; exact he) (by rw [ek]; exact ha) (by rw [ek]; exact hj) j1 j2 j3 (by rw [succ, he, ha, etv]; rfl)
      | false =>
        obtain ⟨f0, f1, f2, f3⟩ := fall (fall_lt W hlt hh he ha)
        cases hj : jmpB (x k).o with
        | true =>
          obtain ⟨j1, j2, j3⟩ := jump hj
          exact .c hl (by rw [ek]; exact he) (by rw [ek]; exact ha) (by rw [ek]; exact hj) (by rw [ek]; exact f0) (by rw [ek]; exact f1) (by rw [ek]; exact f2) j1 j2 j3 (by rw [ek, f3, succ, he, ha, hj, etv]; rfl)
        | false => exact .s hl (by rw [ek]; exact he) (by rw [ek]; exact ha) (by rw [ek]; exact hj) (by rw [ek]; exact f0) (by rw [ek]; exact f1) (by rw [ek]; exact f2) (by rw [ek, f3, succ, he, ha, hj]; rfl)
/-- Round by round, as many as there are slots. -/
structure Turn (x : IT) (n : Nat) (g : Nat → Bool) (t : Nat) : Prop where
  led : LedOK x g
  le : t ≤ n
  clo : Clo x n g ∨ cnt g n + t + 1 ≤ n
theorem cnt_start {n : Nat} (h : 0 < n) : cnt (mark (fun _ => false) 0) n + 1 = n := by
  rw [cnt_mark rfl n h, cnt_none]
theorem Turn.start {x : IT} {n : Nat} (h : 0 < n) : Turn x n (mark (fun _ => false) 0) 0 := ⟨LedOK.start x, Nat.zero_le _, .inr (by have := cnt_start h; omega)⟩
theorem Turn.next {x : IT} {n t : Nat} {g g' : Nat → Bool} {mo : Bool} (W : WaysOK x n) (h0 : 0 < n) (h : Turn x n g t) (ht : t < n) (hi : Inner x n g g' mo n) : Turn x n g' (t + 1) := by
  refine ⟨hi.led, ht, ?_⟩
  cases hm : mo with
  | false => rw [(hi.no hm).1]; exact .inl (hi.no hm).2
  | true =>
    have hc := hi.yes hm
    rcases h.clo with hl | hl
    · exfalso
      have eg : g = reachB x := h.led.done W h0 hl
      have := cnt_le (g := g') (g' := g) (fun j hj => by rw [eg]; exact (reachB_iff x j).2 (hi.led.2 j hj)) n
      omega
    · exact .inr (by omega)
theorem Turn.done {x : IT} {n : Nat} {g : Nat → Bool} (W : WaysOK x n) (h0 : 0 < n) (h : Turn x n g n) : g = reachB x := by
  refine h.led.done W h0 ?_
  rcases h.clo with h | h
  · exact h
  · omega
/-- What is led is no second half. -/
theorem led_first {x : IT} {n : Nat} {g : Nat → Bool} (W : WaysOK x n) (h0 : 0 < n) (h : LedOK x g) {q : Nat} (hq : g q = true) : hf x q = false := (reach_lt W h0 (h.2 q hq)).2
theorem next_first {x : IT} {n k q : Nat} {g : Nat → Bool} (W : WaysOK x n) (h0 : 0 < n) (h : LedOK x g) (hk : g k = true) (hq : q ∈ succ x k) : secB x n q = false := by
  have hl := reach_lt W h0 (h.2 k hk)
  have := succ_lt W hl.1 hl.2 hq
  rw [sec_at (by omega)]; exact this.2
theorem exit_o {o d s : BitVec 8} {f : BitVec 16} {i : BitVec 32} (h : iCheck o d s f i true = 0#64) (he : endB o = true) : (o == 149#8) = true := by
  have key : fK o true = true := by
    cases e : fK o true with
    | true => rfl
    | false => unfold iCheck at h; rw [e] at h; cases h
  have all : (fK o true && endB o) = true → (o == 149#8) = true := by
    have := all8 (p := fun o => !(fK o true && endB o) || o == 149#8) (by decide +kernel) o
    intro e
    rw [e] at this
    simpa using this
  exact all (by rw [key, he]; rfl)
theorem exit_no {o : BitVec 8} (he : endB o = false) : (o == 149#8) = false := by
  rw [beq_eq_false_iff_ne]; intro e; rw [e] at he; exact absurd he (by decide)
theorem alone_i {x : IT} {n p : Nat} {m : BitVec 64} {w : Bool} (hn : p < 8000) (h : aloneE x n (bv p) m w = 0#64) : iCheck (x p).o (x p).d (x p).s (x p).f (x p).i w = 0#64 := by
  have hb : (bv p).toNat = p := nat_ofNat (by omega)
  unfold aloneE at h
  rw [hb] at h
  split at h
  · exact h
  · rename_i e
    simpa using e
end Go.Proofs.YthkgakelgdncjaaDoor
