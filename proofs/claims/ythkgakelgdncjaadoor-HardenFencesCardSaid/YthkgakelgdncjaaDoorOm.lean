/-
  Chapter 04: what Check comes to: first halves, what is wrong alone, where it leads, what is reached: plain definitions and facts. Conditions: as each says.
-/
import Derived.Test.YthkgakelgdncjaaDoorNm
namespace Go.Proofs.YthkgakelgdncjaaDoor
open Go.Ep Go.RowKit
set_option linter.unusedVariables false
set_option linter.unusedSimpArgs false
def jmpB (o : BitVec 8) : Bool := (o &&& 7#8 == 5#8 || o &&& 7#8 == 6#8) && (o &&& 240#8 != 128#8 && o &&& 240#8 != 144#8)
def alwB (o : BitVec 8) : Bool := jmpB o && o &&& 240#8 == 0#8
def endB (o : BitVec 8) : Bool := (o &&& 7#8 == 5#8 || o &&& 7#8 == 6#8) && o &&& 240#8 == 144#8
def szV (o : BitVec 8) : BitVec 64 := if o == 24#8 then 2#64 else 1#64
def szN (o : BitVec 8) : Nat := if o == 24#8 then 2 else 1
theorem szV_nat (o : BitVec 8) : szV o = BitVec.ofNat 64 (szN o) := by unfold szV szN; split <;> rfl
/-- Is a slot a second half? -/
def hf (x : IT) : Nat → Bool
  | 0 => false
  | p + 1 => !hf x p && ((x p).o == 24#8)
theorem hf_next (x : IT) {a : Nat} (h : hf x a = false) : hf x (a + szN (x a).o) = false := by
  unfold szN
  cases e : (x a).o == 24#8 with
  | true =>
    show hf x (a + 1 + 1) = false
    rw [hf, hf, h, e]; rfl
  | false =>
    show hf x (a + 1) = false
    rw [hf, h, e]; rfl
theorem hf_half (x : IT) {a j : Nat} (h : hf x a = false) (h1 : a < j) (h2 : j < a + szN (x a).o) : hf x j = true := by
  unfold szN at h2
  cases e : (x a).o == 24#8 with
  | true =>
    rw [e] at h2
    obtain rfl : j = a + 1 := by simp at h2; omega
    rw [hf, h, e]; rfl
  | false => rw [e] at h2; simp at h2; omega
/-- A row of bools. -/
abbrev bF (g : Nat → Bool) : Nat → List PL := fun j => [.bool (g j)]
theorem bF_upd (g : Nat → Bool) (k : Nat) (v : Bool) : updF (bF g) k 0 [.bool v] = bF (fun j => if j = k then v else g j) := by
  funext j
  by_cases h : j = k <;> simp [updF, mergeP, pickP, h]
/-- First halves below a slot. -/
def fsB (x : IT) (a : Nat) : Nat → Bool := fun j => decide (j < a) && !hf x j
theorem fsB_go (x : IT) {a k : Nat} (e : k = a) (h : hf x a = false) : updF (bF (fsB x a)) k 0 [.bool true] = bF (fsB x (a + szN (x a).o)) := by
  subst e
  rw [bF_upd]
  funext j
  have key : (if j = k then true else fsB x k j) = fsB x (k + szN (x k).o) j := by
    have hs : 1 ≤ szN (x k).o := by unfold szN; split <;> omega
    by_cases e : j = k
    · subst e
      rw [if_pos rfl, fsB, h, decide_eq_true (by omega)]; rfl
    · rw [if_neg e]
      unfold fsB
      by_cases h1 : j < k
      · rw [decide_eq_true h1, decide_eq_true (by omega)]
      · by_cases h2 : j < k + szN (x k).o
        · rw [decide_eq_false h1, hf_half x h (by omega) h2]; simp
        · rw [decide_eq_false h1, decide_eq_false h2]
  show [PL.bool (if j = k then true else fsB x k j)] = _
  rw [key]
theorem fsB_end (x : IT) {a j : Nat} (h : j < a) : fsB x a j = !hf x j := by rw [fsB, decide_eq_true h]; rfl

/-- What is wrong with a slot alone. -/
def aloneE (x : IT) (n : Nat) (p m : BitVec 64) (w : Bool) : BitVec 64 :=
  if iCheck (x p.toNat).o (x p.toNat).d (x p.toNat).s (x p.toNat).f (x p.toNat).i w != 0#64 then iCheck (x p.toNat).o (x p.toNat).d (x p.toNat).s (x p.toNat).f (x p.toNat).i w
  else if (x p.toNat).o == 133#8 then (if (x p.toNat).i == 1#32 || ((x p.toNat).i == 2#32 || ((x p.toNat).i == 3#32 || (x p.toNat).i == 7#32)) then 0#64 else 45#64)
  else if (x p.toNat).o == 24#8 then
    if (BitVec.ofNat 64 n).sle (p + 1#64) || !((x (p + 1#64).toNat).o == 0#8 && ((x (p + 1#64).toNat).d == 0#8 && ((x (p + 1#64).toNat).s == 0#8 && (x (p + 1#64).toNat).f == 0#16))) then 41#64
    else if (x p.toNat).s == 1#8 && ((x p.toNat).i.slt 0#32 || (m.sle ((x p.toNat).i.signExtend 64) || (x (p + 1#64).toNat).i != 0#32)) then 44#64 else 0#64
  else 0#64
/-- Where a jump leads. -/
def toV (x : IT) (p : BitVec 64) : BitVec 64 := p + 1#64 + (x p.toNat).f.signExtend 64
/-- What is wrong with where a slot leads. -/
def wayE (x : IT) (n : Nat) (p : BitVec 64) : BitVec 64 :=
  if jmpB (x p.toNat).o && ((toV x p).slt 0#64 || (BitVec.ofNat 64 n).sle (toV x p)) then 40#64
  else if jmpB (x p.toNat).o && hf x (toV x p).toNat then 41#64
  else if !endB (x p.toNat).o && (!alwB (x p.toNat).o && (BitVec.ofNat 64 n).sle (p + szV (x p.toNat).o)) then 43#64
  else 0#64
/-- The first of some numbers for which something holds. -/
def fstN (p : Nat → Bool) (n : Nat) : Option Nat := (List.range n).find? p
theorem fstN_some {p : Nat → Bool} {n k : Nat} (hk : k < n) (h : p k = true) (hj : ∀ j, j < k → p j = false) : fstN p n = some k := by
  unfold fstN
  rw [List.find?_range_eq_some]
  exact ⟨h, by simpa using hk, fun j hjk => by simp [hj j hjk]⟩
theorem fstN_none {p : Nat → Bool} {n : Nat} (h : ∀ j, j < n → p j = false) : fstN p n = none := by
  unfold fstN
  rw [List.find?_eq_none]
  intro j hj
  have := h j (by simpa using hj)
  simp [this]
theorem fstN_congr {p q : Nat → Bool} {n : Nat} (h : ∀ j, j < n → p j = q j) : fstN p n = fstN q n := by
  unfold fstN
  have key : ∀ l : List Nat, (∀ j ∈ l, p j = q j) → l.find? p = l.find? q := by
    intro l
    induction l with
    | nil => intro _; rfl
    | cons a l ih => intro hl; rw [List.find?_cons, List.find?_cons, hl a (by simp), ih fun j hj => hl j (by simp [hj])]
  exact key _ fun j hj => h j (by simpa using hj)
abbrev bv (p : Nat) : BitVec 64 := BitVec.ofNat 64 p
def badA (x : IT) (n : Nat) (m : BitVec 64) (w : Bool) (p : Nat) : Bool := !hf x p && aloneE x n (bv p) m w != 0#64
def badW (x : IT) (n : Nat) (p : Nat) : Bool := !hf x p && wayE x n (bv p) != 0#64
/-- The slots that may come behind one: of a program whose ways are right. -/
def succ (x : IT) (p : Nat) : List Nat :=
  if endB (x p).o then [] else
  if alwB (x p).o then [(toV x (bv p)).toNat] else
  if jmpB (x p).o then [p + szN (x p).o, (toV x (bv p)).toNat] else [p + szN (x p).o]
inductive Reach (x : IT) : Nat → Prop
  | zero : Reach x 0
  | step {p q : Nat} (h : Reach x p) (hq : q ∈ succ x p) : Reach x q
open Classical in
noncomputable def reachB (x : IT) (p : Nat) : Bool := decide (Reach x p)
def mostN (w : Bool) : Nat := if w then 192 else 64
noncomputable def chk4 (x : IT) (n : Nat) (m : BitVec 64) (w : Bool) : BitVec 64 × BitVec 64 :=
  if n = 0 ∨ mostN w < n then (0#64, 3#64) else
  match fstN (badA x n m w) n with
  | some k => (bv k, aloneE x n (bv k) m w)
  | none => match fstN (badW x n) n with
    | some k => (bv k, wayE x n (bv k))
    | none => match fstN (fun p => !hf x p && !reachB x p) n with
      | some k => (bv k, 42#64)
      | none => (0#64, 0#64)
/-! What follows where the ways are right. -/
structure WaysOK (x : IT) (n : Nat) : Prop where
  small : n ≤ 8000
  ok : ∀ p, p < n → hf x p = false → wayE x n (bv p) = 0#64
theorem toV_lt {x : IT} {n p : Nat} (W : WaysOK x n) (hp : p < n) (hh : hf x p = false) (hj : jmpB (x p).o = true) : (toV x (bv p)).toNat < n ∧ hf x (toV x (bv p)).toNat = false ∧ (toV x (bv p)).slt 0#64 = false ∧ (BitVec.ofNat 64 n).sle (toV x (bv p)) = false := by
  have hb : (bv p).toNat = p := nat_ofNat (by have := W.small; omega)
  have h := W.ok p hp hh
  unfold wayE at h
  rw [hb, hj] at h
  simp only [Bool.true_and] at h
  split at h
  · cases h
  · rename_i h1
    split at h
    · cases h
    · rename_i h2
      simp only [Bool.or_eq_true, not_or, Bool.not_eq_true] at h1 h2
      refine ⟨?_, h2, h1⟩
      have h3 := h1.1
      have h4 := h1.2
      have hn : n < 9223372036854775808 := by have := W.small; omega
      rw [BitVec.slt_eq_decide, show (0#64).toInt = 0 by decide] at h3
      rw [BitVec.sle_eq_decide, toInt_ofNat hn] at h4
      simp only [decide_eq_false_iff_not] at h3 h4
      rw [BitVec.toInt_eq_toNat_cond] at h3 h4
      have := (toV x (bv p)).isLt
      split at h3 <;> omega
theorem fall_lt {x : IT} {n p : Nat} (W : WaysOK x n) (hp : p < n) (hh : hf x p = false) (he : endB (x p).o = false) (ha : alwB (x p).o = false) : p + szN (x p).o < n := by
  have hb : (bv p).toNat = p := nat_ofNat (by have := W.small; omega)
  have h := W.ok p hp hh
  unfold wayE at h
  rw [hb, he, ha] at h
  split at h
  · cases h
  · split at h
    · cases h
    · split at h
      · cases h
      · rename_i h3
        have hs : szN (x p).o ≤ 2 := by unfold szN; split <;> omega
        have e : bv p + szV (x p).o = BitVec.ofNat 64 (p + szN (x p).o) := by rw [szV_nat]; exact (BitVec.ofNat_add _ _).symm
        have hn := W.small
        rw [e, sle_nat (by omega) (by omega)] at h3
        simpa using h3
theorem succ_lt {x : IT} {n p q : Nat} (W : WaysOK x n) (hp : p < n) (hh : hf x p = false) (hq : q ∈ succ x p) : q < n ∧ hf x q = false := by
  unfold succ at hq
  have hal : alwB (x p).o = true → jmpB (x p).o = true := fun h => by simp only [alwB, Bool.and_eq_true] at h; exact h.1
  split at hq
  · simp at hq
  · rename_i he
    have he : endB (x p).o = false := by simpa using he
    split at hq
    · rename_i ha
      obtain rfl : q = (toV x (bv p)).toNat := by simpa using hq
      have := toV_lt W hp hh (hal ha)
      exact ⟨this.1, this.2.1⟩
    · rename_i ha
      have ha : alwB (x p).o = false := by simpa using ha
      split at hq
      · rename_i hj
        rcases List.mem_cons.1 hq with rfl | hq
        · exact ⟨fall_lt W hp hh he ha, hf_next x hh⟩
        · obtain rfl : q = (toV x (bv p)).toNat := by simpa using hq
          have := toV_lt W hp hh hj
          exact ⟨this.1, this.2.1⟩
      · obtain rfl : q = p + szN (x p).o := by simpa using hq
        exact ⟨fall_lt W hp hh he ha, hf_next x hh⟩
theorem reach_lt {x : IT} {n : Nat} (W : WaysOK x n) (h0 : 0 < n) {p : Nat} (h : Reach x p) : p < n ∧ hf x p = false := by
  induction h with
  | zero => exact ⟨h0, rfl⟩
  | step h hq ih => exact succ_lt W ih.1 ih.2 hq
/-! Going deep. -/
def cnt (g : Nat → Bool) : Nat → Nat
  | 0 => 0
  | n + 1 => cnt g n + (!g n).toNat
theorem cnt_le {g g' : Nat → Bool} (h : ∀ j, g j = true → g' j = true) : ∀ n, cnt g' n ≤ cnt g n
  | 0 => Nat.le_refl _
  | n + 1 => by
    have := cnt_le h n
    simp only [cnt]
    cases hg : g n with
    | true => rw [h n hg]; simpa using this
    | false => cases g' n <;> simp <;> omega
def mark (g : Nat → Bool) (k : Nat) : Nat → Bool := fun j => if j = k then true else g j
theorem mark_self (g : Nat → Bool) (k : Nat) : mark g k k = true := if_pos rfl
theorem mark_other (g : Nat → Bool) {k j : Nat} (h : j ≠ k) : mark g k j = g j := if_neg h
theorem mark_mono (g : Nat → Bool) (k : Nat) {j : Nat} (h : g j = true) : mark g k j = true := by
  by_cases e : j = k
  · subst e; exact mark_self g j
  · rw [mark_other g e]; exact h
theorem cnt_mark {g : Nat → Bool} {k : Nat} (hk : g k = false) : ∀ n, k < n → cnt (mark g k) n + 1 = cnt g n
  | 0, h => by omega
  | n + 1, h => by
    simp only [cnt]
    by_cases e : n = k
    · subst e
      have : ∀ m, m ≤ n → cnt (mark g n) m = cnt g m := by
        intro m
        induction m with
        | zero => intro _; rfl
        | succ m ih => intro hm; simp only [cnt]; rw [ih (by omega), mark_other g (show m ≠ n by omega)]
      rw [this n (Nat.le_refl _), mark_self, hk]; rfl
    · have := cnt_mark hk n (by omega)
      rw [mark_other g e]; omega
mutual
def visF (x : IT) : Nat → Nat → (Nat → Bool) → (Nat → Bool)
  | 0, _, g => g
  | m + 1, p, g => if g p then g else visL x m (succ x p) (mark g p)
def visL (x : IT) : Nat → List Nat → (Nat → Bool) → (Nat → Bool)
  | _, [], g => g
  | m, q :: r, g => visL x m r (visF x m q g)
end
end Go.Proofs.YthkgakelgdncjaaDoor
