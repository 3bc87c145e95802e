/-
  Chapter 04: what is gone through deep first is what is reached; what is made more round by round, too. Conditions: as each says.
-/
import Derived.Test.YthkgakelgdncjaaDoorOm
namespace Go.Proofs.YthkgakelgdncjaaDoor
open Go.Ep Go.RowKit
set_option linter.unusedVariables false
set_option linter.unusedSimpArgs false
open Classical in
theorem reachB_iff (x : IT) (j : Nat) : reachB x j = true ↔ Reach x j := by unfold reachB; exact decide_eq_true_iff
theorem eq_reach {x : IT} {j : Nat} {b : Bool} (h : b = true ↔ Reach x j) : b = reachB x j := by
  rw [Bool.eq_iff_iff, h, reachB_iff]
theorem visF_z (x : IT) (p : Nat) (g : Nat → Bool) : visF x 0 p g = g := by rw [visF]
theorem visF_s (x : IT) (m p : Nat) (g : Nat → Bool) : visF x (m + 1) p g = if g p then g else visL x m (succ x p) (mark g p) := by rw [visF]
theorem visL_n (x : IT) (m : Nat) (g : Nat → Bool) : visL x m [] g = g := by rw [visL]
theorem visL_c (x : IT) (m q : Nat) (r : List Nat) (g : Nat → Bool) : visL x m (q :: r) g = visL x m r (visF x m q g) := by rw [visL]
theorem visL_mono' (x : IT) (m : Nat) (hF : ∀ p g j, g j = true → visF x m p g j = true) : ∀ (l : List Nat) (g : Nat → Bool) {j : Nat}, g j = true → visL x m l g j = true
  | [], g, j, h => by rw [visL_n]; exact h
  | q :: r, g, j, h => by rw [visL_c]; exact visL_mono' x m hF r _ (hF q g j h)
theorem visF_mono (x : IT) : ∀ (m p : Nat) (g : Nat → Bool) (j : Nat), g j = true → visF x m p g j = true
  | 0, p, g, j, h => by rw [visF_z]; exact h
  | m + 1, p, g, j, h => by
    rw [visF_s]
    split
    · exact h
    · exact visL_mono' x m (visF_mono x m) _ _ (mark_mono g p h)
theorem visL_mono (x : IT) (m : Nat) (l : List Nat) (g : Nat → Bool) {j : Nat} (h : g j = true) : visL x m l g j = true := visL_mono' x m (visF_mono x m) l g h
theorem cnt_zero {g : Nat → Bool} : ∀ {n : Nat}, cnt g n = 0 → ∀ j, j < n → g j = true
  | 0, _, j, hj => by omega
  | n + 1, h, j, hj => by
    simp only [cnt] at h
    by_cases e : j = n
    · subst e
      cases hg : g j with
      | true => rfl
      | false => rw [hg] at h; simp at h
    · exact cnt_zero (n := n) (by omega) j (by omega)
/-- What is marked anew leads to what is marked. -/
def NewOK (x : IT) (n : Nat) (g g' : Nat → Bool) : Prop := ∀ q, g' q = true → g q = true ∨ (q < n ∧ hf x q = false ∧ ∀ r ∈ succ x q, g' r = true)
theorem NewOK.trans {x : IT} {n : Nat} {g g' g'' : Nat → Bool} (h1 : NewOK x n g g') (h2 : NewOK x n g' g'') (hm : ∀ j, g' j = true → g'' j = true) : NewOK x n g g'' := fun q hq => by
  rcases h2 q hq with h | h
  · rcases h1 q h with h | ⟨a, b, c⟩
    · exact .inl h
    · exact .inr ⟨a, b, fun r hr => hm r (c r hr)⟩
  · exact .inr h
theorem visL_ok (x : IT) (n m : Nat) (hF : ∀ (g : Nat → Bool) (p : Nat), cnt g n ≤ m → p < n → hf x p = false → visF x m p g p = true ∧ NewOK x n g (visF x m p g)) :
    ∀ (l : List Nat) (g : Nat → Bool), cnt g n ≤ m → (∀ q ∈ l, q < n ∧ hf x q = false) → (∀ q ∈ l, visL x m l g q = true) ∧ NewOK x n g (visL x m l g)
  | [], g, hc, hl => ⟨fun q hq => by simp at hq, fun q hq => .inl (by rwa [visL_n] at hq)⟩
  | p :: r, g, hc, hl => by
    obtain ⟨h1, h2⟩ := hF g p hc (hl p (by simp)).1 (hl p (by simp)).2
    have hmono : ∀ j, g j = true → visF x m p g j = true := fun j h => visF_mono x m p g j h
    obtain ⟨h3, h4⟩ := visL_ok x n m hF r (visF x m p g) (Nat.le_trans (cnt_le hmono n) hc) fun q hq => hl q (by simp [hq])
    rw [visL_c]
    refine ⟨fun q hq => ?_, h2.trans h4 fun j h => visL_mono x m r _ h⟩
    rcases List.mem_cons.1 hq with rfl | hq
    · exact visL_mono x m r _ h1
    · exact h3 q hq
theorem visF_ok (x : IT) {n : Nat} (W : WaysOK x n) : ∀ (m : Nat) (g : Nat → Bool) (p : Nat), cnt g n ≤ m → p < n → hf x p = false → visF x m p g p = true ∧ NewOK x n g (visF x m p g)
  | 0, g, p, hc, hp, hh => by
    rw [visF_z]
    exact ⟨cnt_zero (by omega) p hp, fun q hq => .inl hq⟩
  | m + 1, g, p, hc, hp, hh => by
    rw [visF_s]
    cases hg : g p with
    | true => exact ⟨hg, fun q hq => .inl hq⟩
    | false =>
      have hc' : cnt (mark g p) n ≤ m := by have := cnt_mark hg n hp; omega
      obtain ⟨h1, h2⟩ := visL_ok x n m (visF_ok x W m) (succ x p) (mark g p) hc' fun q hq => succ_lt W hp hh hq
      refine ⟨visL_mono x m _ _ (mark_self g p), fun q hq => ?_⟩
      rcases h2 q hq with h | h
      · by_cases e : q = p
        · subst e; exact .inr ⟨hp, hh, h1⟩
        · rw [mark_other g e] at h; exact .inl h
      · exact .inr h
theorem visL_sound (x : IT) (m : Nat) (hF : ∀ (g : Nat → Bool) (p : Nat), Reach x p → ∀ q, visF x m p g q = true → g q = true ∨ Reach x q) :
    ∀ (l : List Nat) (g : Nat → Bool), (∀ q ∈ l, Reach x q) → ∀ q, visL x m l g q = true → g q = true ∨ Reach x q
  | [], g, hl, q, h => .inl (by rwa [visL_n] at h)
  | p :: r, g, hl, q, h => by
    rw [visL_c] at h
    rcases visL_sound x m hF r _ (fun q hq => hl q (by simp [hq])) q h with h | h
    · exact hF g p (hl p (by simp)) q h
    · exact .inr h
theorem visF_sound (x : IT) : ∀ (m : Nat) (g : Nat → Bool) (p : Nat), Reach x p → ∀ q, visF x m p g q = true → g q = true ∨ Reach x q
  | 0, g, p, hr, q, h => .inl (by rwa [visF_z] at h)
  | m + 1, g, p, hr, q, h => by
    rw [visF_s] at h
    cases hg : g p with
    | true => rw [hg] at h; exact .inl h
    | false =>
      rw [hg] at h
      rcases visL_sound x m (visF_sound x m) _ _ (fun q hq => .step hr hq) q h with h | h
      · by_cases e : q = p
        · subst e; exact .inr hr
        · rw [mark_other g e] at h; exact .inl h
      · exact .inr h
theorem cnt_none : ∀ n, cnt (fun _ => false) n = n
  | 0 => rfl
  | n + 1 => by simp only [cnt, cnt_none n]; rfl
theorem vis_end (x : IT) {n : Nat} (W : WaysOK x n) (h0 : 0 < n) : visF x n 0 (fun _ => false) = reachB x := by
  obtain ⟨h1, h2⟩ := visF_ok x W n (fun _ => false) 0 (by rw [cnt_none]; exact Nat.le_refl _) h0 rfl
  funext j
  have key : visF x n 0 (fun _ => false) j = true ↔ Reach x j := by
    constructor
    · intro h
      rcases visF_sound x n _ 0 .zero j h with h | h
      · cases h
      · exact h
    · intro h
      induction h with
      | zero => exact h1
      | step h hq ih =>
        rcases h2 _ ih with h | h
        · cases h
        · exact h.2.2 _ hq
  exact eq_reach key
/-! Round by round. -/
/-- What is marked is reached; what begins is marked. -/
def LedOK (x : IT) (g : Nat → Bool) : Prop := g 0 = true ∧ ∀ j, g j = true → Reach x j
theorem LedOK.start (x : IT) : LedOK x (mark (fun _ => false) 0) := ⟨mark_self _ 0, fun j h => by
  by_cases e : j = 0
  · subst e; exact .zero
  · rw [mark_other _ e] at h; cases h⟩
theorem LedOK.more {x : IT} {g : Nat → Bool} (h : LedOK x g) {p q : Nat} (hp : g p = true) (hq : q ∈ succ x p) : LedOK x (mark g q) := ⟨mark_mono g q h.1, fun j hj => by
  by_cases e : j = q
  · subst e; exact .step (h.2 p hp) hq
  · rw [mark_other g e] at hj; exact h.2 j hj⟩
theorem LedOK.done {x : IT} {n : Nat} {g : Nat → Bool} (W : WaysOK x n) (h0 : 0 < n) (h : LedOK x g) (hc : ∀ p, p < n → g p = true → ∀ q ∈ succ x p, g q = true) : g = reachB x := by
  funext j
  have key : g j = true ↔ Reach x j := by
    constructor
    · exact h.2 j
    · intro hr
      induction hr with
      | zero => exact h.1
      | step hr hq ih => exact hc _ (reach_lt W h0 hr).1 ih _ hq
  exact eq_reach key
end Go.Proofs.YthkgakelgdncjaaDoor
