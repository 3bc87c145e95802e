/-
  Chapter 04: what is wrong outside, or with fewer maps: plain facts. Conditions: as each says.
-/
import Derived.Test.YthkgakelgdncjaaDoorOq
namespace Go.Proofs.YthkgakelgdncjaaDoor
open Go.Ep Go.RowKit
set_option linter.unusedVariables false
set_option linter.unusedSimpArgs false
theorem fK_more (o : BitVec 8) (h : fK o false = true) : fK o true = true := by
  unfold fK at *
  split at h
  · rename_i e; simp only [e, if_true] at *; exact h
  · rename_i e
    split at h
    · rename_i e2; simp only [e, e2] at *; exact h
    · rename_i e2
      simp only [e, e2, Bool.false_eq_true, if_false, Bool.and_false, Bool.or_false, Bool.and_true] at *
      rw [h]; rfl
theorem iCheck_more (o d s : BitVec 8) (f : BitVec 16) (i : BitVec 32) (h : iCheck o d s f i false ≠ 20#64) : iCheck o d s f i true = iCheck o d s f i false := by
  unfold iCheck at *
  cases e : fK o false with
  | false => rw [e] at h; exact absurd rfl h
  | true => rw [fK_more o e]
theorem alone_inner (x : IT) (n : Nat) (p m : BitVec 64) (h : aloneE x n p m false ≠ 20#64) : aloneE x n p m true = aloneE x n p m false := by
  have key : iCheck (x p.toNat).o (x p.toNat).d (x p.toNat).s (x p.toNat).f (x p.toNat).i false ≠ 20#64 := by
    intro e
    apply h
    unfold aloneE
    rw [e]; rfl
  unfold aloneE
  rw [iCheck_more _ _ _ _ _ key]
theorem more_maps {m k v : BitVec 64} (h1 : (1000000#64).slt m = false) (h2 : m.slt 18446744073708551616#64 = false) (hk : k.toNat < 256) (h : m.sle v = false) : (m + k).sle v = false := by
  rw [BitVec.slt_eq_decide, show (1000000#64).toInt = 1000000 by decide] at h1
  rw [BitVec.slt_eq_decide, show (18446744073708551616#64).toInt = -1000000 by decide] at h2
  rw [BitVec.sle_eq_decide] at *
  simp only [decide_eq_false_iff_not] at *
  have e : (m + k).toInt = m.toInt + (k.toNat : Int) := by
    rw [BitVec.toInt_add]
    have : k.toInt = (k.toNat : Int) := by rw [BitVec.toInt_eq_toNat_cond]; split <;> omega
    rw [this]
    have := Int.bmod_eq_of_le (n := m.toInt + (k.toNat : Int)) (m := 2 ^ 64) (by omega) (by omega)
    exact this
  omega
theorem alone_maps (x : IT) (n : Nat) (p m k : BitVec 64) (w : Bool) (h1 : (1000000#64).slt m = false) (h2 : m.slt 18446744073708551616#64 = false) (hk : k.toNat < 256) (h : aloneE x n p m w ≠ 44#64) : aloneE x n p (m + k) w = aloneE x n p m w := by
  unfold aloneE at *
  split
  · rfl
  split
  · rfl
  split
  · split
    · rfl
    · rename_i a b c d
      rw [if_neg a, if_neg b, if_pos c, if_neg d] at h
      split at h
      · exact absurd rfl h
      · rename_i e
        rw [Bool.not_eq_true] at e
        refine Eq.trans (if_neg ?_) (if_neg (by rw [e]; decide)).symm
        intro e2
        rw [Bool.and_eq_true, Bool.or_eq_true, Bool.or_eq_true] at e2
        rw [e2.1, Bool.true_and] at e
        simp only [Bool.or_eq_false_iff] at e
        rcases e2.2 with h3 | h3 | h3
        · rw [e.1] at h3; cases h3
        · rw [more_maps h1 h2 hk e.2.1] at h3; cases h3
        · rw [e.2.2] at h3; cases h3
  · rfl
theorem fstN_inv {p : Nat → Bool} {n k : Nat} (h : fstN p n = some k) : k < n ∧ p k = true ∧ ∀ j, j < k → p j = false := by
  unfold fstN at h
  rw [List.find?_range_eq_some] at h
  refine ⟨by simpa using h.2.1, h.1, fun j hj => ?_⟩
  have := h.2.2 j hj
  simpa using this
theorem fstN_none_inv {p : Nat → Bool} {n : Nat} (h : fstN p n = none) : ∀ j, j < n → p j = false := fun j hj => by
  unfold fstN at h
  rw [List.find?_eq_none] at h
  have := h j (by simpa using hj)
  simpa using this
theorem badA_same {x : IT} {n p : Nat} {m m' : BitVec 64} {w w' : Bool} (h : aloneE x n (bv p) m' w' = aloneE x n (bv p) m w) : badA x n m' w' p = badA x n m w p := by unfold badA; rw [h]
theorem badA_zero {x : IT} {n p : Nat} {m : BitVec 64} {w : Bool} {bad : BitVec 64} (hz : bad ≠ 0#64) (h : badA x n m w p = false) (hh : hf x p = false) : aloneE x n (bv p) m w ≠ bad := by
  unfold badA at h
  rw [hh] at h
  have : aloneE x n (bv p) m w = 0#64 := by simpa using h
  rw [this]; exact Ne.symm hz
theorem badA_keep {x : IT} {n p : Nat} {m m' : BitVec 64} {w w' : Bool} {bad : BitVec 64} (hz : bad ≠ 0#64) (h : ∀ p, aloneE x n p m w ≠ bad → aloneE x n p m' w' = aloneE x n p m w) (hb : badA x n m w p = false) : badA x n m' w' p = false := by
  cases hh : hf x p with
  | true => exact badA_half hh
  | false => rw [badA_same (h _ (badA_zero hz hb hh))]; exact hb
theorem chk_same {x : IT} {n : Nat} {m m' : BitVec 64} {w w' : Bool} {bad : BitVec 64} (hz : bad ≠ 0#64) (hn : n ≤ 60) (h : ∀ p, aloneE x n p m w ≠ bad → aloneE x n p m' w' = aloneE x n p m w) : (chk4 x n m w).2 = bad ∨ chk4 x n m' w' = chk4 x n m w := by
  have hm : ∀ w, ¬ mostN w < n := fun w => by cases w <;> simp [mostN] <;> omega
  by_cases h0 : n = 0
  · right; rw [chk_L (.inl h0), chk_L (.inl h0)]
  have hn1 : ¬ (n = 0 ∨ mostN w < n) := fun e => e.elim h0 (hm w)
  have hn2 : ¬ (n = 0 ∨ mostN w' < n) := fun e => e.elim h0 (hm w')
  cases e : fstN (badA x n m w) n with
  | some k =>
    obtain ⟨h1, h2, h3⟩ := fstN_inv e
    rw [chk_A hn1 h1 h2 h3]
    by_cases hb : aloneE x n (bv k) m w = bad
    · exact .inl hb
    · right
      have hs := h _ hb
      rw [chk_A hn2 h1 (by rw [badA_same hs]; exact h2) (fun j hj => badA_keep hz h (h3 j hj)), hs]
  | none =>
    right
    have h3 := fstN_none_inv e
    unfold chk4
    rw [if_neg hn1, if_neg hn2, e, fstN_none fun j hj => badA_keep hz h (h3 j hj)]
theorem chk_ok {x : IT} {n : Nat} {m : BitVec 64} {w : Bool} (h : (chk4 x n m w).2 = 0#64) : (chk4 x n m w).1 = 0#64 := by
  unfold chk4 at *
  split at h
  · cases h
  · rename_i hn
    rw [if_neg hn]
    split at h
    · rename_i k e
      have := (fstN_inv e).2.1
      unfold badA at this
      rw [show aloneE x n (bv k) m w = 0#64 from h] at this
      simp at this
    · rename_i e
      (try rw [e])
      split at h
      · rename_i k e2
        have := (fstN_inv e2).2.1
        unfold badW at this
        rw [show wayE x n (bv k) = 0#64 from h] at this
        simp at this
      · rename_i e2
        (try rw [e2])
        split at h
        · cases h
        · rename_i e3; first | rfl | rw [e3]
theorem more_in {x : IT} {n : Nat} {m : BitVec 64} (hn : n ≤ 60) : (chk4 x n m false).2 = 20#64 ∨ chk4 x n m true = chk4 x n m false := chk_same (by decide) hn fun p h => alone_inner x n p m h
theorem more_of {x : IT} {n : Nat} {m k : BitVec 64} (hn : n ≤ 60) (h1 : (1000000#64).slt m = false) (h2 : m.slt 18446744073708551616#64 = false) (hk : k.toNat < 256) : (chk4 x n m false).2 = 44#64 ∨ chk4 x n (m + k) false = chk4 x n m false := chk_same (by decide) hn fun p h => alone_maps x n p m k false h1 h2 hk h
end Go.Proofs.YthkgakelgdncjaaDoor
