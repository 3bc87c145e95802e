/-
  Chapter 04: moves one behind the other, and an exit: plain facts. Conditions: as each says.
-/
import Derived.Test.YtdaioplfgbgggaaOe
namespace Go.Proofs.Ytdaioplfgbgggaa
open Go.Ep Go.RowKit
set_option linter.unusedVariables false
set_option linter.unusedSimpArgs false
abbrev exI : IN := ⟨149#8, 0#8, 0#8, 0#16, 0#32⟩
/-- Moves below a slot. -/
def Mov (g : IT) (n : Nat) : Prop := ∀ j, j < n → ∃ d v, g j = ⟨183#8, d, 0#8, 0#16, v⟩ ∧ d.toNat < 10
theorem mov_ok (d : BitVec 8) (v : BitVec 32) (hd : d.toNat < 10) : iCheck 183#8 d 0#8 0#16 v false = 0#64 := by
  have h1 : (10#8).ult d = false := by rw [BitVec.ult_eq_decide]; exact decide_eq_false (by show ¬ 10 < d.toNat; omega)
  have h2 : (d == 10#8) = false := by
    rw [beq_eq_false_iff_ne]; intro e; rw [e] at hd; exact absurd hd (by decide)
  unfold iCheck
  rw [h1, h2]
  have a1 : fK 183#8 false = true := by decide
  have a2 : fD 183#8 = true := by decide
  have a3 : fI 183#8 = true := by decide
  have a4 : iN' 183#8 v = true := by unfold iN'; rfl
  rw [a1, a2, a3, a4]; rfl
theorem nat_bv {j : Nat} (h : j < 8000) : (bv j).toNat = j := nat_ofNat (by omega)
theorem alone_mov {g : IT} {n N j : Nat} (h : Mov g n) (hj : j < n) (hn : n ≤ 60) : aloneE g N (bv j) 0#64 false = 0#64 := by
  obtain ⟨d, v, e, hd⟩ := h j hj
  unfold aloneE
  rw [nat_bv (by omega), e, mov_ok d v hd]; rfl
theorem alone_exit {g : IT} {N j : Nat} (h : g j = exI) (hj : j ≤ 62) : aloneE g N (bv j) 0#64 false = 0#64 := by
  unfold aloneE
  rw [nat_bv (by omega), h]; rfl
theorem way_mov {g : IT} {n N j : Nat} (h : Mov g n) (hj : j < n) (hn : n ≤ 60) (hN : N ≤ 62) : wayE g N (bv j) = if N ≤ j + 1 then 43#64 else 0#64 := by
  obtain ⟨d, v, e, hd⟩ := h j hj
  unfold wayE
  rw [nat_bv (by omega), e]
  have e1 : jmpB 183#8 = false := by decide
  have e2 : endB 183#8 = false := by decide
  have e3 : alwB 183#8 = false := by decide
  have e4 : bv j + szV 183#8 = bv (j + 1) := by rw [szV_nat]; exact (BitVec.ofNat_add _ _).symm
  dsimp only
  rw [e1, e2, e3, e4, sle_nat (by omega) (by omega)]
  simp
theorem way_exit {g : IT} {N j : Nat} (h : g j = exI) (hj : j ≤ 62) : wayE g N (bv j) = 0#64 := by
  unfold wayE
  rw [nat_bv (by omega), h]; rfl
theorem hf_none {g : IT} : ∀ {N : Nat}, (∀ j, j < N → ((g j).o == 24#8) = false) → ∀ j, j ≤ N → hf g j = false
  | N, h, 0, _ => rfl
  | N, h, j + 1, hj => by rw [hf, h j (by omega), Bool.and_false]
theorem o_mov {g : IT} {n j : Nat} (h : Mov g n) (hj : j < n) : ((g j).o == 24#8) = false := by
  obtain ⟨d, v, e, hd⟩ := h j hj
  rw [e]; rfl
theorem bad_of {g : IT} {N j : Nat} (h : aloneE g N (bv j) 0#64 false = 0#64) : badA g N 0#64 false j = false := by
  unfold badA; rw [h]; simp
theorem badW_of {g : IT} {N j : Nat} (h : wayE g N (bv j) = 0#64) : badW g N j = false := by
  unfold badW; rw [h]; simp
theorem most_no {N : Nat} (h0 : 0 < N) (h : N ≤ 62) : ¬ (N = 0 ∨ mostN false < N) := by simp [mostN]; omega
/-- Without an exit. -/
theorem straight1 {g : IT} {n : Nat} (h : Mov g n) (h0 : 0 < n) (hn : n ≤ 60) : chk4 g n 0#64 false = (bv (n - 1), 43#64) := by
  have hA : ∀ j, j < n → badA g n 0#64 false j = false := fun j hj => bad_of (alone_mov h hj hn)
  have hw : wayE g n (bv (n - 1)) = 43#64 := by rw [way_mov h (by omega) hn (by omega), if_pos (by omega)]
  rw [chk_W (most_no h0 (by omega)) hA (k := n - 1) (by omega) ?_ fun j hj => badW_of ?_, hw]
  · unfold badW
    rw [hw, hf_none (N := n) (fun j hj => o_mov h hj) _ (by omega)]; rfl
  · rw [way_mov h (by omega) hn (by omega), if_neg (by omega)]
theorem reach_all {g : IT} {n : Nat} (h : Mov g n) : ∀ j, j ≤ n → Reach g j
  | 0, _ => .zero
  | j + 1, hj => .step (reach_all h j (by omega)) (by
      obtain ⟨d, v, e, hd⟩ := h j (by omega)
      unfold succ
      rw [e, show endB 183#8 = false by decide, show alwB 183#8 = false by decide, show jmpB 183#8 = false by decide, show szN 183#8 = 1 by decide]
      simp)
theorem reach_le {g : IT} {n q : Nat} (h : Mov g n) (he : g n = exI) (hr : Reach g q) : q ≤ n := by
  induction hr with
  | zero => exact Nat.zero_le _
  | @step p q hr hq ih =>
    by_cases e : p = n
    · subst e
      unfold succ at hq
      rw [he, show endB 149#8 = true by decide] at hq
      simp at hq
    · obtain ⟨d, v, e2, hd⟩ := h p (by omega)
      unfold succ at hq
      rw [e2, show endB 183#8 = false by decide, show alwB 183#8 = false by decide, show jmpB 183#8 = false by decide, show szN 183#8 = 1 by decide] at hq
      simp at hq
      omega
theorem alone2 {g : IT} {n N : Nat} (h : Mov g n) (he : ∀ j, n ≤ j → j < N → g j = exI) (hn : n ≤ 60) (hN : N ≤ 62) : ∀ j, j < N → badA g N 0#64 false j = false := fun j hj => by
  by_cases e : j < n
  · exact bad_of (alone_mov h e hn)
  · exact bad_of (alone_exit (he j (by omega) hj) (by omega))
theorem way2 {g : IT} {n N : Nat} (h : Mov g n) (he : ∀ j, n ≤ j → j < N → g j = exI) (hn : n ≤ 60) (h1 : n < N) (hN : N ≤ 62) : ∀ j, j < N → badW g N j = false := fun j hj => by
  by_cases e : j < n
  · exact badW_of (by rw [way_mov h e hn hN, if_neg (by omega)])
  · exact badW_of (way_exit (he j (by omega) hj) (by omega))
theorem hf2 {g : IT} {n N : Nat} (h : Mov g n) (he : ∀ j, n ≤ j → j < N → g j = exI) : ∀ j, j < N → hf g j = false := fun j hj => by
  refine hf_none (N := N) (fun k hk => ?_) j (by omega)
  by_cases e : k < n
  · exact o_mov h e
  · rw [he k (by omega) hk]; rfl
/-- With an exit. -/
theorem straight2 {g : IT} {n : Nat} (h : Mov g n) (he : g n = exI) (hn : n ≤ 60) : chk4 g (n + 1) 0#64 false = (0#64, 0#64) := by
  have he' : ∀ j, n ≤ j → j < n + 1 → g j = exI := fun j h1 h2 => by obtain rfl : j = n := by omega
                                                                     exact he
  refine chk_0 (most_no (by omega) (by omega)) (alone2 h he' hn (by omega)) (way2 h he' hn (by omega) (by omega)) fun j hj => ?_
  rw [(reachB_iff g j).2 (reach_all h j (by omega))]; simp
/-- With two. -/
theorem straight3 {g : IT} {n : Nat} (h : Mov g n) (he : ∀ j, n ≤ j → j < n + 2 → g j = exI) (hn : n ≤ 60) : chk4 g (n + 2) 0#64 false = (bv (n + 1), 42#64) := by
  refine chk_R (most_no (by omega) (by omega)) (alone2 h he hn (by omega)) (way2 h he hn (by omega) (by omega)) (by omega) ?_ fun j hj => ?_
  · have : reachB g (n + 1) = false := by
      rw [← Bool.not_eq_true]
      intro e
      have := reach_le h (he n (by omega) (by omega)) ((reachB_iff g _).1 e)
      omega
    rw [this, hf2 h he _ (by omega)]; rfl
  · rw [(reachB_iff g j).2 (reach_all h j (by omega))]; simp
end Go.Proofs.Ytdaioplfgbgggaa
