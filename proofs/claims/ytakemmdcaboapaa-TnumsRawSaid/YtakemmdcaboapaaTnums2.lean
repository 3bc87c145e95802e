/-
  Contracts of the rest of package tnums and of the laws' own helpers. Conditions: the arguments fit their kinds.
-/
import Derived.Test.YtakemmdcaboapaaTnums
namespace Go.Proofs.Ytakemmdcaboapaa
open Go.RowKit
set_option linter.unusedVariables false
set_option linter.unusedSimpArgs false

theorem in_any (a b c d : BitVec 64) (w : World) :
    Calls Try.prog 37 #[TV a b, TV c d] w fun e w' => e = .returned (.bool (tIn a b c d)) ∧ Below w.heap.size w w' := by
  have k1 := u_bits_andNot
  have k2 := u_zero
  have hb0 : Below w.heap.size w w := Below.refl _ _
  by_cases h : (d &&& ~~~ b == 0#64) = true
  · have e : tIn a b c d = tHas a b c := by simp [tIn, h]
    rw [e]
    clear e
    go_enter Try.func37, Try.ntmps37
    go_wp2_with (go_at_call 54; refine (has_any _ _ _ _).mono ?_; rintro e w' ⟨rfl, hb⟩)
    go_ret
    exact ⟨rfl, (((Below.refl _ _).alloc (Nat.le_refl _) _).alloc (by simp) _).trans (hb.mono (by simp; omega))⟩
  · have h' : (d &&& ~~~ b == 0#64) = false := by simpa using h
    have e : tIn a b c d = false := by simp only [tIn, h']; rfl
    rw [e]
    clear e h
    go_enter Try.func37, Try.ntmps37
    go_wp2_with fail
    go_ret
    exact ⟨rfl, (by repeat' (first | exact Below.refl _ _ | assumption | (refine Below.alloc ?_ (by simp <;> omega) _) | (refine Below.drew ?_)))⟩

/-- All bits up to the highest one of a number. -/
def belowB (v : BitVec 64) : BitVec 64 := (1#64 <<< Lib.bitLen v.toNat) - 1#64
theorem bitLen_le64 (x : Nat) : Lib.bitLen x ≤ 64 := by
  have : ∀ f x, Lib.bitLenAux f x ≤ f := by
    intro f
    induction f with
    | zero => intro x; simp [Lib.bitLenAux]
    | succ f ih => intro x; unfold Lib.bitLenAux; split; omega; have := ih (x / 2); omega
  exact this 64 x
theorem below_any (v : BitVec 64) (w : World) :
    Calls Try.prog 52 #[.int .u64 (U v)] w fun e w' => e = .returned (.int .u64 (U (belowB v))) ∧ w = w' := by
  have k1 := u_one_shl
  have k2 := u_sub_one
  have h0 := U_lo v
  have h1 := U_hi v
  have hn : (U v).toNat = v.toNat := by unfold U; omega
  have hl := bitLen_le64 v.toNat
  go_enter Try.func52, Try.ntmps52
  go_wp2_with (go_at_call 71; refine (Try.bits_Len64 _ _ h0 (by omega)).mono ?_; rw [hn]; rintro e w' ⟨rfl, rfl⟩)
  go_ret
  exact ⟨rfl, rfl⟩

theorem range_any (a b : BitVec 64) (w : World) :
    Calls Try.prog 10 #[.int .u64 (U a), .int .u64 (U b)] w fun e w' => e = .returned (if b < a then TV 0#64 (BitVec.allOnes 64) else TV (a &&& ~~~ belowB (a ^^^ b)) (belowB (a ^^^ b))) ∧ Below w.heap.size w w' := by
  have k1 := u_bits_andNot
  have k2 := u_bits_xor
  by_cases h : b < a
  · have h' : U b < U a := by rw [BitVec.lt_def] at h; unfold U; omega
    rw [if_pos h]
    clear h
    go_enter Try.func10, Try.ntmps10
    go_wp2_with (go_at_call 51; refine (any_any _).mono ?_; rintro e w' ⟨rfl, hb⟩; obtain ⟨hc, hf⟩ := bcell hb; have hz := hb.size; simp at hz)
    have e0 := hb.cell (p := ⟨w.heap.size, 0, none⟩) (by simp)
    have e1 := hb.cell (p := ⟨w.heap.size, 1, none⟩) (by simp)
    simp at e0 e1
    have hbw : Below w.heap.size w w' := ((Below.refl _ _).alloc (Nat.le_refl _) _).trans (hb.mono (by simp))
    exact bodyPost_ret (v := TV 0#64 (BitVec.allOnes 64)) (by simp [results, Try.results10, go_sem, e0, e1]; first | done | rfl | exact ⟨rfl, rfl⟩) rfl ⟨rfl, (by repeat' (first | exact Below.refl _ _ | assumption | (refine Below.alloc ?_ (by simp <;> omega) _) | (refine Below.drew ?_) | (refine Below.setCell ?_ (by simp <;> omega) _)))⟩
  · have h' : ¬ U b < U a := by rw [BitVec.lt_def] at h; unfold U; omega
    rw [if_neg h]
    clear h
    go_enter Try.func10, Try.ntmps10
    go_wp2_with (go_at_call 52; refine (below_any _ _).mono ?_; rintro e w' ⟨rfl, rfl⟩)
    exact bodyPost_ret (v := TV (a &&& ~~~ belowB (a ^^^ b)) (belowB (a ^^^ b))) (by simp [results, Try.results10, go_sem]; first | done | rfl | exact ⟨rfl, rfl⟩) rfl ⟨rfl, (by repeat' (first | exact Below.refl _ _ | assumption | (refine Below.alloc ?_ (by simp <;> omega) _) | (refine Below.drew ?_)))⟩

theorem made_any (a b : BitVec 64) (w : World) :
    Calls Try.prog 11 #[.agg #[.int .u64 (U a), .int .u64 (U b)]] w fun e w' => e = .returned (TV (a &&& ~~~ b) b) ∧ Below w.heap.size w w' := by
  have k1 := u_bits_andNot
  go_enter Try.func11, Try.ntmps11
  go_wp2
  exact bodyPost_ret (v := TV (a &&& ~~~ b) b) (by simp [results, Try.results11, go_sem]; first | done | rfl | exact ⟨rfl, rfl⟩) rfl ⟨rfl, (by repeat' (first | exact Below.refl _ _ | assumption | (refine Below.alloc ?_ (by simp <;> omega) _) | (refine Below.drew ?_)))⟩

theorem one_any (a b c : BitVec 64) (w : World) :
    Calls Try.prog 12 #[.int .u64 (U a), .int .u64 (U b), .int .u64 (U c)] w fun e w' => e = .returned (.int .u64 (U (a ||| (b &&& c)))) ∧ w = w' := by
  have k1 := u_bits_and
  have k2 := u_bits_or
  go_enter Try.func12, Try.ntmps12
  go_wp2
  go_ret
  exact ⟨rfl, rfl⟩

theorem bit_and (y : BitVec 64) (k : Nat) : bits .and .u64 (U (y >>> k)) 1 = if y.getLsbD k then 1 else 0 := by
  have : bits .and .u64 (U (y >>> k)) (U 1#64) = U ((y >>> k) &&& 1#64) := u_bits_and _ _
  rw [show U 1#64 = 1 from rfl] at this
  rw [this]
  unfold U
  rw [BitVec.toNat_and]
  simp only [BitVec.toNat_ushiftRight, BitVec.toNat_ofNat, Nat.reducePow, Nat.reduceMod, Nat.and_one_is_mod]
  rw [BitVec.getLsbD, Nat.testBit, Nat.and_comm, Nat.and_one_is_mod]
  have h2 : y.toNat >>> k % 2 = 0 ∨ y.toNat >>> k % 2 = 1 := by omega
  rcases h2 with h | h <;> rw [h] <;> rfl

/-- One bit is as a T says. -/
def okBit (a b x : BitVec 64) (j : Nat) : Prop := if b.getLsbD j then a.getLsbD j = false else a.getLsbD j = x.getLsbD j
theorem okBits_has (a b x : BitVec 64) : (∀ j, j < 64 → okBit a b x j) ↔ tHas a b x = true := by
  unfold tHas okBit
  rw [beq_iff_eq]
  constructor
  · intro h
    apply BitVec.eq_of_getLsbD_eq
    intro j hj
    have := h j hj
    rw [BitVec.getLsbD_and, BitVec.getLsbD_not, decide_eq_true hj, Bool.true_and]
    cases hb : b.getLsbD j
    · rw [hb, if_neg (by decide)] at this
      rw [this, Bool.not_false, Bool.and_true]
    · rw [hb, if_pos rfl] at this
      rw [this, Bool.not_true, Bool.and_false]
  · intro h j hj
    have e : a.getLsbD j = (x.getLsbD j && !b.getLsbD j) := by
      rw [← h, BitVec.getLsbD_and, BitVec.getLsbD_not, decide_eq_true hj, Bool.true_and]
    cases hb : b.getLsbD j
    · rw [if_neg (by decide), e, hb, Bool.not_false, Bool.and_true]
    · rw [if_pos rfl, e, hb, Bool.not_true, Bool.and_false]

theorem refhas_any (a b x : BitVec 64) (w : World) :
    Calls Try.prog 53 #[.int .u64 (U a), .int .u64 (U b), .int .u64 (U x)] w fun e w' => e = .returned (.bool (tHas a b x)) ∧ Below w.heap.size w w' := by
  have k1 := u_shr
  have hb0 : Below w.heap.size w w := Below.refl _ _
  go_enter Try.func53, Try.ntmps53
  go_wp2
  go_loopw [7] (fun i wr => ∃ k : Nat, k ≤ 64 ∧ i = .int .i64 k ∧ (∀ j, j < k → okBit a b x j) ∧ Below w.heap.size w wr) (fun i _ => 64 - (intOf i).toNat)
  case atStart => exact ⟨0, by omega, rfl, fun j hj => by omega, hb0⟩
  case round =>
    obtain ⟨k, hk, rfl, hok, hbel⟩ := hrel
    have H := Lib.hid hok
    clear hok
    by_cases hlt : k < 64
    · have hB := bit_and b k
      have hA := bit_and a k
      have hX := bit_and x k
      cases ib : b.getLsbD k <;> cases ia : a.getLsbD k <;> cases ix : x.getLsbD k
      all_goals
        rw [ib] at hB
        rw [ia] at hA
        rw [ix] at hX
        simp only [if_true, Bool.false_eq_true, if_false] at hB hA hX
        have I1 := Lib.hid ib
        have I2 := Lib.hid ia
        have I3 := Lib.hid ix
        clear ib ia ix
        go_wp2
        go_quiet (fail)
        go_wp2
        first
          | (go_roundw
             case rel => exact ⟨k + 1, by omega, by go_num, fun j hj => by
                rcases Nat.lt_or_ge j k with h | h
                · exact H.out j h
                · obtain rfl : j = k := by omega
                  unfold okBit; rw [I1.out, I2.out, I3.out]; rfl, by first | exact hbel | exact Go.Joins.below_le (hbel.trans (Go.Joins.below_draws _ _ _)) (Nat.le_refl _)⟩
             case measure => simp [intOf]; omega)
          | (go_ret
             refine ⟨?_, by first | exact hbel | exact Go.Joins.below_le (hbel.trans (Go.Joins.below_draws _ _ _)) (Nat.le_refl _)⟩
             have hf : tHas a b x = false := by
               rw [Bool.eq_false_iff]; intro ht
               have := (okBits_has a b x).2 ht k hlt
               unfold okBit at this; rw [I1.out, I2.out] at this; first | (exact absurd this (by decide)) | (rw [I3.out] at this; exact absurd this (by decide))
             rw [hf]; rfl)
    · obtain rfl : k = 64 := by omega
      have ht := Lib.hid ((okBits_has a b x).1 H.out)
      go_wp2
      go_ret
      refine ⟨?_, hbel⟩
      rw [ht.out]
      rfl

theorem lawhas_any (a b x : BitVec 64) (w : World) :
    Calls Try.prog 16 #[TV a b, .int .u64 (U x)] w fun e w' => e = .returned (.bool (tHas a b x)) ∧ Below w.heap.size w w' := by
  go_enter Try.func16, Try.ntmps16
  go_wp2_with (go_at_call 53; refine (refhas_any _ _ _ _).mono ?_; rintro e w' ⟨rfl, hb⟩)
  go_ret
  exact ⟨rfl, ((Below.refl _ _).alloc (Nat.le_refl _) _).trans (hb.mono (by simp))⟩
end Go.Proofs.Ytakemmdcaboapaa
