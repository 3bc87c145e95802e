/-
  The chapter's examples of package tnums, and Mul. Conditions: none.
-/
import Derived.Test.YtakemmdcaboapaaTnums2
namespace Go.Proofs.Ytakemmdcaboapaa
open Go.RowKit
set_option linter.unusedVariables false
set_option linter.unusedSimpArgs false

theorem add_ex (w : World) : Calls Try.prog 31 #[.agg #[.int .u64 4, .int .u64 3], .agg #[.int .u64 1, .int .u64 0]] w fun e w' => e = .returned (.agg #[.int .u64 0, .int .u64 15]) ∧ Below w.heap.size w w' := add_any 4#64 3#64 1#64 0#64 w
theorem const_ex (n : Nat) (h : n < 18446744073709551616) (w : World) : Calls Try.prog 22 #[.int .u64 n] w fun e w' => e = .returned (.agg #[.int .u64 n, .int .u64 0]) ∧ Below w.heap.size w w' := by
  have e := U_lit n h
  rw [e]
  exact const_any _ w
theorem both_ex1 (w : World) : Calls Try.prog 14 #[.agg #[.int .u64 4, .int .u64 1], .agg #[.int .u64 5, .int .u64 0]] w fun e w' => e = .returned (.tuple #[.agg #[.int .u64 5, .int .u64 0], .bool true]) ∧ Below w.heap.size w w' := both_any 4#64 1#64 5#64 0#64 w
theorem both_ex2 (w : World) : Calls Try.prog 14 #[.agg #[.int .u64 4, .int .u64 1], .agg #[.int .u64 2, .int .u64 0]] w fun e w' => e = .returned (.tuple #[.agg #[.int .u64 0, .int .u64 0], .bool false]) ∧ Below w.heap.size w w' := both_any 4#64 1#64 2#64 0#64 w
theorem range_ex1 (w : World) : Calls Try.prog 10 #[.int .u64 4, .int .u64 7] w fun e w' => e = .returned (.agg #[.int .u64 4, .int .u64 3]) ∧ Below w.heap.size w w' := range_any 4#64 7#64 w
theorem range_ex2 (w : World) : Calls Try.prog 10 #[.int .u64 5, .int .u64 5] w fun e w' => e = .returned (.agg #[.int .u64 5, .int .u64 0]) ∧ Below w.heap.size w w' := range_any 5#64 5#64 w
theorem has_ex1 (w : World) : Calls Try.prog 54 #[.agg #[.int .u64 0, .int .u64 15], .int .u64 5] w fun e w' => e = .returned (.bool true) ∧ Below w.heap.size w w' := has_any 0#64 15#64 5#64 w
theorem has_ex2 (w : World) : Calls Try.prog 54 #[.agg #[.int .u64 0, .int .u64 15], .int .u64 8] w fun e w' => e = .returned (.bool true) ∧ Below w.heap.size w w' := has_any 0#64 15#64 8#64 w
theorem any_ex (w : World) : Calls Try.prog 51 #[] w fun e w' => e = .returned (.agg #[.int .u64 0, .int .u64 18446744073709551615]) ∧ Below w.heap.size w w' := any_any w
theorem and_ex (w : World) : Calls Try.prog 34 #[.agg #[.int .u64 0, .int .u64 18446744073709551615], .agg #[.int .u64 7, .int .u64 0]] w fun e w' => e = .returned (.agg #[.int .u64 0, .int .u64 7]) ∧ Below w.heap.size w w' := and_any 0#64 (BitVec.allOnes 64) 7#64 0#64 w

theorem alloc_b {w0 w : World} (h : Below w0.heap.size w0 w) (o : Obj) : Below w0.heap.size w0 (w.alloc o) := h.alloc h.size o
theorem trans_b {w0 w w' : World} (h : Below w0.heap.size w0 w) (h' : Below w.heap.size w w') : Below w0.heap.size w0 w' := h.trans (h'.mono h.size)
/-- What a cell that is there holds, is there behind a new block too. -/
theorem cell_alloc {w : World} {a : Addr} {v : Value} (h : w.cell? a = some v) (o : Obj) : (w.alloc o).cell? a = some v := by
  rw [World.cell?_alloc_some w a o (by rw [h]; rfl)]; exact h
/-- A callee that only makes memory: seen from the caller's beginning, and from the call. -/
theorem calls2 {P : Program} {f : FuncId} {args : Array Value} {w0 w : World} {r : Ending} (hb : Below w0.heap.size w0 w)
    (h : Calls P f args w fun e w' => e = r ∧ Below w.heap.size w w') : Calls P f args w fun e w' => e = r ∧ Below w0.heap.size w0 w' ∧ Below w.heap.size w w' :=
  h.mono fun _ _ ⟨he, hb'⟩ => ⟨he, trans_b hb hb', hb'⟩

set_option maxRecDepth 100000 in
theorem bits_any (w : World) : Calls Try.prog 17 #[] w fun e w' => e = .returned (.bool true) ∧ Below w.heap.size w w' := by
  have hb0 : Below w.heap.size w w := Below.refl _ _
  go_enter Try.func17, Try.ntmps17
  go_wp2_with fail
  refine (calls2 (w0 := w) (by assumption) (const_ex 1 (by decide) _)).mono ?_
  rintro e w1 ⟨rfl, hB1, hb1⟩
  go_wp2_with fail
  refine (calls2 (w0 := w) (by assumption) (add_ex _)).mono ?_
  rintro e w2 ⟨rfl, hB2, hb2⟩
  clear hb1 hb2
  have hB2' := alloc_b hB2 (.cells #[.int .u64 0, .int .u64 15] 26)
  have c0 : (w2.alloc (.cells #[.int .u64 0, .int .u64 15] 26)).cell? ⟨w2.heap.size, 0, none⟩ = some (.int .u64 0) := by simp
  have c1 : (w2.alloc (.cells #[.int .u64 0, .int .u64 15] 26)).cell? ⟨w2.heap.size, 1, none⟩ = some (.int .u64 15) := by simp
  go_wp2_with fail
  refine (calls2 (w0 := w) (by assumption) (const_ex 5 (by decide) _)).mono ?_
  rintro e w3 ⟨rfl, hB3, hb3⟩
  replace c0 := cell_later hb3 c0
  replace c1 := cell_later hb3 c1
  clear hb3
  go_wp2_with fail
  refine (calls2 (w0 := w) (by assumption) (both_ex1 _)).mono ?_
  rintro e w4 ⟨rfl, hB4, hb4⟩
  replace c0 := cell_alloc (cell_later hb4 c0) (.cells #[.int .u64 5, .int .u64 0] 26)
  replace c1 := cell_alloc (cell_later hb4 c1) (.cells #[.int .u64 5, .int .u64 0] 26)
  clear hb4
  have hB4' := alloc_b hB4 (.cells #[.int .u64 5, .int .u64 0] 26)
  have c2 : (w4.alloc (.cells #[.int .u64 5, .int .u64 0] 26)).cell? ⟨w4.heap.size, 0, none⟩ = some (.int .u64 5) := by simp
  have c3 : (w4.alloc (.cells #[.int .u64 5, .int .u64 0] 26)).cell? ⟨w4.heap.size, 1, none⟩ = some (.int .u64 0) := by simp
  go_wp2_with fail
  refine (calls2 (w0 := w) (by assumption) (const_ex 2 (by decide) _)).mono ?_
  rintro e w5 ⟨rfl, hB5, hb5⟩
  replace c0 := cell_later hb5 c0
  replace c1 := cell_later hb5 c1
  replace c2 := cell_later hb5 c2
  replace c3 := cell_later hb5 c3
  clear hb5
  go_wp2_with fail
  refine (calls2 (w0 := w) (by assumption) (both_ex2 _)).mono ?_
  rintro e w6 ⟨rfl, hB6, hb6⟩
  replace c0 := cell_alloc (cell_later hb6 c0) (.cells #[.int .u64 0, .int .u64 0] 26)
  replace c1 := cell_alloc (cell_later hb6 c1) (.cells #[.int .u64 0, .int .u64 0] 26)
  replace c2 := cell_alloc (cell_later hb6 c2) (.cells #[.int .u64 0, .int .u64 0] 26)
  replace c3 := cell_alloc (cell_later hb6 c3) (.cells #[.int .u64 0, .int .u64 0] 26)
  have hB6' := alloc_b hB6 (.cells #[.int .u64 0, .int .u64 0] 26)
  clear hb6 hB1 hB2 hB2' hB3 hB4 hB4' hB5 hB6 hb0
  go_wp2_with fail
  go_region_held3 (fun w' => Below w.heap.size w w' ∧ w'.cell? ⟨w2.heap.size, 0, none⟩ = some (.int .u64 0) ∧ w'.cell? ⟨w2.heap.size, 1, none⟩ = some (.int .u64 15) ∧ w'.cell? ⟨w4.heap.size, 0, none⟩ = some (.int .u64 5) ∧ w'.cell? ⟨w4.heap.size, 1, none⟩ = some (.int .u64 0))
    (first | assumption | exact ⟨hB6'.drew, c0, c1, c2, c3⟩ | (obtain ⟨s0, s1, s2, s3, s4⟩ := ‹Below _ _ _ ∧ _›; exact ⟨by assumption, cell_later (by assumption) s1, cell_later (by assumption) s2, cell_later (by assumption) s3, cell_later (by assumption) s4⟩))
    (first
      | (go_at_call_of 10 (Value.int IntKind.u64 7); refine (calls2 (w0 := w) (‹Below _ _ _ ∧ _›).1 (range_ex1 _)).mono ?_; rintro e w' ⟨rfl, hBn, hbn⟩)
      | (go_at_call_of 10 (Value.int IntKind.u64 5); refine (calls2 (w0 := w) (‹Below _ _ _ ∧ _›).1 (range_ex2 _)).mono ?_; rintro e w' ⟨rfl, hBn, hbn⟩)
      | (go_at_call_of 22 (Value.int IntKind.u64 5); refine (calls2 (w0 := w) (‹Below _ _ _ ∧ _›).1 (const_ex 5 (by decide) _)).mono ?_; rintro e w' ⟨rfl, hBn, hbn⟩)
      | (go_at_call_of 22 (Value.int IntKind.u64 7); refine (calls2 (w0 := w) (‹Below _ _ _ ∧ _›).1 (const_ex 7 (by decide) _)).mono ?_; rintro e w' ⟨rfl, hBn, hbn⟩)
      | (go_at_call_of 54 (Value.int IntKind.u64 5); refine (calls2 (w0 := w) (‹Below _ _ _ ∧ _›).1 (has_ex1 _)).mono ?_; rintro e w' ⟨rfl, hBn, hbn⟩)
      | (go_at_call_of 54 (Value.int IntKind.u64 8); refine (calls2 (w0 := w) (‹Below _ _ _ ∧ _›).1 (has_ex2 _)).mono ?_; rintro e w' ⟨rfl, hBn, hbn⟩)
      | (go_at_call 51; refine (calls2 (w0 := w) (‹Below _ _ _ ∧ _›).1 (any_ex _)).mono ?_; rintro e w' ⟨rfl, hBn, hbn⟩)
      | (go_at_call 34; refine (calls2 (w0 := w) (‹Below _ _ _ ∧ _›).1 (and_ex _)).mono ?_; rintro e w' ⟨rfl, hBn, hbn⟩))
  go_wp2
  go_ret
  exact ⟨rfl, (‹Below _ _ _ ∧ _›).1⟩

theorem new0 (w : World) (x y : Value) (t n : Nat) (h : w.heap.size = n) : (w.alloc (.cells #[x, y] t)).cell? ⟨n, 0, none⟩ = some x := by subst h; simp
theorem new1 (w : World) (x y : Value) (t n : Nat) (h : w.heap.size = n) : (w.alloc (.cells #[x, y] t)).cell? ⟨n, 1, none⟩ = some y := by subst h; simp
theorem newf (w : World) (C : Array Value) (t n j : Nat) (h : w.heap.size = n) : (w.alloc (.cells C t)).frozen? ⟨n, j, none⟩ = false := by subst h; simp
/-- What Mul has gathered after k bits. -/
def tMul (a b c d : BitVec 64) : Nat → BitVec 64 × BitVec 64
  | 0 => (0#64, 0#64)
  | k + 1 =>
    let o := tMul a b c d k
    let x := c <<< k
    let y := d <<< k
    if a.getLsbD k then (tAddV o.1 o.2 x y, tAddM o.1 o.2 x y)
    else if b.getLsbD k then (tAddV o.1 o.2 (tEitherV 0#64 0#64 x y) (tEitherM 0#64 0#64 x y), tAddM o.1 o.2 (tEitherV 0#64 0#64 x y) (tEitherM 0#64 0#64 x y))
    else o
/-- What lies in memory while Mul goes round. -/
def MulS (w0 : World) (B : Nat) (a b c d x y : BitVec 64) (w : World) : Prop :=
  Below w0.heap.size w0 w ∧ w0.heap.size + 3 ≤ B ∧
  w.cell? ⟨w0.heap.size, 0, none⟩ = some (.int .u64 (U a)) ∧ w.cell? ⟨w0.heap.size, 1, none⟩ = some (.int .u64 (U b)) ∧
  w.cell? ⟨w0.heap.size + 1, 0, none⟩ = some (.int .u64 (U c)) ∧ w.cell? ⟨w0.heap.size + 1, 1, none⟩ = some (.int .u64 (U d)) ∧
  w.cell? ⟨w0.heap.size + 1 + 1, 0, none⟩ = some (.int .u64 0) ∧ w.cell? ⟨w0.heap.size + 1 + 1, 1, none⟩ = some (.int .u64 0) ∧
  w.cell? ⟨B, 0, none⟩ = some (.int .u64 (U x)) ∧ w.cell? ⟨B, 1, none⟩ = some (.int .u64 (U y)) ∧
  w.frozen? ⟨w0.heap.size + 1 + 1, 0, none⟩ = false ∧ w.frozen? ⟨w0.heap.size + 1 + 1, 1, none⟩ = false ∧
  w.frozen? ⟨B, 0, none⟩ = false ∧ w.frozen? ⟨B, 1, none⟩ = false
theorem frozen_later {w wx : World} {a : Addr} {v : Value} (hb : Below w.heap.size w wx) (h : w.cell? a = some v) (hf : w.frozen? a = false) : wx.frozen? a = false :=
  (hb.frozen (World.block_lt_of_cell? _ _ h)).trans hf
theorem MulS.later {w0 w w' : World} {B : Nat} {a b c d x y : BitVec 64} (h : MulS w0 B a b c d x y w) (hb : Below w.heap.size w w') : MulS w0 B a b c d x y w' := by
  obtain ⟨h0, h1, h2, h3, h4, h5, h6, h7, h8, h9, h10, h11, h12, h13⟩ := h
  exact ⟨trans_b h0 hb, h1, cell_later hb h2, cell_later hb h3, cell_later hb h4, cell_later hb h5, cell_later hb h6, cell_later hb h7, cell_later hb h8, cell_later hb h9,
    frozen_later hb h6 h10, frozen_later hb h7 h11, frozen_later hb h8 h12, frozen_later hb h9 h13⟩
theorem MulS.drew {w0 w : World} {B : Nat} {a b c d x y : BitVec 64} (h : MulS w0 B a b c d x y w) : MulS w0 B a b c d x y w.drew := h.later ((Below.refl _ _).drew)

theorem MulS.store {w0 w : World} {B : Nat} {a b c d x y : BitVec 64} (x' y' : BitVec 64) (h : MulS w0 B a b c d x y w) :
    MulS w0 B a b c d x' y' ((w.setCell ⟨B, 0, none⟩ (.int .u64 (U x'))).setCell ⟨B, 1, none⟩ (.int .u64 (U y'))) := by
  obtain ⟨h0, h1, h2, h3, h4, h5, h6, h7, h8, h9, h10, h11, h12, h13⟩ := h
  have far : ∀ (p : Addr) (v : Value), p.block < B → w.cell? p = some v → ((w.setCell ⟨B, 0, none⟩ (.int .u64 (U x'))).setCell ⟨B, 1, none⟩ (.int .u64 (U y'))).cell? p = some v := by
    intro p v hp hv
    rw [World.cell?_setCell_far _ _ _ _ (by simp; omega), World.cell?_setCell_far _ _ _ _ (by simp; omega)]
    exact hv
  refine ⟨(h0.setCell (by simp; omega) _).setCell (by simp; omega) _, h1, far _ _ (by simp; omega) h2, far _ _ (by simp; omega) h3, far _ _ (by simp; omega) h4, far _ _ (by simp; omega) h5, far _ _ (by simp; omega) h6, far _ _ (by simp; omega) h7, ?_, ?_, by simpa using h10, by simpa using h11, by simpa using h12, by simpa using h13⟩
  · rw [World.cell?_setCell_other _ _ _ _ (by simp)]
    exact World.cell?_setCell_same _ _ _ h8
  · refine World.cell?_setCell_same _ _ _ (u := .int .u64 (U y)) ?_
    rw [World.cell?_setCell_other _ _ _ _ (by simp)]
    exact h9
theorem MulS.cells {w0 w : World} {B : Nat} {a b c d x y : BitVec 64} (h : MulS w0 B a b c d x y w) : Below w0.heap.size w0 w ∧ w0.heap.size + 3 ≤ B ∧
  w.cell? ⟨w0.heap.size, 0, none⟩ = some (.int .u64 (U a)) ∧ w.cell? ⟨w0.heap.size, 1, none⟩ = some (.int .u64 (U b)) ∧
  w.cell? ⟨w0.heap.size + 1, 0, none⟩ = some (.int .u64 (U c)) ∧ w.cell? ⟨w0.heap.size + 1, 1, none⟩ = some (.int .u64 (U d)) ∧
  w.cell? ⟨w0.heap.size + 1 + 1, 0, none⟩ = some (.int .u64 0) ∧ w.cell? ⟨w0.heap.size + 1 + 1, 1, none⟩ = some (.int .u64 0) ∧
  w.cell? ⟨B, 0, none⟩ = some (.int .u64 (U x)) ∧ w.cell? ⟨B, 1, none⟩ = some (.int .u64 (U y)) ∧
  w.frozen? ⟨w0.heap.size + 1 + 1, 0, none⟩ = false ∧ w.frozen? ⟨w0.heap.size + 1 + 1, 1, none⟩ = false ∧
  w.frozen? ⟨B, 0, none⟩ = false ∧ w.frozen? ⟨B, 1, none⟩ = false := h
theorem bit_mask (a : BitVec 64) (k : Nat) (hk : k < 64) : (U (a &&& 1#64 <<< k) != 0) = a.getLsbD k := by
  have e : (U (a &&& 1#64 <<< k) != 0) = (a &&& 1#64 <<< k != 0#64) := u_ne _ 0#64
  rw [e]
  cases h : a.getLsbD k
  · have : a &&& 1#64 <<< k = 0#64 := by
      apply BitVec.eq_of_getLsbD_eq
      intro j hj
      rw [BitVec.getLsbD_and, BitVec.getLsbD_shiftLeft]
      by_cases hjk : j = k
      · subst hjk; rw [h]; simp
      · by_cases hlt : j < k
        · simp [hlt]
        · have : 0 < j - k := by omega
          simp only [BitVec.getLsbD_one, hlt]
          have h1 : (j - k = 0) = False := by simp; omega
          simp [h1]
    rw [this]; rfl
  · rw [bne_iff_ne]
    intro h0
    have := congrArg (fun x => x.getLsbD k) h0
    simp only [BitVec.getLsbD_and, h, BitVec.getLsbD_shiftLeft, Bool.true_and] at this
    simp [hk] at this

set_option maxHeartbeats 6000000 in
set_option maxRecDepth 100000 in
theorem mul_core (f : Nat → BitVec 64 × BitVec 64) (a b c d : BitVec 64) (w : World) (hf0 : Hid (f 0 = (0#64, 0#64)))
    (hf1 : Hid (∀ k x y, f k = (x, y) → a.getLsbD k = true → f (k + 1) = (tAddV x y (c <<< k) (d <<< k), tAddM x y (c <<< k) (d <<< k))))
    (hf2 : Hid (∀ k x y, f k = (x, y) → a.getLsbD k = false → b.getLsbD k = true → f (k + 1) = (tAddV x y (tEitherV 0#64 0#64 (c <<< k) (d <<< k)) (tEitherM 0#64 0#64 (c <<< k) (d <<< k)), tAddM x y (tEitherV 0#64 0#64 (c <<< k) (d <<< k)) (tEitherM 0#64 0#64 (c <<< k) (d <<< k)))))
    (hf3 : Hid (∀ k x y, f k = (x, y) → a.getLsbD k = false → b.getLsbD k = false → f (k + 1) = (x, y))) :
    Calls Try.prog 33 #[TV a b, TV c d] w fun e w' => (∃ x y, f 64 = (x, y) ∧ e = .returned (TV x y)) ∧ Below w.heap.size w w' := by
  have k2 := u_bits_and
  go_enter Try.func33, Try.ntmps33
  go_wp2_with fail
  refine (const_any 0#64 _).mono ?_
  rintro e w1 ⟨rfl, hb1⟩
  have hM : MulS w w1.heap.size a b c d 0#64 0#64 (w1.alloc (.cells #[.int .u64 (U 0#64), .int .u64 (U 0#64)] 26)) := by
    have hz : w.heap.size + 1 + 1 + 1 ≤ w1.heap.size := by have := hb1.size; simpa using this
    have hw1 : Below w.heap.size w w1 := (alloc_b (alloc_b (alloc_b (Below.refl _ _) _) _) _).trans (hb1.mono (by simp; omega))
    have h2 := cell_later hb1 (cell_alloc (cell_alloc (new0 w (.int .u64 (U a)) (.int .u64 (U b)) 26 _ rfl) _) _)
    have h3 := cell_later hb1 (cell_alloc (cell_alloc (new1 w (.int .u64 (U a)) (.int .u64 (U b)) 26 _ rfl) _) _)
    have h4 := cell_later hb1 (cell_alloc (new0 (w.alloc (.cells #[.int .u64 (U a), .int .u64 (U b)] 26)) (.int .u64 (U c)) (.int .u64 (U d)) 26 (w.heap.size + 1) (by simp)) _)
    have h5 := cell_later hb1 (cell_alloc (new1 (w.alloc (.cells #[.int .u64 (U a), .int .u64 (U b)] 26)) (.int .u64 (U c)) (.int .u64 (U d)) 26 (w.heap.size + 1) (by simp)) _)
    have n6 := new0 ((w.alloc (.cells #[.int .u64 (U a), .int .u64 (U b)] 26)).alloc (.cells #[.int .u64 (U c), .int .u64 (U d)] 26)) (.int .u64 0) (.int .u64 0) 26 (w.heap.size + 1 + 1) (by simp)
    have n7 := new1 ((w.alloc (.cells #[.int .u64 (U a), .int .u64 (U b)] 26)).alloc (.cells #[.int .u64 (U c), .int .u64 (U d)] 26)) (.int .u64 0) (.int .u64 0) 26 (w.heap.size + 1 + 1) (by simp)
    have g6 := newf ((w.alloc (.cells #[.int .u64 (U a), .int .u64 (U b)] 26)).alloc (.cells #[.int .u64 (U c), .int .u64 (U d)] 26)) #[.int .u64 0, .int .u64 0] 26 (w.heap.size + 1 + 1) 0 (by simp)
    have g7 := newf ((w.alloc (.cells #[.int .u64 (U a), .int .u64 (U b)] 26)).alloc (.cells #[.int .u64 (U c), .int .u64 (U d)] 26)) #[.int .u64 0, .int .u64 0] 26 (w.heap.size + 1 + 1) 1 (by simp)
    have h6 := cell_later hb1 n6
    have h7 := cell_later hb1 n7
    have f6 := frozen_later hb1 n6 g6
    have f7 := frozen_later hb1 n7 g7
    have hl : Below w1.heap.size w1 (w1.alloc (.cells #[.int .u64 (U 0#64), .int .u64 (U 0#64)] 26)) := alloc_b (Below.refl _ _) _
    exact ⟨trans_b hw1 hl, by omega, cell_later hl h2, cell_later hl h3, cell_later hl h4, cell_later hl h5, cell_later hl h6, cell_later hl h7, by simp, by simp,
      frozen_later hl h6 f6, frozen_later hl h7 f7, by simp, by simp⟩
  obtain ⟨B, hB⟩ : ∃ B, w1.heap.size = B := ⟨_, rfl⟩
  rw [hB] at hM
  clear hb1
  go_wp2_with fail
  clear hB
  go_loopw [6] (fun i wr => ∃ (k : Nat) (x y : BitVec 64), k ≤ 64 ∧ i = .int .i64 k ∧ Hid (f k = (x, y)) ∧ MulS w B a b c d x y wr) (fun i _ => 64 - (intOf i).toNat)
  case atStart => exact ⟨0, 0#64, 0#64, by omega, rfl, hf0, hM⟩
  case round =>
    clear hM
    obtain ⟨k, x, y, hk, rfl, hf, hM⟩ := hrel
    obtain ⟨m0, m1, m2, m3, m4, m5, m6, m7, m8, m9, m10, m11, m12, m13⟩ := hM.cells
    by_cases hlt : k < 64
    · have hcnt : cnt (k : Int) = k := by unfold cnt; omega
      have t1 := bit_mask a k hlt
      have t2 := bit_mask b k hlt
      have hX := hf1.out k x y hf.out
      have hY := hf2.out k x y hf.out
      have hZ := hf3.out k x y hf.out
      have lshk := fun w => lsh_any c d (k : Int) w
      rw [hcnt] at lshk
      generalize c <<< k = X at hX hY lshk
      generalize d <<< k = Y at hX hY lshk
      have k1 := u_one_shl k
      generalize 1#64 <<< k = M at k1 t1 t2
      have k2a := u_bits_and a M
      have k2b := u_bits_and b M
      generalize U (a &&& M) = p at k2a t1
      generalize U (b &&& M) = q at k2b t2
      clear k2
      cases ia : a.getLsbD k
      · cases ib : b.getLsbD k
        · rw [ia] at t1
          rw [ib] at t2
          have I := Lib.hid (hZ ia ib)
          clear ia ib hX hY hZ lshk hcnt
          go_wp2
          go_roundw
          case rel => exact ⟨k + 1, x, y, by omega, by go_num, I, hM⟩
          case measure => simp [intOf]; omega
        · rw [ia] at t1
          rw [ib] at t2
          have I := Lib.hid (hY ia ib)
          clear ia ib hX hY hZ hcnt
          go_wp2
          go_region_with (first | (go_at_call 22; refine (const_any 0#64 _).mono ?_; rintro e w' ⟨rfl, hb'⟩; have hM' := MulS.later (by first | exact hM | exact hM.drew | assumption) hb'; obtain ⟨n0, n1, n2, n3, n4, n5, n6, n7, n8, n9, n10, n11, n12, n13⟩ := hM'.cells) | (go_at_call 18; refine (lshk _).mono ?_; rintro e w' ⟨rfl, hb'⟩; have hM' := MulS.later (by first | exact hM | exact hM.drew | assumption) hb'; obtain ⟨n0, n1, n2, n3, n4, n5, n6, n7, n8, n9, n10, n11, n12, n13⟩ := hM'.cells) | (go_at_call 13; refine (either_any _ _ _ _ _).mono ?_; rintro e w' ⟨rfl, hb'⟩; have hM' := MulS.later (by first | exact hM | exact hM.drew | assumption) hb'; obtain ⟨n0, n1, n2, n3, n4, n5, n6, n7, n8, n9, n10, n11, n12, n13⟩ := hM'.cells) | (go_at_call 31; refine (add_any _ _ _ _ _).mono ?_; rintro e w' ⟨rfl, hb'⟩; have hM' := MulS.later (by first | exact hM | exact hM.drew | assumption) hb'; obtain ⟨n0, n1, n2, n3, n4, n5, n6, n7, n8, n9, n10, n11, n12, n13⟩ := hM'.cells))
          all_goals
            go_wp2
            go_roundw
            case rel => exact ⟨k + 1, _, _, by omega, by go_num, I, MulS.store _ _ (by assumption)⟩
            case measure => simp [intOf]; omega
      · rw [ia] at t1
        have I := Lib.hid (hX ia)
        clear ia hX hY hZ hcnt t2
        go_wp2
        go_region_with (first | (go_at_call 22; refine (const_any 0#64 _).mono ?_; rintro e w' ⟨rfl, hb'⟩; have hM' := MulS.later (by first | exact hM | exact hM.drew | assumption) hb'; obtain ⟨n0, n1, n2, n3, n4, n5, n6, n7, n8, n9, n10, n11, n12, n13⟩ := hM'.cells) | (go_at_call 18; refine (lshk _).mono ?_; rintro e w' ⟨rfl, hb'⟩; have hM' := MulS.later (by first | exact hM | exact hM.drew | assumption) hb'; obtain ⟨n0, n1, n2, n3, n4, n5, n6, n7, n8, n9, n10, n11, n12, n13⟩ := hM'.cells) | (go_at_call 13; refine (either_any _ _ _ _ _).mono ?_; rintro e w' ⟨rfl, hb'⟩; have hM' := MulS.later (by first | exact hM | exact hM.drew | assumption) hb'; obtain ⟨n0, n1, n2, n3, n4, n5, n6, n7, n8, n9, n10, n11, n12, n13⟩ := hM'.cells) | (go_at_call 31; refine (add_any _ _ _ _ _).mono ?_; rintro e w' ⟨rfl, hb'⟩; have hM' := MulS.later (by first | exact hM | exact hM.drew | assumption) hb'; obtain ⟨n0, n1, n2, n3, n4, n5, n6, n7, n8, n9, n10, n11, n12, n13⟩ := hM'.cells))
        all_goals
          go_wp2
          go_roundw
          case rel => exact ⟨k + 1, _, _, by omega, by go_num, I, MulS.store _ _ (by assumption)⟩
          case measure => simp [intOf]; omega
    · obtain rfl : k = 64 := by omega
      clear k2
      go_wp2
      exact bodyPost_ret (v := TV x y) (by simp [results, Try.results33, go_sem, m6, m7]; first | done | rfl | exact ⟨rfl, rfl⟩) rfl ⟨⟨x, y, hf.out, rfl⟩, ((m0.setCell (by simp; omega) _).setCell (by simp; omega) _)⟩

theorem mul_any (a b c d : BitVec 64) (w : World) :
    Calls Try.prog 33 #[TV a b, TV c d] w fun e w' => e = .returned (TV (tMul a b c d 64).1 (tMul a b c d 64).2) ∧ Below w.heap.size w w' := by
  refine (mul_core (tMul a b c d) a b c d w (Lib.hid rfl) (Lib.hid fun k x y h ha => ?_) (Lib.hid fun k x y h ha hb => ?_) (Lib.hid fun k x y h ha hb => ?_)).mono fun e w' ⟨⟨x, y, hx, he⟩, hb⟩ => ⟨?_, hb⟩
  · simp only [tMul, h, ha, if_true]
  · simp only [tMul, h, ha, hb, if_true, Bool.false_eq_true, if_false]
  · simp only [tMul, h, ha, hb, Bool.false_eq_true, if_false]
  · rw [he, hx]
end Go.Proofs.Ytakemmdcaboapaa
