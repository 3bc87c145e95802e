/-
  The walk of the law TnumsRaw of chapter 15: it returns true, and nothing that was there is changed. Conditions: the arguments fit their kinds.
-/
import Derived.Test.YtakemmdcaboapaaTnums3
import Derived.OpenShut
namespace Go.Proofs.Ytakemmdcaboapaa
open Go.RowKit
set_option linter.unusedVariables false
set_option linter.unusedSimpArgs false

/-- What lies in memory while TnumsRaw goes on: two arrays, two T's. -/
def RawS (w0 : World) (P Q : Nat) (a b c d : BitVec 64) (w : World) : Prop :=
  Below w0.heap.size w0 w ∧
  w.cell? ⟨w0.heap.size, 0, none⟩ = some (.int .u64 (U a)) ∧ w.cell? ⟨w0.heap.size, 1, none⟩ = some (.int .u64 (U b)) ∧
  w.cell? ⟨P, 0, none⟩ = some (.int .u64 (U a)) ∧ w.cell? ⟨P, 1, none⟩ = some (.int .u64 (U b)) ∧
  w.cell? ⟨Q, 0, none⟩ = some (.int .u64 (U c)) ∧ w.cell? ⟨Q, 1, none⟩ = some (.int .u64 (U d))
theorem RawS.later {w0 w w' : World} {P Q : Nat} {a b c d : BitVec 64} (h : RawS w0 P Q a b c d w) (hb : Below w.heap.size w w') : RawS w0 P Q a b c d w' := by
  obtain ⟨h0, h1, h2, h3, h4, h5, h6⟩ := h
  exact ⟨trans_b h0 hb, cell_later hb h1, cell_later hb h2, cell_later hb h3, cell_later hb h4, cell_later hb h5, cell_later hb h6⟩
theorem RawS.drew {w0 w : World} {P Q : Nat} {a b c d : BitVec 64} (h : RawS w0 P Q a b c d w) : RawS w0 P Q a b c d w.drew := h.later ((Below.refl _ _).drew)
theorem RawS.cells {w0 w : World} {P Q : Nat} {a b c d : BitVec 64} (h : RawS w0 P Q a b c d w) : Below w0.heap.size w0 w ∧
  w.cell? ⟨w0.heap.size, 0, none⟩ = some (.int .u64 (U a)) ∧ w.cell? ⟨w0.heap.size, 1, none⟩ = some (.int .u64 (U b)) ∧
  w.cell? ⟨P, 0, none⟩ = some (.int .u64 (U a)) ∧ w.cell? ⟨P, 1, none⟩ = some (.int .u64 (U b)) ∧
  w.cell? ⟨Q, 0, none⟩ = some (.int .u64 (U c)) ∧ w.cell? ⟨Q, 1, none⟩ = some (.int .u64 (U d)) := h
theorem raw_start (a b c d : BitVec 64) (t t' : Nat) (w : World) :
    RawS w (w.heap.size + 1 + 1) (w.heap.size + 1 + 1 + 1) a b c d ((((w.alloc (.cells #[.int .u64 (U a), .int .u64 (U b)] t)).alloc (.cells #[.int .u64 (U c), .int .u64 (U d)] t)).alloc (.cells #[.int .u64 (U a), .int .u64 (U b)] t')).alloc (.cells #[.int .u64 (U c), .int .u64 (U d)] t')) ∧
    RawS w (w.heap.size + 1 + 1 + 1) (w.heap.size + 1 + 1) a b c d ((((w.alloc (.cells #[.int .u64 (U a), .int .u64 (U b)] t)).alloc (.cells #[.int .u64 (U c), .int .u64 (U d)] t)).alloc (.cells #[.int .u64 (U c), .int .u64 (U d)] t')).alloc (.cells #[.int .u64 (U a), .int .u64 (U b)] t')) := by
  constructor
  · exact ⟨alloc_b (alloc_b (alloc_b (alloc_b (Below.refl _ _) _) _) _) _, cell_alloc (cell_alloc (cell_alloc (new0 _ _ _ _ _ rfl) _) _) _, cell_alloc (cell_alloc (cell_alloc (new1 _ _ _ _ _ rfl) _) _) _,
      cell_alloc (new0 _ _ _ _ _ (by simp)) _, cell_alloc (new1 _ _ _ _ _ (by simp)) _, new0 _ _ _ _ _ (by simp), new1 _ _ _ _ _ (by simp)⟩
  · exact ⟨alloc_b (alloc_b (alloc_b (alloc_b (Below.refl _ _) _) _) _) _, cell_alloc (cell_alloc (cell_alloc (new0 _ _ _ _ _ rfl) _) _) _, cell_alloc (cell_alloc (cell_alloc (new1 _ _ _ _ _ rfl) _) _) _,
      new0 _ _ _ _ _ (by simp), new1 _ _ _ _ _ (by simp), cell_alloc (new0 _ _ _ _ _ (by simp)) _, cell_alloc (new1 _ _ _ _ _ (by simp)) _⟩

set_option maxHeartbeats 2000000 in
set_option maxRecDepth 100000 in
theorem TnumsRaw_walk (a0_0 : Int) (a0_1 : Int) (a1_0 : Int) (a1_1 : Int) (a2 : Int) (w : World) (w0_0 : (Lit.int .u64 a0_0).wf = true) (w0_1 : (Lit.int .u64 a0_1).wf = true) (w1_0 : (Lit.int .u64 a1_0).wf = true) (w1_1 : (Lit.int .u64 a1_1).wf = true) (w2 : (Lit.int .i64 a2).wf = true) :
    Calls Try.prog 7 #[.agg #[.int .u64 a0_0, .int .u64 a0_1], .agg #[.int .u64 a1_0, .int .u64 a1_1], .int .i64 a2] w fun e w' => e = .returned (.bool true) ∧ Below w.heap.size w w' := by
  obtain ⟨h1, h2⟩ := bounds_u64 w0_0
  obtain ⟨a, rfl⟩ := u_of a0_0 h1 h2
  obtain ⟨h3, h4⟩ := bounds_u64 w0_1
  obtain ⟨b, rfl⟩ := u_of a0_1 h3 h4
  obtain ⟨h5, h6⟩ := bounds_u64 w1_0
  obtain ⟨c, rfl⟩ := u_of a1_0 h5 h6
  obtain ⟨h7, h8⟩ := bounds_u64 w1_1
  obtain ⟨d, rfl⟩ := u_of a1_1 h7 h8
  clear w0_0 w0_1 w1_0 w1_1 w2 h1 h2 h3 h4 h5 h6 h7 h8
  go_enter Try.func7, Try.ntmps7
  go_wp2_with fail
  go_region
  · have hS := (raw_start a b c d 23 26 w).1.drew
    obtain ⟨m0, m1, m2, m3, m4, m5, m6⟩ := hS.cells
    go_wp2_with (first | (go_at_call 31; refine (add_any _ _ _ _ _ ).mono ?_; rintro e w' ⟨rfl, hb⟩; replace hS := RawS.later hS hb; obtain ⟨m0, m1, m2, m3, m4, m5, m6⟩ := hS.cells; clear hb) | (go_at_call 32; refine (sub_any _ _ _ _ _ ).mono ?_; rintro e w' ⟨rfl, hb⟩; replace hS := RawS.later hS hb; obtain ⟨m0, m1, m2, m3, m4, m5, m6⟩ := hS.cells; clear hb) | (go_at_call 34; refine (and_any _ _ _ _ _ ).mono ?_; rintro e w' ⟨rfl, hb⟩; replace hS := RawS.later hS hb; obtain ⟨m0, m1, m2, m3, m4, m5, m6⟩ := hS.cells; clear hb) | (go_at_call 35; refine (or_any _ _ _ _ _ ).mono ?_; rintro e w' ⟨rfl, hb⟩; replace hS := RawS.later hS hb; obtain ⟨m0, m1, m2, m3, m4, m5, m6⟩ := hS.cells; clear hb) | (go_at_call 36; refine (xor_any _ _ _ _ _ ).mono ?_; rintro e w' ⟨rfl, hb⟩; replace hS := RawS.later hS hb; obtain ⟨m0, m1, m2, m3, m4, m5, m6⟩ := hS.cells; clear hb) | (go_at_call 33; refine (mul_any _ _ _ _ _ ).mono ?_; rintro e w' ⟨rfl, hb⟩; replace hS := RawS.later hS hb; obtain ⟨m0, m1, m2, m3, m4, m5, m6⟩ := hS.cells; clear hb) | (go_at_call 18; refine (lsh_any _ _ _ _ ).mono ?_; rintro e w' ⟨rfl, hb⟩; replace hS := RawS.later hS hb; obtain ⟨m0, m1, m2, m3, m4, m5, m6⟩ := hS.cells; clear hb) | (go_at_call 19; refine (rsh_any _ _ _ _ ).mono ?_; rintro e w' ⟨rfl, hb⟩; replace hS := RawS.later hS hb; obtain ⟨m0, m1, m2, m3, m4, m5, m6⟩ := hS.cells; clear hb) | (go_at_call 20; refine (arsh_any _ _ _ _ ).mono ?_; rintro e w' ⟨rfl, hb⟩; replace hS := RawS.later hS hb; obtain ⟨m0, m1, m2, m3, m4, m5, m6⟩ := hS.cells; clear hb) | (go_at_call 21; refine (tlow_any _ _ _ _ ).mono ?_; rintro e w' ⟨rfl, hb⟩; replace hS := RawS.later hS hb; obtain ⟨m0, m1, m2, m3, m4, m5, m6⟩ := hS.cells; clear hb) | (go_at_call 14; refine (both_any _ _ _ _ _ ).mono ?_; rintro e w' ⟨rfl, hb⟩; replace hS := RawS.later hS hb; obtain ⟨m0, m1, m2, m3, m4, m5, m6⟩ := hS.cells; clear hb) | (go_at_call 13; refine (either_any _ _ _ _ _ ).mono ?_; rintro e w' ⟨rfl, hb⟩; replace hS := RawS.later hS hb; obtain ⟨m0, m1, m2, m3, m4, m5, m6⟩ := hS.cells; clear hb) | (go_at_call 37; refine (in_any _ _ _ _ _ ).mono ?_; rintro e w' ⟨rfl, hb⟩; replace hS := RawS.later hS hb; obtain ⟨m0, m1, m2, m3, m4, m5, m6⟩ := hS.cells; clear hb) | (go_at_call 10; refine (range_any _ _ _ ).mono ?_; rintro e w' ⟨rfl, hb⟩; replace hS := RawS.later hS hb; obtain ⟨m0, m1, m2, m3, m4, m5, m6⟩ := hS.cells; clear hb) | (go_at_call 17; refine (bits_any _).mono ?_; rintro e w' ⟨rfl, hb⟩; have hB := trans_b hS.1 hb))
    all_goals
      go_ret
      exact ⟨rfl, by assumption⟩
  · have hS := (raw_start a b c d 23 26 w).2.drew
    obtain ⟨m0, m1, m2, m3, m4, m5, m6⟩ := hS.cells
    go_wp2_with (first | (go_at_call 31; refine (add_any _ _ _ _ _ ).mono ?_; rintro e w' ⟨rfl, hb⟩; replace hS := RawS.later hS hb; obtain ⟨m0, m1, m2, m3, m4, m5, m6⟩ := hS.cells; clear hb) | (go_at_call 32; refine (sub_any _ _ _ _ _ ).mono ?_; rintro e w' ⟨rfl, hb⟩; replace hS := RawS.later hS hb; obtain ⟨m0, m1, m2, m3, m4, m5, m6⟩ := hS.cells; clear hb) | (go_at_call 34; refine (and_any _ _ _ _ _ ).mono ?_; rintro e w' ⟨rfl, hb⟩; replace hS := RawS.later hS hb; obtain ⟨m0, m1, m2, m3, m4, m5, m6⟩ := hS.cells; clear hb) | (go_at_call 35; refine (or_any _ _ _ _ _ ).mono ?_; rintro e w' ⟨rfl, hb⟩; replace hS := RawS.later hS hb; obtain ⟨m0, m1, m2, m3, m4, m5, m6⟩ := hS.cells; clear hb) | (go_at_call 36; refine (xor_any _ _ _ _ _ ).mono ?_; rintro e w' ⟨rfl, hb⟩; replace hS := RawS.later hS hb; obtain ⟨m0, m1, m2, m3, m4, m5, m6⟩ := hS.cells; clear hb) | (go_at_call 33; refine (mul_any _ _ _ _ _ ).mono ?_; rintro e w' ⟨rfl, hb⟩; replace hS := RawS.later hS hb; obtain ⟨m0, m1, m2, m3, m4, m5, m6⟩ := hS.cells; clear hb) | (go_at_call 18; refine (lsh_any _ _ _ _ ).mono ?_; rintro e w' ⟨rfl, hb⟩; replace hS := RawS.later hS hb; obtain ⟨m0, m1, m2, m3, m4, m5, m6⟩ := hS.cells; clear hb) | (go_at_call 19; refine (rsh_any _ _ _ _ ).mono ?_; rintro e w' ⟨rfl, hb⟩; replace hS := RawS.later hS hb; obtain ⟨m0, m1, m2, m3, m4, m5, m6⟩ := hS.cells; clear hb) | (go_at_call 20; refine (arsh_any _ _ _ _ ).mono ?_; rintro e w' ⟨rfl, hb⟩; replace hS := RawS.later hS hb; obtain ⟨m0, m1, m2, m3, m4, m5, m6⟩ := hS.cells; clear hb) | (go_at_call 21; refine (tlow_any _ _ _ _ ).mono ?_; rintro e w' ⟨rfl, hb⟩; replace hS := RawS.later hS hb; obtain ⟨m0, m1, m2, m3, m4, m5, m6⟩ := hS.cells; clear hb) | (go_at_call 14; refine (both_any _ _ _ _ _ ).mono ?_; rintro e w' ⟨rfl, hb⟩; replace hS := RawS.later hS hb; obtain ⟨m0, m1, m2, m3, m4, m5, m6⟩ := hS.cells; clear hb) | (go_at_call 13; refine (either_any _ _ _ _ _ ).mono ?_; rintro e w' ⟨rfl, hb⟩; replace hS := RawS.later hS hb; obtain ⟨m0, m1, m2, m3, m4, m5, m6⟩ := hS.cells; clear hb) | (go_at_call 37; refine (in_any _ _ _ _ _ ).mono ?_; rintro e w' ⟨rfl, hb⟩; replace hS := RawS.later hS hb; obtain ⟨m0, m1, m2, m3, m4, m5, m6⟩ := hS.cells; clear hb) | (go_at_call 10; refine (range_any _ _ _ ).mono ?_; rintro e w' ⟨rfl, hb⟩; replace hS := RawS.later hS hb; obtain ⟨m0, m1, m2, m3, m4, m5, m6⟩ := hS.cells; clear hb) | (go_at_call 17; refine (bits_any _).mono ?_; rintro e w' ⟨rfl, hb⟩; have hB := trans_b hS.1 hb))
    all_goals
      go_ret
      exact ⟨rfl, by assumption⟩
end Go.Proofs.Ytakemmdcaboapaa
