/-
  The walks of the laws of chapter 05 (arithmetic): each returns true, and nothing that was there is changed. Conditions: the arguments fit their kinds.
-/
import Derived.Test.YtaifibnpbkgaiaaAluRef
import Derived.OpenShut
namespace Go.Proofs.Ytaifibnpbkgaiaa
open Go.RowKit
set_option linter.unusedVariables false
set_option linter.unusedSimpArgs false

theorem reckoned_any (w : World) : Calls Try.prog 23 #[] w fun e w' => e = .returned (.bool true) ∧ w = w' := by
  have f1 : doS 16 true 1 2 = 18446744073709551615 := by kernel_rfl
  have f2 : doS 16 false 1 2 = 4294967295 := by kernel_rfl
  have f3 : doS 48 true 7 2 = 3 := by kernel_rfl
  have f4 : doS 48 true 7 0 = 0 := by kernel_rfl
  have f5 : doS 144 true 7 2 = 1 := by kernel_rfl
  have f6 : doS 144 true 7 0 = 7 := by kernel_rfl
  have f7 : doS 144 false 4294967303 4294967296 = 7 := by kernel_rfl
  have f8 : doS 96 true 1 65 = 2 := by kernel_rfl
  have f9 : doS 96 false 1 33 = 2 := by kernel_rfl
  have f10 : doS 192 true 9223372036854775808 63 = 18446744073709551615 := by kernel_rfl
  have f11 : doS 112 true 9223372036854775808 63 = 1 := by kernel_rfl
  have f12 : doS 192 false 2147483648 31 = 4294967295 := by kernel_rfl
  have f13 : doS 128 false 1 9 = 4294967295 := by kernel_rfl
  have f14 : doS 176 false 1 4294967305 = 9 := by kernel_rfl
  have f15 : doS 1 true 1 1 = 0 := by kernel_rfl
  go_enter Try.func23, Try.ntmps23
  go_wp2_with (go_at_call 21; refine (do_any _ _ _ _ _ (by decide) (by decide) (by decide) (by decide)).mono ?_; rintro e w' ⟨rfl, rfl⟩)
  go_ret
  exact ⟨rfl, rfl⟩

theorem AluTell_walk (a0 : Int) (a1 : Int) (a2 : Int) (w : World) (w0 : (Lit.int .u8 a0).wf = true) (w1 : (Lit.int .u64 a1).wf = true) (w2 : (Lit.int .u64 a2).wf = true) :
    Calls Try.prog 7 #[.int .u8 a0, .int .u64 a1, .int .u64 a2] w fun e w' => e = .returned (.bool true) ∧ Below w.heap.size w w' := by
  obtain ⟨b1, b2⟩ := bounds_u64 w1
  obtain ⟨c1, c2⟩ := bounds_u64 w2
  clear w0 w1 w2
  go_enter Try.func7, Try.ntmps7
  go_wp2_with fail
  go_loop [7] (fun k => ∃ K : Int, 0 ≤ K ∧ K ≤ 271 ∧ k = .int .i64 K) (fun k => (272 - intOf k).toNat)
  case atStart => exact ⟨0, by omega, by omega, rfl⟩
  case round =>
    obtain ⟨K, hK, hK10, rfl⟩ := hrel
    by_cases hlt : K < 256
    · go_wp2_with (first | (go_at_call 21; refine (do_any _ _ _ _ _ (by omega) (by omega) (by omega) (by omega)).mono ?_; rintro e w' ⟨rfl, rfl⟩) | (go_at_call 22; refine (refdo_any _ _ _ _ _ (by omega) (by omega) (by omega) (by omega)).mono ?_; rintro e w' ⟨rfl, rfl⟩))
      go_round
      case rel => exact ⟨K + 16, by omega, by omega, rfl⟩
      case measure => simp [intOf]; omega
    · go_wp2_with (first | (go_at_call 21; refine (do_any _ _ _ _ _ (by omega) (by omega) (by omega) (by omega)).mono ?_; rintro e w' ⟨rfl, rfl⟩) | (go_at_call 22; refine (refdo_any _ _ _ _ _ (by omega) (by omega) (by omega) (by omega)).mono ?_; rintro e w' ⟨rfl, rfl⟩) | (go_at_call 23; refine (reckoned_any _).mono ?_; rintro e w' ⟨rfl, rfl⟩))
      go_ret
      exact ⟨rfl, Below.refl _ _⟩

/-- The two widths, one behind the other. -/
def AtWide (c : Value) : Prop := c = .int .i64 0 ∨ c = .int .i64 1 ∨ c = .int .i64 2

theorem AluBack_walk (a0 : Int) (a1 : Int) (w : World) (w0 : (Lit.int .u64 a0).wf = true) (w1 : (Lit.int .u64 a1).wf = true) :
    Calls Try.prog 8 #[.int .u64 a0, .int .u64 a1] w fun e w' => e = .returned (.bool true) ∧ Below w.heap.size w w' := by
  obtain ⟨b1, b2⟩ := bounds_u64 w0
  obtain ⟨c1, c2⟩ := bounds_u64 w1
  clear w0 w1
  have i0 : ∀ w, (Instr.index 33 (.agg #[.bool true, .bool false]) (.int .i64 0)).run Try.prog w = .ok (.bool true) w := fun _ => by kernel_rfl
  have i1 : ∀ w, (Instr.index 33 (.agg #[.bool true, .bool false]) (.int .i64 1)).run Try.prog w = .ok (.bool false) w := fun _ => by kernel_rfl
  go_enter Try.func8, Try.ntmps8
  go_wp2_with fail
  go_loop [9] (fun c => AtWide c) (fun c => 2 - (intOf c).toNat)
  case atStart => exact .inl rfl
  case round =>
    rcases hrel with rfl | rfl | rfl
    · have e1 := back_add true a0 a1
      have e2 := back_xor true a0 a1 b1 (by omega) c1 (by omega)
      have e3 := back_neg true a0 a1
      have e4 := back_sub true a0 a1
      go_wp2_with (go_at_call 21; refine (do_any _ _ _ _ _ (by first | omega | exact doS_lo _ _ _ _) (by first | omega | exact doS_hi _ _ _ _) (by first | omega | exact doS_lo _ _ _ _) (by first | omega | exact doS_hi _ _ _ _)).mono ?_; rintro e w' ⟨rfl, rfl⟩)
      go_round
      case rel => exact .inr (.inl rfl)
      case measure => simp [intOf]
    · have e1 := back_add false a0 a1
      have e2 := back_xor false a0 a1 b1 (by omega) c1 (by omega)
      have e3 := back_neg false a0 a1
      have e4 := back_sub false a0 a1
      go_wp2_with (go_at_call 21; refine (do_any _ _ _ _ _ (by first | omega | exact doS_lo _ _ _ _) (by first | omega | exact doS_hi _ _ _ _) (by first | omega | exact doS_lo _ _ _ _) (by first | omega | exact doS_hi _ _ _ _)).mono ?_; rintro e w' ⟨rfl, rfl⟩)
      go_round
      case rel => exact .inr (.inr rfl)
      case measure => simp [intOf]
    · go_wp2_with (go_at_call 23; refine (reckoned_any _).mono ?_; rintro e w' ⟨rfl, rfl⟩)
      go_ret
      exact ⟨rfl, Below.refl _ _⟩

theorem parted_facts (W : Bool) (a0 a1 : Int) (ha0 : 0 ≤ a0) (ha : a0 < 18446744073709551616) (hb0 : 0 ≤ a1) (hb : a1 < 18446744073709551616) :
    (0 ≤ doS 176 W 0 a1 ∧ doS 176 W 0 a1 < 18446744073709551616 ∧ 0 ≤ doS 176 W 0 a0 ∧ doS 176 W 0 a0 < 18446744073709551616 ∧ 0 ≤ doS 144 W a0 a1 ∧ doS 144 W a0 a1 < 18446744073709551616) :=
  ⟨doS_lo _ _ _ _, doS_hi _ _ _ _, doS_lo _ _ _ _, doS_hi _ _ _ _, doS_lo _ _ _ _, doS_hi _ _ _ _⟩

theorem AluParted_walk (a0 : Int) (a1 : Int) (w : World) (w0 : (Lit.int .u64 a0).wf = true) (w1 : (Lit.int .u64 a1).wf = true) :
    Calls Try.prog 9 #[.int .u64 a0, .int .u64 a1] w fun e w' => e = .returned (.bool true) ∧ Below w.heap.size w w' := by
  obtain ⟨b1, b2⟩ := bounds_u64 w0
  obtain ⟨c1, c2⟩ := bounds_u64 w1
  clear w0 w1
  have i0 : ∀ w, (Instr.index 33 (.agg #[.bool true, .bool false]) (.int .i64 0)).run Try.prog w = .ok (.bool true) w := fun _ => by kernel_rfl
  have i1 : ∀ w, (Instr.index 33 (.agg #[.bool true, .bool false]) (.int .i64 1)).run Try.prog w = .ok (.bool false) w := fun _ => by kernel_rfl
  go_enter Try.func9, Try.ntmps9
  go_wp2_with fail
  go_loop [12] (fun c => AtWide c) (fun c => 2 - (intOf c).toNat)
  case atStart => exact .inl rfl
  case round =>
    rcases hrel with rfl | rfl | rfl
    · obtain ⟨p0, p1⟩ := parted true a0 a1 b1 (by omega) c1 (by omega)
      obtain ⟨g1, g2, g3, g4, g5, g6⟩ := parted_facts true a0 a1 b1 (by omega) c1 (by omega)
      by_cases hz : doS 176 true 0 a1 = 0
      · obtain ⟨q0, q1⟩ := p0 hz
        clear p0 p1
        go_wp2_with (go_at_call 21; refine (do_any _ _ _ _ _ (by omega) (by omega) (by omega) (by omega)).mono ?_; rintro e w' ⟨rfl, rfl⟩)
        go_round
        case rel => exact .inr (.inl rfl)
        case measure => simp [intOf]
      · obtain ⟨q0, q1, q2, q3, q4⟩ := p1 (by omega)
        have hz' : (doS 176 true 0 a1 == 0) = false := by simpa using hz
        clear p0 p1 hz
        go_wp2_with (go_at_call 21; refine (do_any _ _ _ _ _ (by omega) (by omega) (by omega) (by omega)).mono ?_; rintro e w' ⟨rfl, rfl⟩)
        go_round
        case rel => exact .inr (.inl rfl)
        case measure => simp [intOf]
    · obtain ⟨p0, p1⟩ := parted false a0 a1 b1 (by omega) c1 (by omega)
      obtain ⟨g1, g2, g3, g4, g5, g6⟩ := parted_facts false a0 a1 b1 (by omega) c1 (by omega)
      by_cases hz : doS 176 false 0 a1 = 0
      · obtain ⟨q0, q1⟩ := p0 hz
        clear p0 p1
        go_wp2_with (go_at_call 21; refine (do_any _ _ _ _ _ (by omega) (by omega) (by omega) (by omega)).mono ?_; rintro e w' ⟨rfl, rfl⟩)
        go_round
        case rel => exact .inr (.inr rfl)
        case measure => simp [intOf]
      · obtain ⟨q0, q1, q2, q3, q4⟩ := p1 (by omega)
        have hz' : (doS 176 false 0 a1 == 0) = false := by simpa using hz
        clear p0 p1 hz
        go_wp2_with (go_at_call 21; refine (do_any _ _ _ _ _ (by omega) (by omega) (by omega) (by omega)).mono ?_; rintro e w' ⟨rfl, rfl⟩)
        go_round
        case rel => exact .inr (.inr rfl)
        case measure => simp [intOf]
    · go_wp2_with (go_at_call 23; refine (reckoned_any _).mono ?_; rintro e w' ⟨rfl, rfl⟩)
      go_ret
      exact ⟨rfl, Below.refl _ _⟩
end Go.Proofs.Ytaifibnpbkgaiaa
