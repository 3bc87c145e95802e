/-
  The contract of firewallref05.Do: it returns the same as alu.Do. Conditions: the arguments fit their kinds.
-/
import Derived.Test.YtaifibnpbkgaiaaAlu
namespace Go.Proofs.Ytaifibnpbkgaiaa
open Go.RowKit
set_option linter.unusedVariables false
set_option linter.unusedSimpArgs false

theorem op_cases (op : Int) : op = 0 ∨ op = 16 ∨ op = 32 ∨ op = 48 ∨ op = 144 ∨ op = 64 ∨ op = 80 ∨ op = 160 ∨ op = 96 ∨ op = 112 ∨ op = 192 ∨ op = 128 ∨ op = 176 ∨
    ((op == 0) = false ∧ (op == 16) = false ∧ (op == 32) = false ∧ (op == 48) = false ∧ (op == 144) = false ∧ (op == 64) = false ∧ (op == 80) = false ∧ (op == 160) = false ∧ (op == 96) = false ∧ (op == 112) = false ∧ (op == 192) = false ∧ (op == 128) = false ∧ (op == 176) = false) := by
  simp only [beq_eq_false_iff_ne]; omega

set_option maxHeartbeats 1000000 in
theorem refdo64_any (op : Int) (a b : Int) (w : World) (ha0 : 0 ≤ a) (ha : a < 18446744073709551616) (hb0 : 0 ≤ b) (hb : b < 18446744073709551616) :
    Calls Try.prog 22 #[.int .u8 op, .bool true, .int .u64 a, .int .u64 b] w fun e w' => e = .returned (.int .u64 (doS op true a b)) ∧ w = w' := by
  have hl : ∀ x, lowS x 64 = x := fun x => by simp [lowS]
  have hp := two_pow_pos (b % 64).toNat
  have hA0 : 0 ≤ a := by omega
  have hB0 : 0 ≤ b := by omega
  have hA1 : a < 18446744073709551616 := by omega
  have hB1 : b < 18446744073709551616 := by omega
  have hr0 : 0 ≤ a / 2 ^ (b % 64).toNat := Int.ediv_nonneg hA0 (by omega)
  have hr1 : a / 2 ^ (b % 64).toNat ≤ a := Int.ediv_le_self _ hA0
  have hq0 : 0 ≤ a / b := Int.ediv_nonneg hA0 hB0
  have hq1 : a / b ≤ a := Int.ediv_le_self _ hA0
  have hm0 : 0 ≤ a % b ∧ a % b ≤ a := by
    by_cases h : b = 0
    · rw [h]; simp; first | exact hA0 | omega
    · exact ⟨Int.emod_nonneg _ h, by have h1 := Int.emod_add_mul_ediv (a) (b); have : 0 ≤ b * (a / b) := Int.mul_nonneg hB0 hq0; omega⟩
  have s1 := signS_bd (a / 2 ^ (b % 64).toNat) (64 - b % 64) hr0 (by omega)
  have hn0 : 0 ≤ b % 64 ∧ b % 64 < 64 := by omega
  have hsar : signS (a / 2 ^ (b % 64).toNat) (64 - b % 64) = sar64 a (b % 64) := by
    obtain ⟨n, hn⟩ : ∃ n : Nat, b % 64 = n := ⟨(b % 64).toNat, by omega⟩
    rw [hn, Int.toNat_natCast]
    exact sar64_sign a n (by omega) ha0 ha
  have es := Lib.hid hsar
  have e := Lib.hid (doS_wide op a b ha0 ha hb0 hb)
  clear hsar
  by_cases hz : b = 0
  · have eB := Lib.hid hz
    have hz0 : b ≤ 0 := by omega
    clear hz
    rcases op_cases op with rfl | rfl | rfl | rfl | rfl | rfl | rfl | rfl | rfl | rfl | rfl | rfl | rfl | ⟨n1, n2, n3, n4, n5, n6, n7, n8, n9, n10, n11, n12, n13⟩
    · go_enter Try.func22, Try.ntmps22
      go_wp2_with (first | (go_at_call 18; refine (reflow_any _ _ _ (by first | omega | exact (wrapU_bd _).1 | exact bits_lo_u64 _ _ _) (by first | omega | exact (wrapU_bd _).2 | (have := bits_hi_u64 .or a b; have := bits_hi_u64 .and a b; have := bits_hi_u64 .xor a b; omega))).mono ?_; rintro e w' ⟨rfl, rfl⟩) | (go_at_call 24; refine (power_any _ _ (by omega) (by omega)).mono ?_; rintro e w' ⟨rfl, rfl⟩) | (go_at_call 20; refine (refsign_any _ _ _ (by omega) (by omega)).mono ?_; rintro e w' ⟨rfl, rfl⟩))
      go_ret
      refine ⟨ret_int ?_, rfl⟩
      rw [e.out]
      rw [core_add, IntKind.wrap_u64]; omega
    · go_enter Try.func22, Try.ntmps22
      go_wp2_with (first | (go_at_call 18; refine (reflow_any _ _ _ (by first | omega | exact (wrapU_bd _).1 | exact bits_lo_u64 _ _ _) (by first | omega | exact (wrapU_bd _).2 | (have := bits_hi_u64 .or a b; have := bits_hi_u64 .and a b; have := bits_hi_u64 .xor a b; omega))).mono ?_; rintro e w' ⟨rfl, rfl⟩) | (go_at_call 24; refine (power_any _ _ (by omega) (by omega)).mono ?_; rintro e w' ⟨rfl, rfl⟩) | (go_at_call 20; refine (refsign_any _ _ _ (by omega) (by omega)).mono ?_; rintro e w' ⟨rfl, rfl⟩))
      go_ret
      refine ⟨ret_int ?_, rfl⟩
      rw [e.out]
      rw [core_sub, IntKind.wrap_u64]; omega
    · go_enter Try.func22, Try.ntmps22
      go_wp2_with (first | (go_at_call 18; refine (reflow_any _ _ _ (by first | omega | exact (wrapU_bd _).1 | exact bits_lo_u64 _ _ _) (by first | omega | exact (wrapU_bd _).2 | (have := bits_hi_u64 .or a b; have := bits_hi_u64 .and a b; have := bits_hi_u64 .xor a b; omega))).mono ?_; rintro e w' ⟨rfl, rfl⟩) | (go_at_call 24; refine (power_any _ _ (by omega) (by omega)).mono ?_; rintro e w' ⟨rfl, rfl⟩) | (go_at_call 20; refine (refsign_any _ _ _ (by omega) (by omega)).mono ?_; rintro e w' ⟨rfl, rfl⟩))
      go_ret
      refine ⟨ret_int ?_, rfl⟩
      rw [e.out]
      rw [core_mul]
    · go_enter Try.func22, Try.ntmps22
      go_wp2_with (first | (go_at_call 18; refine (reflow_any _ _ _ (by first | omega | exact (wrapU_bd _).1 | exact bits_lo_u64 _ _ _) (by first | omega | exact (wrapU_bd _).2 | (have := bits_hi_u64 .or a b; have := bits_hi_u64 .and a b; have := bits_hi_u64 .xor a b; omega))).mono ?_; rintro e w' ⟨rfl, rfl⟩) | (go_at_call 24; refine (power_any _ _ (by omega) (by omega)).mono ?_; rintro e w' ⟨rfl, rfl⟩) | (go_at_call 20; refine (refsign_any _ _ _ (by omega) (by omega)).mono ?_; rintro e w' ⟨rfl, rfl⟩))
      go_ret
      refine ⟨ret_int ?_, rfl⟩
      rw [e.out]
      rw [core_div]; rw [if_pos eB.out]
    · go_enter Try.func22, Try.ntmps22
      go_wp2_with (first | (go_at_call 18; refine (reflow_any _ _ _ (by first | omega | exact (wrapU_bd _).1 | exact bits_lo_u64 _ _ _) (by first | omega | exact (wrapU_bd _).2 | (have := bits_hi_u64 .or a b; have := bits_hi_u64 .and a b; have := bits_hi_u64 .xor a b; omega))).mono ?_; rintro e w' ⟨rfl, rfl⟩) | (go_at_call 24; refine (power_any _ _ (by omega) (by omega)).mono ?_; rintro e w' ⟨rfl, rfl⟩) | (go_at_call 20; refine (refsign_any _ _ _ (by omega) (by omega)).mono ?_; rintro e w' ⟨rfl, rfl⟩))
      go_ret
      refine ⟨ret_int ?_, rfl⟩
      rw [e.out]
      rw [core_mod]; rw [if_pos eB.out]
    · go_enter Try.func22, Try.ntmps22
      go_wp2_with (first | (go_at_call 18; refine (reflow_any _ _ _ (by first | omega | exact (wrapU_bd _).1 | exact bits_lo_u64 _ _ _) (by first | omega | exact (wrapU_bd _).2 | (have := bits_hi_u64 .or a b; have := bits_hi_u64 .and a b; have := bits_hi_u64 .xor a b; omega))).mono ?_; rintro e w' ⟨rfl, rfl⟩) | (go_at_call 24; refine (power_any _ _ (by omega) (by omega)).mono ?_; rintro e w' ⟨rfl, rfl⟩) | (go_at_call 20; refine (refsign_any _ _ _ (by omega) (by omega)).mono ?_; rintro e w' ⟨rfl, rfl⟩))
      go_ret
      refine ⟨ret_int ?_, rfl⟩
      rw [e.out]
      rw [core_or]
    · go_enter Try.func22, Try.ntmps22
      go_wp2_with (first | (go_at_call 18; refine (reflow_any _ _ _ (by first | omega | exact (wrapU_bd _).1 | exact bits_lo_u64 _ _ _) (by first | omega | exact (wrapU_bd _).2 | (have := bits_hi_u64 .or a b; have := bits_hi_u64 .and a b; have := bits_hi_u64 .xor a b; omega))).mono ?_; rintro e w' ⟨rfl, rfl⟩) | (go_at_call 24; refine (power_any _ _ (by omega) (by omega)).mono ?_; rintro e w' ⟨rfl, rfl⟩) | (go_at_call 20; refine (refsign_any _ _ _ (by omega) (by omega)).mono ?_; rintro e w' ⟨rfl, rfl⟩))
      go_ret
      refine ⟨ret_int ?_, rfl⟩
      rw [e.out]
      rw [core_and]
    · go_enter Try.func22, Try.ntmps22
      go_wp2_with (first | (go_at_call 18; refine (reflow_any _ _ _ (by first | omega | exact (wrapU_bd _).1 | exact bits_lo_u64 _ _ _) (by first | omega | exact (wrapU_bd _).2 | (have := bits_hi_u64 .or a b; have := bits_hi_u64 .and a b; have := bits_hi_u64 .xor a b; omega))).mono ?_; rintro e w' ⟨rfl, rfl⟩) | (go_at_call 24; refine (power_any _ _ (by omega) (by omega)).mono ?_; rintro e w' ⟨rfl, rfl⟩) | (go_at_call 20; refine (refsign_any _ _ _ (by omega) (by omega)).mono ?_; rintro e w' ⟨rfl, rfl⟩))
      go_ret
      refine ⟨ret_int ?_, rfl⟩
      rw [e.out]
      rw [core_xor]
    · go_enter Try.func22, Try.ntmps22
      go_wp2_with (first | (go_at_call 18; refine (reflow_any _ _ _ (by first | omega | exact (wrapU_bd _).1 | exact bits_lo_u64 _ _ _) (by first | omega | exact (wrapU_bd _).2 | (have := bits_hi_u64 .or a b; have := bits_hi_u64 .and a b; have := bits_hi_u64 .xor a b; omega))).mono ?_; rintro e w' ⟨rfl, rfl⟩) | (go_at_call 24; refine (power_any _ _ (by omega) (by omega)).mono ?_; rintro e w' ⟨rfl, rfl⟩) | (go_at_call 20; refine (refsign_any _ _ _ (by omega) (by omega)).mono ?_; rintro e w' ⟨rfl, rfl⟩))
      go_ret
      refine ⟨ret_int ?_, rfl⟩
      rw [e.out]
      rw [core_lsh]
    · go_enter Try.func22, Try.ntmps22
      go_wp2_with (first | (go_at_call 18; refine (reflow_any _ _ _ (by first | omega | exact (wrapU_bd _).1 | exact bits_lo_u64 _ _ _) (by first | omega | exact (wrapU_bd _).2 | (have := bits_hi_u64 .or a b; have := bits_hi_u64 .and a b; have := bits_hi_u64 .xor a b; omega))).mono ?_; rintro e w' ⟨rfl, rfl⟩) | (go_at_call 24; refine (power_any _ _ (by omega) (by omega)).mono ?_; rintro e w' ⟨rfl, rfl⟩) | (go_at_call 20; refine (refsign_any _ _ _ (by omega) (by omega)).mono ?_; rintro e w' ⟨rfl, rfl⟩))
      go_ret
      refine ⟨ret_int ?_, rfl⟩
      rw [e.out]
      rw [core_rsh]
    · go_enter Try.func22, Try.ntmps22
      go_wp2_with (first | (go_at_call 18; refine (reflow_any _ _ _ (by first | omega | exact (wrapU_bd _).1 | exact bits_lo_u64 _ _ _) (by first | omega | exact (wrapU_bd _).2 | (have := bits_hi_u64 .or a b; have := bits_hi_u64 .and a b; have := bits_hi_u64 .xor a b; omega))).mono ?_; rintro e w' ⟨rfl, rfl⟩) | (go_at_call 24; refine (power_any _ _ (by omega) (by omega)).mono ?_; rintro e w' ⟨rfl, rfl⟩) | (go_at_call 20; refine (refsign_any _ _ _ (by omega) (by omega)).mono ?_; rintro e w' ⟨rfl, rfl⟩))
      go_ret
      refine ⟨ret_int ?_, rfl⟩
      rw [e.out]
      rw [core_arsh]; exact es.out
    · go_enter Try.func22, Try.ntmps22
      go_wp2_with (first | (go_at_call 18; refine (reflow_any _ _ _ (by first | omega | exact (wrapU_bd _).1 | exact bits_lo_u64 _ _ _) (by first | omega | exact (wrapU_bd _).2 | (have := bits_hi_u64 .or a b; have := bits_hi_u64 .and a b; have := bits_hi_u64 .xor a b; omega))).mono ?_; rintro e w' ⟨rfl, rfl⟩) | (go_at_call 24; refine (power_any _ _ (by omega) (by omega)).mono ?_; rintro e w' ⟨rfl, rfl⟩) | (go_at_call 20; refine (refsign_any _ _ _ (by omega) (by omega)).mono ?_; rintro e w' ⟨rfl, rfl⟩))
      go_ret
      refine ⟨ret_int ?_, rfl⟩
      rw [e.out]
      rw [core_neg]; rw [Int.zero_sub]
    · go_enter Try.func22, Try.ntmps22
      go_wp2_with (first | (go_at_call 18; refine (reflow_any _ _ _ (by first | omega | exact (wrapU_bd _).1 | exact bits_lo_u64 _ _ _) (by first | omega | exact (wrapU_bd _).2 | (have := bits_hi_u64 .or a b; have := bits_hi_u64 .and a b; have := bits_hi_u64 .xor a b; omega))).mono ?_; rintro e w' ⟨rfl, rfl⟩) | (go_at_call 24; refine (power_any _ _ (by omega) (by omega)).mono ?_; rintro e w' ⟨rfl, rfl⟩) | (go_at_call 20; refine (refsign_any _ _ _ (by omega) (by omega)).mono ?_; rintro e w' ⟨rfl, rfl⟩))
      go_ret
      refine ⟨ret_int ?_, rfl⟩
      rw [e.out]
      rw [core_mov]
    · go_enter Try.func22, Try.ntmps22
      go_wp2_with (first | (go_at_call 18; refine (reflow_any _ _ _ (by first | omega | exact (wrapU_bd _).1 | exact bits_lo_u64 _ _ _) (by first | omega | exact (wrapU_bd _).2 | (have := bits_hi_u64 .or a b; have := bits_hi_u64 .and a b; have := bits_hi_u64 .xor a b; omega))).mono ?_; rintro e w' ⟨rfl, rfl⟩) | (go_at_call 24; refine (power_any _ _ (by omega) (by omega)).mono ?_; rintro e w' ⟨rfl, rfl⟩) | (go_at_call 20; refine (refsign_any _ _ _ (by omega) (by omega)).mono ?_; rintro e w' ⟨rfl, rfl⟩))
      go_ret
      refine ⟨ret_int ?_, rfl⟩
      rw [e.out]
      rw [core_none _ _ _ _ _ _ n1 n2 n3 n4 n5 n6 n7 n8 n9 n10 n11 n12 n13]
  · have hb1 : 1 ≤ b := by omega
    have eB := Lib.hid hz
    clear hz
    rcases op_cases op with rfl | rfl | rfl | rfl | rfl | rfl | rfl | rfl | rfl | rfl | rfl | rfl | rfl | ⟨n1, n2, n3, n4, n5, n6, n7, n8, n9, n10, n11, n12, n13⟩
    · go_enter Try.func22, Try.ntmps22
      go_wp2_with (first | (go_at_call 18; refine (reflow_any _ _ _ (by first | omega | exact (wrapU_bd _).1 | exact bits_lo_u64 _ _ _) (by first | omega | exact (wrapU_bd _).2 | (have := bits_hi_u64 .or a b; have := bits_hi_u64 .and a b; have := bits_hi_u64 .xor a b; omega))).mono ?_; rintro e w' ⟨rfl, rfl⟩) | (go_at_call 24; refine (power_any _ _ (by omega) (by omega)).mono ?_; rintro e w' ⟨rfl, rfl⟩) | (go_at_call 20; refine (refsign_any _ _ _ (by omega) (by omega)).mono ?_; rintro e w' ⟨rfl, rfl⟩))
      go_ret
      refine ⟨ret_int ?_, rfl⟩
      rw [e.out]
      rw [core_add]
    · go_enter Try.func22, Try.ntmps22
      go_wp2_with (first | (go_at_call 18; refine (reflow_any _ _ _ (by first | omega | exact (wrapU_bd _).1 | exact bits_lo_u64 _ _ _) (by first | omega | exact (wrapU_bd _).2 | (have := bits_hi_u64 .or a b; have := bits_hi_u64 .and a b; have := bits_hi_u64 .xor a b; omega))).mono ?_; rintro e w' ⟨rfl, rfl⟩) | (go_at_call 24; refine (power_any _ _ (by omega) (by omega)).mono ?_; rintro e w' ⟨rfl, rfl⟩) | (go_at_call 20; refine (refsign_any _ _ _ (by omega) (by omega)).mono ?_; rintro e w' ⟨rfl, rfl⟩))
      go_ret
      refine ⟨ret_int ?_, rfl⟩
      rw [e.out]
      rw [core_sub]
    · go_enter Try.func22, Try.ntmps22
      go_wp2_with (first | (go_at_call 18; refine (reflow_any _ _ _ (by first | omega | exact (wrapU_bd _).1 | exact bits_lo_u64 _ _ _) (by first | omega | exact (wrapU_bd _).2 | (have := bits_hi_u64 .or a b; have := bits_hi_u64 .and a b; have := bits_hi_u64 .xor a b; omega))).mono ?_; rintro e w' ⟨rfl, rfl⟩) | (go_at_call 24; refine (power_any _ _ (by omega) (by omega)).mono ?_; rintro e w' ⟨rfl, rfl⟩) | (go_at_call 20; refine (refsign_any _ _ _ (by omega) (by omega)).mono ?_; rintro e w' ⟨rfl, rfl⟩))
      go_ret
      refine ⟨ret_int ?_, rfl⟩
      rw [e.out]
      rw [core_mul]
    · go_enter Try.func22, Try.ntmps22
      go_wp2_with (first | (go_at_call 18; refine (reflow_any _ _ _ (by first | omega | exact (wrapU_bd _).1 | exact bits_lo_u64 _ _ _) (by first | omega | exact (wrapU_bd _).2 | (have := bits_hi_u64 .or a b; have := bits_hi_u64 .and a b; have := bits_hi_u64 .xor a b; omega))).mono ?_; rintro e w' ⟨rfl, rfl⟩) | (go_at_call 24; refine (power_any _ _ (by omega) (by omega)).mono ?_; rintro e w' ⟨rfl, rfl⟩) | (go_at_call 20; refine (refsign_any _ _ _ (by omega) (by omega)).mono ?_; rintro e w' ⟨rfl, rfl⟩))
      go_ret
      refine ⟨ret_int ?_, rfl⟩
      rw [e.out]
      rw [core_div]; rw [if_neg eB.out]
    · go_enter Try.func22, Try.ntmps22
      go_wp2_with (first | (go_at_call 18; refine (reflow_any _ _ _ (by first | omega | exact (wrapU_bd _).1 | exact bits_lo_u64 _ _ _) (by first | omega | exact (wrapU_bd _).2 | (have := bits_hi_u64 .or a b; have := bits_hi_u64 .and a b; have := bits_hi_u64 .xor a b; omega))).mono ?_; rintro e w' ⟨rfl, rfl⟩) | (go_at_call 24; refine (power_any _ _ (by omega) (by omega)).mono ?_; rintro e w' ⟨rfl, rfl⟩) | (go_at_call 20; refine (refsign_any _ _ _ (by omega) (by omega)).mono ?_; rintro e w' ⟨rfl, rfl⟩))
      go_ret
      refine ⟨ret_int ?_, rfl⟩
      rw [e.out]
      rw [core_mod]; rw [if_neg eB.out]
    · go_enter Try.func22, Try.ntmps22
      go_wp2_with (first | (go_at_call 18; refine (reflow_any _ _ _ (by first | omega | exact (wrapU_bd _).1 | exact bits_lo_u64 _ _ _) (by first | omega | exact (wrapU_bd _).2 | (have := bits_hi_u64 .or a b; have := bits_hi_u64 .and a b; have := bits_hi_u64 .xor a b; omega))).mono ?_; rintro e w' ⟨rfl, rfl⟩) | (go_at_call 24; refine (power_any _ _ (by omega) (by omega)).mono ?_; rintro e w' ⟨rfl, rfl⟩) | (go_at_call 20; refine (refsign_any _ _ _ (by omega) (by omega)).mono ?_; rintro e w' ⟨rfl, rfl⟩))
      go_ret
      refine ⟨ret_int ?_, rfl⟩
      rw [e.out]
      rw [core_or]
    · go_enter Try.func22, Try.ntmps22
      go_wp2_with (first | (go_at_call 18; refine (reflow_any _ _ _ (by first | omega | exact (wrapU_bd _).1 | exact bits_lo_u64 _ _ _) (by first | omega | exact (wrapU_bd _).2 | (have := bits_hi_u64 .or a b; have := bits_hi_u64 .and a b; have := bits_hi_u64 .xor a b; omega))).mono ?_; rintro e w' ⟨rfl, rfl⟩) | (go_at_call 24; refine (power_any _ _ (by omega) (by omega)).mono ?_; rintro e w' ⟨rfl, rfl⟩) | (go_at_call 20; refine (refsign_any _ _ _ (by omega) (by omega)).mono ?_; rintro e w' ⟨rfl, rfl⟩))
      go_ret
      refine ⟨ret_int ?_, rfl⟩
      rw [e.out]
      rw [core_and]
    · go_enter Try.func22, Try.ntmps22
      go_wp2_with (first | (go_at_call 18; refine (reflow_any _ _ _ (by first | omega | exact (wrapU_bd _).1 | exact bits_lo_u64 _ _ _) (by first | omega | exact (wrapU_bd _).2 | (have := bits_hi_u64 .or a b; have := bits_hi_u64 .and a b; have := bits_hi_u64 .xor a b; omega))).mono ?_; rintro e w' ⟨rfl, rfl⟩) | (go_at_call 24; refine (power_any _ _ (by omega) (by omega)).mono ?_; rintro e w' ⟨rfl, rfl⟩) | (go_at_call 20; refine (refsign_any _ _ _ (by omega) (by omega)).mono ?_; rintro e w' ⟨rfl, rfl⟩))
      go_ret
      refine ⟨ret_int ?_, rfl⟩
      rw [e.out]
      rw [core_xor]
    · go_enter Try.func22, Try.ntmps22
      go_wp2_with (first | (go_at_call 18; refine (reflow_any _ _ _ (by first | omega | exact (wrapU_bd _).1 | exact bits_lo_u64 _ _ _) (by first | omega | exact (wrapU_bd _).2 | (have := bits_hi_u64 .or a b; have := bits_hi_u64 .and a b; have := bits_hi_u64 .xor a b; omega))).mono ?_; rintro e w' ⟨rfl, rfl⟩) | (go_at_call 24; refine (power_any _ _ (by omega) (by omega)).mono ?_; rintro e w' ⟨rfl, rfl⟩) | (go_at_call 20; refine (refsign_any _ _ _ (by omega) (by omega)).mono ?_; rintro e w' ⟨rfl, rfl⟩))
      go_ret
      refine ⟨ret_int ?_, rfl⟩
      rw [e.out]
      rw [core_lsh]
    · go_enter Try.func22, Try.ntmps22
      go_wp2_with (first | (go_at_call 18; refine (reflow_any _ _ _ (by first | omega | exact (wrapU_bd _).1 | exact bits_lo_u64 _ _ _) (by first | omega | exact (wrapU_bd _).2 | (have := bits_hi_u64 .or a b; have := bits_hi_u64 .and a b; have := bits_hi_u64 .xor a b; omega))).mono ?_; rintro e w' ⟨rfl, rfl⟩) | (go_at_call 24; refine (power_any _ _ (by omega) (by omega)).mono ?_; rintro e w' ⟨rfl, rfl⟩) | (go_at_call 20; refine (refsign_any _ _ _ (by omega) (by omega)).mono ?_; rintro e w' ⟨rfl, rfl⟩))
      go_ret
      refine ⟨ret_int ?_, rfl⟩
      rw [e.out]
      rw [core_rsh]
    · go_enter Try.func22, Try.ntmps22
      go_wp2_with (first | (go_at_call 18; refine (reflow_any _ _ _ (by first | omega | exact (wrapU_bd _).1 | exact bits_lo_u64 _ _ _) (by first | omega | exact (wrapU_bd _).2 | (have := bits_hi_u64 .or a b; have := bits_hi_u64 .and a b; have := bits_hi_u64 .xor a b; omega))).mono ?_; rintro e w' ⟨rfl, rfl⟩) | (go_at_call 24; refine (power_any _ _ (by omega) (by omega)).mono ?_; rintro e w' ⟨rfl, rfl⟩) | (go_at_call 20; refine (refsign_any _ _ _ (by omega) (by omega)).mono ?_; rintro e w' ⟨rfl, rfl⟩))
      go_ret
      refine ⟨ret_int ?_, rfl⟩
      rw [e.out]
      rw [core_arsh]; exact es.out
    · go_enter Try.func22, Try.ntmps22
      go_wp2_with (first | (go_at_call 18; refine (reflow_any _ _ _ (by first | omega | exact (wrapU_bd _).1 | exact bits_lo_u64 _ _ _) (by first | omega | exact (wrapU_bd _).2 | (have := bits_hi_u64 .or a b; have := bits_hi_u64 .and a b; have := bits_hi_u64 .xor a b; omega))).mono ?_; rintro e w' ⟨rfl, rfl⟩) | (go_at_call 24; refine (power_any _ _ (by omega) (by omega)).mono ?_; rintro e w' ⟨rfl, rfl⟩) | (go_at_call 20; refine (refsign_any _ _ _ (by omega) (by omega)).mono ?_; rintro e w' ⟨rfl, rfl⟩))
      go_ret
      refine ⟨ret_int ?_, rfl⟩
      rw [e.out]
      rw [core_neg]; rw [Int.zero_sub]
    · go_enter Try.func22, Try.ntmps22
      go_wp2_with (first | (go_at_call 18; refine (reflow_any _ _ _ (by first | omega | exact (wrapU_bd _).1 | exact bits_lo_u64 _ _ _) (by first | omega | exact (wrapU_bd _).2 | (have := bits_hi_u64 .or a b; have := bits_hi_u64 .and a b; have := bits_hi_u64 .xor a b; omega))).mono ?_; rintro e w' ⟨rfl, rfl⟩) | (go_at_call 24; refine (power_any _ _ (by omega) (by omega)).mono ?_; rintro e w' ⟨rfl, rfl⟩) | (go_at_call 20; refine (refsign_any _ _ _ (by omega) (by omega)).mono ?_; rintro e w' ⟨rfl, rfl⟩))
      go_ret
      refine ⟨ret_int ?_, rfl⟩
      rw [e.out]
      rw [core_mov]
    · go_enter Try.func22, Try.ntmps22
      go_wp2_with (first | (go_at_call 18; refine (reflow_any _ _ _ (by first | omega | exact (wrapU_bd _).1 | exact bits_lo_u64 _ _ _) (by first | omega | exact (wrapU_bd _).2 | (have := bits_hi_u64 .or a b; have := bits_hi_u64 .and a b; have := bits_hi_u64 .xor a b; omega))).mono ?_; rintro e w' ⟨rfl, rfl⟩) | (go_at_call 24; refine (power_any _ _ (by omega) (by omega)).mono ?_; rintro e w' ⟨rfl, rfl⟩) | (go_at_call 20; refine (refsign_any _ _ _ (by omega) (by omega)).mono ?_; rintro e w' ⟨rfl, rfl⟩))
      go_ret
      refine ⟨ret_int ?_, rfl⟩
      rw [e.out]
      rw [core_none _ _ _ _ _ _ n1 n2 n3 n4 n5 n6 n7 n8 n9 n10 n11 n12 n13]

set_option maxHeartbeats 1000000 in
theorem refdo32_any (op : Int) (a b : Int) (w : World) (ha0 : 0 ≤ a) (ha : a < 18446744073709551616) (hb0 : 0 ≤ b) (hb : b < 18446744073709551616) :
    Calls Try.prog 22 #[.int .u8 op, .bool false, .int .u64 a, .int .u64 b] w fun e w' => e = .returned (.int .u64 (doS op false a b)) ∧ w = w' := by
  have hl : ∀ x, lowS x 32 = x % 4294967296 := fun x => by simp [lowS]
  have hp := two_pow_pos (b % 32).toNat
  have hA0 : 0 ≤ a % 4294967296 := by omega
  have hB0 : 0 ≤ b % 4294967296 := by omega
  have hA1 : a % 4294967296 < 4294967296 := by omega
  have hB1 : b % 4294967296 < 4294967296 := by omega
  have hr0 : 0 ≤ a % 4294967296 / 2 ^ (b % 32).toNat := Int.ediv_nonneg hA0 (by omega)
  have hr1 : a % 4294967296 / 2 ^ (b % 32).toNat ≤ a % 4294967296 := Int.ediv_le_self _ hA0
  have hq0 : 0 ≤ a % 4294967296 / (b % 4294967296) := Int.ediv_nonneg hA0 hB0
  have hq1 : a % 4294967296 / (b % 4294967296) ≤ a % 4294967296 := Int.ediv_le_self _ hA0
  have hm0 : 0 ≤ a % 4294967296 % (b % 4294967296) ∧ a % 4294967296 % (b % 4294967296) ≤ a % 4294967296 := by
    by_cases h : b % 4294967296 = 0
    · rw [h]; simp; first | exact hA0 | omega
    · exact ⟨Int.emod_nonneg _ h, by have h1 := Int.emod_add_mul_ediv (a % 4294967296) (b % 4294967296); have : 0 ≤ (b % 4294967296) * (a % 4294967296 / (b % 4294967296)) := Int.mul_nonneg hB0 hq0; omega⟩
  have s1 := signS_bd (a % 4294967296 / 2 ^ (b % 32).toNat) (32 - b % 32) hr0 (by omega)
  have hn0 : 0 ≤ b % 32 ∧ b % 32 < 32 := by omega
  have hsar : signS (a % 4294967296 / 2 ^ (b % 32).toNat) (32 - b % 32) % 4294967296 = sar32 a (b % 32) := by
    obtain ⟨n, hn⟩ : ∃ n : Nat, b % 32 = n := ⟨(b % 32).toNat, by omega⟩
    rw [hn, Int.toNat_natCast]
    exact sar32_sign a n (by omega)
  have es := Lib.hid hsar
  have e := Lib.hid (doS_low op a b)
  clear hsar
  by_cases hz : b % 4294967296 = 0
  · have eB := Lib.hid hz
    have hz0 : b % 4294967296 ≤ 0 := by omega
    clear hz
    rcases op_cases op with rfl | rfl | rfl | rfl | rfl | rfl | rfl | rfl | rfl | rfl | rfl | rfl | rfl | ⟨n1, n2, n3, n4, n5, n6, n7, n8, n9, n10, n11, n12, n13⟩
    · go_enter Try.func22, Try.ntmps22
      go_wp2_with (first | (go_at_call 18; refine (reflow_any _ _ _ (by first | omega | exact (wrapU_bd _).1 | exact bits_lo_u64 _ _ _) (by first | omega | exact (wrapU_bd _).2 | (have := bits_hi_u64 .or (a % 4294967296) (b % 4294967296); have := bits_hi_u64 .and (a % 4294967296) (b % 4294967296); have := bits_hi_u64 .xor (a % 4294967296) (b % 4294967296); omega))).mono ?_; rintro e w' ⟨rfl, rfl⟩) | (go_at_call 24; refine (power_any _ _ (by omega) (by omega)).mono ?_; rintro e w' ⟨rfl, rfl⟩) | (go_at_call 20; refine (refsign_any _ _ _ (by omega) (by omega)).mono ?_; rintro e w' ⟨rfl, rfl⟩))
      go_ret
      refine ⟨ret_int ?_, rfl⟩
      rw [e.out]
      rw [core_add]; rw [IntKind.wrap_u32']; omega
    · go_enter Try.func22, Try.ntmps22
      go_wp2_with (first | (go_at_call 18; refine (reflow_any _ _ _ (by first | omega | exact (wrapU_bd _).1 | exact bits_lo_u64 _ _ _) (by first | omega | exact (wrapU_bd _).2 | (have := bits_hi_u64 .or (a % 4294967296) (b % 4294967296); have := bits_hi_u64 .and (a % 4294967296) (b % 4294967296); have := bits_hi_u64 .xor (a % 4294967296) (b % 4294967296); omega))).mono ?_; rintro e w' ⟨rfl, rfl⟩) | (go_at_call 24; refine (power_any _ _ (by omega) (by omega)).mono ?_; rintro e w' ⟨rfl, rfl⟩) | (go_at_call 20; refine (refsign_any _ _ _ (by omega) (by omega)).mono ?_; rintro e w' ⟨rfl, rfl⟩))
      go_ret
      refine ⟨ret_int ?_, rfl⟩
      rw [e.out]
      rw [core_sub]; first | exact wrap_low _ | (rw [IntKind.wrap_u32']; omega)
    · go_enter Try.func22, Try.ntmps22
      go_wp2_with (first | (go_at_call 18; refine (reflow_any _ _ _ (by first | omega | exact (wrapU_bd _).1 | exact bits_lo_u64 _ _ _) (by first | omega | exact (wrapU_bd _).2 | (have := bits_hi_u64 .or (a % 4294967296) (b % 4294967296); have := bits_hi_u64 .and (a % 4294967296) (b % 4294967296); have := bits_hi_u64 .xor (a % 4294967296) (b % 4294967296); omega))).mono ?_; rintro e w' ⟨rfl, rfl⟩) | (go_at_call 24; refine (power_any _ _ (by omega) (by omega)).mono ?_; rintro e w' ⟨rfl, rfl⟩) | (go_at_call 20; refine (refsign_any _ _ _ (by omega) (by omega)).mono ?_; rintro e w' ⟨rfl, rfl⟩))
      go_ret
      refine ⟨ret_int ?_, rfl⟩
      rw [e.out]
      rw [core_mul]; first | exact wrap_low _ | (rw [wrap_low, Int.zero_sub]) 
    · go_enter Try.func22, Try.ntmps22
      go_wp2_with (first | (go_at_call 18; refine (reflow_any _ _ _ (by first | omega | exact (wrapU_bd _).1 | exact bits_lo_u64 _ _ _) (by first | omega | exact (wrapU_bd _).2 | (have := bits_hi_u64 .or (a % 4294967296) (b % 4294967296); have := bits_hi_u64 .and (a % 4294967296) (b % 4294967296); have := bits_hi_u64 .xor (a % 4294967296) (b % 4294967296); omega))).mono ?_; rintro e w' ⟨rfl, rfl⟩) | (go_at_call 24; refine (power_any _ _ (by omega) (by omega)).mono ?_; rintro e w' ⟨rfl, rfl⟩) | (go_at_call 20; refine (refsign_any _ _ _ (by omega) (by omega)).mono ?_; rintro e w' ⟨rfl, rfl⟩))
      go_ret
      refine ⟨ret_int ?_, rfl⟩
      rw [e.out]
      rw [core_div]; rw [if_pos eB.out]; try omega
    · go_enter Try.func22, Try.ntmps22
      go_wp2_with (first | (go_at_call 18; refine (reflow_any _ _ _ (by first | omega | exact (wrapU_bd _).1 | exact bits_lo_u64 _ _ _) (by first | omega | exact (wrapU_bd _).2 | (have := bits_hi_u64 .or (a % 4294967296) (b % 4294967296); have := bits_hi_u64 .and (a % 4294967296) (b % 4294967296); have := bits_hi_u64 .xor (a % 4294967296) (b % 4294967296); omega))).mono ?_; rintro e w' ⟨rfl, rfl⟩) | (go_at_call 24; refine (power_any _ _ (by omega) (by omega)).mono ?_; rintro e w' ⟨rfl, rfl⟩) | (go_at_call 20; refine (refsign_any _ _ _ (by omega) (by omega)).mono ?_; rintro e w' ⟨rfl, rfl⟩))
      go_ret
      refine ⟨ret_int ?_, rfl⟩
      rw [e.out]
      rw [core_mod]; rw [if_pos eB.out]; try omega
    · go_enter Try.func22, Try.ntmps22
      go_wp2_with (first | (go_at_call 18; refine (reflow_any _ _ _ (by first | omega | exact (wrapU_bd _).1 | exact bits_lo_u64 _ _ _) (by first | omega | exact (wrapU_bd _).2 | (have := bits_hi_u64 .or (a % 4294967296) (b % 4294967296); have := bits_hi_u64 .and (a % 4294967296) (b % 4294967296); have := bits_hi_u64 .xor (a % 4294967296) (b % 4294967296); omega))).mono ?_; rintro e w' ⟨rfl, rfl⟩) | (go_at_call 24; refine (power_any _ _ (by omega) (by omega)).mono ?_; rintro e w' ⟨rfl, rfl⟩) | (go_at_call 20; refine (refsign_any _ _ _ (by omega) (by omega)).mono ?_; rintro e w' ⟨rfl, rfl⟩))
      go_ret
      refine ⟨ret_int ?_, rfl⟩
      rw [e.out]
      rw [core_or]; exact bits_or_low _ _ hA0 hA1 hB0 hB1
    · go_enter Try.func22, Try.ntmps22
      go_wp2_with (first | (go_at_call 18; refine (reflow_any _ _ _ (by first | omega | exact (wrapU_bd _).1 | exact bits_lo_u64 _ _ _) (by first | omega | exact (wrapU_bd _).2 | (have := bits_hi_u64 .or (a % 4294967296) (b % 4294967296); have := bits_hi_u64 .and (a % 4294967296) (b % 4294967296); have := bits_hi_u64 .xor (a % 4294967296) (b % 4294967296); omega))).mono ?_; rintro e w' ⟨rfl, rfl⟩) | (go_at_call 24; refine (power_any _ _ (by omega) (by omega)).mono ?_; rintro e w' ⟨rfl, rfl⟩) | (go_at_call 20; refine (refsign_any _ _ _ (by omega) (by omega)).mono ?_; rintro e w' ⟨rfl, rfl⟩))
      go_ret
      refine ⟨ret_int ?_, rfl⟩
      rw [e.out]
      rw [core_and]; exact bits_and_low _ _ hA0 hA1 hB0 hB1
    · go_enter Try.func22, Try.ntmps22
      go_wp2_with (first | (go_at_call 18; refine (reflow_any _ _ _ (by first | omega | exact (wrapU_bd _).1 | exact bits_lo_u64 _ _ _) (by first | omega | exact (wrapU_bd _).2 | (have := bits_hi_u64 .or (a % 4294967296) (b % 4294967296); have := bits_hi_u64 .and (a % 4294967296) (b % 4294967296); have := bits_hi_u64 .xor (a % 4294967296) (b % 4294967296); omega))).mono ?_; rintro e w' ⟨rfl, rfl⟩) | (go_at_call 24; refine (power_any _ _ (by omega) (by omega)).mono ?_; rintro e w' ⟨rfl, rfl⟩) | (go_at_call 20; refine (refsign_any _ _ _ (by omega) (by omega)).mono ?_; rintro e w' ⟨rfl, rfl⟩))
      go_ret
      refine ⟨ret_int ?_, rfl⟩
      rw [e.out]
      rw [core_xor]; exact bits_xor_low _ _ hA0 hA1 hB0 hB1
    · go_enter Try.func22, Try.ntmps22
      go_wp2_with (first | (go_at_call 18; refine (reflow_any _ _ _ (by first | omega | exact (wrapU_bd _).1 | exact bits_lo_u64 _ _ _) (by first | omega | exact (wrapU_bd _).2 | (have := bits_hi_u64 .or (a % 4294967296) (b % 4294967296); have := bits_hi_u64 .and (a % 4294967296) (b % 4294967296); have := bits_hi_u64 .xor (a % 4294967296) (b % 4294967296); omega))).mono ?_; rintro e w' ⟨rfl, rfl⟩) | (go_at_call 24; refine (power_any _ _ (by omega) (by omega)).mono ?_; rintro e w' ⟨rfl, rfl⟩) | (go_at_call 20; refine (refsign_any _ _ _ (by omega) (by omega)).mono ?_; rintro e w' ⟨rfl, rfl⟩))
      go_ret
      refine ⟨ret_int ?_, rfl⟩
      rw [e.out]
      rw [core_lsh]; first | exact wrap_low _ | (rw [wrap_low, Int.zero_sub]) 
    · go_enter Try.func22, Try.ntmps22
      go_wp2_with (first | (go_at_call 18; refine (reflow_any _ _ _ (by first | omega | exact (wrapU_bd _).1 | exact bits_lo_u64 _ _ _) (by first | omega | exact (wrapU_bd _).2 | (have := bits_hi_u64 .or (a % 4294967296) (b % 4294967296); have := bits_hi_u64 .and (a % 4294967296) (b % 4294967296); have := bits_hi_u64 .xor (a % 4294967296) (b % 4294967296); omega))).mono ?_; rintro e w' ⟨rfl, rfl⟩) | (go_at_call 24; refine (power_any _ _ (by omega) (by omega)).mono ?_; rintro e w' ⟨rfl, rfl⟩) | (go_at_call 20; refine (refsign_any _ _ _ (by omega) (by omega)).mono ?_; rintro e w' ⟨rfl, rfl⟩))
      go_ret
      refine ⟨ret_int ?_, rfl⟩
      rw [e.out]
      rw [core_rsh]; first | done | omega
    · go_enter Try.func22, Try.ntmps22
      go_wp2_with (first | (go_at_call 18; refine (reflow_any _ _ _ (by first | omega | exact (wrapU_bd _).1 | exact bits_lo_u64 _ _ _) (by first | omega | exact (wrapU_bd _).2 | (have := bits_hi_u64 .or (a % 4294967296) (b % 4294967296); have := bits_hi_u64 .and (a % 4294967296) (b % 4294967296); have := bits_hi_u64 .xor (a % 4294967296) (b % 4294967296); omega))).mono ?_; rintro e w' ⟨rfl, rfl⟩) | (go_at_call 24; refine (power_any _ _ (by omega) (by omega)).mono ?_; rintro e w' ⟨rfl, rfl⟩) | (go_at_call 20; refine (refsign_any _ _ _ (by omega) (by omega)).mono ?_; rintro e w' ⟨rfl, rfl⟩))
      go_ret
      refine ⟨ret_int ?_, rfl⟩
      rw [e.out]
      rw [core_arsh]; exact es.out
    · go_enter Try.func22, Try.ntmps22
      go_wp2_with (first | (go_at_call 18; refine (reflow_any _ _ _ (by first | omega | exact (wrapU_bd _).1 | exact bits_lo_u64 _ _ _) (by first | omega | exact (wrapU_bd _).2 | (have := bits_hi_u64 .or (a % 4294967296) (b % 4294967296); have := bits_hi_u64 .and (a % 4294967296) (b % 4294967296); have := bits_hi_u64 .xor (a % 4294967296) (b % 4294967296); omega))).mono ?_; rintro e w' ⟨rfl, rfl⟩) | (go_at_call 24; refine (power_any _ _ (by omega) (by omega)).mono ?_; rintro e w' ⟨rfl, rfl⟩) | (go_at_call 20; refine (refsign_any _ _ _ (by omega) (by omega)).mono ?_; rintro e w' ⟨rfl, rfl⟩))
      go_ret
      refine ⟨ret_int ?_, rfl⟩
      rw [e.out]
      rw [core_neg]; first | exact wrap_low _ | (rw [wrap_low, Int.zero_sub]) 
    · go_enter Try.func22, Try.ntmps22
      go_wp2_with (first | (go_at_call 18; refine (reflow_any _ _ _ (by first | omega | exact (wrapU_bd _).1 | exact bits_lo_u64 _ _ _) (by first | omega | exact (wrapU_bd _).2 | (have := bits_hi_u64 .or (a % 4294967296) (b % 4294967296); have := bits_hi_u64 .and (a % 4294967296) (b % 4294967296); have := bits_hi_u64 .xor (a % 4294967296) (b % 4294967296); omega))).mono ?_; rintro e w' ⟨rfl, rfl⟩) | (go_at_call 24; refine (power_any _ _ (by omega) (by omega)).mono ?_; rintro e w' ⟨rfl, rfl⟩) | (go_at_call 20; refine (refsign_any _ _ _ (by omega) (by omega)).mono ?_; rintro e w' ⟨rfl, rfl⟩))
      go_ret
      refine ⟨ret_int ?_, rfl⟩
      rw [e.out]
      rw [core_mov]; first | done | omega
    · go_enter Try.func22, Try.ntmps22
      go_wp2_with (first | (go_at_call 18; refine (reflow_any _ _ _ (by first | omega | exact (wrapU_bd _).1 | exact bits_lo_u64 _ _ _) (by first | omega | exact (wrapU_bd _).2 | (have := bits_hi_u64 .or (a % 4294967296) (b % 4294967296); have := bits_hi_u64 .and (a % 4294967296) (b % 4294967296); have := bits_hi_u64 .xor (a % 4294967296) (b % 4294967296); omega))).mono ?_; rintro e w' ⟨rfl, rfl⟩) | (go_at_call 24; refine (power_any _ _ (by omega) (by omega)).mono ?_; rintro e w' ⟨rfl, rfl⟩) | (go_at_call 20; refine (refsign_any _ _ _ (by omega) (by omega)).mono ?_; rintro e w' ⟨rfl, rfl⟩))
      go_ret
      refine ⟨ret_int ?_, rfl⟩
      rw [e.out]
      rw [core_none _ _ _ _ _ _ n1 n2 n3 n4 n5 n6 n7 n8 n9 n10 n11 n12 n13]
  · have hb1 : 1 ≤ b % 4294967296 := by omega
    have eB := Lib.hid hz
    clear hz
    rcases op_cases op with rfl | rfl | rfl | rfl | rfl | rfl | rfl | rfl | rfl | rfl | rfl | rfl | rfl | ⟨n1, n2, n3, n4, n5, n6, n7, n8, n9, n10, n11, n12, n13⟩
    · go_enter Try.func22, Try.ntmps22
      go_wp2_with (first | (go_at_call 18; refine (reflow_any _ _ _ (by first | omega | exact (wrapU_bd _).1 | exact bits_lo_u64 _ _ _) (by first | omega | exact (wrapU_bd _).2 | (have := bits_hi_u64 .or (a % 4294967296) (b % 4294967296); have := bits_hi_u64 .and (a % 4294967296) (b % 4294967296); have := bits_hi_u64 .xor (a % 4294967296) (b % 4294967296); omega))).mono ?_; rintro e w' ⟨rfl, rfl⟩) | (go_at_call 24; refine (power_any _ _ (by omega) (by omega)).mono ?_; rintro e w' ⟨rfl, rfl⟩) | (go_at_call 20; refine (refsign_any _ _ _ (by omega) (by omega)).mono ?_; rintro e w' ⟨rfl, rfl⟩))
      go_ret
      refine ⟨ret_int ?_, rfl⟩
      rw [e.out]
      rw [core_add]; rw [IntKind.wrap_u32']; omega
    · go_enter Try.func22, Try.ntmps22
      go_wp2_with (first | (go_at_call 18; refine (reflow_any _ _ _ (by first | omega | exact (wrapU_bd _).1 | exact bits_lo_u64 _ _ _) (by first | omega | exact (wrapU_bd _).2 | (have := bits_hi_u64 .or (a % 4294967296) (b % 4294967296); have := bits_hi_u64 .and (a % 4294967296) (b % 4294967296); have := bits_hi_u64 .xor (a % 4294967296) (b % 4294967296); omega))).mono ?_; rintro e w' ⟨rfl, rfl⟩) | (go_at_call 24; refine (power_any _ _ (by omega) (by omega)).mono ?_; rintro e w' ⟨rfl, rfl⟩) | (go_at_call 20; refine (refsign_any _ _ _ (by omega) (by omega)).mono ?_; rintro e w' ⟨rfl, rfl⟩))
      go_ret
      refine ⟨ret_int ?_, rfl⟩
      rw [e.out]
      rw [core_sub]; first | exact wrap_low _ | (rw [IntKind.wrap_u32']; omega)
    · go_enter Try.func22, Try.ntmps22
      go_wp2_with (first | (go_at_call 18; refine (reflow_any _ _ _ (by first | omega | exact (wrapU_bd _).1 | exact bits_lo_u64 _ _ _) (by first | omega | exact (wrapU_bd _).2 | (have := bits_hi_u64 .or (a % 4294967296) (b % 4294967296); have := bits_hi_u64 .and (a % 4294967296) (b % 4294967296); have := bits_hi_u64 .xor (a % 4294967296) (b % 4294967296); omega))).mono ?_; rintro e w' ⟨rfl, rfl⟩) | (go_at_call 24; refine (power_any _ _ (by omega) (by omega)).mono ?_; rintro e w' ⟨rfl, rfl⟩) | (go_at_call 20; refine (refsign_any _ _ _ (by omega) (by omega)).mono ?_; rintro e w' ⟨rfl, rfl⟩))
      go_ret
      refine ⟨ret_int ?_, rfl⟩
      rw [e.out]
      rw [core_mul]; first | exact wrap_low _ | (rw [wrap_low, Int.zero_sub]) 
    · go_enter Try.func22, Try.ntmps22
      go_wp2_with (first | (go_at_call 18; refine (reflow_any _ _ _ (by first | omega | exact (wrapU_bd _).1 | exact bits_lo_u64 _ _ _) (by first | omega | exact (wrapU_bd _).2 | (have := bits_hi_u64 .or (a % 4294967296) (b % 4294967296); have := bits_hi_u64 .and (a % 4294967296) (b % 4294967296); have := bits_hi_u64 .xor (a % 4294967296) (b % 4294967296); omega))).mono ?_; rintro e w' ⟨rfl, rfl⟩) | (go_at_call 24; refine (power_any _ _ (by omega) (by omega)).mono ?_; rintro e w' ⟨rfl, rfl⟩) | (go_at_call 20; refine (refsign_any _ _ _ (by omega) (by omega)).mono ?_; rintro e w' ⟨rfl, rfl⟩))
      go_ret
      refine ⟨ret_int ?_, rfl⟩
      rw [e.out]
      rw [core_div]; rw [if_neg eB.out]; try omega
    · go_enter Try.func22, Try.ntmps22
      go_wp2_with (first | (go_at_call 18; refine (reflow_any _ _ _ (by first | omega | exact (wrapU_bd _).1 | exact bits_lo_u64 _ _ _) (by first | omega | exact (wrapU_bd _).2 | (have := bits_hi_u64 .or (a % 4294967296) (b % 4294967296); have := bits_hi_u64 .and (a % 4294967296) (b % 4294967296); have := bits_hi_u64 .xor (a % 4294967296) (b % 4294967296); omega))).mono ?_; rintro e w' ⟨rfl, rfl⟩) | (go_at_call 24; refine (power_any _ _ (by omega) (by omega)).mono ?_; rintro e w' ⟨rfl, rfl⟩) | (go_at_call 20; refine (refsign_any _ _ _ (by omega) (by omega)).mono ?_; rintro e w' ⟨rfl, rfl⟩))
      go_ret
      refine ⟨ret_int ?_, rfl⟩
      rw [e.out]
      rw [core_mod]; rw [if_neg eB.out]; try omega
    · go_enter Try.func22, Try.ntmps22
      go_wp2_with (first | (go_at_call 18; refine (reflow_any _ _ _ (by first | omega | exact (wrapU_bd _).1 | exact bits_lo_u64 _ _ _) (by first | omega | exact (wrapU_bd _).2 | (have := bits_hi_u64 .or (a % 4294967296) (b % 4294967296); have := bits_hi_u64 .and (a % 4294967296) (b % 4294967296); have := bits_hi_u64 .xor (a % 4294967296) (b % 4294967296); omega))).mono ?_; rintro e w' ⟨rfl, rfl⟩) | (go_at_call 24; refine (power_any _ _ (by omega) (by omega)).mono ?_; rintro e w' ⟨rfl, rfl⟩) | (go_at_call 20; refine (refsign_any _ _ _ (by omega) (by omega)).mono ?_; rintro e w' ⟨rfl, rfl⟩))
      go_ret
      refine ⟨ret_int ?_, rfl⟩
      rw [e.out]
      rw [core_or]; exact bits_or_low _ _ hA0 hA1 hB0 hB1
    · go_enter Try.func22, Try.ntmps22
      go_wp2_with (first | (go_at_call 18; refine (reflow_any _ _ _ (by first | omega | exact (wrapU_bd _).1 | exact bits_lo_u64 _ _ _) (by first | omega | exact (wrapU_bd _).2 | (have := bits_hi_u64 .or (a % 4294967296) (b % 4294967296); have := bits_hi_u64 .and (a % 4294967296) (b % 4294967296); have := bits_hi_u64 .xor (a % 4294967296) (b % 4294967296); omega))).mono ?_; rintro e w' ⟨rfl, rfl⟩) | (go_at_call 24; refine (power_any _ _ (by omega) (by omega)).mono ?_; rintro e w' ⟨rfl, rfl⟩) | (go_at_call 20; refine (refsign_any _ _ _ (by omega) (by omega)).mono ?_; rintro e w' ⟨rfl, rfl⟩))
      go_ret
      refine ⟨ret_int ?_, rfl⟩
      rw [e.out]
      rw [core_and]; exact bits_and_low _ _ hA0 hA1 hB0 hB1
    · go_enter Try.func22, Try.ntmps22
      go_wp2_with (first | (go_at_call 18; refine (reflow_any _ _ _ (by first | omega | exact (wrapU_bd _).1 | exact bits_lo_u64 _ _ _) (by first | omega | exact (wrapU_bd _).2 | (have := bits_hi_u64 .or (a % 4294967296) (b % 4294967296); have := bits_hi_u64 .and (a % 4294967296) (b % 4294967296); have := bits_hi_u64 .xor (a % 4294967296) (b % 4294967296); omega))).mono ?_; rintro e w' ⟨rfl, rfl⟩) | (go_at_call 24; refine (power_any _ _ (by omega) (by omega)).mono ?_; rintro e w' ⟨rfl, rfl⟩) | (go_at_call 20; refine (refsign_any _ _ _ (by omega) (by omega)).mono ?_; rintro e w' ⟨rfl, rfl⟩))
      go_ret
      refine ⟨ret_int ?_, rfl⟩
      rw [e.out]
      rw [core_xor]; exact bits_xor_low _ _ hA0 hA1 hB0 hB1
    · go_enter Try.func22, Try.ntmps22
      go_wp2_with (first | (go_at_call 18; refine (reflow_any _ _ _ (by first | omega | exact (wrapU_bd _).1 | exact bits_lo_u64 _ _ _) (by first | omega | exact (wrapU_bd _).2 | (have := bits_hi_u64 .or (a % 4294967296) (b % 4294967296); have := bits_hi_u64 .and (a % 4294967296) (b % 4294967296); have := bits_hi_u64 .xor (a % 4294967296) (b % 4294967296); omega))).mono ?_; rintro e w' ⟨rfl, rfl⟩) | (go_at_call 24; refine (power_any _ _ (by omega) (by omega)).mono ?_; rintro e w' ⟨rfl, rfl⟩) | (go_at_call 20; refine (refsign_any _ _ _ (by omega) (by omega)).mono ?_; rintro e w' ⟨rfl, rfl⟩))
      go_ret
      refine ⟨ret_int ?_, rfl⟩
      rw [e.out]
      rw [core_lsh]; first | exact wrap_low _ | (rw [wrap_low, Int.zero_sub]) 
    · go_enter Try.func22, Try.ntmps22
      go_wp2_with (first | (go_at_call 18; refine (reflow_any _ _ _ (by first | omega | exact (wrapU_bd _).1 | exact bits_lo_u64 _ _ _) (by first | omega | exact (wrapU_bd _).2 | (have := bits_hi_u64 .or (a % 4294967296) (b % 4294967296); have := bits_hi_u64 .and (a % 4294967296) (b % 4294967296); have := bits_hi_u64 .xor (a % 4294967296) (b % 4294967296); omega))).mono ?_; rintro e w' ⟨rfl, rfl⟩) | (go_at_call 24; refine (power_any _ _ (by omega) (by omega)).mono ?_; rintro e w' ⟨rfl, rfl⟩) | (go_at_call 20; refine (refsign_any _ _ _ (by omega) (by omega)).mono ?_; rintro e w' ⟨rfl, rfl⟩))
      go_ret
      refine ⟨ret_int ?_, rfl⟩
      rw [e.out]
      rw [core_rsh]; first | done | omega
    · go_enter Try.func22, Try.ntmps22
      go_wp2_with (first | (go_at_call 18; refine (reflow_any _ _ _ (by first | omega | exact (wrapU_bd _).1 | exact bits_lo_u64 _ _ _) (by first | omega | exact (wrapU_bd _).2 | (have := bits_hi_u64 .or (a % 4294967296) (b % 4294967296); have := bits_hi_u64 .and (a % 4294967296) (b % 4294967296); have := bits_hi_u64 .xor (a % 4294967296) (b % 4294967296); omega))).mono ?_; rintro e w' ⟨rfl, rfl⟩) | (go_at_call 24; refine (power_any _ _ (by omega) (by omega)).mono ?_; rintro e w' ⟨rfl, rfl⟩) | (go_at_call 20; refine (refsign_any _ _ _ (by omega) (by omega)).mono ?_; rintro e w' ⟨rfl, rfl⟩))
      go_ret
      refine ⟨ret_int ?_, rfl⟩
      rw [e.out]
      rw [core_arsh]; exact es.out
    · go_enter Try.func22, Try.ntmps22
      go_wp2_with (first | (go_at_call 18; refine (reflow_any _ _ _ (by first | omega | exact (wrapU_bd _).1 | exact bits_lo_u64 _ _ _) (by first | omega | exact (wrapU_bd _).2 | (have := bits_hi_u64 .or (a % 4294967296) (b % 4294967296); have := bits_hi_u64 .and (a % 4294967296) (b % 4294967296); have := bits_hi_u64 .xor (a % 4294967296) (b % 4294967296); omega))).mono ?_; rintro e w' ⟨rfl, rfl⟩) | (go_at_call 24; refine (power_any _ _ (by omega) (by omega)).mono ?_; rintro e w' ⟨rfl, rfl⟩) | (go_at_call 20; refine (refsign_any _ _ _ (by omega) (by omega)).mono ?_; rintro e w' ⟨rfl, rfl⟩))
      go_ret
      refine ⟨ret_int ?_, rfl⟩
      rw [e.out]
      rw [core_neg]; first | exact wrap_low _ | (rw [wrap_low, Int.zero_sub]) 
    · go_enter Try.func22, Try.ntmps22
      go_wp2_with (first | (go_at_call 18; refine (reflow_any _ _ _ (by first | omega | exact (wrapU_bd _).1 | exact bits_lo_u64 _ _ _) (by first | omega | exact (wrapU_bd _).2 | (have := bits_hi_u64 .or (a % 4294967296) (b % 4294967296); have := bits_hi_u64 .and (a % 4294967296) (b % 4294967296); have := bits_hi_u64 .xor (a % 4294967296) (b % 4294967296); omega))).mono ?_; rintro e w' ⟨rfl, rfl⟩) | (go_at_call 24; refine (power_any _ _ (by omega) (by omega)).mono ?_; rintro e w' ⟨rfl, rfl⟩) | (go_at_call 20; refine (refsign_any _ _ _ (by omega) (by omega)).mono ?_; rintro e w' ⟨rfl, rfl⟩))
      go_ret
      refine ⟨ret_int ?_, rfl⟩
      rw [e.out]
      rw [core_mov]; first | done | omega
    · go_enter Try.func22, Try.ntmps22
      go_wp2_with (first | (go_at_call 18; refine (reflow_any _ _ _ (by first | omega | exact (wrapU_bd _).1 | exact bits_lo_u64 _ _ _) (by first | omega | exact (wrapU_bd _).2 | (have := bits_hi_u64 .or (a % 4294967296) (b % 4294967296); have := bits_hi_u64 .and (a % 4294967296) (b % 4294967296); have := bits_hi_u64 .xor (a % 4294967296) (b % 4294967296); omega))).mono ?_; rintro e w' ⟨rfl, rfl⟩) | (go_at_call 24; refine (power_any _ _ (by omega) (by omega)).mono ?_; rintro e w' ⟨rfl, rfl⟩) | (go_at_call 20; refine (refsign_any _ _ _ (by omega) (by omega)).mono ?_; rintro e w' ⟨rfl, rfl⟩))
      go_ret
      refine ⟨ret_int ?_, rfl⟩
      rw [e.out]
      rw [core_none _ _ _ _ _ _ n1 n2 n3 n4 n5 n6 n7 n8 n9 n10 n11 n12 n13]

theorem refdo_any (op : Int) (wide : Bool) (a b : Int) (w : World) (ha0 : 0 ≤ a) (ha : a < 18446744073709551616) (hb0 : 0 ≤ b) (hb : b < 18446744073709551616) :
    Calls Try.prog 22 #[.int .u8 op, .bool wide, .int .u64 a, .int .u64 b] w fun e w' => e = .returned (.int .u64 (doS op wide a b)) ∧ w = w' := by
  cases wide
  · exact refdo32_any op a b w ha0 ha hb0 hb
  · exact refdo64_any op a b w ha0 ha hb0 hb
end Go.Proofs.Ytaifibnpbkgaiaa
