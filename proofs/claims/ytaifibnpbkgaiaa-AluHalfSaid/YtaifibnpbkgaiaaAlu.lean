/-
  Contracts of the functions of package alu and of firewallref05.Do: what each returns; the world stays. Conditions: the arguments fit their kinds.
-/
import Derived.Test.YtaifibnpbkgaiaaMathAlu
import Derived.Test.YtaifibnpbkgaiaaNums
namespace Go.Proofs.Ytaifibnpbkgaiaa
open Go.RowKit
set_option linter.unusedVariables false
set_option linter.unusedSimpArgs false

theorem do64_any (op a b n m : Int) (w : World) (ha0 : 0 ≤ a) (ha : a < 18446744073709551616) (hb0 : 0 ≤ b) (hb : b < 18446744073709551616) (hn0 : 0 ≤ n) (hn : n < 64) :
    Calls Try.prog 25 #[.int .u8 op, .int .u64 a, .int .u64 b, .int .u64 n, .int .u64 m] w fun e w' => e = .returned (.int .u64 (coreS .u64 op a b n m)) ∧ w = w' := by
  by_cases hz : b = 0
  · subst hz
    go_enter Try.func25, Try.ntmps25
    go_wp2
    all_goals
      go_ret
      refine ⟨ret_int ?_, rfl⟩
      simp_all [coreS, IntKind.wrap_u64, IntKind.wrap_u32']
      try omega
  · have hb1 : 1 ≤ b := by omega
    have hz' : (b == 0) = false := by simpa using hz
    have hzz : ¬ b = 0 := hz
    have H := Lib.hid hzz
    clear hz hzz
    go_enter Try.func25, Try.ntmps25
    go_wp2
    all_goals
      go_ret
      refine ⟨ret_int ?_, rfl⟩
      have hz := H.out
      simp_all [coreS, IntKind.wrap_u32']

theorem do32_any (op a b n m : Int) (w : World) (ha0 : 0 ≤ a) (ha : a < 4294967296) (hb0 : 0 ≤ b) (hb : b < 4294967296) (hn0 : 0 ≤ n) (hn : n < 32) :
    Calls Try.prog 26 #[.int .u8 op, .int .u32 a, .int .u32 b, .int .u64 n, .int .u32 m] w fun e w' => e = .returned (.int .u32 (coreS .u32 op a b n m)) ∧ w = w' := by
  by_cases hz : b = 0
  · subst hz
    go_enter Try.func26, Try.ntmps26
    go_wp2
    all_goals
      go_ret
      refine ⟨ret_int ?_, rfl⟩
      simp_all [coreS, IntKind.wrap_u64, IntKind.wrap_u32']
      try omega
  · have hb1 : 1 ≤ b := by omega
    have hz' : (b == 0) = false := by simpa using hz
    have hzz : ¬ b = 0 := hz
    have H := Lib.hid hzz
    clear hz hzz
    go_enter Try.func26, Try.ntmps26
    go_wp2
    all_goals
      go_ret
      refine ⟨ret_int ?_, rfl⟩
      have hz := H.out
      simp_all [coreS, IntKind.wrap_u32']

theorem do_any (op : Int) (wide : Bool) (a b : Int) (w : World) (ha0 : 0 ≤ a) (ha : a < 18446744073709551616) (hb0 : 0 ≤ b) (hb : b < 18446744073709551616) :
    Calls Try.prog 21 #[.int .u8 op, .bool wide, .int .u64 a, .int .u64 b] w fun e w' => e = .returned (.int .u64 (doS op wide a b)) ∧ w = w' := by
  cases wide
  · have h1 := wrap32_bd a
    have h2 := wrap32_bd b
    have e := Lib.hid (doS_low op a b)
    have h3 := core32_bd op (IntKind.u32.wrap a) (IntKind.u32.wrap b) (b % 32) (sar32 a (b % 32)) h1.1 h1.2 h2.1 h2.2 (wrap32_bd _)
    go_enter Try.func21, Try.ntmps21
    go_wp2_with (go_at_call 26; refine (do32_any _ _ _ _ _ _ h1.1 h1.2 h2.1 h2.2 (by omega) (by omega)).mono ?_; rintro e w' ⟨rfl, rfl⟩)
    go_ret
    refine ⟨ret_int ?_, rfl⟩
    have h4 := core32_bd op (a % 4294967296) (b % 4294967296) (b % 32) (wrap32 a / 2 ^ (b % 32).toNat % 4294967296) (by omega) (by omega) (by omega) (by omega) (by omega)
    rw [e.out, wrapU_in _ h4.1 (by omega), sar32, IntKind.wrap_u32']
  · have e := Lib.hid (doS_wide op a b ha0 ha hb0 hb)
    go_enter Try.func21, Try.ntmps21
    go_wp2_with (go_at_call 25; refine (do64_any _ _ _ _ _ _ ha0 ha hb0 hb (by omega) (by omega)).mono ?_; rintro e w' ⟨rfl, rfl⟩)
    go_ret
    refine ⟨ret_int ?_, rfl⟩
    rw [e.out]
    rfl
end Go.Proofs.Ytaifibnpbkgaiaa
