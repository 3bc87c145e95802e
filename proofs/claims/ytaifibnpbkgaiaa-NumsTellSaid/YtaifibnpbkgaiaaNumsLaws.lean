/-
  The walks of the laws of chapter 01 (numbers as bytes): each returns true, and nothing that was there is changed. Conditions: the arguments fit their kinds.
-/
import Derived.Test.YtaifibnpbkgaiaaNums
import Derived.OpenShut
namespace Go.Proofs.Ytaifibnpbkgaiaa
open Go.RowKit
set_option linter.unusedVariables false

/-- A callee that only makes memory, behind others that did. -/
theorem after {P : Program} {f : FuncId} {args : Array Value} {w0 w : World} {r : Ending} (hb : Below w0.heap.size w0 w)
    (h : Calls P f args w fun e w' => e = r ∧ Below w.heap.size w w') : Calls P f args w fun e w' => e = r ∧ Below w0.heap.size w0 w' :=
  h.mono fun _ _ ⟨he, hb'⟩ => ⟨he, hb.trans (hb'.mono hb.size)⟩

theorem numtold_any (w : World) : Calls Try.prog 12 #[] w fun e w' => e = .returned (.bool true) ∧ Below w.heap.size w w' := by
  have f1 : numS ⟨#[1, 2]⟩ = 513 := by kernel_rfl
  have f2 : numS ⟨#[]⟩ = 0 := by kernel_rfl
  have f3 : numS ⟨#[255, 255, 255, 255, 255, 255, 255, 255, 255]⟩ = 18446744073709551615 := by kernel_rfl
  have f4 : bytesS 513 2 = ⟨#[1, 2]⟩ := by kernel_rfl
  have f5 : bytesS 513 1 = ⟨#[1]⟩ := by kernel_rfl
  have f6 : bytesS 513 9 = ⟨#[]⟩ := by kernel_rfl
  have f7 : lowS 513 8 = 1 := by kernel_rfl
  have f8 : lowS 513 64 = 513 := by kernel_rfl
  have f9 : lowS 513 (-1) = 0 := by kernel_rfl
  have f10 : signS 128 8 = 18446744073709551488 := by kernel_rfl
  have f11 : signS 127 8 = 127 := by kernel_rfl
  have f12 : signS 1 1 = 18446744073709551615 := by kernel_rfl
  have f13 : signS 5 0 = 0 := by kernel_rfl
  have hb0 : Below w.heap.size w w := Below.refl _ _
  go_enter Try.func12, Try.ntmps12
  go_wp2_with (first | (go_at_call 15; refine (num_any _ _ (by decide)).mono ?_; rintro e w' ⟨rfl, rfl⟩) | (go_at_call 13; refine (after (by assumption) (bytes_any _ _ _ (by decide) (by decide))).mono ?_; rintro e w' ⟨rfl, hb⟩) | (go_at_call 17; refine (low_any _ _ _ (by decide) (by decide)).mono ?_; rintro e w' ⟨rfl, rfl⟩) | (go_at_call 19; refine (sign_any _ _ _ (by decide) (by decide)).mono ?_; rintro e w' ⟨rfl, rfl⟩))
  go_ret
  exact ⟨rfl, by assumption⟩

theorem NumsTell_walk (a0 : ByteArray) (a1 : Int) (a2 : Int) (w : World) (w0 : a0.size ≤ maxLen) (w1 : (Lit.int .u64 a1).wf = true) (w2 : (Lit.int .i64 a2).wf = true) :
    Calls Try.prog 3 #[.string a0, .int .u64 a1, .int .i64 a2] w fun e w' => e = .returned (.bool true) ∧ Below w.heap.size w w' := by
  obtain ⟨b1, b2⟩ := bounds_u64 w1
  have hs := w0
  unfold maxLen at hs
  clear w1 w2
  have hb0 : Below w.heap.size w w := Below.refl _ _
  by_cases hlen : 1000 < a0.size
  · go_enter Try.func3, Try.ntmps3
    go_wp2_with (go_at_call 12; refine (numtold_any _).mono ?_; rintro e w' ⟨rfl, hb⟩)
    go_ret
    exact ⟨rfl, by assumption⟩
  · go_enter Try.func3, Try.ntmps3
    go_wp2_with fail
    go_loopw [7] (fun k wr => ∃ K : Int, -1 ≤ K ∧ K ≤ 10 ∧ k = .int .i64 K ∧ Below w.heap.size w wr) (fun k _ => (10 - intOf k).toNat)
    case atStart => exact ⟨-1, by omega, by omega, rfl, hb0⟩
    case round =>
      obtain ⟨K, hK, hK10, rfl, hbr⟩ := hrel
      by_cases hlt : K < 10
      · go_wp2_with (first | (go_at_call 13; refine (after (by assumption) (bytes_any _ _ _ (by omega) (by omega))).mono ?_; rintro e w' ⟨rfl, hb⟩) | (go_at_call 14; refine (after (by assumption) (refbytes_any _ _ _ (by omega) (by omega))).mono ?_; rintro e w' ⟨rfl, hb⟩))
        go_roundw
        case rel => exact ⟨K + 1, by omega, by omega, rfl, by assumption⟩
        case measure => simp [intOf]; omega
      · go_wp2_with (first | (go_at_call 13; refine (after (by assumption) (bytes_any _ _ _ (by omega) (by omega))).mono ?_; rintro e w' ⟨rfl, hb⟩) | (go_at_call 14; refine (after (by assumption) (refbytes_any _ _ _ (by omega) (by omega))).mono ?_; rintro e w' ⟨rfl, hb⟩) | (go_at_call 15; refine (num_any _ _ (by assumption)).mono ?_; rintro e w' ⟨rfl, rfl⟩) | (go_at_call 16; refine (refnum_any _ _ (by assumption)).mono ?_; rintro e w' ⟨rfl, rfl⟩) | (go_at_call 12; refine (after (by assumption) (numtold_any _)).mono ?_; rintro e w' ⟨rfl, hb⟩))
        go_ret
        exact ⟨rfl, by assumption⟩

theorem NumsParts_walk (a0 : Int) (a1 : Int) (w : World) (w0 : (Lit.int .u64 a0).wf = true) (w1 : (Lit.int .i64 a1).wf = true) :
    Calls Try.prog 4 #[.int .u64 a0, .int .i64 a1] w fun e w' => e = .returned (.bool true) ∧ Below w.heap.size w w' := by
  obtain ⟨b1, b2⟩ := bounds_u64 w0
  clear w0 w1
  go_enter Try.func4, Try.ntmps4
  go_wp2_with fail
  go_loop [5] (fun k => ∃ K : Int, -1 ≤ K ∧ K ≤ 67 ∧ k = .int .i64 K) (fun k => (67 - intOf k).toNat)
  case atStart => exact ⟨-1, by omega, by omega, rfl⟩
  case round =>
    obtain ⟨K, hK, hK10, rfl⟩ := hrel
    by_cases hlt : K < 67
    · go_wp2_with (first | (go_at_call 17; refine (low_any _ _ _ (by omega) (by omega)).mono ?_; rintro e w' ⟨rfl, rfl⟩) | (go_at_call 18; refine (reflow_any _ _ _ (by omega) (by omega)).mono ?_; rintro e w' ⟨rfl, rfl⟩) | (go_at_call 19; refine (sign_any _ _ _ (by omega) (by omega)).mono ?_; rintro e w' ⟨rfl, rfl⟩) | (go_at_call 20; refine (refsign_any _ _ _ (by omega) (by omega)).mono ?_; rintro e w' ⟨rfl, rfl⟩))
      go_round
      case rel => exact ⟨K + 1, by omega, by omega, rfl⟩
      case measure => simp [intOf]; omega
    · go_wp2_with (first | (go_at_call 17; refine (low_any _ _ _ (by omega) (by omega)).mono ?_; rintro e w' ⟨rfl, rfl⟩) | (go_at_call 18; refine (reflow_any _ _ _ (by omega) (by omega)).mono ?_; rintro e w' ⟨rfl, rfl⟩) | (go_at_call 19; refine (sign_any _ _ _ (by omega) (by omega)).mono ?_; rintro e w' ⟨rfl, rfl⟩) | (go_at_call 20; refine (refsign_any _ _ _ (by omega) (by omega)).mono ?_; rintro e w' ⟨rfl, rfl⟩) | (go_at_call 12; refine (numtold_any _).mono ?_; rintro e w' ⟨rfl, hb⟩))
      go_ret
      exact ⟨rfl, by assumption⟩

theorem NumsBack_walk (a0 : Int) (a1 : ByteArray) (a2 : ByteArray) (w : World) (w0 : (Lit.int .u64 a0).wf = true) (w1 : a1.size ≤ maxLen) (w2 : a2.size ≤ maxLen) :
    Calls Try.prog 5 #[.int .u64 a0, .string a1, .string a2] w fun e w' => e = .returned (.bool true) ∧ Below w.heap.size w w' := by
  obtain ⟨b1, b2⟩ := bounds_u64 w0
  have hs := w1
  have hs2 := w2
  unfold maxLen at hs hs2
  clear w0
  have hb0 : Below w.heap.size w w := Below.refl _ _
  have hw8 := Lib.hid (numS_bytes8_append a0 a2 b1 (by omega))
  have hsz8 := Lib.hid (size_bytesS a0 8 (by omega))
  go_enter Try.func5, Try.ntmps5
  go_wp2_with fail
  go_loopw [7] (fun k wr => ∃ K : Nat, K ≤ 9 ∧ k = .int .i64 K ∧ Below w.heap.size w wr) (fun k _ => 9 - (intOf k).toNat)
  case atStart => exact ⟨0, by omega, rfl, hb0⟩
  case round =>
    obtain ⟨K, hK, rfl, hbr⟩ := hrel
    by_cases hlt : K ≤ 8
    · have hsz := size_bytesS a0 K hlt
      have hnum := numS_bytesS a0 K hlt b1 (by omega)
      go_wp2_with (first | (go_at_call 13; refine (after (by assumption) (bytes_any _ _ _ (by omega) (by omega))).mono ?_; rintro e w' ⟨rfl, hb⟩) | (go_at_call 15; refine (num_any _ _ (by unfold maxLen; omega)).mono ?_; rintro e w' ⟨rfl, rfl⟩) | (go_at_call 17; refine (low_any _ _ _ (by omega) (by omega)).mono ?_; rintro e w' ⟨rfl, rfl⟩))
      go_roundw
      case rel => exact ⟨K + 1, by omega, by go_num, by assumption⟩
      case measure => simp [intOf]; omega
    · by_cases h1 : 8 < a1.size
      · go_wp2_with (go_at_call 12; refine (after (by assumption) (numtold_any _)).mono ?_; rintro e w' ⟨rfl, hb⟩)
        go_ret
        exact ⟨rfl, by assumption⟩
      · by_cases h2 : 100 < a2.size
        · go_wp2_with (go_at_call 12; refine (after (by assumption) (numtold_any _)).mono ?_; rintro e w' ⟨rfl, hb⟩)
          go_ret
          exact ⟨rfl, by assumption⟩
        · have hnb := numS_bd a1
          have hback := bytesS_numS a1 (by omega)
          have hw := hw8.out
          have hz : (bytesS a0 8).size = 8 := hsz8.out
          have hza : (bytesS a0 8 ++ a2).size = 8 + a2.size := by rw [ByteArray.size_append, hz]
          go_wp2_with (first | (go_at_call 13; refine (after (by assumption) (bytes_any _ _ _ (by omega) (by omega))).mono ?_; rintro e w' ⟨rfl, hb⟩) | (go_at_call 15; refine (num_any _ _ (by first | assumption | (unfold maxLen; omega))).mono ?_; rintro e w' ⟨rfl, rfl⟩) | (go_at_call 12; refine (after (by assumption) (numtold_any _)).mono ?_; rintro e w' ⟨rfl, hb⟩))
          go_ret
          exact ⟨rfl, by assumption⟩

theorem NumsSign_walk (a0 : Int) (a1 : Int) (w : World) (w0 : (Lit.int .u64 a0).wf = true) (w1 : (Lit.int .u8 a1).wf = true) :
    Calls Try.prog 6 #[.int .u64 a0, .int .u8 a1] w fun e w' => e = .returned (.bool true) ∧ Below w.heap.size w w' := by
  obtain ⟨b1, b2⟩ := bounds_u64 w0
  obtain ⟨c1, c2⟩ := bounds_u8 w1
  clear w0 w1
  have hb0 : Below w.heap.size w w := Below.refl _ _
  go_enter Try.func6, Try.ntmps6
  go_wp2_with fail
  obtain ⟨K, hK, hK1, hK2⟩ : ∃ K : Nat, 1 + a1 % 64 = (K : Int) ∧ 1 ≤ K ∧ K ≤ 64 := ⟨(1 + a1 % 64).toNat, by omega, by omega, by omega⟩
  rw [hK]
  have f1 := low_low a0 K hK2 b1 (by omega)
  have f2 := sign_sign a0 K (by omega) hK2 b1 (by omega)
  have f3 := low_sign a0 K (by omega) hK2 b1 (by omega)
  have f4 := sign_low a0 K (by omega) hK2 b1 (by omega)
  have f5 := numS_bytes8 a0 b1 (by omega)
  obtain ⟨g1, g2⟩ := sign_bit a0 K (by omega) hK2 b1 (by omega)
  have hsz8 : (bytesS a0 8).size = 8 := size_bytesS a0 8 (by omega)
  have c3 := lowS_bd a0 K b1 (by omega)
  have c4 := signS_bd a0 K b1 (by omega)
  have hd0 : 0 ≤ a0 / 2 ^ (K - 1) := Int.ediv_nonneg b1 (by have := two_pow_pos (K - 1); omega)
  clear hK
  by_cases hbit : a0 / 2 ^ (K - 1) % 2 = 1
  · have g := g1 hbit
    have hB : (a0 / 2 ^ (K - 1) % 2 == 1) = true := by simp [hbit]
    clear g1 g2 hbit
    repeat (first | (refine (low_any _ _ _ (by omega) (by omega)).mono ?_; rintro e w' ⟨rfl, rfl⟩; go_wp2_with fail) | (refine (sign_any _ _ _ (by omega) (by omega)).mono ?_; rintro e w' ⟨rfl, rfl⟩; go_wp2_with fail))
    go_wp2_with (first | (go_at_call 17; refine (low_any _ _ _ (by omega) (by omega)).mono ?_; rintro e w' ⟨rfl, rfl⟩) | (go_at_call 19; refine (sign_any _ _ _ (by omega) (by omega)).mono ?_; rintro e w' ⟨rfl, rfl⟩) | (go_at_call 13; refine (after (by assumption) (bytes_any _ _ _ (by omega) (by omega))).mono ?_; rintro e w' ⟨rfl, hb⟩) | (go_at_call 15; refine (num_any _ _ (by unfold maxLen; omega)).mono ?_; rintro e w' ⟨rfl, rfl⟩) | (go_at_call 12; refine (after (by assumption) (numtold_any _)).mono ?_; rintro e w' ⟨rfl, hb⟩))
    go_ret
    exact ⟨rfl, by assumption⟩
  · obtain ⟨g, ge⟩ := g2 hbit
    have hB : (a0 / 2 ^ (K - 1) % 2 == 1) = false := by simp [hbit]
    clear g1 g2 hbit
    have hge : (signS a0 K == lowS a0 K) = true := by simp [ge]
    have hg : decide (wrap64 (signS a0 K) < 0) = false := by simp; exact g
    clear ge g
    repeat (first | (refine (low_any _ _ _ (by omega) (by omega)).mono ?_; rintro e w' ⟨rfl, rfl⟩; go_wp2_with fail) | (refine (sign_any _ _ _ (by omega) (by omega)).mono ?_; rintro e w' ⟨rfl, rfl⟩; go_wp2_with fail))
    go_wp2_with (first | (go_at_call 17; refine (low_any _ _ _ (by omega) (by omega)).mono ?_; rintro e w' ⟨rfl, rfl⟩) | (go_at_call 19; refine (sign_any _ _ _ (by omega) (by omega)).mono ?_; rintro e w' ⟨rfl, rfl⟩) | (go_at_call 13; refine (after (by assumption) (bytes_any _ _ _ (by omega) (by omega))).mono ?_; rintro e w' ⟨rfl, hb⟩) | (go_at_call 15; refine (num_any _ _ (by unfold maxLen; omega)).mono ?_; rintro e w' ⟨rfl, rfl⟩) | (go_at_call 12; refine (after (by assumption) (numtold_any _)).mono ?_; rintro e w' ⟨rfl, hb⟩))
    go_ret
    exact ⟨rfl, by assumption⟩
end Go.Proofs.Ytaifibnpbkgaiaa
