/-
  Contracts of the functions of packages nums and firewallref01: what each returns; the world stays, or grows alone. Conditions: the arguments fit their kinds.
-/
import Derived.Test.YtaifibnpbkgaiaaMathNums
import Derived.Test.YtaifibnpbkgaiaaProg
import Derived.WalkKit
import Derived.WalkSpells
import Derived.WalkLawsBesides
import Derived.Outline
import Derived.Lib.Hide
namespace Go.Proofs.Ytaifibnpbkgaiaa
open Go.RowKit
set_option linter.unusedVariables false

theorem ret_int {k : IntKind} {a b : Int} (h : a = b) : Ending.returned (.int k a) = .returned (.int k b) := by rw [h]

theorem power_any (n : Int) (w : World) (h0 : 0 ≤ n) (h1 : n < 64) :
    Calls Try.prog 24 #[.int .i64 n] w fun e w' => e = .returned (.int .u64 (2 ^ n.toNat)) ∧ w = w' := by
  obtain ⟨m, rfl⟩ : ∃ m : Nat, n = m := ⟨n.toNat, by omega⟩
  go_enter Try.func24, Try.ntmps24
  go_wp2
  go_loop [3, 4] (fun p i => ∃ k : Nat, k ≤ m ∧ i = .int .i64 k ∧ p = .int .u64 (2 ^ k)) (fun _ i => m - (intOf i).toNat)
  case atStart => exact ⟨0, Nat.zero_le _, rfl, rfl⟩
  case round =>
    obtain ⟨k, hk, rfl, rfl⟩ := hrel
    by_cases hlt : k < m
    · have hs := pow_step k (by omega)
      go_wp2
      go_round
      case rel => exact ⟨k + 1, by omega, by go_num, rfl⟩
      case measure => simp [intOf]; omega
    · obtain rfl : k = m := by omega
      go_wp2
      go_ret
      exact ⟨by simp, rfl⟩

theorem reflow_any (v n : Int) (w : World) (h0 : 0 ≤ v) (h1 : v < 18446744073709551616) :
    Calls Try.prog 18 #[.int .u64 v, .int .i64 n] w fun e w' => e = .returned (.int .u64 (lowS v n)) ∧ w = w' := by
  have hp := two_pow_pos n.toNat
  by_cases ha : 64 ≤ n
  · go_enter Try.func18, Try.ntmps18
    go_wp2
    go_ret
    exact ⟨by simp [lowS, ha], rfl⟩
  · by_cases hb : n ≤ 0
    · go_enter Try.func18, Try.ntmps18
      go_wp2
      go_ret
      exact ⟨by rw [lowS, if_neg (by omega), show n.toNat = 0 by omega]; simp, rfl⟩
    · go_enter Try.func18, Try.ntmps18
      go_wp2_with (go_at_call 24; refine (power_any _ _ (by omega) (by omega)).mono ?_; rintro e w' ⟨rfl, rfl⟩)
      go_ret
      exact ⟨ret_int (by rw [lowS, if_neg (by omega)]), rfl⟩

theorem low_any (v n : Int) (w : World) (h0 : 0 ≤ v) (h1 : v < 18446744073709551616) :
    Calls Try.prog 17 #[.int .u64 v, .int .i64 n] w fun e w' => e = .returned (.int .u64 (lowS v n)) ∧ w = w' := by
  by_cases ha : 64 ≤ n
  · go_enter Try.func17, Try.ntmps17
    go_wp2
    go_ret
    exact ⟨by simp [lowS, ha], rfl⟩
  · have hm := and_mask v n.toNat h0 h1 (by omega)
    by_cases hb : n < 0
    · have e0 : n.toNat = 0 := by omega
      have H := Lib.hid e0
      have hm0 := hm
      rw [e0, Int.pow_zero] at hm0
      clear e0 hm
      go_enter Try.func17, Try.ntmps17
      go_wp2
      go_ret
      exact ⟨ret_int (by rw [lowS, if_neg (by omega), H.out]; simpa [IntKind.wrap_u64] using hm0), rfl⟩
    · go_enter Try.func17, Try.ntmps17
      go_wp2
      go_ret
      exact ⟨ret_int (by rw [lowS, if_neg (by omega)]), rfl⟩

theorem sign_any (v n : Int) (w : World) (h0 : 0 ≤ v) (h1 : v < 18446744073709551616) :
    Calls Try.prog 19 #[.int .u64 v, .int .i64 n] w fun e w' => e = .returned (.int .u64 (signS v n)) ∧ w = w' := by
  by_cases ha : n ≤ 0
  · go_enter Try.func19, Try.ntmps19
    go_wp2
    go_ret
    exact ⟨by simp [signS, ha], rfl⟩
  · by_cases hb : 64 < n
    · go_enter Try.func19, Try.ntmps19
      go_wp2
      go_ret
      refine ⟨ret_int ?_, rfl⟩
      rw [signS, if_neg (by omega), if_pos (by omega), IntKind.wrap_u64]
      unfold wrap64
      omega
    · have hs := sign_way v n h0 h1 (by omega) (by omega)
      have H := Lib.hid hs
      clear hs
      go_enter Try.func19, Try.ntmps19
      go_wp2
      go_ret
      exact ⟨ret_int H.out, rfl⟩

theorem refsign_any (v n : Int) (w : World) (h0 : 0 ≤ v) (h1 : v < 18446744073709551616) :
    Calls Try.prog 20 #[.int .u64 v, .int .i64 n] w fun e w' => e = .returned (.int .u64 (signS v n)) ∧ w = w' := by
  have hbd := lowS_bd v n h0 h1
  by_cases ha : n ≤ 0
  · have e0 : lowS v n = 0 := by rw [lowS, if_neg (by omega), show n.toNat = 0 by omega]; simp
    go_enter Try.func20, Try.ntmps20
    go_wp2_with (go_at_call 18; refine (reflow_any _ _ _ (by omega) (by omega)).mono ?_; rintro e w' ⟨rfl, rfl⟩)
    go_ret
    exact ⟨by simp [signS, ha], rfl⟩
  · by_cases hb : 64 ≤ n
    · have e0 : lowS v n = v := by rw [lowS, if_pos hb]
      go_enter Try.func20, Try.ntmps20
      go_wp2_with (go_at_call 18; refine (reflow_any _ _ _ (by omega) (by omega)).mono ?_; rintro e w' ⟨rfl, rfl⟩)
      go_ret
      exact ⟨ret_int (by rw [signS, if_neg (by omega), if_pos (by omega)]), rfl⟩
    · have e0 : lowS v n = v % 2 ^ n.toNat := by rw [lowS, if_neg hb]
      have H := Lib.hid e0
      by_cases hc : lowS v n < 2 ^ (n.toNat - 1)
      · clear e0
        go_enter Try.func20, Try.ntmps20
        go_wp2_with (first | (go_at_call 18; refine (reflow_any _ _ _ (by omega) (by omega)).mono ?_; rintro e w' ⟨rfl, rfl⟩) | (go_at_call 24; refine (power_any _ _ (by omega) (by omega)).mono ?_; rintro e w' ⟨rfl, rfl⟩))
        go_ret
        refine ⟨ret_int ?_, rfl⟩
        rw [H.out] at hc
        rw [H.out, signS, if_neg (by omega), if_neg (by omega), if_pos hc]
      · have hr := ref_sign v n (by omega) (by omega) (by rw [← e0]; exact hc)
        have H2 := Lib.hid hr
        clear e0 hr
        go_enter Try.func20, Try.ntmps20
        go_wp2_with (first | (go_at_call 18; refine (reflow_any _ _ _ (by omega) (by omega)).mono ?_; rintro e w' ⟨rfl, rfl⟩) | (go_at_call 24; refine (power_any _ _ (by omega) (by omega)).mono ?_; rintro e w' ⟨rfl, rfl⟩))
        go_ret
        exact ⟨ret_int (by rw [H.out]; exact H2.out), rfl⟩

theorem parts_of_M (s : ByteArray) : ∃ M : Nat, (M = s.size ∧ s.size ≤ 8) ∨ (M = 8 ∧ 8 < s.size) := by
  by_cases h : s.size ≤ 8
  · exact ⟨_, .inl ⟨rfl, h⟩⟩
  · exact ⟨8, .inr ⟨rfl, by omega⟩⟩
theorem num_any (s : ByteArray) (w : World) (hs : s.size ≤ maxLen) :
    Calls Try.prog 15 #[.string s] w fun e w' => e = .returned (.int .u64 (numS s)) ∧ w = w' := by
  unfold maxLen at hs
  obtain ⟨M, hM⟩ := parts_of_M s
  have hend := numS_take s M (by omega)
  have H := Lib.hid hend
  have hM8 : M ≤ 8 := by omega
  have hMs : M ≤ s.size := by omega
  clear hend
  rcases hM with ⟨hm, h⟩ | ⟨hm, h⟩
  all_goals
    subst hm
    go_enter Try.func15, Try.ntmps15
    go_wp2
    go_loop [3, 4, 8] (fun v i c => ∃ k : Nat, k ≤ s.size ∧ k ≤ 8 ∧ c = .int .i64 k ∧ v = .int .u64 (numL (s.data.toList.take k))) (fun _ _ c => 8 - (intOf c).toNat)
    case atStart => exact ⟨0, by omega, by omega, rfl, rfl⟩
    case round =>
      obtain ⟨k, hk, hk8, rfl, rfl⟩ := hrel
      by_cases hlt : k < s.size ∧ k < 8
      · obtain ⟨hlt, hlt8⟩ := hlt
        have hw := Lib.hid (num_way s k hlt hlt8)
        go_wp2
        go_round
        case rel => exact ⟨k + 1, by omega, by omega, by go_num, by rw [wrapU_byte, hw.out]⟩
        case measure => simp [intOf]; omega
      · go_wp2
        go_ret
        refine ⟨ret_int ?_, rfl⟩
        rw [← H.out]
        congr 2
        omega

theorem refnum_any (s : ByteArray) (w : World) (hs : s.size ≤ maxLen) :
    Calls Try.prog 16 #[.string s] w fun e w' => e = .returned (.int .u64 (numS s)) ∧ w = w' := by
  unfold maxLen at hs
  obtain ⟨M, hM⟩ := parts_of_M s
  have hend := numS_take s M (by omega)
  have H := Lib.hid hend
  have hM8 : M ≤ 8 := by omega
  have hMs : M ≤ s.size := by omega
  have h00 : numL ((s.data.toList.take M).drop M) = 0 := by rw [List.drop_of_length_le (by simp; omega)]; rfl
  have H0 := Lib.hid h00
  clear hend h00
  rcases hM with ⟨hm, h⟩ | ⟨hm, h⟩
  all_goals
    go_enter Try.func16, Try.ntmps16
    have HM := Lib.hid hm
    clear hm
    go_wp2
    go_loop [3, 4] (fun v i => ∃ I : Int, -1 ≤ I ∧ I < M ∧ i = .int .i64 I ∧ v = .int .u64 (numL ((s.data.toList.take M).drop (I + 1).toNat))) (fun _ i => (intOf i + 1).toNat)
    case atStart =>
      refine ⟨(M : Int) - 1, by omega, by omega, ?_, ?_⟩
      · first | rfl | simp [HM.out]
      · rw [show ((M : Int) - 1 + 1).toNat = M by omega, H0.out]
    case round =>
      obtain ⟨I, hI, hIM, rfl, rfl⟩ := hrel
      by_cases hlt : 0 ≤ I
      · obtain ⟨j, rfl⟩ : ∃ j : Nat, I = j := ⟨I.toNat, by omega⟩
        have hw := Lib.hid (refnum_way s M j hMs hM8 (by omega))
        have hj : j < s.size := by omega
        rw [show ((j : Int) + 1).toNat = j + 1 by omega]
        go_wp2
        go_round
        case rel => exact ⟨(j : Int) - 1, by omega, by omega, rfl, by rw [wrapU_byte, hw.out, show ((j : Int) - 1 + 1).toNat = j by omega]⟩
        case measure => simp [intOf]
      · go_wp2
        go_ret
        refine ⟨ret_int ?_, rfl⟩
        rw [← H.out, show (I + 1).toNat = 0 by omega]
        rfl

theorem info_u8 : (Try.prog.info? 5).map (fun i => (i.zero, i.size, i.bytes)) = some (some (.int .u8 0), 1, 1) := by kernel_rfl

theorem bytes_any (v n : Int) (w : World) (h0 : 0 ≤ v) (h1 : v < 18446744073709551616) :
    Calls Try.prog 13 #[.int .u64 v, .int .i64 n] w fun e w' => e = .returned (.string (bytesS v n)) ∧ Below w.heap.size w w' := by
  by_cases ha : n < 0
  · go_enter Try.func13, Try.ntmps13
    go_wp2
    go_ret
    exact ⟨by rw [bytesS, if_neg (by omega)]; rfl, Below.refl _ _⟩
  by_cases hb : 8 < n
  · go_enter Try.func13, Try.ntmps13
    go_wp2
    go_ret
    exact ⟨by rw [bytesS, if_neg (by omega)]; rfl, Below.refl _ _⟩
  obtain ⟨m, rfl⟩ : ∃ m : Nat, n = m := ⟨n.toNat, by omega⟩
  obtain ⟨i0, hi, hz0, hz1, hz2⟩ := info_parts info_u8
  have hb2 : i0.bytes * m ≤ 281474976710656 := by rw [hz2]; omega
  have hb3 : m ≤ maxLen := by unfold maxLen; omega
  go_enter Try.func13, Try.ntmps13
  go_wp2_with (at_make; go_loud (refine wpList_make_full _ rfl _ _ 40 rfl w.heap.size 5 i0 (.int .u8 0) 1 Try.underlying40 hi hz0 hz1 .i64 .i64 _ _ m rfl rfl rfl rfl hb2 hb3 (Nat.le_refl _) ?_; intro w1 hown hg))
  rw [show ((madeCells (Value.int .u8 0).cells (m * 1)).toList) = rowB v m 0 by rw [rowB_zero, Nat.mul_one]; exact toList_madeCells_one _ _] at hown
  have hbel := (Below.refl w.heap.size w).grown hg (Nat.le_refl _) (by simp)
  clear hi hz0 hz1 hz2 hb2 hb3 hg
  go_wp2
  go_loopw [6, 16] (fun i c wr => ∃ k : Nat, k ≤ m ∧ c = .int .i64 k ∧ wr.ownsRow w.heap.size 5 1 (.slice (some ⟨w.heap.size, 0, none⟩) m m) m (rowB v m k) ∧ Below w.heap.size w wr) (fun _ c _ => m - (intOf c).toNat)
  case atStart => exact ⟨0, by omega, rfl, hown, hbel⟩
  case round =>
    obtain ⟨k, hk, rfl, hown1, hbel1⟩ := hrel
    by_cases hlt : k < m
    · have hst := hown1.stored k (.int .u8 (IntKind.u8.wrap (v / 2 ^ (8 * k))))
      rw [rowB_set v m k hlt] at hst
      have hfr := hown1.frozenAt k
      obtain ⟨u0, hcell⟩ : ∃ u, wr.cell? ⟨w.heap.size, k, none⟩ = some u := by
        rw [hown1.cellAt k (by omega)]
        exact ⟨_, List.getElem?_eq_getElem (by simp [rowB, bytesL_length]; omega)⟩
      go_wp2
      go_roundw
      case rel => exact ⟨k + 1, by omega, by go_num, hst.1, hbel1.grown hst.2 hbel1.size (by simp)⟩
      case measure => simp [intOf]; omega
    · obtain rfl : k = m := by omega
      have hcv := run_convert_bytes_back (P := Try.prog) wr 40 9 5 ⟨w.heap.size, 0, none⟩ k (bytesL v k) Try.underlying40 Try.underlying5 Try.underlying9 (fun j hj => by
        rw [bytesL_length] at hj
        have : (⟨w.heap.size, 0, none⟩ : Addr).add j = ⟨w.heap.size, j, none⟩ := by unfold Addr.add; split <;> simp_all
        rw [this, hown1.cellAt j (by omega), rowB_full, List.getElem?_map, List.getElem?_eq_getElem (by rw [bytesL_length]; exact hj)]
        rfl)
      rw [bytesL_length] at hcv
      go_wp2
      go_ret
      exact ⟨by rw [bytesS, if_pos (by omega)]; rfl, hbel1⟩

theorem convert_one (wr : World) (x : Int) :
    (convert 40 9 (.slice (some ⟨wr.heap.size, 0, none⟩) 1 1)).run Try.prog (wr.alloc (.cells #[.int .u8 (x % 256)] 5)) =
      .ok (.string ⟨#[UInt8.ofNat (x % 256).toNat]⟩) (wr.alloc (.cells #[.int .u8 (x % 256)] 5)) := by
  have h := run_convert_bytes_back (P := Try.prog) (wr.alloc (.cells #[.int .u8 (x % 256)] 5)) 40 9 5 ⟨wr.heap.size, 0, none⟩ 1 [UInt8.ofNat (x % 256).toNat] Try.underlying40 Try.underlying5 Try.underlying9 (fun j hj => by
    have : j = 0 := by simpa using hj
    subst this
    have e : (⟨wr.heap.size, 0, none⟩ : Addr).add 0 = ⟨wr.heap.size, 0, none⟩ := rfl
    rw [e, World.cell?_alloc_mark]
    show some (Value.int .u8 (x % 256)) = some (Value.int .u8 ((UInt8.ofNat (x % 256).toNat).toNat : Int))
    rw [u8_ofNat_toNat])
  exact h

theorem refbytes_any (v n : Int) (w : World) (h0 : 0 ≤ v) (h1 : v < 18446744073709551616) :
    Calls Try.prog 14 #[.int .u64 v, .int .i64 n] w fun e w' => e = .returned (.string (bytesS v n)) ∧ Below w.heap.size w w' := by
  by_cases ha : n < 0
  · go_enter Try.func14, Try.ntmps14
    go_wp2
    go_ret
    exact ⟨by rw [bytesS, if_neg (by omega)]; rfl, Below.refl _ _⟩
  by_cases hb : 8 < n
  · go_enter Try.func14, Try.ntmps14
    go_wp2
    go_ret
    exact ⟨by rw [bytesS, if_neg (by omega)]; rfl, Below.refl _ _⟩
  obtain ⟨m, rfl⟩ : ∃ m : Nat, n = m := ⟨n.toNat, by omega⟩
  go_enter Try.func14, Try.ntmps14
  go_wp2
  go_loopw [0, 5, 6] (fun x s c wr => ∃ k : Nat, k ≤ m ∧ c = .int .i64 k ∧ s = .string ⟨(bytesL v k).toArray⟩ ∧ x = .int .u64 (v / 256 ^ k) ∧ Below w.heap.size w wr) (fun _ _ c _ => m - (intOf c).toNat)
  case atStart => exact ⟨0, by omega, rfl, rfl, by simp, Below.refl _ _⟩
  case round =>
    obtain ⟨k, hk, rfl, rfl, rfl, hbel⟩ := hrel
    have hx0 : 0 ≤ v / 256 ^ k := Int.ediv_nonneg h0 (by have : (0 : Int) < 256 ^ k := Int.pow_pos (by decide); omega)
    have hx1 : v / 256 ^ k ≤ v := Int.ediv_le_self _ h0
    by_cases hlt : k < m
    · have hcv := convert_one wr (v / 256 ^ k)
      have hap : (⟨(bytesL v k).toArray⟩ : ByteArray) ++ ⟨#[UInt8.ofNat (v / 256 ^ k % 256).toNat]⟩ = ⟨(bytesL v (k + 1)).toArray⟩ := by
        rw [bytesL_snoc, ← ByteArray.append_eq]
        simp [ByteArray.ext_iff]
      have H := Lib.hid hap
      have hlen : (bytesL v k).length ≤ 8 := by rw [bytesL_length]; omega
      clear hap
      go_wp2
      go_roundw
      case rel => exact ⟨k + 1, by omega, by go_num, by rw [H.out], by rw [Int.pow_succ, Int.ediv_ediv_of_nonneg (by have : (0 : Int) < 256 ^ k := Int.pow_pos (by decide); omega)], hbel.alloc hbel.size _⟩
      case measure => simp [intOf]; omega
    · obtain rfl : k = m := by omega
      go_wp2
      go_ret
      exact ⟨by rw [bytesS, if_pos (by omega)]; rfl, hbel⟩

end Go.Proofs.Ytaifibnpbkgaiaa
