/-
  Plain mathematics of numbers as bytes and of their lowest bits: no program in sight. Conditions: none beyond each lemma's own.
-/
import Derived.WalkKit
namespace Go.Proofs.Ytaifibnpbkgaiaa
open Go.RowKit

/-- A text's number: its first byte is the lowest one. -/
def numL : List UInt8 → Int
  | [] => 0
  | b :: t => (b.toNat : Int) + 256 * numL t
/-- The number of a text's first eight bytes. -/
def numS (s : ByteArray) : Int := numL (s.data.toList.take 8)
/-- The lowest bits. -/
def lowS (v n : Int) : Int := if 64 ≤ n then v else v % 2 ^ n.toNat
/-- The lowest bits with their sign told on, as a number without a sign. -/
def signS (v n : Int) : Int :=
  if n ≤ 0 then 0 else if 64 ≤ n then v
  else if v % 2 ^ n.toNat < 2 ^ (n.toNat - 1) then v % 2 ^ n.toNat else v % 2 ^ n.toNat + 18446744073709551616 - 2 ^ n.toNat
/-- The lowest k bytes of a number. -/
def bytesL (v : Int) : Nat → List UInt8
  | 0 => []
  | k + 1 => UInt8.ofNat (v % 256).toNat :: bytesL (v / 256) k
def bytesS (v n : Int) : ByteArray := if 0 ≤ n ∧ n ≤ 8 then ⟨(bytesL v n.toNat).toArray⟩ else ⟨#[]⟩

theorem numL_nonneg : ∀ l, 0 ≤ numL l
  | [] => by simp [numL]
  | b :: t => by have := numL_nonneg t; simp only [numL]; omega
theorem numL_lt : ∀ l, numL l < 256 ^ l.length
  | [] => by simp [numL]
  | b :: t => by
    have := numL_lt t
    have hb : b.toNat < 256 := b.toNat_lt
    simp only [numL, List.length_cons, Int.pow_succ]
    omega
theorem numL_append : ∀ l m, numL (l ++ m) = numL l + 256 ^ l.length * numL m
  | [], m => by simp [numL]
  | b :: t, m => by
    simp only [List.cons_append, numL, List.length_cons, numL_append t m, Int.pow_succ]
    rw [Int.mul_add]
    have e : 256 * (256 ^ t.length * numL m) = 256 ^ t.length * 256 * numL m := by
      rw [Int.mul_comm (256 ^ t.length) 256, Int.mul_assoc]
    omega
theorem pow256 (k : Nat) : (256 : Int) ^ k = 2 ^ (8 * k) := by
  rw [Int.pow_mul]; rfl
theorem pow_le_le (b : Nat) (hb : 1 < b) (m n : Nat) (h : m ≤ n) : (b : Int) ^ m ≤ (b : Int) ^ n := by
  have := Nat.pow_le_pow_of_le hb h
  exact_mod_cast this
theorem pow256_le (k : Nat) (h : k ≤ 8) : (256 : Int) ^ k ≤ 18446744073709551616 := by
  have : (256 : Int) ^ k ≤ 256 ^ 8 := pow_le_le 256 (by decide) _ _ h
  simpa using this
theorem numL_lt8 (l : List UInt8) (h : l.length ≤ 8) : numL l < 18446744073709551616 :=
  Int.lt_of_lt_of_le (numL_lt l) (pow256_le _ h)
theorem numS_bd (s : ByteArray) : 0 ≤ numS s ∧ numS s < 18446744073709551616 :=
  ⟨numL_nonneg _, numL_lt8 _ (by simp; omega)⟩
theorem bytesL_length (v : Int) (k : Nat) : (bytesL v k).length = k := by
  induction k generalizing v with
  | zero => rfl
  | succ k ih => simp [bytesL, ih]
theorem two_pow_pos (n : Nat) : (0 : Int) < 2 ^ n := Int.pow_pos (by decide)
theorem two_pow_lt (n : Nat) (h : n < 64) : (2 : Int) ^ n < 18446744073709551616 := by
  have : (2 : Int) ^ n < 2 ^ 64 := Int.pow_lt_pow_of_lt (by decide) h
  simpa using this
theorem two_pow_le63 (n : Nat) (h : n ≤ 63) : (2 : Int) ^ n ≤ 9223372036854775808 := by
  have : (2 : Int) ^ n ≤ 2 ^ 63 := pow_le_le 2 (by decide) _ _ h
  simpa using this
theorem lowS_bd (v n : Int) (h0 : 0 ≤ v) (h1 : v < 18446744073709551616) : 0 ≤ lowS v n ∧ lowS v n < 18446744073709551616 := by
  unfold lowS
  split
  · exact ⟨h0, h1⟩
  · exact ⟨Int.emod_nonneg _ (by have := two_pow_pos n.toNat; omega), by have := Int.emod_lt_of_pos v (two_pow_pos n.toNat); have := two_pow_lt n.toNat (by omega); omega⟩
theorem signS_bd (v n : Int) (h0 : 0 ≤ v) (h1 : v < 18446744073709551616) : 0 ≤ signS v n ∧ signS v n < 18446744073709551616 := by
  unfold signS
  have hp := two_pow_pos n.toNat
  have a := Int.emod_nonneg v (b := 2 ^ n.toNat) (by omega)
  have b := Int.emod_lt_of_pos v hp
  split
  · omega
  split
  · exact ⟨h0, h1⟩
  have := two_pow_lt n.toNat (by omega)
  split <;> omega
theorem wrapU_in (n : Int) (h0 : 0 ≤ n) (h1 : n < 18446744073709551616) : IntKind.u64.wrap n = n := by
  rw [IntKind.wrap_u64]; omega
theorem wrapU_bd (n : Int) : 0 ≤ IntKind.u64.wrap n ∧ IntKind.u64.wrap n < 18446744073709551616 := by
  rw [IntKind.wrap_u64]; omega

theorem wrapU_byte (b : UInt8) : IntKind.u64.wrap (b.toNat : Int) = b.toNat := wrapU_in _ (by omega) (by have := b.toNat_lt; omega)

/-! the program's own ways -/
theorem pow_step (k : Nat) (h : k < 63) : IntKind.u64.wrap ((2 : Int) ^ k * 2) = 2 ^ (k + 1) := by
  rw [wrapU_in _ (by have := two_pow_pos k; omega) (by have := two_pow_lt (k + 1) (by omega); rw [Int.pow_succ] at this; exact this), Int.pow_succ]
theorem and_mask (v : Int) (n : Nat) (h0 : 0 ≤ v) (h1 : v < 18446744073709551616) (hn : n < 64) :
    bits .and .u64 v (IntKind.u64.wrap (IntKind.u64.wrap (2 ^ n) - 1)) = v % 2 ^ n := by
  have hp := two_pow_pos n
  have hl := two_pow_lt n hn
  rw [wrapU_in (2 ^ n) (by omega) hl, wrapU_in _ (by omega) (by omega)]
  rw [u64_and v _ h0 h1 (by omega) (by omega)]
  have e : ((2 : Int) ^ n - 1).toNat = 2 ^ n - 1 := by
    have : ((2 : Int) ^ n) = ((2 ^ n : Nat) : Int) := by simp
    rw [this]; omega
  rw [e, Nat.and_two_pow_sub_one_eq_mod]
  obtain ⟨V, rfl⟩ := Int.eq_ofNat_of_zero_le h0
  simp
theorem sign_way (v n : Int) (h0 : 0 ≤ v) (h1 : v < 18446744073709551616) (hn0 : 0 < n) (hn : n ≤ 64) :
    IntKind.u64.wrap (wrap64 (IntKind.u64.wrap (v * 2 ^ (64 - n).toNat)) / 2 ^ (64 - n).toNat) = signS v n := by
  obtain ⟨k, rfl⟩ : ∃ k : Nat, n = k := ⟨n.toNat, by omega⟩
  have er : (64 - (k : Int)).toNat = 64 - k := by omega
  rw [er]
  have hr := two_pow_pos (64 - k)
  have e64 : (18446744073709551616 : Int) = 2 ^ k * 2 ^ (64 - k) := by
    rw [← Int.pow_add, show k + (64 - k) = 64 by omega]; rfl
  have e63 : (9223372036854775808 : Int) = 2 ^ (k - 1) * 2 ^ (64 - k) := by
    rw [← Int.pow_add, show k - 1 + (64 - k) = 63 by omega]; rfl
  have ek : (2 : Int) ^ k = 2 ^ (k - 1) * 2 := by rw [← Int.pow_succ]; congr 1; omega
  have hk := two_pow_pos k
  have hm : IntKind.u64.wrap (v * 2 ^ (64 - k)) = v % 2 ^ k * 2 ^ (64 - k) := by
    rw [IntKind.wrap_u64, e64, Int.mul_comm v, Int.mul_comm (2 ^ k), Int.mul_emod_mul_of_pos _ _ hr, Int.mul_comm]
  rw [hm]
  have a := Int.emod_nonneg v (b := 2 ^ k) (by omega)
  have b := Int.emod_lt_of_pos v hk
  generalize hl : v % 2 ^ k = l at *
  have hs : signS v k = if l < 2 ^ (k - 1) then l else l + 18446744073709551616 - 2 ^ k := by
    unfold signS
    simp only [Int.toNat_natCast]
    rw [if_neg (by omega), hl]
    split
    · have hk64 : k = 64 := by omega
      subst hk64
      have : v = l := by rw [← hl]; simp; omega
      subst this
      split
      · rfl
      · simp
    · rfl
  rw [hs]
  by_cases hc : l < 2 ^ (k - 1)
  · rw [if_pos hc]
    have hlt : l * 2 ^ (64 - k) < 9223372036854775808 := by
      rw [e63]; exact Int.mul_lt_mul_of_pos_right hc hr
    have hge : 0 ≤ l * 2 ^ (64 - k) := Int.mul_nonneg a (by omega)
    rw [IntWalk.wrap64_in _ (by omega), Int.mul_ediv_cancel _ (by omega)]
    refine wrapU_in _ a ?_
    have : (2 : Int) ^ k ≤ 18446744073709551616 := by
      have : (2 : Int) ^ k ≤ 2 ^ 64 := pow_le_le 2 (by decide) _ _ (by omega)
      simpa using this
    omega
  · rw [if_neg hc]
    have hge : 9223372036854775808 ≤ l * 2 ^ (64 - k) := by
      rw [e63]; exact Int.mul_le_mul_of_nonneg_right (by omega) (by omega)
    have hlt : l * 2 ^ (64 - k) < 18446744073709551616 := by
      rw [e64]; exact Int.mul_lt_mul_of_pos_right b hr
    have hw : wrap64 (l * 2 ^ (64 - k)) = (l - 2 ^ k) * 2 ^ (64 - k) := by
      rw [Int.sub_mul, ← e64]; unfold wrap64; omega
    rw [hw, Int.mul_ediv_cancel _ (by omega), IntKind.wrap_u64]
    have : (2 : Int) ^ k ≤ 18446744073709551616 := by
      have : (2 : Int) ^ k ≤ 2 ^ 64 := pow_le_le 2 (by decide) _ _ (by omega)
      simpa using this
    omega
theorem ref_sign (v n : Int) (hn0 : 0 < n) (hn : n < 64) (hc : ¬ v % 2 ^ n.toNat < 2 ^ (n.toNat - 1)) :
    IntKind.u64.wrap (v % 2 ^ n.toNat - 2 ^ n.toNat) = signS v n := by
  have hp := two_pow_pos n.toNat
  have a := Int.emod_nonneg v (b := 2 ^ n.toNat) (by omega)
  have b := Int.emod_lt_of_pos v hp
  have := two_pow_lt n.toNat (by omega)
  unfold signS
  rw [if_neg (by omega), if_neg (by omega), if_neg hc, IntKind.wrap_u64]
  omega

/-! rows of bytes -/
theorem bytesL_snoc (k : Nat) : ∀ v : Int, bytesL v (k + 1) = bytesL v k ++ [UInt8.ofNat (v / 256 ^ k % 256).toNat] := by
  induction k with
  | zero => intro v; simp [bytesL]
  | succ k ih =>
    intro v
    have h := ih (v / 256)
    rw [show bytesL v (k + 1 + 1) = UInt8.ofNat (v % 256).toNat :: bytesL (v / 256) (k + 1) from rfl, h]
    rw [show bytesL v (k + 1) = UInt8.ofNat (v % 256).toNat :: bytesL (v / 256) k from rfl]
    rw [List.cons_append, Int.pow_succ, Int.mul_comm (256 ^ k) 256, Int.ediv_ediv_of_nonneg (by decide)]
theorem u8_ofNat_toNat (x : Int) : ((UInt8.ofNat (x % 256).toNat).toNat : Int) = x % 256 := by
  have h : (x % 256).toNat < 256 := by omega
  rw [UInt8.toNat_ofNat_of_lt' (by simpa [UInt8.size] using h)]
  omega
def rowB (v : Int) (m k : Nat) : List Value := (bytesL v k).map (fun b => Value.int .u8 (b.toNat : Int)) ++ List.replicate (m - k) (.int .u8 0)
theorem rowB_zero (v : Int) (m : Nat) : rowB v m 0 = List.replicate m (.int .u8 0) := by simp [rowB, bytesL]
theorem rowB_full (v : Int) (m : Nat) : rowB v m m = (bytesL v m).map (fun b => Value.int .u8 (b.toNat : Int)) := by simp [rowB]
theorem rowB_set (v : Int) (m k : Nat) (h : k < m) : (rowB v m k).set k (.int .u8 (IntKind.u8.wrap (v / 2 ^ (8 * k)))) = rowB v m (k + 1) := by
  have e : IntKind.u8.wrap (v / 2 ^ (8 * k)) = ((UInt8.ofNat (v / 256 ^ k % 256).toNat).toNat : Int) := by
    rw [u8_ofNat_toNat, IntKind.wrap_u8', pow256]
  rw [e]
  unfold rowB
  rw [List.set_append_right _ _ (by simp [bytesL_length]), bytesL_snoc]
  simp only [List.length_map, bytesL_length, Nat.sub_self, List.map_append, List.map_cons, List.map_nil, List.append_assoc]
  congr 1
  rw [show m - k = m - (k + 1) + 1 by omega, List.replicate_succ]
  simp
theorem take_snoc (s : ByteArray) (k : Nat) (h : k < s.size) : s.data.toList.take (k + 1) = s.data.toList.take k ++ [s[k]] := by
  rw [List.take_succ_eq_append_getElem (by simpa using h)]; rfl
theorem num_way (s : ByteArray) (k : Nat) (h : k < s.size) (h8 : k < 8) :
    bits .or .u64 (numL (s.data.toList.take k)) (IntKind.u64.wrap ((s[k].toNat : Int) * 2 ^ (8 * k))) = numL (s.data.toList.take (k + 1)) := by
  have hlen : (s.data.toList.take k).length = k := by simp; have : s.size = s.data.size := rfl; omega
  have hb : s[k].toNat < 256 := s[k].toNat_lt
  have h0 := numL_nonneg (s.data.toList.take k)
  have h1 := numL_lt (s.data.toList.take k)
  rw [hlen] at h1
  have h2 := pow256_le (k + 1) (by omega)
  have h3 := pow256_le k (by omega)
  have hp : (0 : Int) < 256 ^ k := Int.pow_pos (by decide)
  rw [take_snoc s k h, numL_append, hlen]
  rw [← pow256]
  have hx : (s[k].toNat : Int) * 256 ^ k < 18446744073709551616 := by
    have : (s[k].toNat : Int) * 256 ^ k ≤ 255 * 256 ^ k := Int.mul_le_mul_of_nonneg_right (by omega) (by omega)
    rw [Int.pow_succ] at h2
    omega
  have hx0 : 0 ≤ (s[k].toNat : Int) * 256 ^ k := Int.mul_nonneg (by omega) (by omega)
  rw [wrapU_in _ hx0 hx, u64_or _ _ h0 (by omega) hx0 hx]
  obtain ⟨A, hA⟩ := Int.eq_ofNat_of_zero_le h0
  rw [hA] at h1 ⊢
  have e : ((s[k].toNat : Int) * 256 ^ k).toNat = s[k].toNat * 2 ^ (8 * k) := by
    have : ((s[k].toNat : Int) * 256 ^ k) = ((s[k].toNat * 256 ^ k : Nat) : Int) := by simp
    rw [this, Int.toNat_natCast, Nat.pow_mul]
  rw [e, Int.toNat_natCast]
  have hA2 : A < 2 ^ (8 * k) := by
    have : (A : Int) < ((256 ^ k : Nat) : Int) := by simpa using h1
    rw [Nat.pow_mul]
    exact_mod_cast this
  rw [Nat.or_comm, Nat.mul_comm, ← Nat.two_pow_add_eq_or_of_lt hA2]
  simp only [numL, Int.mul_zero, Int.add_zero]
  rw [pow256]
  simp
  rw [Int.add_comm]
theorem numL_drop (l : List UInt8) (j : Nat) (h : j < l.length) : numL (l.drop j) = (l[j].toNat : Int) + 256 * numL (l.drop (j + 1)) := by
  rw [List.drop_eq_getElem_cons h]; rfl
theorem refnum_way (s : ByteArray) (M j : Nat) (hM : M ≤ s.size) (h8 : M ≤ 8) (h : j < M) :
    IntKind.u64.wrap (IntKind.u64.wrap (numL ((s.data.toList.take M).drop (j + 1)) * 256) + (s[j].toNat : Int)) = numL ((s.data.toList.take M).drop j) := by
  have hl : j < (s.data.toList.take M).length := by simp; have : s.size = s.data.size := rfl; omega
  have h0 := numL_nonneg ((s.data.toList.take M).drop j)
  have h1 := numL_lt8 ((s.data.toList.take M).drop j) (by simp; omega)
  have h2 := numL_nonneg ((s.data.toList.take M).drop (j + 1))
  have e := numL_drop _ j hl
  have eg : (s.data.toList.take M)[j] = s[j] := by simp; rfl
  rw [eg] at e
  rw [wrapU_in (_ * 256) (by omega) (by omega), wrapU_in _ (by omega) (by omega)]
  omega
theorem numS_take (s : ByteArray) (M : Nat) (h : (M = s.size ∧ s.size ≤ 8) ∨ (M = 8 ∧ 8 ≤ s.size)) : numL (s.data.toList.take M) = numS s := by
  unfold numS
  rcases h with ⟨h, h'⟩ | ⟨h, h'⟩
  · rw [List.take_of_length_le (by simp; have : s.size = s.data.size := rfl; omega), List.take_of_length_le (by simp; have : s.size = s.data.size := rfl; omega)]
  · rw [h]

/-! what NumsBack and NumsSign ask -/
theorem numL_bytesL (k : Nat) : ∀ v : Int, numL (bytesL v k) = v % 256 ^ k := by
  induction k with
  | zero => intro v; simp [bytesL, numL]
  | succ k ih =>
    intro v
    rw [show bytesL v (k + 1) = UInt8.ofNat (v % 256).toNat :: bytesL (v / 256) k from rfl]
    simp only [numL]
    rw [u8_ofNat_toNat, ih, Int.pow_succ, Int.mul_comm (256 ^ k) 256]
    have hp : (0 : Int) < 256 ^ k := Int.pow_pos (by decide)
    have h1 := Int.emod_add_mul_ediv v (256 * 256 ^ k)
    have h2 := Int.emod_add_mul_ediv (v / 256) (256 ^ k)
    have h3 := Int.emod_add_mul_ediv v 256
    rw [← Int.ediv_ediv_of_nonneg (by decide : (0 : Int) ≤ 256)] at h1
    have h4 : 256 * 256 ^ k * (v / 256 / 256 ^ k) = 256 * (256 ^ k * (v / 256 / 256 ^ k)) := by rw [Int.mul_assoc]
    omega
theorem size_bytesS (v : Int) (m : Nat) (h : m ≤ 8) : (bytesS v m).size = m := by
  rw [bytesS, if_pos (by omega)]
  simp [ByteArray.size, bytesL_length]
theorem numS_bytesS (v : Int) (m : Nat) (h : m ≤ 8) (h0 : 0 ≤ v) (h1 : v < 18446744073709551616) : numS (bytesS v m) = lowS v (8 * m) := by
  rw [bytesS, if_pos (by omega), numS, Int.toNat_natCast]
  simp only
  rw [List.take_of_length_le (by simp [bytesL_length]; omega)]
  rw [numL_bytesL, pow256, lowS]
  split
  · have : m = 8 := by omega
    subst this
    simp; omega
  · rw [show ((8 : Int) * m).toNat = 8 * m by omega]
theorem bytesL_numL : ∀ l : List UInt8, bytesL (numL l) l.length = l
  | [] => rfl
  | b :: t => by
    have hb := b.toNat_lt
    have h0 := numL_nonneg t
    rw [show bytesL (numL (b :: t)) (b :: t).length = UInt8.ofNat (numL (b :: t) % 256).toNat :: bytesL (numL (b :: t) / 256) t.length from rfl]
    simp only [numL]
    rw [show ((b.toNat : Int) + 256 * numL t) % 256 = b.toNat by omega, show ((b.toNat : Int) + 256 * numL t) / 256 = numL t by omega, bytesL_numL t]
    simp
theorem bytesS_numS (s : ByteArray) (h : s.size ≤ 8) : bytesS (numS s) s.size = s := by
  have hl : s.data.toList.length = s.size := by simp
  rw [bytesS, if_pos (by omega), numS, List.take_of_length_le (by omega), Int.toNat_natCast, ← hl, bytesL_numL]
theorem numS_bytes8_append (v : Int) (b : ByteArray) (h0 : 0 ≤ v) (h1 : v < 18446744073709551616) : numS (bytesS v 8 ++ b) = v := by
  have e : bytesS v 8 = ⟨(bytesL v 8).toArray⟩ := by rw [bytesS, if_pos (by omega)]; rfl
  rw [e, numS]
  simp only [ByteArray.data_append]
  rw [Array.toList_append, List.take_append_of_le_length (by simp [bytesL_length]), List.take_of_length_le (by simp [bytesL_length])]
  rw [numL_bytesL]
  simp; omega
theorem numS_bytes8 (v : Int) (h0 : 0 ≤ v) (h1 : v < 18446744073709551616) : numS (bytesS v 8) = v := by
  have := numS_bytesS v 8 (by omega) h0 h1
  rw [lowS, if_pos (by omega)] at this
  exact this
/-- What signs are, in a form without cases on 64. -/
theorem lowS_in (v : Int) (k : Nat) (hk : k ≤ 64) (h0 : 0 ≤ v) (h1 : v < 18446744073709551616) : lowS v k = v % 2 ^ k := by
  unfold lowS
  split
  · obtain rfl : k = 64 := by omega
    simp; omega
  · simp
theorem signS_in (v : Int) (k : Nat) (hk0 : 0 < k) (hk : k ≤ 64) (h0 : 0 ≤ v) (h1 : v < 18446744073709551616) :
    signS v k = if v % 2 ^ k < 2 ^ (k - 1) then v % 2 ^ k else v % 2 ^ k + 18446744073709551616 - 2 ^ k := by
  unfold signS
  rw [if_neg (by omega), Int.toNat_natCast]
  split
  · obtain rfl : k = 64 := by omega
    simp; omega
  · rfl
theorem pow_split (k : Nat) (hk0 : 0 < k) (hk : k ≤ 64) : ∃ p q : Int, (2 : Int) ^ (k - 1) = p ∧ (2 : Int) ^ k = 2 * p ∧ 0 < p ∧ 18446744073709551616 = 2 * p * q ∧ 0 < q := by
  refine ⟨2 ^ (k - 1), 2 ^ (64 - k), rfl, ?_, two_pow_pos _, ?_, two_pow_pos _⟩
  · rw [Int.mul_comm, ← Int.pow_succ, show (k - 1).succ = k by omega]
  · have : (18446744073709551616 : Int) = 2 ^ k * 2 ^ (64 - k) := by
      rw [← Int.pow_add, show k + (64 - k) = 64 by omega]; rfl
    rw [this]
    congr 1
    rw [Int.mul_comm, ← Int.pow_succ, show (k - 1).succ = k by omega]
theorem low_low (v : Int) (k : Nat) (hk : k ≤ 64) (h0 : 0 ≤ v) (h1 : v < 18446744073709551616) : lowS (lowS v k) k = lowS v k := by
  have hb := lowS_bd v k h0 h1
  rw [lowS_in _ k hk hb.1 hb.2, lowS_in _ k hk h0 h1, Int.emod_emod_of_dvd _ (Int.dvd_refl _)]
theorem low_sign (v : Int) (k : Nat) (hk0 : 0 < k) (hk : k ≤ 64) (h0 : 0 ≤ v) (h1 : v < 18446744073709551616) : lowS (signS v k) k = lowS v k := by
  have hb := signS_bd v k h0 h1
  rw [lowS_in _ k hk hb.1 hb.2, lowS_in _ k hk h0 h1, signS_in v k hk0 hk h0 h1]
  split
  · exact Int.emod_emod_of_dvd _ (Int.dvd_refl _)
  · have e64 : (18446744073709551616 : Int) = 2 ^ k * 2 ^ (64 - k) := by
      rw [← Int.pow_add, show k + (64 - k) = 64 by omega]; rfl
    rw [e64, show v % 2 ^ k + 2 ^ k * 2 ^ (64 - k) - 2 ^ k = v % 2 ^ k + 2 ^ k * (2 ^ (64 - k) - 1) by rw [Int.mul_sub]; omega, Int.add_mul_emod_self_left]
    exact Int.emod_emod_of_dvd _ (Int.dvd_refl _)
theorem sign_low (v : Int) (k : Nat) (hk0 : 0 < k) (hk : k ≤ 64) (h0 : 0 ≤ v) (h1 : v < 18446744073709551616) : signS (lowS v k) k = signS v k := by
  have hb := lowS_bd v k h0 h1
  have e := low_low v k hk h0 h1
  rw [lowS_in _ k hk hb.1 hb.2, lowS_in v k hk h0 h1] at e
  rw [signS_in _ k hk0 hk hb.1 hb.2, signS_in v k hk0 hk h0 h1, lowS_in v k hk h0 h1, e]
theorem sign_sign (v : Int) (k : Nat) (hk0 : 0 < k) (hk : k ≤ 64) (h0 : 0 ≤ v) (h1 : v < 18446744073709551616) : signS (signS v k) k = signS v k := by
  have hb := signS_bd v k h0 h1
  have e := low_sign v k hk0 hk h0 h1
  rw [lowS_in _ k hk hb.1 hb.2, lowS_in v k hk h0 h1] at e
  rw [signS_in _ k hk0 hk hb.1 hb.2, e, signS_in v k hk0 hk h0 h1]
/-- The sign is that of the highest bit. -/
theorem sign_bit (v : Int) (k : Nat) (hk0 : 0 < k) (hk : k ≤ 64) (h0 : 0 ≤ v) (h1 : v < 18446744073709551616) :
    (v / 2 ^ (k - 1) % 2 = 1 → wrap64 (signS v k) < 0) ∧ (v / 2 ^ (k - 1) % 2 ≠ 1 → 0 ≤ wrap64 (signS v k) ∧ signS v k = lowS v k) := by
  obtain ⟨p, q, e1, e2, hp, e64, hq⟩ := pow_split k hk0 hk
  have hs := signS_in v k hk0 hk h0 h1
  have hl := lowS_in v k hk h0 h1
  rw [e1, e2] at hs
  rw [e2] at hl
  rw [e1, hl, hs]
  have hb := signS_bd v k h0 h1
  have a := Int.emod_nonneg v (b := 2 * p) (by omega)
  have b := Int.emod_lt_of_pos v (b := 2 * p) (by omega)
  have hd : v / p % 2 = (v % (2 * p)) / p := by
    have := Int.emod_add_mul_ediv v (2 * p)
    have e : v = v % (2 * p) + p * (2 * (v / (2 * p))) := by
      have : 2 * p * (v / (2 * p)) = p * (2 * (v / (2 * p))) := by rw [Int.mul_comm 2 p, Int.mul_assoc]
      omega
    have e3 : v / p = (v % (2 * p)) / p + 2 * (v / (2 * p)) := by
      conv => lhs; rw [e]
      rw [Int.add_mul_ediv_left _ _ (by omega)]
    rw [e3]
    have : 0 ≤ v % (2 * p) / p := Int.ediv_nonneg a (by omega)
    have : v % (2 * p) / p < 2 := Int.ediv_lt_of_lt_mul hp (by omega)
    omega
  have hpq : 2 * p ≤ 18446744073709551616 := by
    rw [e64]
    have : 2 * p * 1 ≤ 2 * p * q := Int.mul_le_mul_of_nonneg_left (by omega) (by omega)
    omega
  rw [hd]
  generalize hx : v % (2 * p) = x at *
  by_cases hc : x < p
  · have hz : x / p = 0 := Int.ediv_eq_zero_of_lt a hc
    rw [hz, if_pos hc]
    refine ⟨fun h => by omega, fun _ => ⟨?_, rfl⟩⟩
    unfold wrap64; omega
  · have hz : x / p = 1 := by
      have h1 : 1 ≤ x / p := Int.le_ediv_of_mul_le hp (by omega)
      have h2 : x / p < 2 := Int.ediv_lt_of_lt_mul hp (by omega)
      omega
    rw [hz, if_neg hc]
    refine ⟨fun _ => ?_, fun h => absurd rfl h⟩
    unfold wrap64; omega
end Go.Proofs.Ytaifibnpbkgaiaa
