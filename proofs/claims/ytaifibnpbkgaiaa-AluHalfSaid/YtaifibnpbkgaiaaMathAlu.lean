/-
  Plain mathematics of arithmetic of 64 and of 32 bits: no program in sight. Conditions: none beyond each lemma's own.
-/
import Derived.Test.YtaifibnpbkgaiaaMathNums
namespace Go.Proofs.Ytaifibnpbkgaiaa
open Go.RowKit

/-- What arithmetic comes to, of numbers of one width; n: by how many bits is shifted; m: what is moved down with its sign. -/
def coreS (k : IntKind) (op a b n m : Int) : Int :=
  if op = 0 then k.wrap (a + b) else if op = 16 then k.wrap (a - b) else if op = 32 then k.wrap (a * b)
  else if op = 48 then (if b = 0 then 0 else a / b) else if op = 144 then (if b = 0 then a else a % b)
  else if op = 64 then bits .or k a b else if op = 80 then bits .and k a b else if op = 160 then bits .xor k a b
  else if op = 96 then k.wrap (a * 2 ^ n.toNat) else if op = 112 then a / 2 ^ n.toNat
  else if op = 192 then m else if op = 128 then k.wrap (0 - a) else if op = 176 then b else 0
/-- What is moved down with its sign. -/
def sar64 (a n : Int) : Int := IntKind.u64.wrap (wrap64 a / 2 ^ n.toNat)
def sar32 (a n : Int) : Int := IntKind.u32.wrap (wrap32 a / 2 ^ n.toNat)
def doS (op : Int) (wide : Bool) (a b : Int) : Int :=
  if wide then IntKind.u64.wrap (coreS .u64 op a b (b % 64) (sar64 a (b % 64)))
  else IntKind.u32.wrap (coreS .u32 op (a % 4294967296) (b % 4294967296) (b % 32) (sar32 a (b % 32)))

theorem wrap32_bd (n : Int) : 0 ≤ IntKind.u32.wrap n ∧ IntKind.u32.wrap n < 4294967296 := by rw [IntKind.wrap_u32']; omega
theorem doS_lo (op : Int) (wide : Bool) (a b : Int) : 0 ≤ doS op wide a b := by
  unfold doS; split
  · exact (wrapU_bd _).1
  · exact (wrap32_bd _).1
theorem doS_hi (op : Int) (wide : Bool) (a b : Int) : doS op wide a b < 18446744073709551616 := by
  unfold doS; split
  · exact (wrapU_bd _).2
  · have := (wrap32_bd (coreS .u32 op (a % 4294967296) (b % 4294967296) (b % 32) (sar32 a (b % 32)))).2; omega
theorem doS_hi32 (op : Int) (a b : Int) : doS op false a b < 4294967296 := by
  unfold doS; simp only [Bool.false_eq_true, if_false]; exact (wrap32_bd _).2

def InR (M x : Int) : Prop := 0 ≤ x ∧ x < M
theorem ite_r {M x y : Int} {c : Prop} [Decidable c] (hx : c → InR M x) (hy : ¬ c → InR M y) : InR M (if c then x else y) := by
  by_cases h : c
  · rw [if_pos h]; exact hx h
  · rw [if_neg h]; exact hy h
theorem core64_bd (op a b n : Int) (m : Int) (ha0 : 0 ≤ a) (ha : a < 18446744073709551616) (hb0 : 0 ≤ b) (hb : b < 18446744073709551616) (hm : 0 ≤ m ∧ m < 18446744073709551616) :
    0 ≤ coreS .u64 op a b n m ∧ coreS .u64 op a b n m < 18446744073709551616 := by
  have hq : b ≠ 0 → InR 18446744073709551616 (a / b) := fun _ => by
    have hq0 : 0 ≤ a / b := Int.ediv_nonneg ha0 hb0
    have hq1 : a / b ≤ a := Int.ediv_le_self _ ha0
    exact ⟨hq0, by omega⟩
  have hr : InR 18446744073709551616 (a / 2 ^ n.toNat) := by
    have hp := two_pow_pos n.toNat
    have hr0 : 0 ≤ a / 2 ^ n.toNat := Int.ediv_nonneg ha0 (by omega)
    have hr1 : a / 2 ^ n.toNat ≤ a := Int.ediv_le_self _ ha0
    exact ⟨hr0, by omega⟩
  have hbits : ∀ op, InR 18446744073709551616 (bits op .u64 a b) := fun op => ⟨bits_lo_u64 op a b, by have := bits_hi_u64 op a b; omega⟩
  have hmod : b ≠ 0 → InR 18446744073709551616 (a % b) := fun h => ⟨Int.emod_nonneg _ h, by have := Int.emod_lt_of_pos a (b := b) (by omega); omega⟩
  have h0 : InR 18446744073709551616 0 := ⟨by decide, by decide⟩
  show InR 18446744073709551616 (coreS .u64 op a b n m)
  unfold coreS
  exact ite_r (fun _ => wrapU_bd _) fun _ => ite_r (fun _ => wrapU_bd _) fun _ => ite_r (fun _ => wrapU_bd _) fun _ => ite_r (fun _ => ite_r (fun _ => h0) hq) fun _ =>
    ite_r (fun _ => ite_r (fun _ => ⟨ha0, ha⟩) hmod) fun _ => ite_r (fun _ => hbits _) fun _ => ite_r (fun _ => hbits _) fun _ => ite_r (fun _ => hbits _) fun _ =>
    ite_r (fun _ => wrapU_bd _) fun _ => ite_r (fun _ => hr) fun _ => ite_r (fun _ => hm) fun _ => ite_r (fun _ => wrapU_bd _) fun _ => ite_r (fun _ => ⟨hb0, hb⟩) fun _ => h0
theorem core32_bd (op a b n : Int) (m : Int) (ha0 : 0 ≤ a) (ha : a < 4294967296) (hb0 : 0 ≤ b) (hb : b < 4294967296) (hm : 0 ≤ m ∧ m < 4294967296) :
    0 ≤ coreS .u32 op a b n m ∧ coreS .u32 op a b n m < 4294967296 := by
  have hq : b ≠ 0 → InR 4294967296 (a / b) := fun _ => by
    have hq0 : 0 ≤ a / b := Int.ediv_nonneg ha0 hb0
    have hq1 : a / b ≤ a := Int.ediv_le_self _ ha0
    exact ⟨hq0, by omega⟩
  have hr : InR 4294967296 (a / 2 ^ n.toNat) := by
    have hp := two_pow_pos n.toNat
    have hr0 : 0 ≤ a / 2 ^ n.toNat := Int.ediv_nonneg ha0 (by omega)
    have hr1 : a / 2 ^ n.toNat ≤ a := Int.ediv_le_self _ ha0
    exact ⟨hr0, by omega⟩
  have hbits : ∀ op, InR 4294967296 (bits op .u32 a b) := fun op => ⟨bits_lo_u32 op a b, by have := bits_hi_u32 op a b; omega⟩
  have hmod : b ≠ 0 → InR 4294967296 (a % b) := fun h => ⟨Int.emod_nonneg _ h, by have := Int.emod_lt_of_pos a (b := b) (by omega); omega⟩
  have h0 : InR 4294967296 0 := ⟨by decide, by decide⟩
  show InR 4294967296 (coreS .u32 op a b n m)
  unfold coreS
  exact ite_r (fun _ => wrap32_bd _) fun _ => ite_r (fun _ => wrap32_bd _) fun _ => ite_r (fun _ => wrap32_bd _) fun _ => ite_r (fun _ => ite_r (fun _ => h0) hq) fun _ =>
    ite_r (fun _ => ite_r (fun _ => ⟨ha0, ha⟩) hmod) fun _ => ite_r (fun _ => hbits _) fun _ => ite_r (fun _ => hbits _) fun _ => ite_r (fun _ => hbits _) fun _ =>
    ite_r (fun _ => wrap32_bd _) fun _ => ite_r (fun _ => hr) fun _ => ite_r (fun _ => hm) fun _ => ite_r (fun _ => wrap32_bd _) fun _ => ite_r (fun _ => ⟨hb0, hb⟩) fun _ => h0
/-- In range the outer wrap is nothing. -/
theorem doS_wide (op a b : Int) (ha0 : 0 ≤ a) (ha : a < 18446744073709551616) (hb0 : 0 ≤ b) (hb : b < 18446744073709551616) :
    doS op true a b = coreS .u64 op a b (b % 64) (sar64 a (b % 64)) := by
  have := core64_bd op a b (b % 64) (sar64 a (b % 64)) ha0 ha hb0 hb (wrapU_bd _)
  unfold doS
  rw [if_pos rfl]
  exact wrapU_in _ this.1 this.2
theorem wrap32_in' (n : Int) (h0 : 0 ≤ n) (h1 : n < 4294967296) : IntKind.u32.wrap n = n := by rw [IntKind.wrap_u32']; omega
theorem doS_low (op a b : Int) :
    doS op false a b = coreS .u32 op (a % 4294967296) (b % 4294967296) (b % 32) (sar32 a (b % 32)) := by
  have := core32_bd op (a % 4294967296) (b % 4294967296) (b % 32) (sar32 a (b % 32)) (by omega) (by omega) (by omega) (by omega) (wrap32_bd _)
  unfold doS
  rw [if_neg (by simp)]
  exact wrap32_in' _ this.1 this.2

theorem wrap64_val (a : Int) (ha0 : 0 ≤ a) (ha : a < 18446744073709551616) : wrap64 a = if a < 9223372036854775808 then a else a - 18446744073709551616 := by
  unfold wrap64; split <;> omega
theorem wrap32_val (a : Int) (ha0 : 0 ≤ a) (ha : a < 4294967296) : wrap32 a = if a < 2147483648 then a else a - 4294967296 := by
  unfold wrap32; split <;> omega
/-- What is moved down by n bits, its sign told on: as by the sign of the bits that are left. -/
theorem sar64_sign (a : Int) (n : Nat) (hn : n < 64) (ha0 : 0 ≤ a) (ha : a < 18446744073709551616) : signS (a / 2 ^ n) (64 - n) = sar64 a n := by
  obtain ⟨k, hk⟩ : ∃ k : Nat, (64 : Int) - n = k := ⟨64 - n, by omega⟩
  have hp := two_pow_pos n
  have e64 : (18446744073709551616 : Int) = 2 ^ k * 2 ^ n := by
    rw [← Int.pow_add, show k + n = 64 by omega]; rfl
  have e63 : (9223372036854775808 : Int) = 2 ^ (k - 1) * 2 ^ n := by
    rw [← Int.pow_add, show k - 1 + n = 63 by omega]; rfl
  have hx0 : 0 ≤ a / 2 ^ n := Int.ediv_nonneg ha0 (by omega)
  have hx1 : a / 2 ^ n ≤ a := Int.ediv_le_self _ ha0
  have hxk : a / 2 ^ n < 2 ^ k := Int.ediv_lt_of_lt_mul hp (by rw [← e64]; exact ha)
  have hk64 : (2 : Int) ^ k ≤ 18446744073709551616 := by
    have : (2 : Int) ^ k ≤ 2 ^ 64 := pow_le_le 2 (by decide) _ _ (by omega)
    simpa using this
  rw [hk, signS_in _ k (by omega) (by omega) hx0 (by omega), Int.emod_eq_of_lt hx0 hxk]
  unfold sar64
  rw [wrap64_val a ha0 ha, Int.toNat_natCast]
  by_cases hc : a < 9223372036854775808
  · have hlt : a / 2 ^ n < 2 ^ (k - 1) := Int.ediv_lt_of_lt_mul hp (by rw [← e63]; exact hc)
    rw [if_pos hc, if_pos hlt, wrapU_in _ hx0 (by omega)]
  · have hge : 2 ^ (k - 1) ≤ a / 2 ^ n := Int.le_ediv_of_mul_le hp (by rw [← e63]; omega)
    rw [if_neg hc, if_neg (by omega)]
    have : (a - 18446744073709551616) / 2 ^ n = a / 2 ^ n - 2 ^ k := by
      rw [e64, show a - 2 ^ k * 2 ^ n = a + (-(2 ^ k)) * 2 ^ n by rw [Int.neg_mul]; omega, Int.add_mul_ediv_right _ _ (by omega)]
      omega
    rw [this, IntKind.wrap_u64]
    omega
theorem sar32_sign (a : Int) (n : Nat) (hn : n < 32) : signS (a % 4294967296 / 2 ^ n) (32 - n) % 4294967296 = sar32 a n := by
  obtain ⟨k, hk⟩ : ∃ k : Nat, (32 : Int) - n = k := ⟨32 - n, by omega⟩
  have hp := two_pow_pos n
  have e64 : (4294967296 : Int) = 2 ^ k * 2 ^ n := by
    rw [← Int.pow_add, show k + n = 32 by omega]; rfl
  have e63 : (2147483648 : Int) = 2 ^ (k - 1) * 2 ^ n := by
    rw [← Int.pow_add, show k - 1 + n = 31 by omega]; rfl
  have hw : wrap32 a = wrap32 (a % 4294967296) := by unfold wrap32; omega
  unfold sar32
  rw [hw]
  obtain ⟨c, hc⟩ : ∃ c, a % 4294967296 = c := ⟨_, rfl⟩
  have hc0 : 0 ≤ c := by omega
  have hc1 : c < 4294967296 := by omega
  rw [hc]
  clear hc hw
  have hx0 : 0 ≤ c / 2 ^ n := Int.ediv_nonneg hc0 (by omega)
  have hx1 : c / 2 ^ n ≤ c := Int.ediv_le_self _ hc0
  have hxk : c / 2 ^ n < 2 ^ k := Int.ediv_lt_of_lt_mul hp (by rw [← e64]; exact hc1)
  have hk32 : (2 : Int) ^ k ≤ 4294967296 := by
    have : (2 : Int) ^ k ≤ 2 ^ 32 := pow_le_le 2 (by decide) _ _ (by omega)
    simpa using this
  rw [hk, signS_in _ k (by omega) (by omega) hx0 (by omega), Int.emod_eq_of_lt hx0 hxk]
  rw [wrap32_val c hc0 hc1, Int.toNat_natCast]
  by_cases hc : c < 2147483648
  · have hlt : c / 2 ^ n < 2 ^ (k - 1) := Int.ediv_lt_of_lt_mul hp (by rw [← e63]; exact hc)
    rw [if_pos hc, if_pos hlt, IntKind.wrap_u32']
  · have hge : 2 ^ (k - 1) ≤ c / 2 ^ n := Int.le_ediv_of_mul_le hp (by rw [← e63]; omega)
    rw [if_neg hc, if_neg (by omega)]
    have : (c - 4294967296) / 2 ^ n = c / 2 ^ n - 2 ^ k := by
      rw [e64, show c - 2 ^ k * 2 ^ n = c + (-(2 ^ k)) * 2 ^ n by rw [Int.neg_mul]; omega, Int.add_mul_ediv_right _ _ (by omega)]
      omega
    rw [this, IntKind.wrap_u32']
    omega

theorem bits_or_low (a b : Int) (ha0 : 0 ≤ a) (ha : a < 4294967296) (hb0 : 0 ≤ b) (hb : b < 4294967296) : bits .or .u64 a b % 4294967296 = bits .or .u32 a b := by
  rw [u64_or a b ha0 (by omega) hb0 (by omega), u32_or a b ha0 ha hb0 hb]
  have : a.toNat ||| b.toNat < 2 ^ 32 := Nat.or_lt_two_pow (by omega) (by omega)
  omega
theorem bits_and_low (a b : Int) (ha0 : 0 ≤ a) (ha : a < 4294967296) (hb0 : 0 ≤ b) (hb : b < 4294967296) : bits .and .u64 a b % 4294967296 = bits .and .u32 a b := by
  rw [u64_and a b ha0 (by omega) hb0 (by omega), u32_and a b ha0 ha hb0 hb]
  have : a.toNat &&& b.toNat < 2 ^ 32 := Nat.and_lt_two_pow _ (by omega)
  omega
theorem bits_xor_low (a b : Int) (ha0 : 0 ≤ a) (ha : a < 4294967296) (hb0 : 0 ≤ b) (hb : b < 4294967296) : bits .xor .u64 a b % 4294967296 = bits .xor .u32 a b := by
  rw [u64_xor a b ha0 (by omega) hb0 (by omega), u32_xor a b ha0 ha hb0 hb]
  have : a.toNat ^^^ b.toNat < 2 ^ 32 := Nat.xor_lt_two_pow (by omega) (by omega)
  omega
theorem wrap_low (x : Int) : IntKind.u64.wrap x % 4294967296 = IntKind.u32.wrap x := by rw [IntKind.wrap_u64, IntKind.wrap_u32']; omega

/-! each operation -/
theorem core_add (k : IntKind) (a b n m : Int) : coreS k 0 a b n m = (k.wrap (a + b)) := by simp only [coreS, Int.reduceEq, if_true, if_false]
theorem core_sub (k : IntKind) (a b n m : Int) : coreS k 16 a b n m = (k.wrap (a - b)) := by simp only [coreS, Int.reduceEq, if_true, if_false]
theorem core_mul (k : IntKind) (a b n m : Int) : coreS k 32 a b n m = (k.wrap (a * b)) := by simp only [coreS, Int.reduceEq, if_true, if_false]
theorem core_div (k : IntKind) (a b n m : Int) : coreS k 48 a b n m = (if b = 0 then 0 else a / b) := by simp only [coreS, Int.reduceEq, if_true, if_false]
theorem core_mod (k : IntKind) (a b n m : Int) : coreS k 144 a b n m = (if b = 0 then a else a % b) := by simp only [coreS, Int.reduceEq, if_true, if_false]
theorem core_or (k : IntKind) (a b n m : Int) : coreS k 64 a b n m = (bits .or k a b) := by simp only [coreS, Int.reduceEq, if_true, if_false]
theorem core_and (k : IntKind) (a b n m : Int) : coreS k 80 a b n m = (bits .and k a b) := by simp only [coreS, Int.reduceEq, if_true, if_false]
theorem core_xor (k : IntKind) (a b n m : Int) : coreS k 160 a b n m = (bits .xor k a b) := by simp only [coreS, Int.reduceEq, if_true, if_false]
theorem core_lsh (k : IntKind) (a b n m : Int) : coreS k 96 a b n m = (k.wrap (a * 2 ^ n.toNat)) := by simp only [coreS, Int.reduceEq, if_true, if_false]
theorem core_rsh (k : IntKind) (a b n m : Int) : coreS k 112 a b n m = (a / 2 ^ n.toNat) := by simp only [coreS, Int.reduceEq, if_true, if_false]
theorem core_arsh (k : IntKind) (a b n m : Int) : coreS k 192 a b n m = (m) := by simp only [coreS, Int.reduceEq, if_true, if_false]
theorem core_neg (k : IntKind) (a b n m : Int) : coreS k 128 a b n m = (k.wrap (0 - a)) := by simp only [coreS, Int.reduceEq, if_true, if_false]
theorem core_mov (k : IntKind) (a b n m : Int) : coreS k 176 a b n m = (b) := by simp only [coreS, Int.reduceEq, if_true, if_false]
theorem core_none (k : IntKind) (op a b n m : Int) (n1 : (op == 0) = false) (n2 : (op == 16) = false) (n3 : (op == 32) = false) (n4 : (op == 48) = false) (n5 : (op == 144) = false) (n6 : (op == 64) = false) (n7 : (op == 80) = false) (n8 : (op == 160) = false) (n9 : (op == 96) = false) (n10 : (op == 112) = false) (n11 : (op == 192) = false) (n12 : (op == 128) = false) (n13 : (op == 176) = false) : coreS k op a b n m = 0 := by
  simp only [beq_eq_false_iff_ne, ne_eq] at n1 n2 n3 n4 n5 n6 n7 n8 n9 n10 n11 n12 n13
  simp only [coreS, n1, n2, n3, n4, n5, n6, n7, n8, n9, n10, n11, n12, n13, if_false]

/-! what the laws of chapter 05 ask: M is 2^64 or 2^32 -/
theorem add_val (a b : Int) : doS 0 true a b = (a + b) % 18446744073709551616 ∧ doS 0 false a b = (a + b) % 4294967296 := by
  constructor
  · unfold doS; rw [if_pos rfl, core_add, IntKind.wrap_u64, IntKind.wrap_u64]; omega
  · rw [doS_low, core_add, IntKind.wrap_u32']; omega
theorem sub_val (a b : Int) : doS 16 true a b = (a - b) % 18446744073709551616 ∧ doS 16 false a b = (a - b) % 4294967296 := by
  constructor
  · unfold doS; rw [if_pos rfl, core_sub, IntKind.wrap_u64, IntKind.wrap_u64]; omega
  · rw [doS_low, core_sub, IntKind.wrap_u32']; omega
theorem neg_val (a b : Int) : doS 128 true a b = (-a) % 18446744073709551616 ∧ doS 128 false a b = (-a) % 4294967296 := by
  constructor
  · unfold doS; rw [if_pos rfl, core_neg, IntKind.wrap_u64, IntKind.wrap_u64]; omega
  · rw [doS_low, core_neg, IntKind.wrap_u32']; omega
theorem mov_val (a b : Int) : doS 176 true a b = b % 18446744073709551616 ∧ doS 176 false a b = b % 4294967296 := by
  constructor
  · unfold doS; rw [if_pos rfl, core_mov, IntKind.wrap_u64]
  · rw [doS_low, core_mov]
theorem xor_val (a b : Int) (ha0 : 0 ≤ a) (ha : a < 18446744073709551616) (hb0 : 0 ≤ b) (hb : b < 18446744073709551616) :
    doS 160 true a b = ((a.toNat ^^^ b.toNat : Nat) : Int) ∧ doS 160 false a b = (((a % 4294967296).toNat ^^^ (b % 4294967296).toNat : Nat) : Int) := by
  constructor
  · rw [doS_wide 160 a b ha0 ha hb0 hb, core_xor, u64_xor a b ha0 ha hb0 hb]
  · rw [doS_low, core_xor, u32_xor _ _ (by omega) (by omega) (by omega) (by omega)]
theorem back_add (wide : Bool) (a b : Int) : doS 16 wide (doS 0 wide a b) b = doS 176 wide 0 a := by
  cases wide
  · rw [(sub_val _ _).2, (add_val _ _).2, (mov_val _ _).2]; omega
  · rw [(sub_val _ _).1, (add_val _ _).1, (mov_val _ _).1]; omega
theorem back_neg (wide : Bool) (a b : Int) : doS 128 wide (doS 128 wide a b) b = doS 176 wide 0 a := by
  cases wide
  · rw [(neg_val _ _).2, (neg_val _ _).2, (mov_val _ _).2]; omega
  · rw [(neg_val _ _).1, (neg_val _ _).1, (mov_val _ _).1]; omega
theorem back_sub (wide : Bool) (a b : Int) : doS 0 wide a (doS 128 wide b 0) = doS 16 wide a b := by
  cases wide
  · rw [(add_val _ _).2, (neg_val _ _).2, (sub_val _ _).2]; omega
  · rw [(add_val _ _).1, (neg_val _ _).1, (sub_val _ _).1]; omega
theorem back_xor (wide : Bool) (a b : Int) (ha0 : 0 ≤ a) (ha : a < 18446744073709551616) (hb0 : 0 ≤ b) (hb : b < 18446744073709551616) :
    doS 160 wide (doS 160 wide a b) b = doS 176 wide 0 a := by
  have h1 := doS_lo 160 wide a b
  have h2 := doS_hi 160 wide a b
  have h3 := doS_hi32 160 a b
  cases wide
  · rw [(xor_val _ _ h1 h2 hb0 hb).2, (mov_val _ _).2, Int.emod_eq_of_lt h1 h3, (xor_val _ _ ha0 ha hb0 hb).2, Int.toNat_natCast, Nat.xor_assoc, Nat.xor_self, Nat.xor_zero]
    omega
  · rw [(xor_val _ _ h1 h2 hb0 hb).1, (mov_val _ _).1, (xor_val _ _ ha0 ha hb0 hb).1, Int.toNat_natCast, Nat.xor_assoc, Nat.xor_self, Nat.xor_zero]
    omega
theorem parted_core (a b q r : Int) (ha0 : 0 ≤ a) (hb0 : 0 ≤ b) (hq : q = if b = 0 then 0 else a / b) (hr : r = if b = 0 then a else a % b) :
    (b = 0 → q = 0 ∧ r = a) ∧ (0 < b → q * b + r = a ∧ r < b ∧ 0 ≤ q * b ∧ q * b ≤ a ∧ 0 ≤ r) := by
  constructor
  · intro h; rw [if_pos h] at hq hr; exact ⟨hq, hr⟩
  · intro h
    rw [if_neg (by omega)] at hq hr
    subst hq hr
    have h1 := Int.emod_add_mul_ediv a b
    have h2 := Int.emod_nonneg a (b := b) (by omega)
    have h3 := Int.emod_lt_of_pos a h
    have h4 : 0 ≤ a / b := Int.ediv_nonneg ha0 hb0
    have h5 : 0 ≤ a / b * b := Int.mul_nonneg h4 hb0
    have h6 : a / b * b = b * (a / b) := Int.mul_comm _ _
    refine ⟨by omega, h3, h5, by omega, h2⟩
theorem parted (wide : Bool) (a b : Int) (ha0 : 0 ≤ a) (ha : a < 18446744073709551616) (hb0 : 0 ≤ b) (hb : b < 18446744073709551616) :
    (doS 176 wide 0 b = 0 → doS 48 wide a b = 0 ∧ doS 144 wide a b = doS 176 wide 0 a) ∧
    (0 < doS 176 wide 0 b → doS 48 wide a b * doS 176 wide 0 b + doS 144 wide a b = doS 176 wide 0 a ∧ doS 144 wide a b < doS 176 wide 0 b ∧ 0 ≤ doS 48 wide a b * doS 176 wide 0 b ∧ doS 48 wide a b * doS 176 wide 0 b ≤ doS 176 wide 0 a ∧ 0 ≤ doS 144 wide a b) := by
  cases wide
  · have e1 : doS 176 false 0 b = b % 4294967296 := (mov_val _ _).2
    have e2 : doS 176 false 0 a = a % 4294967296 := (mov_val _ _).2
    rw [e1, e2]
    exact parted_core _ _ _ _ (by omega) (by omega) (by rw [doS_low, core_div]) (by rw [doS_low, core_mod])
  · have e1 : doS 176 true 0 b = b := by rw [(mov_val _ _).1]; omega
    have e2 : doS 176 true 0 a = a := by rw [(mov_val _ _).1]; omega
    rw [e1, e2]
    exact parted_core _ _ _ _ (by omega) (by omega) (by rw [doS_wide _ _ _ ha0 ha hb0 hb, core_div]) (by rw [doS_wide _ _ _ ha0 ha hb0 hb, core_mod])
/-- Not wide, no higher bit counts. -/
theorem low_only (op a b a' b' : Int) (h1 : a % 4294967296 = a' % 4294967296) (h2 : b % 4294967296 = b' % 4294967296) : doS op false a b = doS op false a' b' := by
  have e1 : b % 32 = b' % 32 := by omega
  have e2 : wrap32 a = wrap32 a' := by unfold wrap32; omega
  unfold doS sar32
  rw [if_neg (by simp), if_neg (by simp), h1, h2, e1, e2]
end Go.Proofs.Ytaifibnpbkgaiaa
