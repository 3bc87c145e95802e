/-
  math/bits.Div64: its numbers against those of the long division by halves. Conditions: as typed.
-/
import Derived.Test.YtppankimieopiaaDoorEe
namespace Go.Proofs.YtppankimieopiaaDoor
open Go.Ep Go.RowKit
set_option linter.unusedVariables false
set_option linter.unusedSimpArgs false
def dY (y : BitVec 64) : BitVec 64 := y <<< (lzB y).toNat
def d1 (y : BitVec 64) : BitVec 64 := dY y >>> (32#64).toNat
def d0 (y : BitVec 64) : BitVec 64 := dY y &&& 4294967295#64
def dU (hi lo y : BitVec 64) : BitVec 64 := hi <<< (lzB y).toNat ||| lo >>> (64#64 - lzB y).toNat
def dL (lo y : BitVec 64) : BitVec 64 := lo <<< (lzB y).toNat
def c1 (lo y : BitVec 64) : BitVec 64 := dL lo y >>> (32#64).toNat
def c0 (lo y : BitVec 64) : BitVec 64 := dL lo y &&& 4294967295#64
def d21 (hi lo y q1 : BitVec 64) : BitVec 64 := dU hi lo y * 4294967296#64 + c1 lo y - q1 * dY y
def dvQ (hi lo y : BitVec 64) : BitVec 64 := BitVec.ofNat 64 ((hi.toNat * 18446744073709551616 + lo.toNat) / y.toNat)
def dvR (hi lo y : BitVec 64) : BitVec 64 := BitVec.ofNat 64 ((hi.toNat * 18446744073709551616 + lo.toNat) % y.toNat)
theorem dv_norm {y : BitVec 64} (hy : y.toNat ≠ 0) : (lzB y).toNat ≤ 63 ∧ 9223372036854775808 ≤ y.toNat * 2 ^ (lzB y).toNat ∧ y.toNat * 2 ^ (lzB y).toNat < 18446744073709551616 := by
  obtain ⟨a, b, c⟩ := bitLen_in y.toNat hy y.isLt
  have d := bitLen_64 y
  unfold lzB
  generalize Lib.bitLen y.toNat = n at *
  have e : (BitVec.ofNat 64 (64 - n)).toNat = 64 - n := by
    rw [BitVec.toNat_ofNat, Nat.mod_eq_of_lt (by omega)]
  rw [e]
  have p1 : 2 ^ (n - 1) * 2 ^ (64 - n) = 9223372036854775808 := by
    rw [← Nat.pow_add, show n - 1 + (64 - n) = 63 by omega]
  have p2 : 2 ^ n * 2 ^ (64 - n) = 18446744073709551616 := by
    rw [← Nat.pow_add, show n + (64 - n) = 64 by omega]
  refine ⟨by omega, ?_, ?_⟩
  · rw [← p1]; exact Nat.mul_le_mul_right _ a
  · rw [← p2]; exact Nat.mul_lt_mul_of_pos_right b (Nat.two_pow_pos _)
theorem shl_nat {x : BitVec 64} {s : Nat} (h : x.toNat * 2 ^ s < 18446744073709551616) : (x <<< s).toNat = x.toNat * 2 ^ s := by
  rw [BitVec.toNat_shiftLeft, Nat.shiftLeft_eq]
  exact Nat.mod_eq_of_lt h
theorem half_hi (x : BitVec 64) : (x >>> (32#64).toNat).toNat = x.toNat / 4294967296 := by
  rw [BitVec.toNat_ushiftRight, Nat.shiftRight_eq_div_pow]
  rfl
theorem half_lo (x : BitVec 64) : (x &&& 4294967295#64).toNat = x.toNat % 4294967296 := by
  rw [BitVec.toNat_and]
  exact Nat.and_two_pow_sub_one_eq_mod x.toNat 32
structure DvF (hi lo y : BitVec 64) : Prop where
  s63 : (lzB y).toNat ≤ 63
  eY : (dY y).toNat = y.toNat * 2 ^ (lzB y).toNat
  e10 : (d1 y).toNat * 4294967296 + (d0 y).toNat = (dY y).toNat
  H : DgH (d1 y).toNat (d0 y).toNat (dU hi lo y).toNat (c1 lo y).toNat
  c0b : (c0 lo y).toNat < 4294967296
  eN : (hi.toNat * 18446744073709551616 + lo.toNat) * 2 ^ (lzB y).toNat = ((dU hi lo y).toNat * 4294967296 + (c1 lo y).toNat) * 4294967296 + (c0 lo y).toNat
theorem dv_facts {hi lo y : BitVec 64} (h : y.ule hi = false) : DvF hi lo y := by
  have hlt : hi.toNat < y.toNat := by
    have := h
    simp only [BitVec.ule, decide_eq_false_iff_not] at this
    omega
  obtain ⟨s63, y63, y64⟩ := dv_norm (y := y) (by omega)
  have eY : (dY y).toNat = y.toNat * 2 ^ (lzB y).toNat := shl_nat y64
  have eh : (d1 y).toNat = (dY y).toNat / 4294967296 := half_hi _
  have el : (d0 y).toNat = (dY y).toNat % 4294967296 := half_lo _
  have fh : (c1 lo y).toNat = (dL lo y).toNat / 4294967296 := half_hi _
  have fl : (c0 lo y).toNat = (dL lo y).toNat % 4294967296 := half_lo _
  have hL := (dL lo y).isLt
  have hlo := lo.isLt
  have eL : (dL lo y).toNat = lo.toNat * 2 ^ (lzB y).toNat % 18446744073709551616 := by
    unfold dL
    rw [BitVec.toNat_shiftLeft, Nat.shiftLeft_eq]
  have es : (64#64 - lzB y).toNat = 64 - (lzB y).toNat := by
    rw [BitVec.toNat_sub]
    show (2 ^ 64 - (lzB y).toNat + 64) % 2 ^ 64 = _
    omega
  have eU : (dU hi lo y).toNat = hi.toNat * 2 ^ (lzB y).toNat + lo.toNat / 2 ^ (64 - (lzB y).toNat) := by
    unfold dU
    rw [BitVec.toNat_or, BitVec.toNat_ushiftRight, es, BitVec.toNat_shiftLeft, Nat.shiftRight_eq_div_pow]
    have g1 : hi.toNat * 2 ^ (lzB y).toNat < 18446744073709551616 := Nat.lt_of_le_of_lt (Nat.mul_le_mul_right _ (Nat.le_of_lt hlt)) y64
    have g2 : hi.toNat <<< (lzB y).toNat % 2 ^ 64 = hi.toNat <<< (lzB y).toNat := by
      rw [Nat.shiftLeft_eq]; exact Nat.mod_eq_of_lt g1
    rw [g2, ← Nat.shiftLeft_add_eq_or_of_lt, Nat.shiftLeft_eq]
    rw [Nat.div_lt_iff_lt_mul (Nat.two_pow_pos _), ← Nat.pow_add, show (lzB y).toNat + (64 - (lzB y).toNat) = 64 by omega]
    exact hlo
  have split2 : lo.toNat * 2 ^ (lzB y).toNat = lo.toNat / 2 ^ (64 - (lzB y).toNat) * 18446744073709551616 + lo.toNat * 2 ^ (lzB y).toNat % 18446744073709551616 := by
    have p : 2 ^ (64 - (lzB y).toNat) * 2 ^ (lzB y).toNat = 18446744073709551616 := by
      rw [← Nat.pow_add, show 64 - (lzB y).toNat + (lzB y).toNat = 64 by omega]
    have q : lo.toNat * 2 ^ (lzB y).toNat / 18446744073709551616 = lo.toNat / 2 ^ (64 - (lzB y).toNat) := by
      rw [← p]
      exact Nat.mul_div_mul_right _ _ (Nat.two_pow_pos _)
    rw [← q]
    have := Nat.div_add_mod (lo.toNat * 2 ^ (lzB y).toNat) 18446744073709551616
    omega
  have eN : (hi.toNat * 18446744073709551616 + lo.toNat) * 2 ^ (lzB y).toNat = (dU hi lo y).toNat * 18446744073709551616 + (dL lo y).toNat := by
    rw [Nat.add_mul, split2, eU, eL, Nat.add_mul, Nat.mul_right_comm]
    omega
  have eLt : (dU hi lo y).toNat < (dY y).toNat := by
    rw [eY]
    have g : (hi.toNat * 18446744073709551616 + lo.toNat) < y.toNat * 18446744073709551616 := by omega
    have g2 := Nat.mul_lt_mul_of_pos_right g (Nat.two_pow_pos (lzB y).toNat)
    rw [eN, Nat.mul_right_comm] at g2
    generalize y.toNat * 2 ^ (lzB y).toNat = P at *
    omega
  refine ⟨s63, eY, ?_, ⟨?_, ?_, ?_, ?_, ?_⟩, ?_, ?_⟩
  · omega
  · have := (dY y).isLt; omega
  · omega
  · omega
  · omega
  · rw [eh, el]
    have := Nat.div_add_mod (dY y).toNat 4294967296
    omega
  · omega
  · rw [eN, fh, fl]
    have := Nat.div_add_mod (dL lo y).toNat 4294967296
    omega
theorem dv_start {Y1 Y0 u u1 : BitVec 64} (h : DgH Y1.toNat Y0.toNat u.toNat u1.toNat) : DgL Y1.toNat Y0.toNat u.toNat u1.toNat (u / Y1).toNat (u - u / Y1 * Y1).toNat := by
  have g := dg_start h
  have e1 : (u / Y1).toNat = u.toNat / Y1.toNat := BitVec.toNat_udiv
  have e2 : (u - u / Y1 * Y1).toNat = u.toNat % Y1.toNat := by
    have h1 := Nat.div_add_mod u.toNat Y1.toNat
    have h2 : (u / Y1 * Y1).toNat = u.toNat / Y1.toNat * Y1.toNat := by
      rw [BitVec.toNat_mul, e1]
      exact Nat.mod_eq_of_lt (Nat.lt_of_le_of_lt (Nat.div_mul_le_self _ _) u.isLt)
    have h3 : u.toNat / Y1.toNat * Y1.toNat ≤ u.toNat := Nat.div_mul_le_self _ _
    rw [BitVec.toNat_sub_of_le (by rw [BitVec.le_def, h2]; exact h3), h2]
    rw [Nat.mul_comm] at h1
    omega
  rw [e1, e2]
  exact g
theorem dv_t1 (q : BitVec 64) : (4294967296#64).ule q = decide (4294967296 ≤ q.toNat) := rfl
theorem dv_t2 {q r u1 Y0 : BitVec 64} (hq : q.toNat < 4294967296) (hr : r.toNat < 4294967296) (hu : u1.toNat < 4294967296) (hy : Y0.toNat < 4294967296) :
    (4294967296#64 * r + u1).ult (q * Y0) = decide (4294967296 * r.toNat + u1.toNat < q.toNat * Y0.toNat) := by
  have e1 : (q * Y0).toNat = q.toNat * Y0.toNat := by
    rw [BitVec.toNat_mul]
    have : q.toNat * Y0.toNat ≤ 4294967295 * 4294967295 := Nat.mul_le_mul (by omega) (by omega)
    exact Nat.mod_eq_of_lt (by omega)
  have e2 : (4294967296#64 * r + u1).toNat = 4294967296 * r.toNat + u1.toNat := by
    rw [BitVec.toNat_add, BitVec.toNat_mul]
    show (4294967296 * r.toNat % 2 ^ 64 + u1.toNat) % 2 ^ 64 = _
    omega
  rw [BitVec.ult, e1, e2]
/-- What a round's test says. -/
theorem dv_bad1 {Y0 u1 q r : BitVec 64} (h : (4294967296#64).ule q = true) : dgBad Y0.toNat u1.toNat q.toNat r.toNat := by
  rw [dv_t1] at h; exact .inl (of_decide_eq_true h)
theorem dv_low {q : BitVec 64} (h : (4294967296#64).ule q = false) : q.toNat < 4294967296 := by
  rw [dv_t1] at h; have := of_decide_eq_false h; omega
theorem dv_bad2 {Y1 Y0 u u1 q r : BitVec 64} (H : DgH Y1.toNat Y0.toNat u.toNat u1.toNat) (l : DgL Y1.toNat Y0.toNat u.toNat u1.toNat q.toNat r.toNat) (h : (4294967296#64).ule q = false) (h2 : (4294967296#64 * r + u1).ult (q * Y0) = true) : dgBad Y0.toNat u1.toNat q.toNat r.toNat := by
  rw [dv_t2 (dv_low h) l.lt H.bu H.b0] at h2; exact .inr (of_decide_eq_true h2)
theorem dv_good {Y1 Y0 u u1 q r : BitVec 64} (H : DgH Y1.toNat Y0.toNat u.toNat u1.toNat) (l : DgL Y1.toNat Y0.toNat u.toNat u1.toNat q.toNat r.toNat) (h : (4294967296#64).ule q = false) (h2 : (4294967296#64 * r + u1).ult (q * Y0) = false) : q.toNat = dgQ Y1.toNat Y0.toNat u.toNat u1.toNat := by
  refine dg_good H l ?_
  rw [dv_t2 (dv_low h) l.lt H.bu H.b0] at h2
  have g := dv_low h
  have g2 := of_decide_eq_false h2
  rintro (b | b)
  · omega
  · exact g2 b
theorem dv_dec {Y1 Y0 u u1 q r : BitVec 64} (H : DgH Y1.toNat Y0.toNat u.toNat u1.toNat) (l : DgL Y1.toNat Y0.toNat u.toNat u1.toNat q.toNat r.toNat) (b : dgBad Y0.toNat u1.toNat q.toNat r.toNat) : (q - 1#64).toNat = q.toNat - 1 ∧ (r + Y1).toNat = r.toNat + Y1.toNat ∧ (q - 1#64).toNat < q.toNat := by
  have h1 := dg_bad H l b
  have h2 := l.lt
  have h3 := H.b1
  have e : (q - 1#64).toNat = q.toNat - 1 := by
    rw [BitVec.toNat_sub_of_le (by rw [BitVec.le_def]; show 1 ≤ _; omega)]
    rfl
  refine ⟨e, ?_, by omega⟩
  rw [BitVec.toNat_add]
  omega
theorem dv_next {Y1 Y0 u u1 q r : BitVec 64} (H : DgH Y1.toNat Y0.toNat u.toNat u1.toNat) (l : DgL Y1.toNat Y0.toNat u.toNat u1.toNat q.toNat r.toNat) (b : dgBad Y0.toNat u1.toNat q.toNat r.toNat) (h : (4294967296#64).ule (r + Y1) = false) : DgL Y1.toNat Y0.toNat u.toNat u1.toNat (q - 1#64).toNat (r + Y1).toNat := by
  obtain ⟨e1, e2, _⟩ := dv_dec H l b
  have g := dv_low h
  rw [e2] at g
  rw [e1, e2]
  exact dg_next H l b g
theorem dv_break {Y1 Y0 u u1 q r : BitVec 64} (H : DgH Y1.toNat Y0.toNat u.toNat u1.toNat) (l : DgL Y1.toNat Y0.toNat u.toNat u1.toNat q.toNat r.toNat) (b : dgBad Y0.toNat u1.toNat q.toNat r.toNat) (h : (4294967296#64).ule (r + Y1) = true) : (q - 1#64).toNat = dgQ Y1.toNat Y0.toNat u.toNat u1.toNat := by
  obtain ⟨e1, e2, _⟩ := dv_dec H l b
  rw [dv_t1] at h
  have g := of_decide_eq_true h
  rw [e2] at g
  rw [e1]
  exact dg_break H l b g
/-- What is left behind the first digit. -/
theorem dv_rest {u u1 q Y : BitVec 64} (h : q.toNat * Y.toNat ≤ u.toNat * 4294967296 + u1.toNat) (h2 : u.toNat * 4294967296 + u1.toNat - q.toNat * Y.toNat < 18446744073709551616) :
    (u * 4294967296#64 + u1 - q * Y).toNat = u.toNat * 4294967296 + u1.toNat - q.toNat * Y.toNat := by
  rw [BitVec.toNat_sub, BitVec.toNat_add, BitVec.toNat_mul, BitVec.toNat_mul]
  show (2 ^ 64 - q.toNat * Y.toNat % 2 ^ 64 + (u.toNat * 4294967296 % 2 ^ 64 + u1.toNat) % 2 ^ 64) % 2 ^ 64 = _
  generalize q.toNat * Y.toNat = P at *
  omega
theorem dgQ_mod {y1 y0 u u1 Y : Nat} (e : y1 * 4294967296 + y0 = Y) : u * 4294967296 + u1 - dgQ y1 y0 u u1 * Y = (u * 4294967296 + u1) % Y ∧ dgQ y1 y0 u u1 * Y ≤ u * 4294967296 + u1 := by
  unfold dgQ
  rw [e]
  have := Nat.div_add_mod (u * 4294967296 + u1) Y
  have h2 : (u * 4294967296 + u1) / Y * Y ≤ u * 4294967296 + u1 := Nat.div_mul_le_self _ _
  rw [Nat.mul_comm] at this
  omega
theorem dv_21 {hi lo y q1 : BitVec 64} (f : DvF hi lo y) (h : q1.toNat = dgQ (d1 y).toNat (d0 y).toNat (dU hi lo y).toNat (c1 lo y).toNat) :
    (d21 hi lo y q1).toNat = ((dU hi lo y).toNat * 4294967296 + (c1 lo y).toNat) % (dY y).toNat ∧ DgH (d1 y).toNat (d0 y).toNat (d21 hi lo y q1).toNat (c0 lo y).toNat := by
  obtain ⟨g1, g2⟩ := dgQ_mod (u := (dU hi lo y).toNat) (u1 := (c1 lo y).toNat) f.e10
  have hp : 0 < (dY y).toNat := by have := y_pos f.H; rw [f.e10] at this; exact this
  have g3 : ((dU hi lo y).toNat * 4294967296 + (c1 lo y).toNat) % (dY y).toNat < (dY y).toNat := Nat.mod_lt _ hp
  have e : (d21 hi lo y q1).toNat = ((dU hi lo y).toNat * 4294967296 + (c1 lo y).toNat) % (dY y).toNat := by
    unfold d21
    rw [← h] at g1 g2
    rw [dv_rest g2 (by rw [g1]; exact Nat.lt_trans g3 (dY y).isLt)]
    exact g1
  refine ⟨e, f.H.b1, f.H.b0, f.H.bn, f.c0b, ?_⟩
  rw [e, f.e10]
  exact g3
theorem dv_end {hi lo y q1 q0 : BitVec 64} (f : DvF hi lo y) (h0 : y.ule hi = false) (h1 : q1.toNat = dgQ (d1 y).toNat (d0 y).toNat (dU hi lo y).toNat (c1 lo y).toNat)
    (h2 : q0.toNat = dgQ (d1 y).toNat (d0 y).toNat (d21 hi lo y q1).toNat (c0 lo y).toNat) :
    q1 * 4294967296#64 + q0 = dvQ hi lo y ∧ (d21 hi lo y q1 * 4294967296#64 + c0 lo y - q0 * dY y) >>> (lzB y).toNat = dvR hi lo y := by
  obtain ⟨e, H2⟩ := dv_21 f h1
  have hp : 0 < (dY y).toNat := by have := y_pos f.H; rw [f.e10] at this; exact this
  have hyp : 0 < y.toNat := by
    rcases Nat.eq_zero_or_pos y.toNat with g | g
    · have := f.eY; rw [g, Nat.zero_mul] at this; omega
    · exact g
  obtain ⟨t1, t2⟩ := dg_two (y := (dY y).toNat) (N := (dU hi lo y).toNat * 4294967296 + (c1 lo y).toNat) (u0 := (c0 lo y).toNat) hp
  rw [← f.eN, ← e] at t1 t2
  have p2 := Nat.two_pow_pos (lzB y).toNat
  have m1 : (hi.toNat * 18446744073709551616 + lo.toNat) * 2 ^ (lzB y).toNat / (dY y).toNat = (hi.toNat * 18446744073709551616 + lo.toNat) / y.toNat := by
    rw [f.eY]; exact Nat.mul_div_mul_right _ _ p2
  have m2 : (hi.toNat * 18446744073709551616 + lo.toNat) * 2 ^ (lzB y).toNat % (dY y).toNat = (hi.toNat * 18446744073709551616 + lo.toNat) % y.toNat * 2 ^ (lzB y).toNat := by
    rw [f.eY]; exact Nat.mul_mod_mul_right _ _ _
  rw [m1] at t1
  rw [m2] at t2
  have k1 : dgQ (d1 y).toNat (d0 y).toNat (dU hi lo y).toNat (c1 lo y).toNat = ((dU hi lo y).toNat * 4294967296 + (c1 lo y).toNat) / (dY y).toNat := by
    unfold dgQ; rw [f.e10]
  have k2 : dgQ (d1 y).toNat (d0 y).toNat (d21 hi lo y q1).toNat (c0 lo y).toNat = ((d21 hi lo y q1).toNat * 4294967296 + (c0 lo y).toNat) / (dY y).toNat := by
    unfold dgQ; rw [f.e10]
  refine ⟨BitVec.eq_of_toNat_eq ?_, BitVec.eq_of_toNat_eq ?_⟩
  · have s1 := dg_small f.H
    have s2 := dg_small H2
    rw [← h1] at s1 k1
    rw [← h2] at s2 k2
    unfold dvQ
    rw [BitVec.toNat_add, BitVec.toNat_mul, t1, ← k1, ← k2, BitVec.toNat_ofNat, BitVec.toNat_ofNat]
    show (q1.toNat * 4294967296 % 2 ^ 64 + q0.toNat) % 2 ^ 64 = (q1.toNat * 4294967296 + q0.toNat) % 2 ^ 64
    omega
  · obtain ⟨g1, g2⟩ := dgQ_mod (u := (d21 hi lo y q1).toNat) (u1 := (c0 lo y).toNat) f.e10
    have g3 : ((d21 hi lo y q1).toNat * 4294967296 + (c0 lo y).toNat) % (dY y).toNat < (dY y).toNat := Nat.mod_lt _ hp
    rw [← h2] at g1 g2
    rw [BitVec.toNat_ushiftRight, dv_rest g2 (by rw [g1]; exact Nat.lt_trans g3 (dY y).isLt), g1, ← t2, Nat.shiftRight_eq_div_pow, Nat.mul_div_cancel _ p2]
    unfold dvR
    rw [BitVec.toNat_ofNat]
    exact (Nat.mod_eq_of_lt (Nat.lt_trans (Nat.mod_lt _ hyp) y.isLt)).symm
end Go.Proofs.YtppankimieopiaaDoor
