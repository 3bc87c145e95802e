/-
  The document's product and division, bit by bit: contracts. Conditions: as typed.
-/
import Derived.Test.YtppankimieopiaaDoorGb
namespace Go.Proofs.YtppankimieopiaaDoor
open Go.Ep Go.RowKit
set_option linter.unusedVariables false
set_option linter.unusedSimpArgs false

/-- The counter: so many rounds are left. -/
def kv : Nat → BitVec 64
  | 0 => 18446744073709551615#64
  | n + 1 => BitVec.ofNat 64 n
theorem kv_next {n : Nat} (h : n < 64) : BitVec.ofNat 64 n - 1#64 = kv n := by
  cases n with
  | zero => rfl
  | succ n =>
    have e1 : (BitVec.ofNat 64 (n + 1)).toNat = n + 1 := by rw [BitVec.toNat_ofNat, Nat.mod_eq_of_lt (by omega)]
    have e2 : (BitVec.ofNat 64 n).toNat = n := by rw [BitVec.toNat_ofNat, Nat.mod_eq_of_lt (by omega)]
    apply BitVec.eq_of_toNat_eq
    show _ = (BitVec.ofNat 64 n).toNat
    rw [BitVec.toNat_sub_of_le (by rw [BitVec.le_def, e1]; exact Nat.succ_le_succ (Nat.zero_le n)), e1, e2]
    exact Nat.add_sub_cancel n 1
theorem kv_stepA {n : Nat} (h : n < 64) : AV.one (.b64 true (BitVec.ofNat 64 n - 1#64)) = AV.one (.b64 true (kv n)) := by rw [kv_next h]
theorem kv_ge {n : Nat} (h : n < 64) : (0#64).sle (BitVec.ofNat 64 n) = true ∧ (BitVec.ofNat 64 n).toNat < 64 := by
  refine ⟨?_, by rw [BitVec.toNat_ofNat, Nat.mod_eq_of_lt (by omega)]; exact h⟩
  rw [BitVec.sle_iff_toInt_le, toInt_ofNat (n := n) (by omega)]
  show (0 : Int) ≤ (n : Int)
  omega
theorem bit_at (b : BitVec 64) {n : Nat} (h : n < 64) : (b / (1#64 <<< (BitVec.ofNat 64 n).toNat) % 2#64).toNat = b.toNat / 2 ^ n % 2 := by
  have e : (BitVec.ofNat 64 n).toNat = n := by rw [BitVec.toNat_ofNat, Nat.mod_eq_of_lt (by omega)]
  rw [e, BitVec.toNat_umod, BitVec.toNat_udiv, pw_nat h]
  rfl
theorem bit_1 {b : BitVec 64} {n : Nat} (h : n < 64) (g : (b / (1#64 <<< (BitVec.ofNat 64 n).toNat) % 2#64 == 1#64) = true) : b.toNat / 2 ^ n = 2 * (b.toNat / 2 ^ (n + 1)) + 1 := by
  have e := congrArg BitVec.toNat (by simpa using g : b / (1#64 <<< (BitVec.ofNat 64 n).toNat) % 2#64 = 1#64)
  rw [bit_at b h] at e
  have e1 : (1#64 : BitVec 64).toNat = 1 := rfl
  rw [e1] at e
  rw [Nat.pow_succ, ← Nat.div_div_eq_div_mul]
  omega
theorem bit_0 {b : BitVec 64} {n : Nat} (h : n < 64) (g : (b / (1#64 <<< (BitVec.ofNat 64 n).toNat) % 2#64 == 1#64) = false) : b.toNat / 2 ^ n = 2 * (b.toNat / 2 ^ (n + 1)) := by
  have e := bit_at b h
  have g2 : b / (1#64 <<< (BitVec.ofNat 64 n).toNat) % 2#64 ≠ 1#64 := by simpa using g
  have g3 : (b / (1#64 <<< (BitVec.ofNat 64 n).toNat) % 2#64).toNat ≠ 1 := fun x => g2 (BitVec.eq_of_toNat_eq x)
  rw [e] at g3
  rw [Nat.pow_succ, ← Nat.div_div_eq_div_mul]
  omega
structure TmL (a b : BitVec 64) (p : Nat × BitVec 64 × BitVec 64) : Prop where
  le : p.1 ≤ 64
  eq : p.2.2.toNat * 18446744073709551616 + p.2.1.toNat = a.toNat * (b.toNat / 2 ^ p.1)
theorem TmL.start (a b : BitVec 64) : TmL a b (64, 0#64, 0#64) := ⟨Nat.le_refl _, by
  show 0 * 18446744073709551616 + 0 = _
  have : b.toNat / 2 ^ 64 = 0 := Nat.div_eq_of_lt b.isLt
  rw [this, Nat.mul_zero]⟩
theorem ab_lt (a b : BitVec 64) (n : Nat) : a.toNat * (b.toNat / 2 ^ n) < 18446744073709551616 * 18446744073709551616 := by
  have h1 : b.toNat / 2 ^ n ≤ b.toNat := Nat.div_le_self _ _
  exact Nat.lt_of_le_of_lt (Nat.mul_le_mul_left _ h1) (Nat.mul_lt_mul'' a.isLt b.isLt)
theorem tm_dbl {lo hi : BitVec 64} (h : 2 * (hi.toNat * 18446744073709551616 + lo.toNat) < 18446744073709551616 * 18446744073709551616) :
    (hi * 2#64 + lo / (1#64 <<< (63#64).toNat)).toNat * 18446744073709551616 + (lo * 2#64).toNat = 2 * (hi.toNat * 18446744073709551616 + lo.toNat) := by
  rw [BitVec.toNat_add, BitVec.toNat_mul, BitVec.toNat_mul, BitVec.toNat_udiv]
  have e1 : (2#64 : BitVec 64).toNat = 2 := rfl
  have e2 : (1#64 <<< (63#64).toNat : BitVec 64).toNat = 9223372036854775808 := rfl
  rw [e1, e2]
  have := lo.isLt
  have := hi.isLt
  omega
theorem tm_nc {a lo hi : BitVec 64} (h : (lo + a).ult a = false) : hi.toNat * 18446744073709551616 + (lo + a).toNat = hi.toNat * 18446744073709551616 + lo.toNat + a.toNat := by
  have h2 : ¬ ((lo + a).ult a = true) := by rw [h]; decide
  rw [BitVec.ult_iff_toNat_lt, BitVec.toNat_add] at h2
  rw [BitVec.toNat_add]
  have := lo.isLt
  have := a.isLt
  omega
theorem tm_c {a lo hi : BitVec 64} (h : (lo + a).ult a = true) (hb : hi.toNat * 18446744073709551616 + lo.toNat + a.toNat < 18446744073709551616 * 18446744073709551616) : (hi + 1#64).toNat * 18446744073709551616 + (lo + a).toNat = hi.toNat * 18446744073709551616 + lo.toNat + a.toNat := by
  rw [BitVec.ult_iff_toNat_lt, BitVec.toNat_add] at h
  rw [BitVec.toNat_add, BitVec.toNat_add]
  have e1 : (1#64 : BitVec 64).toNat = 1 := rfl
  rw [e1]
  have := lo.isLt
  have := a.isLt
  have := hi.isLt
  omega
theorem TmL.zero {a b : BitVec 64} {n : Nat} {lo hi : BitVec 64} (t : TmL a b (n + 1, lo, hi)) (h : n < 64) (g : (b / (1#64 <<< (BitVec.ofNat 64 n).toNat) % 2#64 == 1#64) = false) : TmL a b (n, lo * 2#64, hi * 2#64 + lo / (1#64 <<< (63#64).toNat)) := by
  have e := t.eq
  have hb := ab_lt a b n
  simp only at e
  have e2 : a.toNat * (b.toNat / 2 ^ n) = 2 * (a.toNat * (b.toNat / 2 ^ (n + 1))) := by rw [bit_0 h g, Nat.mul_left_comm]
  rw [e2, ← e] at hb
  refine ⟨by show n ≤ 64; omega, ?_⟩
  show (_ : BitVec 64).toNat * _ + (_ : BitVec 64).toNat = a.toNat * (b.toNat / 2 ^ n)
  rw [tm_dbl hb, e2, e]
theorem TmL.one {a b : BitVec 64} {n : Nat} {lo hi : BitVec 64} (t : TmL a b (n + 1, lo, hi)) (h : n < 64) (g : (b / (1#64 <<< (BitVec.ofNat 64 n).toNat) % 2#64 == 1#64) = true) :
    (hi * 2#64 + lo / (1#64 <<< (63#64).toNat)).toNat * 18446744073709551616 + (lo * 2#64).toNat + a.toNat = a.toNat * (b.toNat / 2 ^ n) ∧ a.toNat * (b.toNat / 2 ^ n) < 18446744073709551616 * 18446744073709551616 := by
  have e := t.eq
  have hb := ab_lt a b n
  simp only at e
  have e2 : a.toNat * (b.toNat / 2 ^ n) = 2 * (a.toNat * (b.toNat / 2 ^ (n + 1))) + a.toNat := by rw [bit_1 h g, Nat.mul_add, Nat.mul_left_comm, Nat.mul_one]
  refine ⟨?_, hb⟩
  rw [tm_dbl (by omega), e2, e]
theorem TmL.one_nc {a b : BitVec 64} {n : Nat} {lo hi : BitVec 64} (t : TmL a b (n + 1, lo, hi)) (h : n < 64) (g : (b / (1#64 <<< (BitVec.ofNat 64 n).toNat) % 2#64 == 1#64) = true) (c : (lo * 2#64 + a).ult a = false) : TmL a b (n, lo * 2#64 + a, hi * 2#64 + lo / (1#64 <<< (63#64).toNat)) := by
  obtain ⟨h1, h2⟩ := t.one h g
  refine ⟨by show n ≤ 64; omega, ?_⟩
  show (_ : BitVec 64).toNat * _ + (_ : BitVec 64).toNat = a.toNat * (b.toNat / 2 ^ n)
  rw [tm_nc c, h1]
theorem TmL.one_c {a b : BitVec 64} {n : Nat} {lo hi : BitVec 64} (t : TmL a b (n + 1, lo, hi)) (h : n < 64) (g : (b / (1#64 <<< (BitVec.ofNat 64 n).toNat) % 2#64 == 1#64) = true) (c : (lo * 2#64 + a).ult a = true) : TmL a b (n, lo * 2#64 + a, hi * 2#64 + lo / (1#64 <<< (63#64).toNat) + 1#64) := by
  obtain ⟨h1, h2⟩ := t.one h g
  refine ⟨by show n ≤ 64; omega, ?_⟩
  show (_ : BitVec 64).toNat * _ + (_ : BitVec 64).toNat = a.toNat * (b.toNat / 2 ^ n)
  rw [tm_c c (by rw [h1]; exact h2), h1]
theorem TmL.stop {a b lo hi : BitVec 64} (t : TmL a b (0, lo, hi)) : lo = a * b ∧ hi = BitVec.ofNat 64 (a.toNat * b.toNat / 18446744073709551616) := by
  have e := t.eq
  simp only [Nat.pow_zero, Nat.div_one] at e
  have := lo.isLt
  have := hi.isLt
  refine ⟨BitVec.eq_of_toNat_eq ?_, BitVec.eq_of_toNat_eq ?_⟩
  · rw [BitVec.toNat_mul, ← e]; omega
  · rw [BitVec.toNat_ofNat, ← e]; omega
def sp_tm : Sp
  | [.one (.b64 false a), .one (.b64 false b)] => some (Cond.t, .tup [(false, [.b64 false (a * b)]), (false, [.b64 false (BitVec.ofNat 64 (a.toNat * b.toNat / 18446744073709551616))])])
  | _ => none
set_option maxRecDepth 100000 in
set_option maxHeartbeats 4000000 in
theorem e_tm (G2 : World → Prop) (D2 : VData) (k2 : DataOK Tryd.prog G2 D2) (m : Nat → Nat) : EntryOK Tryd.prog (and2 (GB m) (and2 (GP m) G2)) 36 sp_tm := by
  refine .of_F (C_ari G2 D2 k2 m) (by kernel_rfl) Tryd.func36 (by kernel_rfl) (by kernel_rfl) (fun args c v h hc => ?_)
  unfold sp_tm at h
  split at h
  · rename_i a b; cases h
    refine ⟨rfl, rfl, ?_⟩
    repeat' (first
      | ((with_reducible apply Given.mk); intro h; (try dsimp only [kv] at h); (try ((have _q := hp); (fail_if_success (have _q := q)); (have h' : (0#64).sle 18446744073709551615#64 = true := h); exact absurd h' (by decide))); (try ((have _q := q); rw [(kv_ge q).1] at h; exact absurd h (by decide))))
      | ((conv => whnf); first | with_reducible apply Both.mk | ((fail_if_success (have _q := hp)); refine LoopP.mk (Nat × BitVec 64 × BitVec 64) (fun p => TmL a b p) (fun p => mkS (Tryd.f36).ntmps [(0, .one (.b64 false a)), (1, .one (.b64 false b)), (4, .one (.b64 false 0#64)), (5, .one (.b64 false 0#64)), (6, .one (.b64 false p.2.1)), (7, .one (.b64 false p.2.2)), (8, .one (.b64 true (kv p.1)))] []) (fun p => p.1) ⟨(64, 0#64, 0#64), TmL.start a b, ⟨?_, ?_, ?_, ?_, ?_⟩⟩ ?_; (focus ((repeat' ((conv => whnf); first | exact trivial | refine Both.mk (by first | with_reducible rfl | exact iN_succ _ | rfl) ?_)); done)); (focus ((repeat' ((conv => whnf); first | exact trivial | refine Both.mk (by first | with_reducible rfl | exact iN_succ _ | rfl) ?_)); done)); (focus exact rfl); (focus exact rfl); (focus exact rfl); (rintro ⟨n, lo, hi⟩ hp; rcases n with _ | n; rotate_left 1; (have q : n < 64 := hp.le); rotate_left 1))))
    all_goals first
      | ((with_reducible apply Ob.mk); exact (kv_ge q).2)
      | ((with_reducible apply Ob.mk); exact pw_ne (kv_ge q).2)
      | (with_reducible apply Ob.mk; kernel_rfl)
      | (with_reducible apply Ob.mk; decide)
      | ((have _q := q); (conv => whnf); refine ⟨(n, lo * 2#64, hi * 2#64 + lo / (1#64 <<< (63#64).toNat)), ?_, (show _ < _ + 1 by exact Nat.lt_succ_self _), ⟨?_, ?_, ?_, ?_, ?_⟩⟩; (focus (refine hp.zero q ?_ <;> with_reducible assumption)); (focus ((repeat' ((conv => whnf); first | exact trivial | refine Both.mk (by first | with_reducible rfl | exact iN_succ _ | exact kv_stepA q | rfl) ?_)); done)); (focus ((repeat' ((conv => whnf); first | exact trivial | refine Both.mk (by first | with_reducible rfl | exact iN_succ _ | exact kv_stepA q | rfl) ?_)); done)); (focus exact rfl); (focus exact rfl); (focus exact rfl))
      | ((have _q := q); (conv => whnf); refine ⟨(n, lo * 2#64 + a, hi * 2#64 + lo / (1#64 <<< (63#64).toNat)), ?_, (show _ < _ + 1 by exact Nat.lt_succ_self _), ⟨?_, ?_, ?_, ?_, ?_⟩⟩; (focus (refine hp.one_nc q ?_ ?_ <;> with_reducible assumption)); (focus ((repeat' ((conv => whnf); first | exact trivial | refine Both.mk (by first | with_reducible rfl | exact iN_succ _ | exact kv_stepA q | rfl) ?_)); done)); (focus ((repeat' ((conv => whnf); first | exact trivial | refine Both.mk (by first | with_reducible rfl | exact iN_succ _ | exact kv_stepA q | rfl) ?_)); done)); (focus exact rfl); (focus exact rfl); (focus exact rfl))
      | ((have _q := q); (conv => whnf); refine ⟨(n, lo * 2#64 + a, hi * 2#64 + lo / (1#64 <<< (63#64).toNat) + 1#64), ?_, (show _ < _ + 1 by exact Nat.lt_succ_self _), ⟨?_, ?_, ?_, ?_, ?_⟩⟩; (focus (refine hp.one_c q ?_ ?_ <;> with_reducible assumption)); (focus ((repeat' ((conv => whnf); first | exact trivial | refine Both.mk (by first | with_reducible rfl | exact iN_succ _ | exact kv_stepA q | rfl) ?_)); done)); (focus ((repeat' ((conv => whnf); first | exact trivial | refine Both.mk (by first | with_reducible rfl | exact iN_succ _ | exact kv_stepA q | rfl) ?_)); done)); (focus exact rfl); (focus exact rfl); (focus exact rfl))
      | ((conv => whnf); refine ⟨?_⟩; rw [← hp.stop.1, ← hp.stop.2])
      | ((conv => whnf); skip)
  · cases h
abbrev tb_tm (m : Nat → Nat) : List (Nat × Sp) := (36, sp_tm) :: tb_ari m
theorem C_tm (G2 : World → Prop) (D2 : VData) (k2 : DataOK Tryd.prog G2 D2) (m : Nat → Nat) : CSound Tryd.prog (and2 (GB m) (and2 (GP m) G2)) (tab (or2 (DB m) (or2 (DP m) D2)) (tb_tm m)) := (C_ari G2 D2 k2 m).cons (e_tm G2 D2 k2 m)
/- A division, bit by bit. -/
structure PtL (M bits : Nat) (h l y : BitVec 64) (p : Nat × BitVec 64 × BitVec 64) : Prop where
  le : p.1 ≤ bits
  eq : p.2.1.toNat = (h.toNat * M + l.toNat) / 2 ^ p.1 / y.toNat
  er : p.2.2.toNat = (h.toNat * M + l.toNat) / 2 ^ p.1 % y.toNat
/-- What is asked of the numbers: so many bits, and the higher half is less. -/
structure PtH (M bits : Nat) (h l y : BitVec 64) : Prop where
  m : M = 2 ^ bits
  hb : bits ≤ 64
  lt : h.toNat < y.toNat
  yl : y.toNat < M
  ll : l.toNat < M
theorem PtL.start {M bits : Nat} {h l y : BitVec 64} (g : PtH M bits h l y) : PtL M bits h l y (bits, 0#64, h) := by
  have e : (h.toNat * M + l.toNat) / 2 ^ bits = h.toNat := by
    rw [← g.m, Nat.mul_comm, Nat.mul_add_div (by have := g.yl; omega), Nat.div_eq_of_lt g.ll, Nat.add_zero]
  refine ⟨Nat.le_refl _, ?_, ?_⟩
  · show 0 = (h.toNat * M + l.toNat) / 2 ^ bits / y.toNat
    rw [e, Nat.div_eq_of_lt g.lt]
  · show h.toNat = (h.toNat * M + l.toNat) / 2 ^ bits % y.toNat
    rw [e, Nat.mod_eq_of_lt g.lt]
theorem pt_half {M bits : Nat} {h l y : BitVec 64} (g : PtH M bits h l y) {n : Nat} (hn : n < bits) : (h.toNat * M + l.toNat) / 2 ^ n = 2 * ((h.toNat * M + l.toNat) / 2 ^ (n + 1)) + l.toNat / 2 ^ n % 2 := by
  have e1 : (h.toNat * M + l.toNat) / 2 ^ (n + 1) = (h.toNat * M + l.toNat) / 2 ^ n / 2 := by rw [Nat.pow_succ, ← Nat.div_div_eq_div_mul]
  have e2 : (h.toNat * M + l.toNat) / 2 ^ n = h.toNat * 2 ^ (bits - n) + l.toNat / 2 ^ n := by
    rw [g.m, show 2 ^ bits = 2 ^ (bits - n) * 2 ^ n by rw [← Nat.pow_add, Nat.sub_add_cancel (Nat.le_of_lt hn)], ← Nat.mul_assoc, Nat.mul_comm _ (2 ^ n), Nat.mul_add_div (Nat.two_pow_pos n)]
  have e3 : h.toNat * 2 ^ (bits - n) % 2 = 0 := by
    rw [show bits - n = bits - n - 1 + 1 by omega, Nat.pow_succ, ← Nat.mul_assoc]
    exact Nat.mul_mod_left _ 2
  rw [e1]
  omega
theorem pt_nat {N1 N0 y q r b : Nat} (hq : q = N1 / y) (hr : r = N1 % y) (e : N0 = 2 * N1 + b) (hb : b < 2) (hy : 0 < y) :
    (y ≤ 2 * r + b → N0 / y = 2 * q + 1 ∧ N0 % y = 2 * r + b - y) ∧ (2 * r + b < y → N0 / y = 2 * q ∧ N0 % y = 2 * r + b) := by
  have h1 : N1 = y * q + r := by rw [hq, hr]; exact (Nat.div_add_mod N1 y).symm
  have h2 : r < y := by rw [hr]; exact Nat.mod_lt _ hy
  have h3 : N0 = y * (2 * q) + (2 * r + b) := by rw [e, h1, Nat.mul_add, Nat.mul_left_comm]; omega
  refine ⟨fun h => ?_, fun h => ?_⟩
  · have h4 : N0 = y * (2 * q + 1) + (2 * r + b - y) := by rw [Nat.mul_add, Nat.mul_one]; omega
    rw [h4, Nat.mul_add_div hy, Nat.mul_add_mod, Nat.div_eq_of_lt (by omega), Nat.mod_eq_of_lt (by omega)]
    exact ⟨rfl, rfl⟩
  · rw [h3, Nat.mul_add_div hy, Nat.mul_add_mod, Nat.div_eq_of_lt h, Nat.mod_eq_of_lt h]
    exact ⟨rfl, rfl⟩
theorem pt_qlt {M bits : Nat} {h l y : BitVec 64} (g : PtH M bits h l y) (n : Nat) : (h.toNat * M + l.toNat) / 2 ^ n / y.toNat < M := by
  have h1 : (h.toNat * M + l.toNat) / 2 ^ n ≤ h.toNat * M + l.toNat := Nat.div_le_self _ _
  have h2 : h.toNat * M + l.toNat < y.toNat * M := by
    have : (h.toNat + 1) * M ≤ y.toNat * M := Nat.mul_le_mul_right _ g.lt
    rw [Nat.add_mul, Nat.one_mul] at this
    have := g.ll
    omega
  rw [Nat.div_lt_iff_lt_mul (by have := g.lt; omega), Nat.mul_comm M]
  omega
/-- A round's numbers. -/
structure PtR (M : Nat) (l y q r rr q2 sb : BitVec 64) (n : Nat) : Prop where
  er : rr.toNat = (2 * r.toNat + l.toNat / 2 ^ n % 2) % M
  eq : q2.toNat = 2 * q.toNat % M
  es : sb.toNat = (rr.toNat + M - y.toNat) % M
theorem PtL.yes {M bits : Nat} {h l y : BitVec 64} (g : PtH M bits h l y) {n : Nat} {q r rr q2 sb : BitVec 64} (t : PtL M bits h l y (n + 1, q, r)) (w : PtR M l y q r rr q2 sb n) (M64 : M ≤ 18446744073709551616)
    (c : M ≤ 2 * r.toNat ∨ (2 * r.toNat < M ∧ y.toNat ≤ rr.toNat)) : PtL M bits h l y (n, q2 + 1#64, sb) := by
  have hn : n < bits := t.le
  have hy : 0 < y.toNat := by have := g.lt; omega
  have hb : l.toNat / 2 ^ n % 2 < 2 := Nat.mod_lt _ (by decide)
  have tq := t.eq
  have tr := t.er
  simp only at tq tr
  obtain ⟨s1, _⟩ := pt_nat tq tr (pt_half g hn) hb hy
  have rl : r.toNat < y.toNat := by rw [tr]; exact Nat.mod_lt _ hy
  have yl := g.yl
  have hM : M % 2 = 0 := by rw [g.m, show bits = bits - 1 + 1 by omega, Nat.pow_succ]; exact Nat.mul_mod_left _ 2
  have big : y.toNat ≤ 2 * r.toNat + l.toNat / 2 ^ n % 2 := by
    rcases c with c | ⟨c1, c2⟩
    · omega
    · rw [w.er] at c2
      rw [Nat.mod_eq_of_lt (by omega)] at c2
      exact c2
  obtain ⟨f1, f2⟩ := s1 big
  have ql := pt_qlt g n
  rw [f1] at ql
  refine ⟨Nat.le_of_lt hn, ?_, ?_⟩
  · show (q2 + 1#64).toNat = _
    have e2 : q2.toNat = 2 * q.toNat := by rw [w.eq, Nat.mod_eq_of_lt (by omega)]
    rw [f1, BitVec.toNat_add, e2]
    show (2 * q.toNat + 1) % 2 ^ 64 = 2 * q.toNat + 1
    exact Nat.mod_eq_of_lt (by omega)
  · show sb.toNat = _
    rw [f2, w.es, w.er]
    generalize l.toNat / 2 ^ n % 2 = b at *
    rcases c with c | ⟨c1, c2⟩
    · rw [show 2 * r.toNat + b = (2 * r.toNat + b - M) + M by omega, Nat.add_mod_right, Nat.mod_eq_of_lt (a := 2 * r.toNat + b - M) (by omega), Nat.mod_eq_of_lt (by omega)]
    · rw [Nat.mod_eq_of_lt (a := 2 * r.toNat + b) (by omega), show 2 * r.toNat + b + M - y.toNat = (2 * r.toNat + b - y.toNat) + M by omega, Nat.add_mod_right, Nat.mod_eq_of_lt (by omega)]
theorem PtL.no {M bits : Nat} {h l y : BitVec 64} (g : PtH M bits h l y) {n : Nat} {q r rr q2 sb : BitVec 64} (t : PtL M bits h l y (n + 1, q, r)) (w : PtR M l y q r rr q2 sb n)
    (c1 : 2 * r.toNat < M) (c2 : rr.toNat < y.toNat) : PtL M bits h l y (n, q2, rr) := by
  have hn : n < bits := t.le
  have hy : 0 < y.toNat := by have := g.lt; omega
  have hb : l.toNat / 2 ^ n % 2 < 2 := Nat.mod_lt _ (by decide)
  have tq := t.eq
  have tr := t.er
  simp only at tq tr
  obtain ⟨_, s2⟩ := pt_nat tq tr (pt_half g hn) hb hy
  have hM : M % 2 = 0 := by rw [g.m, show bits = bits - 1 + 1 by omega, Nat.pow_succ]; exact Nat.mul_mod_left _ 2
  have er : rr.toNat = 2 * r.toNat + l.toNat / 2 ^ n % 2 := by rw [w.er, Nat.mod_eq_of_lt (by omega)]
  obtain ⟨f1, f2⟩ := s2 (by rw [← er]; exact c2)
  have ql := pt_qlt g n
  rw [f1] at ql
  refine ⟨Nat.le_of_lt hn, ?_, ?_⟩
  · show q2.toNat = _
    rw [f1, w.eq, Nat.mod_eq_of_lt ql]
  · show rr.toNat = _
    rw [f2, er]
theorem rn_nat {l r : BitVec 64} {n : Nat} (h : n < 64) : (r * 2#64 + l / (1#64 <<< (BitVec.ofNat 64 n).toNat) % 2#64).toNat = (2 * r.toNat + l.toNat / 2 ^ n % 2) % 18446744073709551616 := by
  rw [BitVec.toNat_add, bit_at l h, BitVec.toNat_mul]
  show (r.toNat * 2 % 2 ^ 64 + _) % 2 ^ 64 = _
  omega
theorem lo32_nat (v : BitVec 64) : (lo32 v).toNat = v.toNat % 4294967296 := by
  unfold lo32
  rw [BitVec.toNat_setWidth, BitVec.toNat_setWidth]
  show v.toNat % 2 ^ 32 % 2 ^ 64 = v.toNat % 2 ^ 32
  omega
theorem pr64 {l y q r : BitVec 64} {n : Nat} (h : n < 64) : PtR 18446744073709551616 l y q r (r * 2#64 + l / (1#64 <<< (BitVec.ofNat 64 n).toNat) % 2#64) (q * 2#64) (r * 2#64 + l / (1#64 <<< (BitVec.ofNat 64 n).toNat) % 2#64 - y) n := by
  refine ⟨rn_nat h, ?_, ?_⟩
  · rw [BitVec.toNat_mul]
    show q.toNat * 2 % 2 ^ 64 = _
    omega
  · rw [BitVec.toNat_sub]
    have := y.isLt
    generalize (r * 2#64 + l / (1#64 <<< (BitVec.ofNat 64 n).toNat) % 2#64).toNat = R
    omega
theorem pr32 {l y q r : BitVec 64} {n : Nat} (h : n < 64) (hy : y.toNat < 4294967296) : PtR 4294967296 l y q r (lo32 (r * 2#64 + l / (1#64 <<< (BitVec.ofNat 64 n).toNat) % 2#64)) (lo32 (q * 2#64)) (lo32 (lo32 (r * 2#64 + l / (1#64 <<< (BitVec.ofNat 64 n).toNat) % 2#64) - y)) n := by
  refine ⟨?_, ?_, ?_⟩
  · rw [lo32_nat, rn_nat h]
    omega
  · rw [lo32_nat, BitVec.toNat_mul]
    show q.toNat * 2 % 2 ^ 64 % _ = _
    omega
  · rw [lo32_nat, BitVec.toNat_sub]
    have h1 : (lo32 (r * 2#64 + l / (1#64 <<< (BitVec.ofNat 64 n).toNat) % 2#64)).toNat < 4294967296 := by rw [lo32_nat]; exact Nat.mod_lt _ (by decide)
    generalize (lo32 (r * 2#64 + l / (1#64 <<< (BitVec.ofNat 64 n).toNat) % 2#64)).toNat = R at *
    omega
theorem ov64 {r : BitVec 64} {b : Bool} (h : (1#64 <<< (64#64 - 1#64 : BitVec 64).toNat).ule r = b) : b = decide (18446744073709551616 ≤ 2 * r.toNat) := by
  rw [← h]
  show decide (9223372036854775808 ≤ r.toNat) = _
  exact decide_eq_decide.2 (by omega)
theorem ov32 {r : BitVec 64} {b : Bool} (h : (1#64 <<< (32#64 - 1#64 : BitVec 64).toNat).ule r = b) : b = decide (4294967296 ≤ 2 * r.toNat) := by
  rw [← h]
  show decide (2147483648 ≤ r.toNat) = _
  exact decide_eq_decide.2 (by omega)
theorem ul_t {x y : BitVec 64} (h : x.ule y = true) : x.toNat ≤ y.toNat := BitVec.ule_iff_toNat_le.1 h
theorem ul_f {x y : BitVec 64} (h : x.ule y = false) : y.toNat < x.toNat := by
  have : ¬ (x.ule y = true) := by rw [h]; decide
  rw [BitVec.ule_iff_toNat_le] at this
  omega
theorem kv_st64 {n : Nat} (h : n < 64) : AV.one (.b64 true (BitVec.ofNat 64 n - 1#64)) = AV.one (.b64 true (kv n)) := kv_stepA (by omega)
theorem pt_end {M bits : Nat} {h l y q r : BitVec 64} (t : PtL M bits h l y (0, q, r)) : AV.tup [(false, [.b64 false q]), (false, [.b64 false r])] = AV.tup [(false, [.b64 false (BitVec.ofNat 64 ((h.toNat * M + l.toNat) / y.toNat))]), (false, [.b64 false (BitVec.ofNat 64 ((h.toNat * M + l.toNat) % y.toNat))])] := by
  have e1 := t.eq
  have e2 := t.er
  simp only [Nat.pow_zero, Nat.div_one] at e1 e2
  rw [← e1, ← e2, BitVec.ofNat_toNat, BitVec.ofNat_toNat, BitVec.setWidth_eq, BitVec.setWidth_eq]
set_option maxRecDepth 100000 in
set_option maxHeartbeats 4000000 in
theorem pt_64 (D2 : VData) (m : Nat → Nat) (h l y : BitVec 64) (g : PtH 18446744073709551616 64 h l y) : F Tryd.prog (tab (or2 (DB m) (or2 (DP m) D2)) (tb_tm m)) Tryd.f37 [.one (.b64 false h), .one (.b64 false l), .one (.b64 false y), .one (.b64 true 64#64)] (fun r => r = .tup [(false, [.b64 false (BitVec.ofNat 64 ((h.toNat * 18446744073709551616 + l.toNat) / y.toNat))]), (false, [.b64 false (BitVec.ofNat 64 ((h.toNat * 18446744073709551616 + l.toNat) % y.toNat))])]) := by
  repeat' (first
    | ((with_reducible apply Given.mk); intro h1; (try dsimp only [kv] at h1); (try ((have _q := hp); (fail_if_success (have _q := qq)); (have h' : (0#64).sle 18446744073709551615#64 = true := h1); exact absurd h' (by decide))); (try ((have _q := qq); rw [(kv_ge qq).1] at h1; exact absurd h1 (by decide))); (try simp only [Bool.true_eq_false, Bool.false_eq_true] at h1))
    | ((conv => whnf); first | with_reducible apply Both.mk | ((fail_if_success (have _q := hp)); refine LoopP.mk (Nat × BitVec 64 × BitVec 64) (fun p => PtL 18446744073709551616 64 h l y p) (fun p => mkS (Tryd.f37).ntmps [(0, .one (.b64 false h)), (1, .one (.b64 false l)), (2, .one (.b64 false y)), (3, .one (.b64 true 64#64)), (8, .one (.b64 false 0#64)), (9, .one (.b64 false 0#64)), (10, .one (.b64 false p.2.1)), (11, .one (.b64 false p.2.2)), (12, .one (.b64 true (kv p.1)))] []) (fun p => p.1) ⟨(64, 0#64, h), PtL.start g, ⟨?_, ?_, ?_, ?_, ?_⟩⟩ ?_; (focus ((repeat' ((conv => whnf); first | exact trivial | refine Both.mk (by first | with_reducible rfl | exact iN_succ _ | rfl) ?_)); done)); (focus ((repeat' ((conv => whnf); first | exact trivial | refine Both.mk (by first | with_reducible rfl | exact iN_succ _ | rfl) ?_)); done)); (focus exact rfl); (focus exact rfl); (focus exact rfl); (rintro ⟨n, q, r⟩ hp; rcases n with _ | n; rotate_left 1; (have qq : n < 64 := hp.le); rotate_left 1))))
  all_goals first
    | ((with_reducible apply Ob.mk); exact (kv_ge qq).2)
    | ((with_reducible apply Ob.mk); exact pw_ne (kv_ge qq).2)
    | (with_reducible apply Ob.mk; kernel_rfl)
    | (with_reducible apply Ob.mk; decide)
    | ((have _q := qq); (conv => whnf); refine ⟨(n, q * 2#64 + 1#64, r * 2#64 + l / (1#64 <<< (BitVec.ofNat 64 n).toNat) % 2#64 - y), ?_, (show _ < _ + 1 by exact Nat.lt_succ_self _), ⟨?_, ?_, ?_, ?_, ?_⟩⟩; (focus (refine PtL.yes g hp (pr64 qq) (by decide) (.inl (of_decide_eq_true (ov64 ?_).symm)); with_reducible assumption)); (focus ((repeat' ((conv => whnf); first | exact trivial | refine Both.mk (by first | with_reducible rfl | exact iN_succ _ | exact kv_st64 qq | rfl) ?_)); done)); (focus ((repeat' ((conv => whnf); first | exact trivial | refine Both.mk (by first | with_reducible rfl | exact iN_succ _ | exact kv_st64 qq | rfl) ?_)); done)); (focus exact rfl); (focus exact rfl); (focus exact rfl))
    | ((have _q := qq); (conv => whnf); refine ⟨(n, q * 2#64 + 1#64, r * 2#64 + l / (1#64 <<< (BitVec.ofNat 64 n).toNat) % 2#64 - y), ?_, (show _ < _ + 1 by exact Nat.lt_succ_self _), ⟨?_, ?_, ?_, ?_, ?_⟩⟩; (focus (refine PtL.yes g hp (pr64 qq) (by decide) (.inr ⟨Nat.lt_of_not_le (of_decide_eq_false (ov64 ?_).symm), ul_t ?_⟩) <;> with_reducible assumption)); (focus ((repeat' ((conv => whnf); first | exact trivial | refine Both.mk (by first | with_reducible rfl | exact iN_succ _ | exact kv_st64 qq | rfl) ?_)); done)); (focus ((repeat' ((conv => whnf); first | exact trivial | refine Both.mk (by first | with_reducible rfl | exact iN_succ _ | exact kv_st64 qq | rfl) ?_)); done)); (focus exact rfl); (focus exact rfl); (focus exact rfl))
    | ((have _q := qq); (conv => whnf); refine ⟨(n, q * 2#64, r * 2#64 + l / (1#64 <<< (BitVec.ofNat 64 n).toNat) % 2#64), ?_, (show _ < _ + 1 by exact Nat.lt_succ_self _), ⟨?_, ?_, ?_, ?_, ?_⟩⟩; (focus (refine PtL.no g hp (pr64 qq) (Nat.lt_of_not_le (of_decide_eq_false (ov64 ?_).symm)) (ul_f ?_) <;> with_reducible assumption)); (focus ((repeat' ((conv => whnf); first | exact trivial | refine Both.mk (by first | with_reducible rfl | exact iN_succ _ | exact kv_st64 qq | rfl) ?_)); done)); (focus ((repeat' ((conv => whnf); first | exact trivial | refine Both.mk (by first | with_reducible rfl | exact iN_succ _ | exact kv_st64 qq | rfl) ?_)); done)); (focus exact rfl); (focus exact rfl); (focus exact rfl))
    | ((conv => whnf); refine ⟨?_⟩; exact pt_end hp)
    | ((conv => whnf); skip)
theorem kv_st32 {n : Nat} (h : n < 32) : AV.one (.b64 true (BitVec.ofNat 64 n - 1#64)) = AV.one (.b64 true (kv n)) := kv_stepA (by omega)
set_option maxRecDepth 100000 in
set_option maxHeartbeats 4000000 in
theorem pt_32 (D2 : VData) (m : Nat → Nat) (h l y : BitVec 64) (g : PtH 4294967296 32 h l y) : F Tryd.prog (tab (or2 (DB m) (or2 (DP m) D2)) (tb_tm m)) Tryd.f37 [.one (.b64 false h), .one (.b64 false l), .one (.b64 false y), .one (.b64 true 32#64)] (fun r => r = .tup [(false, [.b64 false (BitVec.ofNat 64 ((h.toNat * 4294967296 + l.toNat) / y.toNat))]), (false, [.b64 false (BitVec.ofNat 64 ((h.toNat * 4294967296 + l.toNat) % y.toNat))])]) := by
  repeat' (first
    | ((with_reducible apply Given.mk); intro h1; (try dsimp only [kv] at h1); (try ((have _q := hp); (fail_if_success (have _q := qq)); (have h' : (0#64).sle 18446744073709551615#64 = true := h1); exact absurd h' (by decide))); (try ((have _q := qq); rw [(kv_ge (Nat.lt_trans qq (by decide))).1] at h1; exact absurd h1 (by decide))); (try simp only [Bool.true_eq_false, Bool.false_eq_true] at h1))
    | ((conv => whnf); first | with_reducible apply Both.mk | ((fail_if_success (have _q := hp)); refine LoopP.mk (Nat × BitVec 64 × BitVec 64) (fun p => PtL 4294967296 32 h l y p) (fun p => mkS (Tryd.f37).ntmps [(0, .one (.b64 false h)), (1, .one (.b64 false l)), (2, .one (.b64 false y)), (3, .one (.b64 true 32#64)), (8, .one (.b64 false 0#64)), (9, .one (.b64 false 0#64)), (10, .one (.b64 false p.2.1)), (11, .one (.b64 false p.2.2)), (12, .one (.b64 true (kv p.1)))] []) (fun p => p.1) ⟨(32, 0#64, h), PtL.start g, ⟨?_, ?_, ?_, ?_, ?_⟩⟩ ?_; (focus ((repeat' ((conv => whnf); first | exact trivial | refine Both.mk (by first | with_reducible rfl | exact iN_succ _ | rfl) ?_)); done)); (focus ((repeat' ((conv => whnf); first | exact trivial | refine Both.mk (by first | with_reducible rfl | exact iN_succ _ | rfl) ?_)); done)); (focus exact rfl); (focus exact rfl); (focus exact rfl); (rintro ⟨n, q, r⟩ hp; rcases n with _ | n; rotate_left 1; (have qq : n < 32 := hp.le); rotate_left 1))))
  all_goals first
    | ((with_reducible apply Ob.mk); exact (kv_ge (Nat.lt_trans qq (by decide))).2)
    | ((with_reducible apply Ob.mk); exact pw_ne (kv_ge (Nat.lt_trans qq (by decide))).2)
    | (with_reducible apply Ob.mk; kernel_rfl)
    | (with_reducible apply Ob.mk; decide)
    | ((have _q := qq); (conv => whnf); refine ⟨(n, lo32 (q * 2#64) + 1#64, lo32 (lo32 (r * 2#64 + l / (1#64 <<< (BitVec.ofNat 64 n).toNat) % 2#64) - y)), ?_, (show _ < _ + 1 by exact Nat.lt_succ_self _), ⟨?_, ?_, ?_, ?_, ?_⟩⟩; (focus (refine PtL.yes g hp (pr32 (Nat.lt_trans qq (by decide)) g.yl) (by decide) (.inl (of_decide_eq_true (ov32 ?_).symm)); with_reducible assumption)); (focus ((repeat' ((conv => whnf); first | exact trivial | refine Both.mk (by first | with_reducible rfl | exact iN_succ _ | exact kv_st32 qq | rfl) ?_)); done)); (focus ((repeat' ((conv => whnf); first | exact trivial | refine Both.mk (by first | with_reducible rfl | exact iN_succ _ | exact kv_st32 qq | rfl) ?_)); done)); (focus exact rfl); (focus exact rfl); (focus exact rfl))
    | ((have _q := qq); (conv => whnf); refine ⟨(n, lo32 (q * 2#64) + 1#64, lo32 (lo32 (r * 2#64 + l / (1#64 <<< (BitVec.ofNat 64 n).toNat) % 2#64) - y)), ?_, (show _ < _ + 1 by exact Nat.lt_succ_self _), ⟨?_, ?_, ?_, ?_, ?_⟩⟩; (focus (refine PtL.yes g hp (pr32 (Nat.lt_trans qq (by decide)) g.yl) (by decide) (.inr ⟨Nat.lt_of_not_le (of_decide_eq_false (ov32 ?_).symm), ul_t ?_⟩) <;> with_reducible assumption)); (focus ((repeat' ((conv => whnf); first | exact trivial | refine Both.mk (by first | with_reducible rfl | exact iN_succ _ | exact kv_st32 qq | rfl) ?_)); done)); (focus ((repeat' ((conv => whnf); first | exact trivial | refine Both.mk (by first | with_reducible rfl | exact iN_succ _ | exact kv_st32 qq | rfl) ?_)); done)); (focus exact rfl); (focus exact rfl); (focus exact rfl))
    | ((have _q := qq); (conv => whnf); refine ⟨(n, lo32 (q * 2#64), lo32 (r * 2#64 + l / (1#64 <<< (BitVec.ofNat 64 n).toNat) % 2#64)), ?_, (show _ < _ + 1 by exact Nat.lt_succ_self _), ⟨?_, ?_, ?_, ?_, ?_⟩⟩; (focus (refine PtL.no g hp (pr32 (Nat.lt_trans qq (by decide)) g.yl) (Nat.lt_of_not_le (of_decide_eq_false (ov32 ?_).symm)) (ul_f ?_) <;> with_reducible assumption)); (focus ((repeat' ((conv => whnf); first | exact trivial | refine Both.mk (by first | with_reducible rfl | exact iN_succ _ | exact kv_st32 qq | rfl) ?_)); done)); (focus ((repeat' ((conv => whnf); first | exact trivial | refine Both.mk (by first | with_reducible rfl | exact iN_succ _ | exact kv_st32 qq | rfl) ?_)); done)); (focus exact rfl); (focus exact rfl); (focus exact rfl))
    | ((conv => whnf); refine ⟨?_⟩; exact pt_end hp)
    | ((conv => whnf); skip)
end Go.Proofs.YtppankimieopiaaDoor
