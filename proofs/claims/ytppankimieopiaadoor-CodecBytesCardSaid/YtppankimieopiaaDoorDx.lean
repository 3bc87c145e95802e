/-
  Chapter 11: the document's Decode: its contract. Conditions: as typed.
-/
import Derived.Test.YtppankimieopiaaDoorDs
import Derived.Test.YtppankimieopiaaDoorDw
namespace Go.Proofs.YtppankimieopiaaDoor
open Go.Ep Go.RowKit
set_option linter.unusedVariables false
set_option linter.unusedSimpArgs false
theorem rdec4 {s : ByteArray} {a : BitVec 64} (hs : s.size < 9223372036854775808) (hb : badA s a = false) {y : MX} (hy : rgF (exB s a.toNat s.size) = y) :
    (vld y.k y.al y.cc y.sz y.w y.sh y.d y.s y.dp y.rl y.im = false ∧ xA s a = X0 ∧ nA s a = 0#64 ∧ eA s a = 110#64) ∨
    (vld y.k y.al y.cc y.sz y.w y.sh y.d y.s y.dp y.rl y.im = true ∧ (BitVec.ofNat 64 (exB s a.toNat s.size).size).slt (BitVec.ofNat 64 (encB y.k y.al y.cc y.sz y.w y.sh y.d y.s y.dp y.rl y.im).size) = true ∧ xA s a = X0 ∧ nA s a = 0#64 ∧ eA s a = 110#64) ∨
    (vld y.k y.al y.cc y.sz y.w y.sh y.d y.s y.dp y.rl y.im = true ∧ (BitVec.ofNat 64 (exB s a.toNat s.size).size).slt (BitVec.ofNat 64 (encB y.k y.al y.cc y.sz y.w y.sh y.d y.s y.dp y.rl y.im).size) = false ∧ (0 ≤ (BitVec.ofNat 64 (encB y.k y.al y.cc y.sz y.w y.sh y.d y.s y.dp y.rl y.im).size).toInt ∧ 0 ≤ (BitVec.ofNat 64 (encB y.k y.al y.cc y.sz y.w y.sh y.d y.s y.dp y.rl y.im).size).toNat ∧ (BitVec.ofNat 64 (encB y.k y.al y.cc y.sz y.w y.sh y.d y.s y.dp y.rl y.im).size).toNat ≤ (exB s a.toNat s.size).size) ∧ decide (exB (exB s a.toNat s.size) 0 (BitVec.ofNat 64 (encB y.k y.al y.cc y.sz y.w y.sh y.d y.s y.dp y.rl y.im).size).toNat = encB y.k y.al y.cc y.sz y.w y.sh y.d y.s y.dp y.rl y.im) = false ∧ xA s a = X0 ∧ nA s a = 0#64 ∧ eA s a = 110#64) ∨
    (vld y.k y.al y.cc y.sz y.w y.sh y.d y.s y.dp y.rl y.im = true ∧ (BitVec.ofNat 64 (exB s a.toNat s.size).size).slt (BitVec.ofNat 64 (encB y.k y.al y.cc y.sz y.w y.sh y.d y.s y.dp y.rl y.im).size) = false ∧ (0 ≤ (BitVec.ofNat 64 (encB y.k y.al y.cc y.sz y.w y.sh y.d y.s y.dp y.rl y.im).size).toInt ∧ 0 ≤ (BitVec.ofNat 64 (encB y.k y.al y.cc y.sz y.w y.sh y.d y.s y.dp y.rl y.im).size).toNat ∧ (BitVec.ofNat 64 (encB y.k y.al y.cc y.sz y.w y.sh y.d y.s y.dp y.rl y.im).size).toNat ≤ (exB s a.toNat s.size).size) ∧ decide (exB (exB s a.toNat s.size) 0 (BitVec.ofNat 64 (encB y.k y.al y.cc y.sz y.w y.sh y.d y.s y.dp y.rl y.im).size).toNat = encB y.k y.al y.cc y.sz y.w y.sh y.d y.s y.dp y.rl y.im) = true ∧ xA s a = y ∧ nA s a = BitVec.ofNat 64 (encB y.k y.al y.cc y.sz y.w y.sh y.d y.s y.dp y.rl y.im).size ∧ eA s a = 0#64) := by
  have he : (eX y).size ≤ 60 := enc_le _ _ _ _ _ _ _ _ _ _ _
  have ht : (exB s a.toNat s.size).size < 9223372036854775808 := exB_lt hs
  have none_ : (vX y && pre (exB s a.toNat s.size) (eX y)) = false → xA s a = X0 ∧ nA s a = 0#64 ∧ eA s a = 110#64 := by
    intro h
    refine kA_no ?_
    rw [kA_eq hb]
    refine dec_0 ht (fun x hv => ?_)
    cases hp : pre (exB s a.toNat s.size) (eX x) with
    | false => rfl
    | true =>
      obtain ⟨r, hr⟩ := pre_split hp
      have := RTr hv r
      rw [← hr, hy] at this
      rw [this, hv, hp] at h
      cases h
  cases hv : vX y with
  | false => exact .inl ⟨hv, none_ (by rw [hv]; rfl)⟩
  | true =>
    have hn : (BitVec.ofNat 64 (encB y.k y.al y.cc y.sz y.w y.sh y.d y.s y.dp y.rl y.im).size).toNat = (eX y).size := nat_of (Nat.lt_of_le_of_lt he (by decide))
    have hni : (BitVec.ofNat 64 (encB y.k y.al y.cc y.sz y.w y.sh y.d y.s y.dp y.rl y.im).size).toInt = ((eX y).size : Int) := toInt_ofNat (Nat.lt_of_le_of_lt he (by decide))
    cases hl : (BitVec.ofNat 64 (exB s a.toNat s.size).size).slt (BitVec.ofNat 64 (encB y.k y.al y.cc y.sz y.w y.sh y.d y.s y.dp y.rl y.im).size) with
    | true =>
      refine .inr (.inl ⟨hv, rfl, none_ ?_⟩)
      rw [BitVec.slt_iff_toInt_lt, hni, toInt_ofNat ht] at hl
      cases hp : pre (exB s a.toNat s.size) (eX y) with
      | false => rw [Bool.and_false]
      | true => have := pre_size hp; omega
    | false =>
      rw [BitVec.slt_eq_decide, decide_eq_false_iff_not, hni, toInt_ofNat ht] at hl
      have ix : 0 ≤ (BitVec.ofNat 64 (encB y.k y.al y.cc y.sz y.w y.sh y.d y.s y.dp y.rl y.im).size).toInt ∧ 0 ≤ (BitVec.ofNat 64 (encB y.k y.al y.cc y.sz y.w y.sh y.d y.s y.dp y.rl y.im).size).toNat ∧ (BitVec.ofNat 64 (encB y.k y.al y.cc y.sz y.w y.sh y.d y.s y.dp y.rl y.im).size).toNat ≤ (exB s a.toNat s.size).size := by rw [hn, hni]; omega
      have hp : pre (exB s a.toNat s.size) (eX y) = decide (exB (exB s a.toNat s.size) 0 (BitVec.ofNat 64 (encB y.k y.al y.cc y.sz y.w y.sh y.d y.s y.dp y.rl y.im).size).toNat = encB y.k y.al y.cc y.sz y.w y.sh y.d y.s y.dp y.rl y.im) := by rw [hn]; rfl
      cases hq : decide (exB (exB s a.toNat s.size) 0 (BitVec.ofNat 64 (encB y.k y.al y.cc y.sz y.w y.sh y.d y.s y.dp y.rl y.im).size).toNat = encB y.k y.al y.cc y.sz y.w y.sh y.d y.s y.dp y.rl y.im) with
      | false => exact .inr (.inr (.inl ⟨hv, rfl, ix, rfl, none_ (by rw [hp, hq, Bool.and_false])⟩))
      | true => exact .inr (.inr (.inr ⟨hv, rfl, ix, rfl, kA_at hb hs hv (by rw [hp, hq])⟩))
set_option maxRecDepth 100000 in
set_option maxHeartbeats 4000000 in
theorem rD_bad (D2 : VData) (m : Nat → Nat) (s : ByteArray) (a : BitVec 64) (hs : s.size < 9223372036854775808) (hb : badA s a = true) : F Tryd.prog (tab (DN m D2) (tb_regs m)) Tryd.f24 [.one (.str s), .one (.b64 true a)] (fun r => r = .tup [(true, LX (xA s a)), (false, [.b64 true (nA s a)]), (false, [.b64 true (eA s a)])]) := by
  have hk : kA s a = 0 := by unfold kA; rw [hb, if_pos rfl]
  obtain ⟨hx, hn, he⟩ := kA_no hk
  rw [hx, hn, he]
  unfold badA at hb
  cases b1 : a.slt 0#64
  all_goals
    rw [b1] at hb
    simp only [Bool.false_or, Bool.true_or] at hb
    repeat' (first
      | (with_reducible apply Given.mk; intro h; (try simp only [b1, hb, Bool.true_eq_false, Bool.false_eq_true] at h); (try exact absurd h (by decide)))
      | ((conv => whnf); with_reducible apply Both.mk))
    all_goals first
      | ((with_reducible apply Ob.mk); with_reducible exact hs)
      | (with_reducible apply Ob.mk; kernel_rfl)
      | (with_reducible apply Ob.mk; decide)
      | ((conv => whnf); exact ⟨rfl⟩)
      | ((conv => whnf); skip)
theorem MX_eta (x : MX) : (⟨x.k, x.al, x.cc, x.sz, x.w, x.sh, x.d, x.s, x.dp, x.rl, x.im⟩ : MX) = x := rfl
theorem XW_of (w : Bool) : (⟨0#64, 0#64, 0#64, 0#64, w, false, 0#64, 0#64, 0#32, 0#32, 0#64⟩ : MX) = XW w := rfl
theorem lt60' (c : Prop) [Decidable c] (k al cc sz : BitVec 64) (w sh : Bool) (d s : BitVec 64) (dp rl : BitVec 32) (im : BitVec 64) : (if c then encB k al cc sz w sh d s dp rl im else s0).size < 9223372036854775808 := lt60 c k al cc sz w sh d s dp rl im
set_option maxRecDepth 100000 in
set_option maxHeartbeats 8000000 in
theorem rD_0 (D2 : VData) (m : Nat → Nat) (s : ByteArray) (a : BitVec 64) (hs : s.size < 9223372036854775808) (hb : badA s a = false) (g1 : (atB (exB s a.toNat s.size) 0#64 == 102#64) = false) (g2 : (64#64).sle (atB (exB s a.toNat s.size) 0#64) = false) (g4 : ((atB (exB s a.toNat s.size) 0#64) == 15#64) = false) : F Tryd.prog (tab (DN m D2) (tb_regs m)) Tryd.f24 [.one (.str s), .one (.b64 true a)] (fun r => r = .tup [(true, LX (xA s a)), (false, [.b64 true (nA s a)]), (false, [.b64 true (eA s a)])]) := by
  have hat := at_ok hs hb
  have ht : (exB s a.toNat s.size).size < 9223372036854775808 := exB_lt hs
  have E : rgF (exB s a.toNat s.size) = (regF (exB s a.toNat s.size) 0#64 (wid8 (firF (exB s a.toNat s.size) 0#64 (XW ((8#64).sle 0#64)) false)) 0#64) := by
    simp only [rgF, dX1, dI2, dTwo, dI1, dHigh, dRx, dI0, dHalf, g1, g2, g4, Bool.and_true, Bool.and_false, Bool.true_and, Bool.false_and, Bool.and_self, if_true, if_false, Bool.false_eq_true]
  have b1 : a.slt 0#64 = false := (Bool.or_eq_false_iff.1 hb).1
  have b2 : (BitVec.ofNat 64 s.size).sle a = false := (Bool.or_eq_false_iff.1 hb).2
  have R4 := rdec4 hs hb E
  clear hb E
  rcases R4 with ⟨hw, hx, hn, he⟩ | ⟨hw, hl, hx, hn, he⟩ | ⟨hw, hl, ix, hp, hx, hn, he⟩ | ⟨hw, hl, ix, hp, hx, hn, he⟩
  all_goals
    rw [hx, hn, he]
    repeat' ((conv => whnf); first
      | with_reducible apply Both.mk
      | (with_reducible apply Given.mk; intro h; (try simp only [MX_eta, XW_of, b1, b2, g1, g2, g4, hw, if_true, if_false, BitVec.reduceBNe, BitVec.reduceBEq, bne_self_eq_false, Bool.true_eq_false, Bool.false_eq_true, eq_self] at h); (try simp only [hl, Bool.true_eq_false, Bool.false_eq_true, eq_self] at h); (try simp only [hp, Bool.not_true, Bool.not_false, Bool.true_eq_false, Bool.false_eq_true, eq_self] at h)))
    all_goals first
      | ((with_reducible apply Ob.mk); first | with_reducible exact hs | with_reducible exact ht | with_reducible exact hat)
      | ((with_reducible apply Ob.mk); with_reducible exact lt60' _ _ _ _ _ _ _ _ _ _ _ _)
      | ((conv => whnf); refine ⟨?_⟩; simp only [LX, X0]; done)
      | ((conv => whnf); refine ⟨?_⟩; simp only [MX_eta, XW_of, g1, hw, if_true, LX]; done)
      | ((with_reducible apply Ob.mk); simp only [MX_eta, XW_of, g1, hw, if_true]; with_reducible exact ix)
      | ((with_reducible apply Ob.mk); refine ⟨ht, ?_⟩; decide)
      | ((with_reducible apply Ob.mk); refine ⟨⟨ht, ?_⟩, rfl, rfl, rfl, rfl, rfl, rfl, rfl, rfl, rfl, rfl⟩; decide)
      | (with_reducible apply Ob.mk; kernel_rfl)
      | (with_reducible apply Ob.mk; decide)
      | ((conv => whnf); skip)
set_option maxRecDepth 100000 in
set_option maxHeartbeats 8000000 in
theorem rD_1 (D2 : VData) (m : Nat → Nat) (s : ByteArray) (a : BitVec 64) (hs : s.size < 9223372036854775808) (hb : badA s a = false) (g1 : (atB (exB s a.toNat s.size) 0#64 == 102#64) = false) (g2 : (64#64).sle (atB (exB s a.toNat s.size) 0#64) = false) (g4 : ((atB (exB s a.toNat s.size) 0#64) == 15#64) = true) : F Tryd.prog (tab (DN m D2) (tb_regs m)) Tryd.f24 [.one (.str s), .one (.b64 true a)] (fun r => r = .tup [(true, LX (xA s a)), (false, [.b64 true (nA s a)]), (false, [.b64 true (eA s a)])]) := by
  have hat := at_ok hs hb
  have ht : (exB s a.toNat s.size).size < 9223372036854775808 := exB_lt hs
  have E : rgF (exB s a.toNat s.size) = (regF (exB s a.toNat s.size) (0#64 + 1#64) (secF (exB s a.toNat s.size) (0#64 + 1#64) (XW ((8#64).sle 0#64))) 0#64) := by
    simp only [rgF, dX1, dI2, dTwo, dI1, dHigh, dRx, dI0, dHalf, g1, g2, g4, Bool.and_true, Bool.and_false, Bool.true_and, Bool.false_and, Bool.and_self, if_true, if_false, Bool.false_eq_true]
  have b1 : a.slt 0#64 = false := (Bool.or_eq_false_iff.1 hb).1
  have b2 : (BitVec.ofNat 64 s.size).sle a = false := (Bool.or_eq_false_iff.1 hb).2
  have R4 := rdec4 hs hb E
  clear hb E
  rcases R4 with ⟨hw, hx, hn, he⟩ | ⟨hw, hl, hx, hn, he⟩ | ⟨hw, hl, ix, hp, hx, hn, he⟩ | ⟨hw, hl, ix, hp, hx, hn, he⟩
  all_goals
    rw [hx, hn, he]
    repeat' ((conv => whnf); first
      | with_reducible apply Both.mk
      | (with_reducible apply Given.mk; intro h; (try simp only [MX_eta, XW_of, b1, b2, g1, g2, g4, hw, if_true, if_false, BitVec.reduceBNe, BitVec.reduceBEq, bne_self_eq_false, Bool.true_eq_false, Bool.false_eq_true, eq_self] at h); (try simp only [hl, Bool.true_eq_false, Bool.false_eq_true, eq_self] at h); (try simp only [hp, Bool.not_true, Bool.not_false, Bool.true_eq_false, Bool.false_eq_true, eq_self] at h)))
    all_goals first
      | ((with_reducible apply Ob.mk); first | with_reducible exact hs | with_reducible exact ht | with_reducible exact hat)
      | ((with_reducible apply Ob.mk); with_reducible exact lt60' _ _ _ _ _ _ _ _ _ _ _ _)
      | ((conv => whnf); refine ⟨?_⟩; simp only [LX, X0]; done)
      | ((conv => whnf); refine ⟨?_⟩; simp only [MX_eta, XW_of, g1, hw, if_true, LX]; done)
      | ((with_reducible apply Ob.mk); simp only [MX_eta, XW_of, g1, hw, if_true]; with_reducible exact ix)
      | ((with_reducible apply Ob.mk); refine ⟨ht, ?_⟩; decide)
      | ((with_reducible apply Ob.mk); refine ⟨⟨ht, ?_⟩, rfl, rfl, rfl, rfl, rfl, rfl, rfl, rfl, rfl, rfl⟩; decide)
      | (with_reducible apply Ob.mk; kernel_rfl)
      | (with_reducible apply Ob.mk; decide)
      | ((conv => whnf); skip)
set_option maxRecDepth 100000 in
set_option maxHeartbeats 8000000 in
theorem rD_2 (D2 : VData) (m : Nat → Nat) (s : ByteArray) (a : BitVec 64) (hs : s.size < 9223372036854775808) (hb : badA s a = false) (g1 : (atB (exB s a.toNat s.size) 0#64 == 102#64) = false) (g2 : (64#64).sle (atB (exB s a.toNat s.size) 0#64) = true) (g3 : (atB (exB s a.toNat s.size) 0#64).slt 80#64 = false) (g4 : ((atB (exB s a.toNat s.size) 0#64) == 15#64) = false) : F Tryd.prog (tab (DN m D2) (tb_regs m)) Tryd.f24 [.one (.str s), .one (.b64 true a)] (fun r => r = .tup [(true, LX (xA s a)), (false, [.b64 true (nA s a)]), (false, [.b64 true (eA s a)])]) := by
  have hat := at_ok hs hb
  have ht : (exB s a.toNat s.size).size < 9223372036854775808 := exB_lt hs
  have E : rgF (exB s a.toNat s.size) = (regF (exB s a.toNat s.size) 0#64 (wid8 (firF (exB s a.toNat s.size) 0#64 (XW ((8#64).sle 0#64)) false)) 0#64) := by
    simp only [rgF, dX1, dI2, dTwo, dI1, dHigh, dRx, dI0, dHalf, g1, g2, g3, g4, Bool.and_true, Bool.and_false, Bool.true_and, Bool.false_and, Bool.and_self, if_true, if_false, Bool.false_eq_true]
  have b1 : a.slt 0#64 = false := (Bool.or_eq_false_iff.1 hb).1
  have b2 : (BitVec.ofNat 64 s.size).sle a = false := (Bool.or_eq_false_iff.1 hb).2
  have R4 := rdec4 hs hb E
  clear hb E
  rcases R4 with ⟨hw, hx, hn, he⟩ | ⟨hw, hl, hx, hn, he⟩ | ⟨hw, hl, ix, hp, hx, hn, he⟩ | ⟨hw, hl, ix, hp, hx, hn, he⟩
  all_goals
    rw [hx, hn, he]
    repeat' ((conv => whnf); first
      | with_reducible apply Both.mk
      | (with_reducible apply Given.mk; intro h; (try simp only [MX_eta, XW_of, b1, b2, g1, g2, g3, g4, hw, if_true, if_false, BitVec.reduceBNe, BitVec.reduceBEq, bne_self_eq_false, Bool.true_eq_false, Bool.false_eq_true, eq_self] at h); (try simp only [hl, Bool.true_eq_false, Bool.false_eq_true, eq_self] at h); (try simp only [hp, Bool.not_true, Bool.not_false, Bool.true_eq_false, Bool.false_eq_true, eq_self] at h)))
    all_goals first
      | ((with_reducible apply Ob.mk); first | with_reducible exact hs | with_reducible exact ht | with_reducible exact hat)
      | ((with_reducible apply Ob.mk); with_reducible exact lt60' _ _ _ _ _ _ _ _ _ _ _ _)
      | ((conv => whnf); refine ⟨?_⟩; simp only [LX, X0]; done)
      | ((conv => whnf); refine ⟨?_⟩; simp only [MX_eta, XW_of, g1, hw, if_true, LX]; done)
      | ((with_reducible apply Ob.mk); simp only [MX_eta, XW_of, g1, hw, if_true]; with_reducible exact ix)
      | ((with_reducible apply Ob.mk); refine ⟨ht, ?_⟩; decide)
      | ((with_reducible apply Ob.mk); refine ⟨⟨ht, ?_⟩, rfl, rfl, rfl, rfl, rfl, rfl, rfl, rfl, rfl, rfl⟩; decide)
      | (with_reducible apply Ob.mk; kernel_rfl)
      | (with_reducible apply Ob.mk; decide)
      | ((conv => whnf); skip)
set_option maxRecDepth 100000 in
set_option maxHeartbeats 8000000 in
theorem rD_3 (D2 : VData) (m : Nat → Nat) (s : ByteArray) (a : BitVec 64) (hs : s.size < 9223372036854775808) (hb : badA s a = false) (g1 : (atB (exB s a.toNat s.size) 0#64 == 102#64) = false) (g2 : (64#64).sle (atB (exB s a.toNat s.size) 0#64) = true) (g3 : (atB (exB s a.toNat s.size) 0#64).slt 80#64 = false) (g4 : ((atB (exB s a.toNat s.size) 0#64) == 15#64) = true) : F Tryd.prog (tab (DN m D2) (tb_regs m)) Tryd.f24 [.one (.str s), .one (.b64 true a)] (fun r => r = .tup [(true, LX (xA s a)), (false, [.b64 true (nA s a)]), (false, [.b64 true (eA s a)])]) := by
  have hat := at_ok hs hb
  have ht : (exB s a.toNat s.size).size < 9223372036854775808 := exB_lt hs
  have E : rgF (exB s a.toNat s.size) = (regF (exB s a.toNat s.size) (0#64 + 1#64) (secF (exB s a.toNat s.size) (0#64 + 1#64) (XW ((8#64).sle 0#64))) 0#64) := by
    simp only [rgF, dX1, dI2, dTwo, dI1, dHigh, dRx, dI0, dHalf, g1, g2, g3, g4, Bool.and_true, Bool.and_false, Bool.true_and, Bool.false_and, Bool.and_self, if_true, if_false, Bool.false_eq_true]
  have b1 : a.slt 0#64 = false := (Bool.or_eq_false_iff.1 hb).1
  have b2 : (BitVec.ofNat 64 s.size).sle a = false := (Bool.or_eq_false_iff.1 hb).2
  have R4 := rdec4 hs hb E
  clear hb E
  rcases R4 with ⟨hw, hx, hn, he⟩ | ⟨hw, hl, hx, hn, he⟩ | ⟨hw, hl, ix, hp, hx, hn, he⟩ | ⟨hw, hl, ix, hp, hx, hn, he⟩
  all_goals
    rw [hx, hn, he]
    repeat' ((conv => whnf); first
      | with_reducible apply Both.mk
      | (with_reducible apply Given.mk; intro h; (try simp only [MX_eta, XW_of, b1, b2, g1, g2, g3, g4, hw, if_true, if_false, BitVec.reduceBNe, BitVec.reduceBEq, bne_self_eq_false, Bool.true_eq_false, Bool.false_eq_true, eq_self] at h); (try simp only [hl, Bool.true_eq_false, Bool.false_eq_true, eq_self] at h); (try simp only [hp, Bool.not_true, Bool.not_false, Bool.true_eq_false, Bool.false_eq_true, eq_self] at h)))
    all_goals first
      | ((with_reducible apply Ob.mk); first | with_reducible exact hs | with_reducible exact ht | with_reducible exact hat)
      | ((with_reducible apply Ob.mk); with_reducible exact lt60' _ _ _ _ _ _ _ _ _ _ _ _)
      | ((conv => whnf); refine ⟨?_⟩; simp only [LX, X0]; done)
      | ((conv => whnf); refine ⟨?_⟩; simp only [MX_eta, XW_of, g1, hw, if_true, LX]; done)
      | ((with_reducible apply Ob.mk); simp only [MX_eta, XW_of, g1, hw, if_true]; with_reducible exact ix)
      | ((with_reducible apply Ob.mk); refine ⟨ht, ?_⟩; decide)
      | ((with_reducible apply Ob.mk); refine ⟨⟨ht, ?_⟩, rfl, rfl, rfl, rfl, rfl, rfl, rfl, rfl, rfl, rfl⟩; decide)
      | (with_reducible apply Ob.mk; kernel_rfl)
      | (with_reducible apply Ob.mk; decide)
      | ((conv => whnf); skip)
set_option maxRecDepth 100000 in
set_option maxHeartbeats 8000000 in
theorem rD_4 (D2 : VData) (m : Nat → Nat) (s : ByteArray) (a : BitVec 64) (hs : s.size < 9223372036854775808) (hb : badA s a = false) (g1 : (atB (exB s a.toNat s.size) 0#64 == 102#64) = false) (g2 : (64#64).sle (atB (exB s a.toNat s.size) 0#64) = true) (g3 : (atB (exB s a.toNat s.size) 0#64).slt 80#64 = true) (g4 : ((atB (exB s a.toNat s.size) (0#64 + 1#64)) == 15#64) = false) : F Tryd.prog (tab (DN m D2) (tb_regs m)) Tryd.f24 [.one (.str s), .one (.b64 true a)] (fun r => r = .tup [(true, LX (xA s a)), (false, [.b64 true (nA s a)]), (false, [.b64 true (eA s a)])]) := by
  have hat := at_ok hs hb
  have ht : (exB s a.toNat s.size).size < 9223372036854775808 := exB_lt hs
  have E : rgF (exB s a.toNat s.size) = (regF (exB s a.toNat s.size) (0#64 + 1#64) (wid8 (firF (exB s a.toNat s.size) (0#64 + 1#64) (XW ((8#64).sle ((atB (exB s a.toNat s.size) 0#64) - 64#64))) false)) ((atB (exB s a.toNat s.size) 0#64) - 64#64)) := by
    simp only [rgF, dX1, dI2, dTwo, dI1, dHigh, dRx, dI0, dHalf, g1, g2, g3, g4, Bool.and_true, Bool.and_false, Bool.true_and, Bool.false_and, Bool.and_self, if_true, if_false, Bool.false_eq_true]
  have b1 : a.slt 0#64 = false := (Bool.or_eq_false_iff.1 hb).1
  have b2 : (BitVec.ofNat 64 s.size).sle a = false := (Bool.or_eq_false_iff.1 hb).2
  have R4 := rdec4 hs hb E
  clear hb E
  rcases R4 with ⟨hw, hx, hn, he⟩ | ⟨hw, hl, hx, hn, he⟩ | ⟨hw, hl, ix, hp, hx, hn, he⟩ | ⟨hw, hl, ix, hp, hx, hn, he⟩
  all_goals
    rw [hx, hn, he]
    repeat' ((conv => whnf); first
      | with_reducible apply Both.mk
      | (with_reducible apply Given.mk; intro h; (try simp only [MX_eta, XW_of, b1, b2, g1, g2, g3, g4, hw, if_true, if_false, BitVec.reduceBNe, BitVec.reduceBEq, bne_self_eq_false, Bool.true_eq_false, Bool.false_eq_true, eq_self] at h); (try simp only [hl, Bool.true_eq_false, Bool.false_eq_true, eq_self] at h); (try simp only [hp, Bool.not_true, Bool.not_false, Bool.true_eq_false, Bool.false_eq_true, eq_self] at h)))
    all_goals first
      | ((with_reducible apply Ob.mk); first | with_reducible exact hs | with_reducible exact ht | with_reducible exact hat)
      | ((with_reducible apply Ob.mk); with_reducible exact lt60' _ _ _ _ _ _ _ _ _ _ _ _)
      | ((conv => whnf); refine ⟨?_⟩; simp only [LX, X0]; done)
      | ((conv => whnf); refine ⟨?_⟩; simp only [MX_eta, XW_of, g1, hw, if_true, LX]; done)
      | ((with_reducible apply Ob.mk); simp only [MX_eta, XW_of, g1, hw, if_true]; with_reducible exact ix)
      | ((with_reducible apply Ob.mk); refine ⟨ht, ?_⟩; decide)
      | ((with_reducible apply Ob.mk); refine ⟨⟨ht, ?_⟩, rfl, rfl, rfl, rfl, rfl, rfl, rfl, rfl, rfl, rfl⟩; decide)
      | (with_reducible apply Ob.mk; kernel_rfl)
      | (with_reducible apply Ob.mk; decide)
      | ((conv => whnf); skip)
set_option maxRecDepth 100000 in
set_option maxHeartbeats 8000000 in
theorem rD_5 (D2 : VData) (m : Nat → Nat) (s : ByteArray) (a : BitVec 64) (hs : s.size < 9223372036854775808) (hb : badA s a = false) (g1 : (atB (exB s a.toNat s.size) 0#64 == 102#64) = false) (g2 : (64#64).sle (atB (exB s a.toNat s.size) 0#64) = true) (g3 : (atB (exB s a.toNat s.size) 0#64).slt 80#64 = true) (g4 : ((atB (exB s a.toNat s.size) (0#64 + 1#64)) == 15#64) = true) : F Tryd.prog (tab (DN m D2) (tb_regs m)) Tryd.f24 [.one (.str s), .one (.b64 true a)] (fun r => r = .tup [(true, LX (xA s a)), (false, [.b64 true (nA s a)]), (false, [.b64 true (eA s a)])]) := by
  have hat := at_ok hs hb
  have ht : (exB s a.toNat s.size).size < 9223372036854775808 := exB_lt hs
  have E : rgF (exB s a.toNat s.size) = (regF (exB s a.toNat s.size) ((0#64 + 1#64) + 1#64) (secF (exB s a.toNat s.size) ((0#64 + 1#64) + 1#64) (XW ((8#64).sle ((atB (exB s a.toNat s.size) 0#64) - 64#64)))) ((atB (exB s a.toNat s.size) 0#64) - 64#64)) := by
    simp only [rgF, dX1, dI2, dTwo, dI1, dHigh, dRx, dI0, dHalf, g1, g2, g3, g4, Bool.and_true, Bool.and_false, Bool.true_and, Bool.false_and, Bool.and_self, if_true, if_false, Bool.false_eq_true]
  have b1 : a.slt 0#64 = false := (Bool.or_eq_false_iff.1 hb).1
  have b2 : (BitVec.ofNat 64 s.size).sle a = false := (Bool.or_eq_false_iff.1 hb).2
  have R4 := rdec4 hs hb E
  clear hb E
  rcases R4 with ⟨hw, hx, hn, he⟩ | ⟨hw, hl, hx, hn, he⟩ | ⟨hw, hl, ix, hp, hx, hn, he⟩ | ⟨hw, hl, ix, hp, hx, hn, he⟩
  all_goals
    rw [hx, hn, he]
    repeat' ((conv => whnf); first
      | with_reducible apply Both.mk
      | (with_reducible apply Given.mk; intro h; (try simp only [MX_eta, XW_of, b1, b2, g1, g2, g3, g4, hw, if_true, if_false, BitVec.reduceBNe, BitVec.reduceBEq, bne_self_eq_false, Bool.true_eq_false, Bool.false_eq_true, eq_self] at h); (try simp only [hl, Bool.true_eq_false, Bool.false_eq_true, eq_self] at h); (try simp only [hp, Bool.not_true, Bool.not_false, Bool.true_eq_false, Bool.false_eq_true, eq_self] at h)))
    all_goals first
      | ((with_reducible apply Ob.mk); first | with_reducible exact hs | with_reducible exact ht | with_reducible exact hat)
      | ((with_reducible apply Ob.mk); with_reducible exact lt60' _ _ _ _ _ _ _ _ _ _ _ _)
      | ((conv => whnf); refine ⟨?_⟩; simp only [LX, X0]; done)
      | ((conv => whnf); refine ⟨?_⟩; simp only [MX_eta, XW_of, g1, hw, if_true, LX]; done)
      | ((with_reducible apply Ob.mk); simp only [MX_eta, XW_of, g1, hw, if_true]; with_reducible exact ix)
      | ((with_reducible apply Ob.mk); refine ⟨ht, ?_⟩; decide)
      | ((with_reducible apply Ob.mk); refine ⟨⟨ht, ?_⟩, rfl, rfl, rfl, rfl, rfl, rfl, rfl, rfl, rfl, rfl⟩; decide)
      | (with_reducible apply Ob.mk; kernel_rfl)
      | (with_reducible apply Ob.mk; decide)
      | ((conv => whnf); skip)
set_option maxRecDepth 100000 in
set_option maxHeartbeats 8000000 in
theorem rD_6 (D2 : VData) (m : Nat → Nat) (s : ByteArray) (a : BitVec 64) (hs : s.size < 9223372036854775808) (hb : badA s a = false) (g1 : (atB (exB s a.toNat s.size) 0#64 == 102#64) = true) (g2 : (64#64).sle (atB (exB s a.toNat s.size) (0#64 + 1#64)) = false) (g4 : ((atB (exB s a.toNat s.size) (0#64 + 1#64)) == 15#64) = false) : F Tryd.prog (tab (DN m D2) (tb_regs m)) Tryd.f24 [.one (.str s), .one (.b64 true a)] (fun r => r = .tup [(true, LX (xA s a)), (false, [.b64 true (nA s a)]), (false, [.b64 true (eA s a)])]) := by
  have hat := at_ok hs hb
  have ht : (exB s a.toNat s.size).size < 9223372036854775808 := exB_lt hs
  have E : rgF (exB s a.toNat s.size) = (regF (exB s a.toNat s.size) (0#64 + 1#64) (wid8 (firF (exB s a.toNat s.size) (0#64 + 1#64) (XW ((8#64).sle 0#64)) true)) 0#64) := by
    simp only [rgF, dX1, dI2, dTwo, dI1, dHigh, dRx, dI0, dHalf, g1, g2, g4, Bool.and_true, Bool.and_false, Bool.true_and, Bool.false_and, Bool.and_self, if_true, if_false, Bool.false_eq_true]
  have b1 : a.slt 0#64 = false := (Bool.or_eq_false_iff.1 hb).1
  have b2 : (BitVec.ofNat 64 s.size).sle a = false := (Bool.or_eq_false_iff.1 hb).2
  have R4 := rdec4 hs hb E
  clear hb E
  rcases R4 with ⟨hw, hx, hn, he⟩ | ⟨hw, hl, hx, hn, he⟩ | ⟨hw, hl, ix, hp, hx, hn, he⟩ | ⟨hw, hl, ix, hp, hx, hn, he⟩
  all_goals
    rw [hx, hn, he]
    repeat' ((conv => whnf); first
      | with_reducible apply Both.mk
      | (with_reducible apply Given.mk; intro h; (try simp only [MX_eta, XW_of, b1, b2, g1, g2, g4, hw, if_true, if_false, BitVec.reduceBNe, BitVec.reduceBEq, bne_self_eq_false, Bool.true_eq_false, Bool.false_eq_true, eq_self] at h); (try simp only [hl, Bool.true_eq_false, Bool.false_eq_true, eq_self] at h); (try simp only [hp, Bool.not_true, Bool.not_false, Bool.true_eq_false, Bool.false_eq_true, eq_self] at h)))
    all_goals first
      | ((with_reducible apply Ob.mk); first | with_reducible exact hs | with_reducible exact ht | with_reducible exact hat)
      | ((with_reducible apply Ob.mk); with_reducible exact lt60' _ _ _ _ _ _ _ _ _ _ _ _)
      | ((conv => whnf); refine ⟨?_⟩; simp only [LX, X0]; done)
      | ((conv => whnf); refine ⟨?_⟩; simp only [MX_eta, XW_of, g1, hw, if_true, LX]; done)
      | ((with_reducible apply Ob.mk); simp only [MX_eta, XW_of, g1, hw, if_true]; with_reducible exact ix)
      | ((with_reducible apply Ob.mk); refine ⟨ht, ?_⟩; decide)
      | ((with_reducible apply Ob.mk); refine ⟨⟨ht, ?_⟩, rfl, rfl, rfl, rfl, rfl, rfl, rfl, rfl, rfl, rfl⟩; decide)
      | (with_reducible apply Ob.mk; kernel_rfl)
      | (with_reducible apply Ob.mk; decide)
      | ((conv => whnf); skip)
set_option maxRecDepth 100000 in
set_option maxHeartbeats 8000000 in
theorem rD_7 (D2 : VData) (m : Nat → Nat) (s : ByteArray) (a : BitVec 64) (hs : s.size < 9223372036854775808) (hb : badA s a = false) (g1 : (atB (exB s a.toNat s.size) 0#64 == 102#64) = true) (g2 : (64#64).sle (atB (exB s a.toNat s.size) (0#64 + 1#64)) = false) (g4 : ((atB (exB s a.toNat s.size) (0#64 + 1#64)) == 15#64) = true) : F Tryd.prog (tab (DN m D2) (tb_regs m)) Tryd.f24 [.one (.str s), .one (.b64 true a)] (fun r => r = .tup [(true, LX (xA s a)), (false, [.b64 true (nA s a)]), (false, [.b64 true (eA s a)])]) := by
  have hat := at_ok hs hb
  have ht : (exB s a.toNat s.size).size < 9223372036854775808 := exB_lt hs
  have E : rgF (exB s a.toNat s.size) = (regF (exB s a.toNat s.size) ((0#64 + 1#64) + 1#64) (secF (exB s a.toNat s.size) ((0#64 + 1#64) + 1#64) (XW ((8#64).sle 0#64))) 0#64) := by
    simp only [rgF, dX1, dI2, dTwo, dI1, dHigh, dRx, dI0, dHalf, g1, g2, g4, Bool.and_true, Bool.and_false, Bool.true_and, Bool.false_and, Bool.and_self, if_true, if_false, Bool.false_eq_true]
  have b1 : a.slt 0#64 = false := (Bool.or_eq_false_iff.1 hb).1
  have b2 : (BitVec.ofNat 64 s.size).sle a = false := (Bool.or_eq_false_iff.1 hb).2
  have R4 := rdec4 hs hb E
  clear hb E
  rcases R4 with ⟨hw, hx, hn, he⟩ | ⟨hw, hl, hx, hn, he⟩ | ⟨hw, hl, ix, hp, hx, hn, he⟩ | ⟨hw, hl, ix, hp, hx, hn, he⟩
  all_goals
    rw [hx, hn, he]
    repeat' ((conv => whnf); first
      | with_reducible apply Both.mk
      | (with_reducible apply Given.mk; intro h; (try simp only [MX_eta, XW_of, b1, b2, g1, g2, g4, hw, if_true, if_false, BitVec.reduceBNe, BitVec.reduceBEq, bne_self_eq_false, Bool.true_eq_false, Bool.false_eq_true, eq_self] at h); (try simp only [hl, Bool.true_eq_false, Bool.false_eq_true, eq_self] at h); (try simp only [hp, Bool.not_true, Bool.not_false, Bool.true_eq_false, Bool.false_eq_true, eq_self] at h)))
    all_goals first
      | ((with_reducible apply Ob.mk); first | with_reducible exact hs | with_reducible exact ht | with_reducible exact hat)
      | ((with_reducible apply Ob.mk); with_reducible exact lt60' _ _ _ _ _ _ _ _ _ _ _ _)
      | ((conv => whnf); refine ⟨?_⟩; simp only [LX, X0]; done)
      | ((conv => whnf); refine ⟨?_⟩; simp only [MX_eta, XW_of, g1, hw, if_true, LX]; done)
      | ((with_reducible apply Ob.mk); simp only [MX_eta, XW_of, g1, hw, if_true]; with_reducible exact ix)
      | ((with_reducible apply Ob.mk); refine ⟨ht, ?_⟩; decide)
      | ((with_reducible apply Ob.mk); refine ⟨⟨ht, ?_⟩, rfl, rfl, rfl, rfl, rfl, rfl, rfl, rfl, rfl, rfl⟩; decide)
      | (with_reducible apply Ob.mk; kernel_rfl)
      | (with_reducible apply Ob.mk; decide)
      | ((conv => whnf); skip)
set_option maxRecDepth 100000 in
set_option maxHeartbeats 8000000 in
theorem rD_8 (D2 : VData) (m : Nat → Nat) (s : ByteArray) (a : BitVec 64) (hs : s.size < 9223372036854775808) (hb : badA s a = false) (g1 : (atB (exB s a.toNat s.size) 0#64 == 102#64) = true) (g2 : (64#64).sle (atB (exB s a.toNat s.size) (0#64 + 1#64)) = true) (g3 : (atB (exB s a.toNat s.size) (0#64 + 1#64)).slt 80#64 = false) (g4 : ((atB (exB s a.toNat s.size) (0#64 + 1#64)) == 15#64) = false) : F Tryd.prog (tab (DN m D2) (tb_regs m)) Tryd.f24 [.one (.str s), .one (.b64 true a)] (fun r => r = .tup [(true, LX (xA s a)), (false, [.b64 true (nA s a)]), (false, [.b64 true (eA s a)])]) := by
  have hat := at_ok hs hb
  have ht : (exB s a.toNat s.size).size < 9223372036854775808 := exB_lt hs
  have E : rgF (exB s a.toNat s.size) = (regF (exB s a.toNat s.size) (0#64 + 1#64) (wid8 (firF (exB s a.toNat s.size) (0#64 + 1#64) (XW ((8#64).sle 0#64)) true)) 0#64) := by
    simp only [rgF, dX1, dI2, dTwo, dI1, dHigh, dRx, dI0, dHalf, g1, g2, g3, g4, Bool.and_true, Bool.and_false, Bool.true_and, Bool.false_and, Bool.and_self, if_true, if_false, Bool.false_eq_true]
  have b1 : a.slt 0#64 = false := (Bool.or_eq_false_iff.1 hb).1
  have b2 : (BitVec.ofNat 64 s.size).sle a = false := (Bool.or_eq_false_iff.1 hb).2
  have R4 := rdec4 hs hb E
  clear hb E
  rcases R4 with ⟨hw, hx, hn, he⟩ | ⟨hw, hl, hx, hn, he⟩ | ⟨hw, hl, ix, hp, hx, hn, he⟩ | ⟨hw, hl, ix, hp, hx, hn, he⟩
  all_goals
    rw [hx, hn, he]
    repeat' ((conv => whnf); first
      | with_reducible apply Both.mk
      | (with_reducible apply Given.mk; intro h; (try simp only [MX_eta, XW_of, b1, b2, g1, g2, g3, g4, hw, if_true, if_false, BitVec.reduceBNe, BitVec.reduceBEq, bne_self_eq_false, Bool.true_eq_false, Bool.false_eq_true, eq_self] at h); (try simp only [hl, Bool.true_eq_false, Bool.false_eq_true, eq_self] at h); (try simp only [hp, Bool.not_true, Bool.not_false, Bool.true_eq_false, Bool.false_eq_true, eq_self] at h)))
    all_goals first
      | ((with_reducible apply Ob.mk); first | with_reducible exact hs | with_reducible exact ht | with_reducible exact hat)
      | ((with_reducible apply Ob.mk); with_reducible exact lt60' _ _ _ _ _ _ _ _ _ _ _ _)
      | ((conv => whnf); refine ⟨?_⟩; simp only [LX, X0]; done)
      | ((conv => whnf); refine ⟨?_⟩; simp only [MX_eta, XW_of, g1, hw, if_true, LX]; done)
      | ((with_reducible apply Ob.mk); simp only [MX_eta, XW_of, g1, hw, if_true]; with_reducible exact ix)
      | ((with_reducible apply Ob.mk); refine ⟨ht, ?_⟩; decide)
      | ((with_reducible apply Ob.mk); refine ⟨⟨ht, ?_⟩, rfl, rfl, rfl, rfl, rfl, rfl, rfl, rfl, rfl, rfl⟩; decide)
      | (with_reducible apply Ob.mk; kernel_rfl)
      | (with_reducible apply Ob.mk; decide)
      | ((conv => whnf); skip)
set_option maxRecDepth 100000 in
set_option maxHeartbeats 8000000 in
theorem rD_9 (D2 : VData) (m : Nat → Nat) (s : ByteArray) (a : BitVec 64) (hs : s.size < 9223372036854775808) (hb : badA s a = false) (g1 : (atB (exB s a.toNat s.size) 0#64 == 102#64) = true) (g2 : (64#64).sle (atB (exB s a.toNat s.size) (0#64 + 1#64)) = true) (g3 : (atB (exB s a.toNat s.size) (0#64 + 1#64)).slt 80#64 = false) (g4 : ((atB (exB s a.toNat s.size) (0#64 + 1#64)) == 15#64) = true) : F Tryd.prog (tab (DN m D2) (tb_regs m)) Tryd.f24 [.one (.str s), .one (.b64 true a)] (fun r => r = .tup [(true, LX (xA s a)), (false, [.b64 true (nA s a)]), (false, [.b64 true (eA s a)])]) := by
  have hat := at_ok hs hb
  have ht : (exB s a.toNat s.size).size < 9223372036854775808 := exB_lt hs
  have E : rgF (exB s a.toNat s.size) = (regF (exB s a.toNat s.size) ((0#64 + 1#64) + 1#64) (secF (exB s a.toNat s.size) ((0#64 + 1#64) + 1#64) (XW ((8#64).sle 0#64))) 0#64) := by
    simp only [rgF, dX1, dI2, dTwo, dI1, dHigh, dRx, dI0, dHalf, g1, g2, g3, g4, Bool.and_true, Bool.and_false, Bool.true_and, Bool.false_and, Bool.and_self, if_true, if_false, Bool.false_eq_true]
  have b1 : a.slt 0#64 = false := (Bool.or_eq_false_iff.1 hb).1
  have b2 : (BitVec.ofNat 64 s.size).sle a = false := (Bool.or_eq_false_iff.1 hb).2
  have R4 := rdec4 hs hb E
  clear hb E
  rcases R4 with ⟨hw, hx, hn, he⟩ | ⟨hw, hl, hx, hn, he⟩ | ⟨hw, hl, ix, hp, hx, hn, he⟩ | ⟨hw, hl, ix, hp, hx, hn, he⟩
  all_goals
    rw [hx, hn, he]
    repeat' ((conv => whnf); first
      | with_reducible apply Both.mk
      | (with_reducible apply Given.mk; intro h; (try simp only [MX_eta, XW_of, b1, b2, g1, g2, g3, g4, hw, if_true, if_false, BitVec.reduceBNe, BitVec.reduceBEq, bne_self_eq_false, Bool.true_eq_false, Bool.false_eq_true, eq_self] at h); (try simp only [hl, Bool.true_eq_false, Bool.false_eq_true, eq_self] at h); (try simp only [hp, Bool.not_true, Bool.not_false, Bool.true_eq_false, Bool.false_eq_true, eq_self] at h)))
    all_goals first
      | ((with_reducible apply Ob.mk); first | with_reducible exact hs | with_reducible exact ht | with_reducible exact hat)
      | ((with_reducible apply Ob.mk); with_reducible exact lt60' _ _ _ _ _ _ _ _ _ _ _ _)
      | ((conv => whnf); refine ⟨?_⟩; simp only [LX, X0]; done)
      | ((conv => whnf); refine ⟨?_⟩; simp only [MX_eta, XW_of, g1, hw, if_true, LX]; done)
      | ((with_reducible apply Ob.mk); simp only [MX_eta, XW_of, g1, hw, if_true]; with_reducible exact ix)
      | ((with_reducible apply Ob.mk); refine ⟨ht, ?_⟩; decide)
      | ((with_reducible apply Ob.mk); refine ⟨⟨ht, ?_⟩, rfl, rfl, rfl, rfl, rfl, rfl, rfl, rfl, rfl, rfl⟩; decide)
      | (with_reducible apply Ob.mk; kernel_rfl)
      | (with_reducible apply Ob.mk; decide)
      | ((conv => whnf); skip)
set_option maxRecDepth 100000 in
set_option maxHeartbeats 8000000 in
theorem rD_10 (D2 : VData) (m : Nat → Nat) (s : ByteArray) (a : BitVec 64) (hs : s.size < 9223372036854775808) (hb : badA s a = false) (g1 : (atB (exB s a.toNat s.size) 0#64 == 102#64) = true) (g2 : (64#64).sle (atB (exB s a.toNat s.size) (0#64 + 1#64)) = true) (g3 : (atB (exB s a.toNat s.size) (0#64 + 1#64)).slt 80#64 = true) (g4 : ((atB (exB s a.toNat s.size) ((0#64 + 1#64) + 1#64)) == 15#64) = false) : F Tryd.prog (tab (DN m D2) (tb_regs m)) Tryd.f24 [.one (.str s), .one (.b64 true a)] (fun r => r = .tup [(true, LX (xA s a)), (false, [.b64 true (nA s a)]), (false, [.b64 true (eA s a)])]) := by
  have hat := at_ok hs hb
  have ht : (exB s a.toNat s.size).size < 9223372036854775808 := exB_lt hs
  have E : rgF (exB s a.toNat s.size) = (regF (exB s a.toNat s.size) ((0#64 + 1#64) + 1#64) (wid8 (firF (exB s a.toNat s.size) ((0#64 + 1#64) + 1#64) (XW ((8#64).sle ((atB (exB s a.toNat s.size) (0#64 + 1#64)) - 64#64))) true)) ((atB (exB s a.toNat s.size) (0#64 + 1#64)) - 64#64)) := by
    simp only [rgF, dX1, dI2, dTwo, dI1, dHigh, dRx, dI0, dHalf, g1, g2, g3, g4, Bool.and_true, Bool.and_false, Bool.true_and, Bool.false_and, Bool.and_self, if_true, if_false, Bool.false_eq_true]
  have b1 : a.slt 0#64 = false := (Bool.or_eq_false_iff.1 hb).1
  have b2 : (BitVec.ofNat 64 s.size).sle a = false := (Bool.or_eq_false_iff.1 hb).2
  have R4 := rdec4 hs hb E
  clear hb E
  rcases R4 with ⟨hw, hx, hn, he⟩ | ⟨hw, hl, hx, hn, he⟩ | ⟨hw, hl, ix, hp, hx, hn, he⟩ | ⟨hw, hl, ix, hp, hx, hn, he⟩
  all_goals
    rw [hx, hn, he]
    repeat' ((conv => whnf); first
      | with_reducible apply Both.mk
      | (with_reducible apply Given.mk; intro h; (try simp only [MX_eta, XW_of, b1, b2, g1, g2, g3, g4, hw, if_true, if_false, BitVec.reduceBNe, BitVec.reduceBEq, bne_self_eq_false, Bool.true_eq_false, Bool.false_eq_true, eq_self] at h); (try simp only [hl, Bool.true_eq_false, Bool.false_eq_true, eq_self] at h); (try simp only [hp, Bool.not_true, Bool.not_false, Bool.true_eq_false, Bool.false_eq_true, eq_self] at h)))
    all_goals first
      | ((with_reducible apply Ob.mk); first | with_reducible exact hs | with_reducible exact ht | with_reducible exact hat)
      | ((with_reducible apply Ob.mk); with_reducible exact lt60' _ _ _ _ _ _ _ _ _ _ _ _)
      | ((conv => whnf); refine ⟨?_⟩; simp only [LX, X0]; done)
      | ((conv => whnf); refine ⟨?_⟩; simp only [MX_eta, XW_of, g1, hw, if_true, LX]; done)
      | ((with_reducible apply Ob.mk); simp only [MX_eta, XW_of, g1, hw, if_true]; with_reducible exact ix)
      | ((with_reducible apply Ob.mk); refine ⟨ht, ?_⟩; decide)
      | ((with_reducible apply Ob.mk); refine ⟨⟨ht, ?_⟩, rfl, rfl, rfl, rfl, rfl, rfl, rfl, rfl, rfl, rfl⟩; decide)
      | (with_reducible apply Ob.mk; kernel_rfl)
      | (with_reducible apply Ob.mk; decide)
      | ((conv => whnf); skip)
set_option maxRecDepth 100000 in
set_option maxHeartbeats 8000000 in
theorem rD_11 (D2 : VData) (m : Nat → Nat) (s : ByteArray) (a : BitVec 64) (hs : s.size < 9223372036854775808) (hb : badA s a = false) (g1 : (atB (exB s a.toNat s.size) 0#64 == 102#64) = true) (g2 : (64#64).sle (atB (exB s a.toNat s.size) (0#64 + 1#64)) = true) (g3 : (atB (exB s a.toNat s.size) (0#64 + 1#64)).slt 80#64 = true) (g4 : ((atB (exB s a.toNat s.size) ((0#64 + 1#64) + 1#64)) == 15#64) = true) : F Tryd.prog (tab (DN m D2) (tb_regs m)) Tryd.f24 [.one (.str s), .one (.b64 true a)] (fun r => r = .tup [(true, LX (xA s a)), (false, [.b64 true (nA s a)]), (false, [.b64 true (eA s a)])]) := by
  have hat := at_ok hs hb
  have ht : (exB s a.toNat s.size).size < 9223372036854775808 := exB_lt hs
  have E : rgF (exB s a.toNat s.size) = (regF (exB s a.toNat s.size) (((0#64 + 1#64) + 1#64) + 1#64) (secF (exB s a.toNat s.size) (((0#64 + 1#64) + 1#64) + 1#64) (XW ((8#64).sle ((atB (exB s a.toNat s.size) (0#64 + 1#64)) - 64#64)))) ((atB (exB s a.toNat s.size) (0#64 + 1#64)) - 64#64)) := by
    simp only [rgF, dX1, dI2, dTwo, dI1, dHigh, dRx, dI0, dHalf, g1, g2, g3, g4, Bool.and_true, Bool.and_false, Bool.true_and, Bool.false_and, Bool.and_self, if_true, if_false, Bool.false_eq_true]
  have b1 : a.slt 0#64 = false := (Bool.or_eq_false_iff.1 hb).1
  have b2 : (BitVec.ofNat 64 s.size).sle a = false := (Bool.or_eq_false_iff.1 hb).2
  have R4 := rdec4 hs hb E
  clear hb E
  rcases R4 with ⟨hw, hx, hn, he⟩ | ⟨hw, hl, hx, hn, he⟩ | ⟨hw, hl, ix, hp, hx, hn, he⟩ | ⟨hw, hl, ix, hp, hx, hn, he⟩
  all_goals
    rw [hx, hn, he]
    repeat' ((conv => whnf); first
      | with_reducible apply Both.mk
      | (with_reducible apply Given.mk; intro h; (try simp only [MX_eta, XW_of, b1, b2, g1, g2, g3, g4, hw, if_true, if_false, BitVec.reduceBNe, BitVec.reduceBEq, bne_self_eq_false, Bool.true_eq_false, Bool.false_eq_true, eq_self] at h); (try simp only [hl, Bool.true_eq_false, Bool.false_eq_true, eq_self] at h); (try simp only [hp, Bool.not_true, Bool.not_false, Bool.true_eq_false, Bool.false_eq_true, eq_self] at h)))
    all_goals first
      | ((with_reducible apply Ob.mk); first | with_reducible exact hs | with_reducible exact ht | with_reducible exact hat)
      | ((with_reducible apply Ob.mk); with_reducible exact lt60' _ _ _ _ _ _ _ _ _ _ _ _)
      | ((conv => whnf); refine ⟨?_⟩; simp only [LX, X0]; done)
      | ((conv => whnf); refine ⟨?_⟩; simp only [MX_eta, XW_of, g1, hw, if_true, LX]; done)
      | ((with_reducible apply Ob.mk); simp only [MX_eta, XW_of, g1, hw, if_true]; with_reducible exact ix)
      | ((with_reducible apply Ob.mk); refine ⟨ht, ?_⟩; decide)
      | ((with_reducible apply Ob.mk); refine ⟨⟨ht, ?_⟩, rfl, rfl, rfl, rfl, rfl, rfl, rfl, rfl, rfl, rfl⟩; decide)
      | (with_reducible apply Ob.mk; kernel_rfl)
      | (with_reducible apply Ob.mk; decide)
      | ((conv => whnf); skip)
set_option maxRecDepth 100000 in
theorem e_rDecode (G2 : World → Prop) (D2 : VData) (k2 : DataOK Tryd.prog G2 D2) (m : Nat → Nat) : EntryOK Tryd.prog (GN m G2) 24 sp_Decode := by
  refine .of_F (C_regs G2 D2 k2 m) (by kernel_rfl) Tryd.func24 (by kernel_rfl) (by kernel_rfl) (fun args c v h hc => ?_)
  unfold sp_Decode at h
  split at h
  · rename_i s a; cases h
    refine ⟨rfl, rfl, ?_⟩
    cases hb : badA s a with
    | true => exact rD_bad D2 m s a hc hb
    | false =>
      cases g1 : (atB (exB s a.toNat s.size) 0#64 == 102#64) with
      | false =>
        cases g2 : (64#64).sle (atB (exB s a.toNat s.size) 0#64) with
        | false =>
          cases g4 : ((atB (exB s a.toNat s.size) 0#64) == 15#64) with
          | false => exact rD_0 D2 m s a hc hb g1 g2 g4
          | true => exact rD_1 D2 m s a hc hb g1 g2 g4
        | true =>
          cases g3 : (atB (exB s a.toNat s.size) 0#64).slt 80#64 with
          | false =>
            cases g4 : ((atB (exB s a.toNat s.size) 0#64) == 15#64) with
            | false => exact rD_2 D2 m s a hc hb g1 g2 g3 g4
            | true => exact rD_3 D2 m s a hc hb g1 g2 g3 g4
          | true =>
            cases g4 : ((atB (exB s a.toNat s.size) (0#64 + 1#64)) == 15#64) with
            | false => exact rD_4 D2 m s a hc hb g1 g2 g3 g4
            | true => exact rD_5 D2 m s a hc hb g1 g2 g3 g4
      | true =>
        cases g2 : (64#64).sle (atB (exB s a.toNat s.size) (0#64 + 1#64)) with
        | false =>
          cases g4 : ((atB (exB s a.toNat s.size) (0#64 + 1#64)) == 15#64) with
          | false => exact rD_6 D2 m s a hc hb g1 g2 g4
          | true => exact rD_7 D2 m s a hc hb g1 g2 g4
        | true =>
          cases g3 : (atB (exB s a.toNat s.size) (0#64 + 1#64)).slt 80#64 with
          | false =>
            cases g4 : ((atB (exB s a.toNat s.size) (0#64 + 1#64)) == 15#64) with
            | false => exact rD_8 D2 m s a hc hb g1 g2 g3 g4
            | true => exact rD_9 D2 m s a hc hb g1 g2 g3 g4
          | true =>
            cases g4 : ((atB (exB s a.toNat s.size) ((0#64 + 1#64) + 1#64)) == 15#64) with
            | false => exact rD_10 D2 m s a hc hb g1 g2 g3 g4
            | true => exact rD_11 D2 m s a hc hb g1 g2 g3 g4
  · cases h
end Go.Proofs.YtppankimieopiaaDoor
