/-
  Chapter 11: CodecOne, as the evaluator walks it. Conditions: none.
-/
import Derived.Test.YtppankimieopiaaDoorDq
namespace Go.Proofs.YtppankimieopiaaDoor
open Go.Ep Go.RowKit
set_option linter.unusedVariables false
set_option linter.unusedSimpArgs false
theorem C_one (m : Nat → Nat) : CSound Tryd.prog (GV m) (tab (DN m noData) (tb_O m)) := C_O anyWorld noData .none m
/-- The place that is looked at. -/
abbrev kO (s : ByteArray) (a : BitVec 8) : BitVec 64 := (a.setWidth 64).srem (BitVec.ofNat 64 s.size)
theorem kO_ok {s : ByteArray} {a : BitVec 8} (h0 : 0 < s.size) (h1 : s.size ≤ 60) : (kO s a).toNat < s.size ∧ (kO s a).toInt = ((kO s a).toNat : Int) := by
  have ha : (a.setWidth 64).toNat < 256 := by rw [BitVec.toNat_setWidth]; have := a.isLt; omega
  have e : kO s a = BitVec.ofNat 64 ((a.setWidth 64).toNat % s.size) := by
    apply BitVec.eq_of_toInt_eq
    have hm := Nat.mod_lt (a.setWidth 64).toNat h0
    rw [BitVec.toInt_srem, toInt_ofNat (by omega), toInt_ofNat (by omega), BitVec.toInt_eq_toNat_cond, if_pos (by omega)]
    rfl
  have hm := Nat.mod_lt (a.setWidth 64).toNat h0
  rw [e, nat_of (by omega), toInt_ofNat (by omega)]
  exact ⟨hm, rfl⟩
set_option maxRecDepth 100000 in
set_option maxHeartbeats 4000000 in
theorem One_out (m : Nat → Nat) (s : ByteArray) (a : BitVec 8) (hs : s.size < 9223372036854775808) (f : (60#64).slt (BitVec.ofNat 64 s.size) = true ∨ (BitVec.ofNat 64 s.size == 0#64) = true) : F Tryd.prog (tab (DN m noData) (tb_O m)) Tryd.f9 [.one (.str s), .one (.b8 false a)] (fun r => r = .one (.bool true)) := by
  cases f0 : (60#64).slt (BitVec.ofNat 64 s.size)
  all_goals
    rw [f0] at f
    simp only [Bool.false_eq_true, false_or, true_or] at f
    repeat' (first
      | (with_reducible apply Given.mk; intro h; (try simp only [f0, f, Bool.true_eq_false, Bool.false_eq_true] at h); (try exact absurd h (by decide)))
      | ((conv => whnf); with_reducible apply Both.mk))
    all_goals first
      | ((with_reducible apply Ob.mk); with_reducible exact hs)
      | (with_reducible apply Ob.mk; kernel_rfl)
      | ((conv => whnf); exact ⟨rfl⟩)
      | ((conv => whnf); skip)
set_option maxRecDepth 100000 in
set_option maxHeartbeats 4000000 in
theorem One_none (m : Nat → Nat) (s : ByteArray) (a : BitVec 8) (hs : s.size < 9223372036854775808) (f0 : (60#64).slt (BitVec.ofNat 64 s.size) = false) (f1 : (BitVec.ofNat 64 s.size == 0#64) = false) (hx : xA s (kO s a) = X0) (hn : nA s (kO s a) = 0#64) (he : eA s (kO s a) = 110#64) :
    F Tryd.prog (tab (DN m noData) (tb_O m)) Tryd.f9 [.one (.str s), .one (.b8 false a)] (fun r => r = .one (.bool true)) := by
  repeat' (first
    | (with_reducible apply Given.mk; intro h; (try simp only [f0, f1, he, hn, hx, X0, BitVec.reduceBEq, bne_self_eq_false, beq_self_eq_true, Bool.and_self, Bool.not_true, Bool.true_eq_false, Bool.false_eq_true, eq_self] at h); (try exact absurd h (by decide)))
    | ((conv => whnf); with_reducible apply Both.mk))
  all_goals first
    | ((with_reducible apply Ob.mk); with_reducible exact hs)
    | (with_reducible apply Ob.mk; kernel_rfl)
    | ((with_reducible apply Ob.mk); simp only [f1]; done)
    | ((with_reducible apply Ob.mk); simp_all; done)
    | ((conv => whnf); exact ⟨rfl⟩)
    | ((conv => whnf); refine ⟨?_⟩; simp only [f0, f1, he, hn, hx, X0, BitVec.reduceBEq, beq_self_eq_true, Bool.and_self]; done)
    | ((conv => whnf); skip)
/-- What the law looks at, where something is decoded. -/
structure OneOK (s : ByteArray) (k : BitVec 64) (x : MX) (n : BitVec 64) : Prop where
  hx : xA s k = x
  hn : nA s k = n
  he : eA s k = 0#64
  hv : vld x.k x.al x.cc x.sz x.w x.sh x.d x.s x.dp x.rl x.im = true
  c1 : n.slt 1#64 = false
  c2 : (BitVec.ofNat 64 s.size - k).slt n = false
  ix1 : 0 ≤ (k + n).toInt ∧ 0 ≤ (k + n).toNat ∧ (k + n).toNat ≤ s.size
  ix2 : (0 ≤ k.toInt ∧ 0 ≤ (k + n).toInt) ∧ k.toNat ≤ (k + n).toNat ∧ (k + n).toNat ≤ s.size
  sz : (exB s 0 (k + n).toNat).size < 9223372036854775808
  hx' : xA (exB s 0 (k + n).toNat) k = x
  hn' : nA (exB s 0 (k + n).toNat) k = n
  he' : eA (exB s 0 (k + n).toNat) k = 0#64
  ht : decide (encB x.k x.al x.cc x.sz x.w x.sh x.d x.s x.dp x.rl x.im = exB s k.toNat (k + n).toNat) = true
set_option maxRecDepth 100000 in
set_option maxHeartbeats 4000000 in
theorem One_some (m : Nat → Nat) (s : ByteArray) (a : BitVec 8) (hs : s.size < 9223372036854775808) (f0 : (60#64).slt (BitVec.ofNat 64 s.size) = false) (f1 : (BitVec.ofNat 64 s.size == 0#64) = false) {x : MX} {n : BitVec 64} (H : OneOK s (kO s a) x n) :
    F Tryd.prog (tab (DN m noData) (tb_O m)) Tryd.f9 [.one (.str s), .one (.b8 false a)] (fun r => r = .one (.bool true)) := by
  obtain ⟨hx, hn, he, hv, c1, c2, ix1, ix2, sz, hx', hn', he', ht⟩ := H
  repeat' (first
    | (with_reducible apply Given.mk; intro h; (try simp only [f0, f1, he, hn, hx, hv, c1, c2, hx', hn', he', ht, if_true, BitVec.reduceBEq, bne_self_eq_false, beq_self_eq_true, Bool.and_self, Bool.not_true, Bool.true_eq_false, Bool.false_eq_true, eq_self] at h); (try exact absurd h (by decide)))
    | ((conv => whnf); with_reducible apply Both.mk))
  all_goals first
    | ((with_reducible apply Ob.mk); with_reducible exact hs)
    | (with_reducible apply Ob.mk; kernel_rfl)
    | ((with_reducible apply Ob.mk); simp only [hn]; first | with_reducible exact sz | with_reducible exact ix1 | with_reducible exact ix2)
    | ((with_reducible apply Ob.mk); simp_all; done)
    | ((conv => whnf); exact ⟨rfl⟩)
    | ((conv => whnf); refine ⟨?_⟩; simp only [f0, f1, he, hn, hx, hv, c1, c2, hx', hn', he', ht, if_true, BitVec.reduceBEq, bne_self_eq_false, beq_self_eq_true, Bool.and_self, Bool.not_true, Bool.true_eq_false, Bool.false_eq_true, eq_self]; done)
    | ((conv => whnf); skip)
theorem cat_nil (s : ByteArray) : catB s (B []) = s := by
  obtain ⟨⟨l⟩⟩ := s
  show B (l ++ []) = B l
  rw [List.append_nil]
theorem slt60 {s : ByteArray} (hs : s.size < 9223372036854775808) : (60#64).slt (BitVec.ofNat 64 s.size) = decide (60 < s.size) := by
  rw [BitVec.slt_eq_decide, toInt_ofNat hs, Bool.eq_iff_iff]
  have z : (60#64).toInt = 60 := rfl
  rw [z]
  simp only [decide_eq_true_eq]
  omega
theorem ex_ex (s : ByteArray) (k n : Nat) (h : k + n ≤ s.size) : exB (exB s 0 (k + n)) k (exB s 0 (k + n)).size = exB s k (k + n) := by
  rw [exB_size s 0 (k + n) (Nat.zero_le _) h]
  obtain ⟨⟨l⟩⟩ := s
  rw [show (⟨⟨l⟩⟩ : ByteArray) = B l from rfl, ex_B l 0, ex_B, ex_B]
  congr 1
  simp only [List.drop_zero, Nat.sub_zero]
  rw [List.drop_take, List.take_take]
  congr 1
  omega
theorem ex_pre {s p : ByteArray} {k : Nat} (hk : k ≤ s.size) (h : pre (exB s k s.size) p = true) : exB s k (k + p.size) = p ∧ k + p.size ≤ s.size := by
  have h1 := pre_size h
  rw [exB_size s k s.size hk (Nat.le_refl _)] at h1
  have h2 : exB (exB s k s.size) 0 p.size = p := of_decide_eq_true h
  refine ⟨?_, by omega⟩
  conv => rhs; rw [← h2]
  obtain ⟨⟨l⟩⟩ := s
  rw [show (⟨⟨l⟩⟩ : ByteArray) = B l from rfl, ex_B l k, ex_B l k, ex_B]
  congr 1
  simp only [List.drop_zero, Nat.sub_zero]
  rw [List.take_take]
  congr 1
  have t1 : (B l).size = l.length := rfl
  have h1 : p.size ≤ (B l).size - k := h1
  have hk : k ≤ (B l).size := hk
  omega
theorem one_ok {s : ByteArray} {k : BitVec 64} (h0 : s.size ≤ 60) (hk : k.toNat < s.size) (hi : k.toInt = (k.toNat : Int)) (hd : kA s k ≠ 0) : OneOK s k (xA s k) (nA s k) := by
  have hs : s.size < 9223372036854775808 := by omega
  obtain ⟨hb, hv, hp, hn, he⟩ := kA_is hd
  obtain ⟨p1, p2⟩ := eX_pos hv
  obtain ⟨e1, e2⟩ := ex_pre (Nat.le_of_lt hk) hp
  have hN : (nA s k).toNat = (eX (xA s k)).size := by rw [hn, nat_of (by omega)]
  have hNi : (nA s k).toInt = ((eX (xA s k)).size : Int) := by rw [hn, toInt_ofNat (by omega)]
  have hS : (k + nA s k).toNat = k.toNat + (eX (xA s k)).size := by
    rw [BitVec.toNat_add, hN]; omega
  have hSi : (k + nA s k).toInt = ((k.toNat + (eX (xA s k)).size : Nat) : Int) := by
    rw [BitVec.toInt_eq_toNat_cond, hS, if_pos (by omega)]
  have hz : (exB s 0 (k + nA s k).toNat).size = k.toNat + (eX (xA s k)).size := by
    rw [hS, exB_size s 0 _ (Nat.zero_le _) e2]; omega
  have hb' : badA (exB s 0 (k + nA s k).toNat) k = false := bad_no (by rw [hz]; omega) (by rw [hz]; omega) hi
  have hT : exB (exB s 0 (k + nA s k).toNat) k.toNat (exB s 0 (k + nA s k).toNat).size = eX (xA s k) := by
    rw [hS, ex_ex s k.toNat _ e2, e1]
  have hp' : pre (exB (exB s 0 (k + nA s k).toNat) k.toNat (exB s 0 (k + nA s k).toNat).size) (eX (xA s k)) = true := by
    rw [hT]
    have h := pre_cat (eX (xA s k)) []
    rwa [show catB (eX (xA s k)) (B []) = eX (xA s k) from cat_nil _] at h
  obtain ⟨x1, x2, x3⟩ := kA_at hb' (by rw [hz]; omega) hv hp'
  have hc1 : (nA s k).slt 1#64 = false := by
    rw [BitVec.slt_eq_decide, decide_eq_false_iff_not, hNi]
    have z : (1#64).toInt = 1 := rfl
    rw [z]; omega
  have hc2 : (BitVec.ofNat 64 s.size - k).slt (nA s k) = false := by
    have e : BitVec.ofNat 64 s.size - k = BitVec.ofNat 64 (s.size - k.toNat) := by
      apply BitVec.eq_of_toNat_eq
      rw [BitVec.toNat_sub, nat_of (by omega), nat_of (by omega)]; omega
    rw [e, BitVec.slt_eq_decide, decide_eq_false_iff_not, hNi, toInt_ofNat (by omega)]
    omega
  refine ⟨rfl, rfl, he, hv, hc1, hc2, ⟨by rw [hSi]; omega, Nat.zero_le _, by rw [hS]; exact e2⟩, ⟨⟨by rw [hi]; omega, by rw [hSi]; omega⟩, by rw [hS]; omega, by rw [hS]; exact e2⟩, by rw [hz]; omega, x1, by rw [x2, hn], x3, ?_⟩
  rw [hS, e1]
  exact decide_eq_true rfl
set_option maxRecDepth 100000 in
theorem CodecOne_main (m : Nat → Nat) (s : ByteArray) (hs : s.size < 9223372036854775808) (a : BitVec 8) : F Tryd.prog (tab (DN m noData) (tb_O m)) Tryd.f9 [.one (.str s), .one (.b8 false a)] (fun r => r = .one (.bool true)) := by
  cases f0 : (60#64).slt (BitVec.ofNat 64 s.size) with
  | true => exact One_out m s a hs (.inl f0)
  | false =>
    cases f1 : (BitVec.ofNat 64 s.size == 0#64) with
    | true => exact One_out m s a hs (.inr f1)
    | false =>
      have h0 : s.size ≤ 60 := by
        rw [slt60 hs, decide_eq_false_iff_not] at f0; omega
      have h1 : 0 < s.size := by
        rw [beq_eq_false_iff_ne] at f1
        rcases Nat.eq_zero_or_pos s.size with e | e
        · rw [e] at f1; exact absurd rfl f1
        · exact e
      obtain ⟨g1, g2⟩ := kO_ok (a := a) h1 h0
      by_cases hd : kA s (kO s a) = 0
      · obtain ⟨x1, x2, x3⟩ := kA_no hd
        exact One_none m s a hs f0 f1 x1 x2 x3
      · exact One_some m s a hs f0 f1 (one_ok h0 g1 g2 hd)
end Go.Proofs.YtppankimieopiaaDoor
