/-
  Numbers of which some bits and their ends are known: what is drawn, and what arithmetic makes, has what was there. Conditions: as typed.
-/
import Derived.Test.YtkmggidgfkchfaaDoorSqE
namespace Go.Proofs.YtkmggidgfkchfaaDoor
set_option linter.unusedVariables false
set_option linter.unusedSimpArgs false

theorem nn_eta (n : NN) : NN.mk n.tv n.tm n.lo n.hi n.slo n.shi = n := rfl
theorem nhas_iff (n : NN) (v : BitVec 64) : n.has v = true ↔ tHas n.tv n.tm v = true ∧ n.s.has v = true := by rw [NN.has, Bool.and_eq_true]
theorem range_has' {lo hi v : BitVec 64} (h1 : lo.toNat ≤ v.toNat) (h2 : v.toNat ≤ hi.toNat) :
    tHas (if hi.ult lo then 0#64 else lo &&& ~~~ belowB (lo ^^^ hi)) (if hi.ult lo then ~~~0#64 else belowB (lo ^^^ hi)) v = true := by
  have e : ¬ (hi.ult lo = true) := by rw [ult_nat]; omega
  rw [if_neg e, if_neg e]
  exact range_has lo hi v h1 h2
theorem sub_le {x X : BitVec 64} (h : sub x X) : x.toNat ≤ X.toNat := by
  have := mod_le_of_sub h 64
  rw [Nat.mod_eq_of_lt x.isLt, Nat.mod_eq_of_lt X.isLt] at this
  exact this
theorem nS_has {a : NN} {v : BitVec 64} (h : a.has v = true) : (nS a).has v = true := by
  rw [nhas_iff] at h
  refine meet_has h.2 ?_
  rw [shas_iff]
  exact ⟨sub_le (has_sub1 h.1), sub_le (has_sub2 h.1), sMin_le v, le_sMax v⟩
theorem n1_has {a : NN} {v : BitVec 64} (h : a.has v = true) : nOk1 a = true ∧ (n1 a).has v = true := by
  have hs := nS_has h
  have hb : (nBy a).has v = true := tight_has hs
  rw [nhas_iff] at h
  have hb' := (shas_iff _ _).1 hb
  have hr : tHas (nRv a) (nRm a) v = true := range_has' hb'.1 hb'.2.1
  refine ⟨nOk1_y (ok_has hs) (both_ok h.1 hr), ?_⟩
  rw [nhas_iff]
  exact ⟨both_has h.1 hr, hb⟩
theorem nTight_ok {a : NN} {v : BitVec 64} (h : a.has v = true) : nOk a = true ∧ (nTight a).has v = true := by
  obtain ⟨h1, h2⟩ := n1_has h
  obtain ⟨h3, h4⟩ := n1_has h2
  have e : nOk a = true := by rw [nOk, valid_of_has ((nhas_iff _ _).1 h).1, h1, h3]; rfl
  refine ⟨e, ?_⟩
  rw [nTight, if_pos e]
  exact h4
theorem nTt_has {a : NN} {v : BitVec 64} (h : a.has v = true) : (nTt a).has v = true := by
  obtain ⟨h1, h2⟩ := nTight_ok h
  rw [nTt, if_pos h1]
  exact h2
theorem mk_has {t m : BitVec 64} {s : SS} {v : BitVec 64} (h : tHas t m v = true) (h' : s.has v = true) : (nTt (nMk t m s)).has v = true :=
  nTt_has ((nhas_iff _ _).2 ⟨h, h'⟩)
theorem low32 : lowM 32#64 = 4294967295#64 := rfl
theorem nLow_has {a : NN} {v : BitVec 64} (h : a.has v = true) : (nLow a).has (v &&& 4294967295#64) = true := by
  rw [nhas_iff] at h
  unfold nLow
  rw [low32]
  exact mk_has (and_has _ h.1) (sLow_has h.2)
theorem anyT_has (v : BitVec 64) : tHas 0#64 (~~~0#64) v = true := by
  rw [tHas]
  have e : ~~~(~~~0#64) = 0#64 := by decide
  rw [e, BitVec.and_zero]
  rfl
theorem nAny_has (v : BitVec 64) : nAny.has v = true := (nhas_iff _ _).2 ⟨anyT_has v, any_has v⟩
theorem nConst_has (v : BitVec 64) : (nConst v).has v = true := by
  refine (nhas_iff _ _).2 ⟨const_has v, ?_⟩
  rw [shas_iff]
  exact ⟨Nat.le_refl _, Nat.le_refl _, Nat.le_refl _, Nat.le_refl _⟩
set_option maxHeartbeats 4000000 in
theorem nOp_has {a b : NN} {x y : BitVec 64} (o : BitVec 8) (ho : opH o = true) (h : a.has x = true) (h' : b.has y = true) : (nOp o a b).has (rDo o x y) = true := by
  rw [nhas_iff] at h h'
  rcases op_cases o ho with rfl | rfl | rfl | rfl | rfl | rfl | rfl | rfl
  · exact mk_has (add_has h.1 h'.1) (sAdd_has h.2 h'.2)
  · exact mk_has (sub_has h.1 h'.1) (sSub_has h.2 h'.2)
  · exact mk_has (mul_has h.1 h'.1) (sMul_has h.2 h'.2)
  · rw [rDo_div]; exact mk_has (anyT_has _) (sDiv_has h.2 h'.2)
  · exact mk_has (orT_has h.1 h'.1) (sOr_has h.2 h'.2)
  · exact mk_has (andT_has h.1 h'.1) (sAnd_has h.2 h'.2)
  · rw [rDo_mod]; exact mk_has (anyT_has _) (sMod_has h.2 h'.2)
  · unfold nOp
    rw [show tOp 160#8 a b = (tXorV a.tv a.tm b.tv b.tm, tXorM a.tv a.tm b.tv b.tm) from rfl, show sOp 160#8 a.s b.s = sFrom 0#64 (belowB (a.s.hi ||| b.s.hi)) from rfl, show rDo 160#8 x y = x ^^^ y from rfl]
    exact mk_has (xorT_has h.1 h'.1) (sXor_has h.2 h'.2)
theorem and_mod (y : BitVec 64) : y % 64#64 = y &&& 63#64 := by
  apply BitVec.eq_of_toNat_eq
  rw [BitVec.toNat_umod, BitVec.toNat_and]
  show y.toNat % 64 = y.toNat &&& 63
  rw [show (63 : Nat) = 2 ^ 6 - 1 from rfl, Nat.and_two_pow_sub_one_eq_mod]
theorem and_mod32 (y : BitVec 64) : y % 32#64 = (y &&& 31#64) % 64#64 := by
  apply BitVec.eq_of_toNat_eq
  rw [BitVec.toNat_umod, BitVec.toNat_umod, BitVec.toNat_and]
  show y.toNat % 32 = (y.toNat &&& 31) % 64
  rw [show (31 : Nat) = 2 ^ 5 - 1 from rfl, Nat.and_two_pow_sub_one_eq_mod]
  omega
theorem sh96 (x y : BitVec 64) : rDo 96#8 x y = rDo 96#8 x (y &&& 63#64) := by
  show x * 1#64 <<< (y % 64#64).toNat = x * 1#64 <<< ((y &&& 63#64) % 64#64).toNat
  rw [k64, and_mod]
theorem sh112 (x y : BitVec 64) : rDo 112#8 x y = rDo 112#8 x (y &&& 63#64) := by
  show x / 1#64 <<< (y % 64#64).toNat = x / 1#64 <<< ((y &&& 63#64) % 64#64).toNat
  rw [k64, and_mod]
theorem sh192 (x y : BitVec 64) : rDo 192#8 x y = rDo 192#8 x (y &&& 63#64) := by
  show rSign (x / 1#64 <<< (y % 64#64).toNat) (64#64 - y % 64#64) = rSign (x / 1#64 <<< ((y &&& 63#64) % 64#64).toNat) (64#64 - (y &&& 63#64) % 64#64)
  rw [k64, and_mod]
theorem and6363 (y : BitVec 64) : y &&& 63#64 &&& 63#64 = y &&& 63#64 := by rw [BitVec.and_assoc]; rfl
set_option maxHeartbeats 400000 in
theorem nShift_has {a : NN} {x y : BitVec 64} (o : BitVec 8) (ho : o = 96#8 ∨ o = 112#8 ∨ o = 192#8) (h : a.has x = true) : (nShift o a (y &&& 63#64)).has (rDo o x y) = true := by
  rw [nhas_iff] at h
  rcases ho with rfl | rfl | rfl
  · have e : rDo 96#8 x y = x <<< (y &&& 63#64 &&& 63#64).toNat := by rw [sh96, rDo_lsh, and6363]
    rw [e]
    generalize y &&& 63#64 = n
    rw [nShift, if_pos (show (96#8 == 96#8) = true from rfl)]
    exact mk_has (shl_has (n &&& 63#64).toNat h.1) (sLsh_has n h.2)
  · have e : rDo 112#8 x y = x >>> (y &&& 63#64 &&& 63#64).toNat := by rw [sh112, rDo_rsh, and6363]
    rw [e]
    generalize y &&& 63#64 = n
    rw [nShift, if_neg (show ¬ (112#8 == 96#8) = true by decide), if_pos (show (112#8 == 112#8) = true from rfl)]
    exact mk_has (shr_has (n &&& 63#64).toNat h.1) (sRsh_has (a := a.s) (n &&& 63#64).toNat h.2)
  · have e : rDo 192#8 x y = x.sshiftRight (y &&& 63#64 &&& 63#64).toNat := by rw [sh192, rDo_arsh, and6363]
    rw [e]
    generalize y &&& 63#64 = n
    rw [nShift, if_neg (show ¬ (192#8 == 96#8) = true by decide), if_neg (show ¬ (192#8 == 112#8) = true by decide)]
    exact mk_has (sshr_has (n &&& 63#64).toNat h.1) (sArsh_has (a := a.s) (n &&& 63#64).toNat h.2)
theorem d128 (x y : BitVec 64) : rDo 128#8 x y = 0#64 - x := rfl
theorem d16 (x y : BitVec 64) : rDo 16#8 x y = x - y := rfl
theorem d176 (x y : BitVec 64) : rDo 176#8 x y = y := rfl
theorem nWhole_has {a b : NN} {x y : BitVec 64} (o : BitVec 8) (h : a.has x = true) (h' : b.has y = true) : (nWhole o a b).has (rDo o x y) = true := by
  unfold nWhole
  split
  · rename_i ho; exact nOp_has o ho h h'
  split
  · rename_i ho
    obtain rfl := eq_of_beq ho
    rw [d128, ← d16]
    exact nOp_has 16#8 rfl (nConst_has 0#64) h
  split
  · rename_i ho
    obtain rfl := eq_of_beq ho
    rw [d176]
    exact h'
  split
  · rename_i ho
    rw [Bool.and_eq_true] at ho
    obtain ⟨e, -⟩ := const_only ((nhas_iff _ _).1 h').1 (eq_of_beq ho.1)
    rw [e]
    exact nShift_has o (by simpa [or_assoc] using ho.2) h
  · exact nAny_has _
theorem rLow32 (v : BitVec 64) : rLow v 32#64 = v &&& 4294967295#64 := by
  apply BitVec.eq_of_toNat_eq
  rw [and32]
  show (v % (1#64 <<< (32#64).toNat)).toNat = _
  rw [BitVec.toNat_umod]
  rfl
theorem nBytes4_has (v : BitVec 64) : (nBytes 4#64).has (v &&& 4294967295#64) = true := by
  have e : nBytes 4#64 = nMk 0#64 4294967295#64 (sFrom 0#64 4294967295#64) := rfl
  rw [e, nhas_iff]
  refine ⟨?_, from_has (zero_le _) ?_⟩
  · have := and_has 4294967295#64 (anyT_has v)
    rw [BitVec.zero_and] at this
    exact this
  · rw [and32]
    have := Nat.mod_lt v.toNat (show 0 < 4294967296 by decide)
    show _ ≤ 4294967295
    omega
theorem rDoX_eq {o : BitVec 8} (x y : BitVec 64) (h : (o == 96#8 || o == 112#8 || o == 192#8) = false) : rDoX o x y = rDo o x y := by
  simp only [Bool.or_eq_false_iff] at h
  obtain ⟨⟨h1, h2⟩, h3⟩ := h
  simp only [rDoX, rDo, h1, h2, h3, Bool.false_eq_true, if_false]
set_option maxHeartbeats 4000000 in
theorem nDo_has {a b : NN} {x y : BitVec 64} (o : BitVec 8) (w : Bool) (h : a.has x = true) (h' : b.has y = true) : (nDo o w a b).has (rDoW o w x y) = true := by
  cases w with
  | true => exact nWhole_has o h h'
  | false =>
    have e : rDoW o false x y = rDoX o (x &&& 4294967295#64) (y &&& 4294967295#64) &&& 4294967295#64 := by
      unfold rDoW
      rw [if_neg (by decide), rLow32, rLow32, rLow32]
    rw [e]
    unfold nDo
    rw [if_neg (by decide)]
    have hx := nLow_has h
    have hy := nLow_has h'
    split
    · rename_i ho
      split
      · rename_i hc
        rw [Bool.and_eq_true] at hc
        obtain ⟨e1, -⟩ := const_only ((nhas_iff _ _).1 hy).1 (eq_of_beq hc.1)
        have h192 : o ≠ 192#8 := by simpa using hc.2
        have e2 : rDoX o (x &&& 4294967295#64) (y &&& 4294967295#64) = rDo o (x &&& 4294967295#64) ((y &&& 4294967295#64) &&& 31#64) := by
          simp only [Bool.or_eq_true, beq_iff_eq] at ho
          rcases ho with (rfl | rfl) | rfl
          · show _ * 1#64 <<< ((y &&& 4294967295#64) % 32#64).toNat = _ * 1#64 <<< (((y &&& 4294967295#64) &&& 31#64) % 64#64).toNat
            rw [and_mod32]
          · show _ / 1#64 <<< ((y &&& 4294967295#64) % 32#64).toNat = _ / 1#64 <<< (((y &&& 4294967295#64) &&& 31#64) % 64#64).toNat
            rw [and_mod32]
          · exact absurd rfl h192
        rw [e2, e1]
        exact nLow_has (nWhole_has o hx (nConst_has _))
      · exact nBytes4_has _
    · rename_i ho
      rw [rDoX_eq _ _ (by simpa using ho)]
      exact nLow_has (nWhole_has o hx hy)
theorem nMade_has (v k p q r s : BitVec 64) : (nMade v k p q r s).has v = true := by
  refine (nhas_iff _ _).2 ⟨?_, smade_has v p q r s⟩
  rw [show (nMade v k p q r s).tv = v &&& ~~~k from rfl, show (nMade v k p q r s).tm = k from rfl, tHas]
  exact beq_self_eq_true _
end Go.Proofs.YtkmggidgfkchfaaDoor
