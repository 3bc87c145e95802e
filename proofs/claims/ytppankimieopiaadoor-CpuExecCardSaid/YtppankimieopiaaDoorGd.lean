/-
  The document's division and moves: contracts. Conditions: as typed.
-/
import Derived.Test.YtppankimieopiaaDoorGc
namespace Go.Proofs.YtppankimieopiaaDoor
open Go.Ep Go.RowKit
set_option linter.unusedVariables false
set_option linter.unusedSimpArgs false

theorem ule_lt {h y : BitVec 64} (c : y.ule h = false) : h.toNat < y.toNat := ul_f c
theorem lo32_lt (v : BitVec 64) : (lo32 v).toNat < 4294967296 := by rw [lo32_nat]; exact Nat.mod_lt _ (by decide)
theorem lo_lo (v : BitVec 64) : lo32 v = lo32 (lo32 v) := by
  unfold lo32
  rw [bb32]
theorem lo_sw (v : BitVec 64) : (lo32 v).setWidth 32 = v.setWidth 32 := bb32 _
theorem dq_eq (H L Y : BitVec 32) (hl : H.toNat < Y.toNat) : BitVec.ofNat 64 (((H.setWidth 64).toNat * 4294967296 + (L.setWidth 64).toNat) / (Y.setWidth 64).toNat) = (dQ H L Y).setWidth 64 ∧
    BitVec.ofNat 64 (((H.setWidth 64).toNat * 4294967296 + (L.setWidth 64).toNat) % (Y.setWidth 64).toNat) = (dR H L Y).setWidth 64 := by
  have hH := H.isLt
  have hL := L.isLt
  have hY := Y.isLt
  have e1 : (H.setWidth 64).toNat = H.toNat := by rw [BitVec.toNat_setWidth]; exact Nat.mod_eq_of_lt (by omega)
  have e2 : (L.setWidth 64).toNat = L.toNat := by rw [BitVec.toNat_setWidth]; exact Nat.mod_eq_of_lt (by omega)
  have e3 : (Y.setWidth 64).toNat = Y.toNat := by rw [BitVec.toNat_setWidth]; exact Nat.mod_eq_of_lt (by omega)
  have e4 : ((H.setWidth 64 <<< 32) ||| L.setWidth 64).toNat = H.toNat * 4294967296 + L.toNat := by
    rw [BitVec.toNat_or, BitVec.toNat_shiftLeft, e1, e2, Nat.mod_eq_of_lt (by rw [Nat.shiftLeft_eq]; omega), ← Nat.shiftLeft_add_eq_or_of_lt hL, Nat.shiftLeft_eq]
  have q : (H.toNat * 4294967296 + L.toNat) / Y.toNat < 4294967296 := by
    rw [Nat.div_lt_iff_lt_mul (by omega)]
    have : (H.toNat + 1) * 4294967296 ≤ Y.toNat * 4294967296 := Nat.mul_le_mul_right _ hl
    omega
  have r : (H.toNat * 4294967296 + L.toNat) % Y.toNat < Y.toNat := Nat.mod_lt _ (by omega)
  refine ⟨BitVec.eq_of_toNat_eq ?_, BitVec.eq_of_toNat_eq ?_⟩
  · unfold dQ
    rw [BitVec.toNat_ofNat, e1, e2, e3, BitVec.toNat_setWidth, BitVec.toNat_setWidth, BitVec.toNat_udiv, e4, e3]
    clear hl e1 e2 e3 e4 r
    generalize (H.toNat * 4294967296 + L.toNat) / Y.toNat = P at *
    omega
  · unfold dR
    rw [BitVec.toNat_ofNat, e1, e2, e3, BitVec.toNat_setWidth, BitVec.toNat_setWidth, BitVec.toNat_umod, e4, e3]
    clear hl e1 e2 e3 e4 q
    generalize (H.toNat * 4294967296 + L.toNat) % Y.toNat = P at *
    omega
def sp_pts : Sp
  | [.one (.b64 false h), .one (.b64 false l), .one (.b64 false y), .one (.b64 true n)] => match n.toNat with
    | 64 => some (Cond.p (y.ule h = false), .tup [(false, [.b64 false (dvQ h l y)]), (false, [.b64 false (dvR h l y)])])
    | 32 => some (Cond.p (y.ule h = false ∧ h = lo32 h ∧ l = lo32 l ∧ y = lo32 y), .tup [(false, [.b64 false ((dQ (h.setWidth 32) (l.setWidth 32) (y.setWidth 32)).setWidth 64)]), (false, [.b64 false ((dR (h.setWidth 32) (l.setWidth 32) (y.setWidth 32)).setWidth 64)])])
    | _ => none
  | _ => none
set_option maxRecDepth 100000 in
set_option maxHeartbeats 4000000 in
theorem e_pts (G2 : World → Prop) (D2 : VData) (k2 : DataOK Tryd.prog G2 D2) (m : Nat → Nat) : EntryOK Tryd.prog (and2 (GB m) (and2 (GP m) G2)) 37 sp_pts := by
  refine .of_F (C_tm G2 D2 k2 m) (by kernel_rfl) Tryd.func37 (by kernel_rfl) (by kernel_rfl) (fun args c v h hc => ?_)
  unfold sp_pts at h
  split at h
  · rename_i hh l y n
    split at h
    · rename_i e
      obtain rfl : n = 64#64 := BitVec.eq_of_toNat_eq e
      cases h
      exact ⟨rfl, rfl, pt_64 D2 m hh l y ⟨rfl, by decide, ule_lt hc, y.isLt, l.isLt⟩⟩
    · rename_i e
      obtain rfl : n = 32#64 := BitVec.eq_of_toNat_eq e
      cases h
      obtain ⟨h1, h2, h3, h4⟩ := hc
      have hl := ule_lt h1
      refine ⟨rfl, rfl, ?_⟩
      have g : PtH 4294967296 32 hh l y := ⟨rfl, by decide, hl, by rw [h4]; exact lo32_lt _, by rw [h3]; exact lo32_lt _⟩
      obtain ⟨H, rfl⟩ := sw_lo h2
      obtain ⟨L, rfl⟩ := sw_lo h3
      obtain ⟨Y, rfl⟩ := sw_lo h4
      have w := pt_32 D2 m _ _ _ g
      rw [(dq_eq H L Y (by rw [BitVec.toNat_setWidth, BitVec.toNat_setWidth] at hl; have := H.isLt; have := Y.isLt; omega)).1, (dq_eq H L Y (by rw [BitVec.toNat_setWidth, BitVec.toNat_setWidth] at hl; have := H.isLt; have := Y.isLt; omega)).2] at w
      rw [bb32, bb32, bb32]
      exact w
    · cases h
  · cases h
abbrev tb_pts (m : Nat → Nat) : List (Nat × Sp) := (37, sp_pts) :: tb_tm m
theorem C_pts (G2 : World → Prop) (D2 : VData) (k2 : DataOK Tryd.prog G2 D2) (m : Nat → Nat) : CSound Tryd.prog (and2 (GB m) (and2 (GP m) G2)) (tab (or2 (DB m) (or2 (DP m) D2)) (tb_pts m)) := (C_tm G2 D2 k2 m).cons (e_pts G2 D2 k2 m)
/- Moves. -/
theorem by64 {b : BitVec 64} (h : b.toNat < 64) : (b % 64#64).toNat = b.toNat := by
  rw [BitVec.toNat_umod]
  exact Nat.mod_eq_of_lt h
theorem by32 {b : BitVec 64} (h : b.toNat < 32) : (b % 32#64).toNat = b.toNat := by
  rw [BitVec.toNat_umod]
  exact Nat.mod_eq_of_lt h
theorem mul_pw (a : BitVec 64) {n : Nat} (h : n < 64) : a * (1#64 <<< n) = a <<< n := by
  apply BitVec.eq_of_toNat_eq
  rw [BitVec.toNat_mul, pw_nat h, BitVec.toNat_shiftLeft, Nat.shiftLeft_eq]
theorem div_pw (a : BitVec 64) {n : Nat} (h : n < 64) : a / (1#64 <<< n) = a >>> n := by
  apply BitVec.eq_of_toNat_eq
  rw [BitVec.toNat_udiv, pw_nat h, BitVec.toNat_ushiftRight, Nat.shiftRight_eq_div_pow]
theorem sub_n {b : BitVec 64} {n : Nat} (hn : n < 65) (h : b.toNat ≤ n) : (BitVec.ofNat 64 n - b).toNat = n - b.toNat := by
  rw [BitVec.toNat_sub_of_le (by rw [BitVec.le_def, BitVec.toNat_ofNat, Nat.mod_eq_of_lt (by omega)]; exact h), BitVec.toNat_ofNat, Nat.mod_eq_of_lt (by omega)]
theorem sg_bit (v n : BitVec 64) (h : 1 ≤ n.toNat) {j : Nat} (hj : j < 64) : (sgN v n).getLsbD j = if j < n.toNat then v.getLsbD j else v.getLsbD (n.toNat - 1) := by
  unfold sgN
  rw [BitVec.getLsbD_signExtend, decide_eq_true hj, Bool.true_and]
  split
  · rename_i g
    rw [BitVec.getLsbD_setWidth, decide_eq_true g, Bool.true_and]
  · rw [BitVec.msb_eq_getLsbD_last, BitVec.getLsbD_setWidth, decide_eq_true (by omega), Bool.true_and]
theorem mv7w (a b : BitVec 64) (h : b.toNat < 64) : sgN (a / (1#64 <<< b.toNat)) (64#64 - b) = a.sshiftRight b.toNat := by
  have e := sub_n (b := b) (n := 64) (by decide) (by omega)
  have e' : (64#64 - b).toNat = 64 - b.toNat := e
  rw [div_pw a h]
  apply BitVec.eq_of_getLsbD_eq
  intro j hj
  rw [sg_bit _ _ (by omega) hj, e', BitVec.getLsbD_sshiftRight, BitVec.getLsbD_ushiftRight, BitVec.getLsbD_ushiftRight, decide_eq_false (by omega : ¬ 64 ≤ j), Bool.not_false, Bool.true_and]
  by_cases g : j < 64 - b.toNat
  · rw [if_pos g, if_pos (by omega)]
  · rw [if_neg g, if_neg (by omega), BitVec.msb_eq_getLsbD_last]
    congr 1
    omega
theorem lo_bit (v : BitVec 64) (j : Nat) : (lo32 v).getLsbD j = (decide (j < 32) && v.getLsbD j) := by
  unfold lo32
  rw [BitVec.getLsbD_setWidth, BitVec.getLsbD_setWidth]
  by_cases h : j < 32
  · rw [decide_eq_true h, decide_eq_true (by omega : j < 64)]; rfl
  · rw [decide_eq_false h, Bool.false_and, Bool.and_false]
theorem mv4n (A : BitVec 32) {n : Nat} (h : n < 32) : lo32 (A.setWidth 64 * (1#64 <<< n)) = (A <<< n).setWidth 64 := by
  rw [mul_pw _ (by omega)]
  apply BitVec.eq_of_toNat_eq
  rw [lo32_nat, BitVec.toNat_shiftLeft, BitVec.toNat_setWidth, BitVec.toNat_setWidth, BitVec.toNat_shiftLeft, Nat.shiftLeft_eq, Nat.shiftLeft_eq]
  have := A.isLt
  rw [Nat.mod_eq_of_lt (a := A.toNat) (by omega)]
  generalize A.toNat * 2 ^ n = P
  omega
theorem mv5n (A : BitVec 32) {n : Nat} (h : n < 32) : A.setWidth 64 / (1#64 <<< n) = (A >>> n).setWidth 64 := by
  rw [div_pw _ (by omega)]
  apply BitVec.eq_of_toNat_eq
  rw [BitVec.toNat_ushiftRight, BitVec.toNat_setWidth, BitVec.toNat_setWidth, BitVec.toNat_ushiftRight]
  have h1 := A.isLt
  have h2 : A.toNat >>> n ≤ A.toNat := by rw [Nat.shiftRight_eq_div_pow]; exact Nat.div_le_self _ _
  rw [Nat.mod_eq_of_lt (a := A.toNat) (by omega), Nat.mod_eq_of_lt (by omega)]
theorem mv7n (A : BitVec 32) (b : BitVec 64) (h : b.toNat < 32) : lo32 (sgN (A.setWidth 64 / (1#64 <<< b.toNat)) (32#64 - b)) = (A.sshiftRight b.toNat).setWidth 64 := by
  have e : (32#64 - b).toNat = 32 - b.toNat := sub_n (b := b) (n := 32) (by decide) (by omega)
  rw [div_pw _ (by omega)]
  apply BitVec.eq_of_getLsbD_eq
  intro j hj
  rw [lo_bit, sg_bit _ _ (by omega) hj, e, BitVec.getLsbD_setWidth, BitVec.getLsbD_sshiftRight, BitVec.getLsbD_ushiftRight, BitVec.getLsbD_ushiftRight, BitVec.getLsbD_setWidth, BitVec.getLsbD_setWidth, decide_eq_true hj, Bool.true_and]
  by_cases k : j < 32
  · rw [decide_eq_true k, decide_eq_false (by omega : ¬ 32 ≤ j), Bool.true_and, Bool.not_false, Bool.true_and]
    by_cases g : j < 32 - b.toNat
    · rw [if_pos g, if_pos (by omega), decide_eq_true (by omega), Bool.true_and]
    · rw [if_neg g, if_neg (by omega), BitVec.msb_eq_getLsbD_last, decide_eq_true (by omega), Bool.true_and]
      congr 1
      omega
  · rw [decide_eq_false k, decide_eq_true (by omega : 32 ≤ j), Bool.false_and, Bool.not_true, Bool.false_and]
theorem sh3 {a : BitVec 64} (h : shiftB a = true) : a = 4#64 ∨ a = 5#64 ∨ a = 7#64 := by
  simp only [shiftB, Bool.or_eq_true, beq_iff_eq] at h
  rcases h with (h | h) | h <;> simp [h]
theorem mw4 (a b : BitVec 64) (h : b.toNat < 64) : a * (1#64 <<< b.toNat) = aluD (sfV 4#64) true a b := by
  show _ = a <<< (b % 64#64).toNat
  rw [by64 h, mul_pw a h]
theorem mw5 (a b : BitVec 64) (h : b.toNat < 64) : a / (1#64 <<< b.toNat) = aluD (sfV 5#64) true a b := by
  show _ = a >>> (b % 64#64).toNat
  rw [by64 h, div_pw a h]
theorem mw7 (a b : BitVec 64) (h : b.toNat < 64) : sgN (a / (1#64 <<< b.toNat)) (64#64 - b) = aluD (sfV 7#64) true a b := by
  show _ = a.sshiftRight (b % 64#64).toNat
  rw [by64 h, mv7w a b h]
theorem mn4 (A : BitVec 32) (b : BitVec 64) (h : b.toNat < 32) : lo32 (A.setWidth 64 * (1#64 <<< b.toNat)) = aluD (sfV 4#64) false (A.setWidth 64) b := by
  show _ = (((A.setWidth 64).setWidth 32) <<< (b % 32#64).toNat).setWidth 64
  rw [by32 h, bb32, mv4n A h]
theorem mn5 (A : BitVec 32) (b : BitVec 64) (h : b.toNat < 32) : A.setWidth 64 / (1#64 <<< b.toNat) = aluD (sfV 5#64) false (A.setWidth 64) b := by
  show _ = (((A.setWidth 64).setWidth 32) >>> (b % 32#64).toNat).setWidth 64
  rw [by32 h, bb32, mv5n A h]
theorem mn7 (A : BitVec 32) (b : BitVec 64) (h : b.toNat < 32) : lo32 (sgN (A.setWidth 64 / (1#64 <<< b.toNat)) (32#64 - b)) = aluD (sfV 7#64) false (A.setWidth 64) b := by
  show _ = (((A.setWidth 64).setWidth 32).sshiftRight (b % 32#64).toNat).setWidth 64
  rw [by32 h, bb32, mv7n A b h]
theorem sub64_in {b : BitVec 64} (h : b.toNat < 64) : 1 ≤ (64#64 - b).toNat ∧ (64#64 - b).toNat ≤ 64 := by
  have e : (64#64 - b).toNat = 64 - b.toNat := sub_n (b := b) (n := 64) (by decide) (by omega)
  omega
theorem sub32_in {b : BitVec 64} (h : b.toNat < 32) : 1 ≤ (32#64 - b).toNat ∧ (32#64 - b).toNat ≤ 64 := by
  have e : (32#64 - b).toNat = 32 - b.toNat := sub_n (b := b) (n := 32) (by decide) (by omega)
  omega
set_option maxRecDepth 100000 in
set_option maxHeartbeats 4000000 in
theorem mv_64_4 (D2 : VData) (m : Nat → Nat) (a : BitVec 64) (b : BitVec 64) (hb : b.toNat < 64) : F Tryd.prog (tab (or2 (DB m) (or2 (DP m) D2)) (tb_pts m)) Tryd.f38 [.one (.b64 true 4#64), .one (.b64 true 64#64), .one (.b64 false a), .one (.b64 true b)] (fun r => r = .one (.b64 false (aluD (sfV 4#64) true a b))) := by
      repeat' (first
        | (with_reducible apply Given.mk; intro h; (try exact absurd h (by decide)))
        | ((conv => whnf); with_reducible apply Both.mk))
      all_goals first
        | ((with_reducible apply Ob.mk); exact hb)
        | ((with_reducible apply Ob.mk); exact pw_ne hb)
        | ((with_reducible apply Ob.mk); exact sub64_in hb)
        | (with_reducible apply Ob.mk; kernel_rfl)
        | (with_reducible apply Ob.mk; decide)
        | ((conv => whnf); refine ⟨?_⟩; exact congrArg (fun x => AV.one (L.b64 false x)) (mw4 a b hb))
        | ((conv => whnf); skip)
set_option maxRecDepth 100000 in
set_option maxHeartbeats 4000000 in
theorem mv_64_5 (D2 : VData) (m : Nat → Nat) (a : BitVec 64) (b : BitVec 64) (hb : b.toNat < 64) : F Tryd.prog (tab (or2 (DB m) (or2 (DP m) D2)) (tb_pts m)) Tryd.f38 [.one (.b64 true 5#64), .one (.b64 true 64#64), .one (.b64 false a), .one (.b64 true b)] (fun r => r = .one (.b64 false (aluD (sfV 5#64) true a b))) := by
      repeat' (first
        | (with_reducible apply Given.mk; intro h; (try exact absurd h (by decide)))
        | ((conv => whnf); with_reducible apply Both.mk))
      all_goals first
        | ((with_reducible apply Ob.mk); exact hb)
        | ((with_reducible apply Ob.mk); exact pw_ne hb)
        | ((with_reducible apply Ob.mk); exact sub64_in hb)
        | (with_reducible apply Ob.mk; kernel_rfl)
        | (with_reducible apply Ob.mk; decide)
        | ((conv => whnf); refine ⟨?_⟩; exact congrArg (fun x => AV.one (L.b64 false x)) (mw5 a b hb))
        | ((conv => whnf); skip)
set_option maxRecDepth 100000 in
set_option maxHeartbeats 4000000 in
theorem mv_64_7 (D2 : VData) (m : Nat → Nat) (a : BitVec 64) (b : BitVec 64) (hb : b.toNat < 64) : F Tryd.prog (tab (or2 (DB m) (or2 (DP m) D2)) (tb_pts m)) Tryd.f38 [.one (.b64 true 7#64), .one (.b64 true 64#64), .one (.b64 false a), .one (.b64 true b)] (fun r => r = .one (.b64 false (aluD (sfV 7#64) true a b))) := by
      repeat' (first
        | (with_reducible apply Given.mk; intro h; (try exact absurd h (by decide)))
        | ((conv => whnf); with_reducible apply Both.mk))
      all_goals first
        | ((with_reducible apply Ob.mk); exact hb)
        | ((with_reducible apply Ob.mk); exact pw_ne hb)
        | ((with_reducible apply Ob.mk); exact sub64_in hb)
        | (with_reducible apply Ob.mk; kernel_rfl)
        | (with_reducible apply Ob.mk; decide)
        | ((conv => whnf); refine ⟨?_⟩; exact congrArg (fun x => AV.one (L.b64 false x)) (mw7 a b hb))
        | ((conv => whnf); skip)
set_option maxRecDepth 100000 in
set_option maxHeartbeats 4000000 in
theorem mv_32_4 (D2 : VData) (m : Nat → Nat) (A : BitVec 32) (b : BitVec 64) (hb : b.toNat < 32) : F Tryd.prog (tab (or2 (DB m) (or2 (DP m) D2)) (tb_pts m)) Tryd.f38 [.one (.b64 true 4#64), .one (.b64 true 32#64), .one (.b64 false (A.setWidth 64)), .one (.b64 true b)] (fun r => r = .one (.b64 false (aluD (sfV 4#64) false (A.setWidth 64) b))) := by
      repeat' (first
        | (with_reducible apply Given.mk; intro h; (try exact absurd h (by decide)))
        | ((conv => whnf); with_reducible apply Both.mk))
      all_goals first
        | ((with_reducible apply Ob.mk); exact (Nat.lt_trans hb (by decide)))
        | ((with_reducible apply Ob.mk); exact pw_ne (Nat.lt_trans hb (by decide)))
        | ((with_reducible apply Ob.mk); exact sub32_in hb)
        | (with_reducible apply Ob.mk; kernel_rfl)
        | (with_reducible apply Ob.mk; decide)
        | ((conv => whnf); refine ⟨?_⟩; exact congrArg (fun x => AV.one (L.b64 false x)) (mn4 A b hb))
        | ((conv => whnf); skip)
set_option maxRecDepth 100000 in
set_option maxHeartbeats 4000000 in
theorem mv_32_5 (D2 : VData) (m : Nat → Nat) (A : BitVec 32) (b : BitVec 64) (hb : b.toNat < 32) : F Tryd.prog (tab (or2 (DB m) (or2 (DP m) D2)) (tb_pts m)) Tryd.f38 [.one (.b64 true 5#64), .one (.b64 true 32#64), .one (.b64 false (A.setWidth 64)), .one (.b64 true b)] (fun r => r = .one (.b64 false (aluD (sfV 5#64) false (A.setWidth 64) b))) := by
      repeat' (first
        | (with_reducible apply Given.mk; intro h; (try exact absurd h (by decide)))
        | ((conv => whnf); with_reducible apply Both.mk))
      all_goals first
        | ((with_reducible apply Ob.mk); exact (Nat.lt_trans hb (by decide)))
        | ((with_reducible apply Ob.mk); exact pw_ne (Nat.lt_trans hb (by decide)))
        | ((with_reducible apply Ob.mk); exact sub32_in hb)
        | (with_reducible apply Ob.mk; kernel_rfl)
        | (with_reducible apply Ob.mk; decide)
        | ((conv => whnf); refine ⟨?_⟩; exact congrArg (fun x => AV.one (L.b64 false x)) (mn5 A b hb))
        | ((conv => whnf); skip)
set_option maxRecDepth 100000 in
set_option maxHeartbeats 4000000 in
theorem mv_32_7 (D2 : VData) (m : Nat → Nat) (A : BitVec 32) (b : BitVec 64) (hb : b.toNat < 32) : F Tryd.prog (tab (or2 (DB m) (or2 (DP m) D2)) (tb_pts m)) Tryd.f38 [.one (.b64 true 7#64), .one (.b64 true 32#64), .one (.b64 false (A.setWidth 64)), .one (.b64 true b)] (fun r => r = .one (.b64 false (aluD (sfV 7#64) false (A.setWidth 64) b))) := by
      repeat' (first
        | (with_reducible apply Given.mk; intro h; (try exact absurd h (by decide)))
        | ((conv => whnf); with_reducible apply Both.mk))
      all_goals first
        | ((with_reducible apply Ob.mk); exact (Nat.lt_trans hb (by decide)))
        | ((with_reducible apply Ob.mk); exact pw_ne (Nat.lt_trans hb (by decide)))
        | ((with_reducible apply Ob.mk); exact sub32_in hb)
        | (with_reducible apply Ob.mk; kernel_rfl)
        | (with_reducible apply Ob.mk; decide)
        | ((conv => whnf); refine ⟨?_⟩; exact congrArg (fun x => AV.one (L.b64 false x)) (mn7 A b hb))
        | ((conv => whnf); skip)
def sp_mvd : Sp
  | [.one (.b64 true way), .one (.b64 true n), .one (.b64 false a), .one (.b64 true b)] => match n.toNat with
    | 64 => some (Cond.p (shiftB way = true ∧ b.toNat < 64), .one (.b64 false (aluD (sfV way) true a b)))
    | 32 => some (Cond.p (shiftB way = true ∧ a = lo32 a ∧ b.toNat < 32), .one (.b64 false (aluD (sfV way) false a b)))
    | _ => none
  | _ => none
set_option maxRecDepth 100000 in
set_option maxHeartbeats 4000000 in
theorem e_mvd (G2 : World → Prop) (D2 : VData) (k2 : DataOK Tryd.prog G2 D2) (m : Nat → Nat) : EntryOK Tryd.prog (and2 (GB m) (and2 (GP m) G2)) 38 sp_mvd := by
  refine .of_F (C_pts G2 D2 k2 m) (by kernel_rfl) Tryd.func38 (by kernel_rfl) (by kernel_rfl) (fun args c v h hc => ?_)
  unfold sp_mvd at h
  split at h
  · rename_i way n a b
    split at h
    · rename_i e
      obtain rfl : n = 64#64 := BitVec.eq_of_toNat_eq e
      cases h
      refine ⟨rfl, rfl, ?_⟩
      rcases sh3 hc.1 with rfl | rfl | rfl
      · exact mv_64_4 D2 m a b hc.2
      · exact mv_64_5 D2 m a b hc.2
      · exact mv_64_7 D2 m a b hc.2
    · rename_i e
      obtain rfl : n = 32#64 := BitVec.eq_of_toNat_eq e
      cases h
      refine ⟨rfl, rfl, ?_⟩
      obtain ⟨h1, h2, h3⟩ := hc
      obtain ⟨A, rfl⟩ := sw_lo h2
      rcases sh3 h1 with rfl | rfl | rfl
      · exact mv_32_4 D2 m A b h3
      · exact mv_32_5 D2 m A b h3
      · exact mv_32_7 D2 m A b h3
    · cases h
  · cases h
abbrev tb_mvd (m : Nat → Nat) : List (Nat × Sp) := (38, sp_mvd) :: tb_pts m
theorem C_mvd (G2 : World → Prop) (D2 : VData) (k2 : DataOK Tryd.prog G2 D2) (m : Nat → Nat) : CSound Tryd.prog (and2 (GB m) (and2 (GP m) G2)) (tab (or2 (DB m) (or2 (DP m) D2)) (tb_mvd m)) := (C_pts G2 D2 k2 m).cons (e_mvd G2 D2 k2 m)
end Go.Proofs.YtppankimieopiaaDoor
