/-
  The document's powers, lowest bits, signs: contracts. Conditions: as typed.
-/
import Derived.Test.YtppankimieopiaaDoorFw
import Derived.Test.YtppankimieopiaaDoorEm
namespace Go.Proofs.YtppankimieopiaaDoor
open Go.Ep Go.RowKit
set_option linter.unusedVariables false
set_option linter.unusedSimpArgs false

theorem pw_succ (k : Nat) : (1#64 <<< k) * 2#64 = 1#64 <<< (k + 1) := by
  rw [BitVec.shiftLeft_add, BitVec.shiftLeft_eq_mul_twoPow _ 1]; rfl
theorem pw_nat {n : Nat} (h : n < 64) : (1#64 <<< n).toNat = 2 ^ n := by
  rw [BitVec.toNat_shiftLeft, Nat.shiftLeft_eq]
  have h2 : 2 ^ n < 2 ^ 64 := Nat.pow_lt_pow_right (by decide) h
  show 1 * 2 ^ n % 2 ^ 64 = _
  rw [Nat.one_mul, Nat.mod_eq_of_lt h2]
theorem pw_ne {n : Nat} (h : n < 64) : 1#64 <<< n ≠ 0#64 := by
  intro e
  have := congrArg BitVec.toNat e
  rw [pw_nat h] at this
  exact absurd this (Nat.ne_of_gt (Nat.two_pow_pos n))
theorem pw_stepA (k : Nat) : AV.one (.b64 false ((1#64 <<< k) * 2#64)) = AV.one (.b64 false (1#64 <<< (k + 1))) := by rw [pw_succ]
theorem pw_stepB (k : Nat) : AV.one (.b64 true (BitVec.ofNat 64 k + 1#64)) = AV.one (.b64 true (BitVec.ofNat 64 (k + 1))) := by rw [BitVec.ofNat_add k 1]
def sp_Pw : Sp
  | [.one (.b64 true n)] => some (Cond.p (n.toNat < 64), .one (.b64 false (1#64 <<< n.toNat)))
  | _ => none
set_option maxRecDepth 100000 in
set_option maxHeartbeats 4000000 in
theorem e_Pw (G2 : World → Prop) (D2 : VData) (k2 : DataOK Tryd.prog G2 D2) (m : Nat → Nat) : EntryOK Tryd.prog (and2 (GB m) (and2 (GP m) G2)) 79 sp_Pw := by
  refine .of_F (C_rValid G2 D2 k2 m) (by kernel_rfl) Tryd.func79 (by kernel_rfl) (by kernel_rfl) (fun args c v h hc => ?_)
  unfold sp_Pw at h
  split at h
  · rename_i n; cases h
    refine ⟨rfl, rfl, ?_⟩
    have hn : n.toNat < 64 := hc
    have hni : n.toInt = (n.toNat : Int) := by rw [BitVec.toInt_eq_toNat_cond]; split <;> omega
    repeat' (first
      | (with_reducible apply Given.mk; intro h; (try ((have _q := q); rw [q] at h; exact absurd h (by decide))))
      | ((conv => whnf); first | with_reducible apply Both.mk | (refine LoopP.mk (Nat) (fun k => k ≤ n.toNat) (fun k => mkS (Tryd.f79).ntmps [(0, .one (.b64 true n)), (3, .one (.b64 false (1#64 <<< k))), (4, .one (.b64 true (BitVec.ofNat 64 k)))] []) (fun k => n.toNat - k) ⟨0, Nat.zero_le _, ⟨?_, ?_, ?_, ?_, ?_⟩⟩ ?_; (focus ((repeat' ((conv => whnf); first | exact trivial | refine Both.mk (by first | with_reducible rfl | exact iN_succ _ | rfl) ?_)); done)); (focus ((repeat' ((conv => whnf); first | exact trivial | refine Both.mk (by first | with_reducible rfl | exact iN_succ _ | rfl) ?_)); done)); (focus exact rfl); (focus exact rfl); (focus exact rfl); (rintro k hk; rcases Nat.lt_or_ge k n.toNat with g | g; (have q : (BitVec.ofNat 64 k).slt n = true := by rw [BitVec.slt_iff_toInt_lt, toInt_ofNat (by omega), hni]; omega); rotate_left 1; (have e : k = n.toNat := Nat.le_antisymm hk g); (have q : (BitVec.ofNat 64 k).slt n = false := by rw [← Bool.not_eq_true, BitVec.slt_iff_toInt_lt, toInt_ofNat (by omega), hni]; omega); rotate_left 1))))
    all_goals first
      | (with_reducible apply Ob.mk; kernel_rfl)
      | ((have _g := g); ((conv => whnf); refine ⟨k + 1, (show k + 1 ≤ n.toNat from g), (show n.toNat - (k + 1) < n.toNat - k by omega), ⟨?_, ?_, ?_, ?_, ?_⟩⟩; (focus ((repeat' ((conv => whnf); first | exact trivial | refine Both.mk (by first | with_reducible rfl | exact iN_succ _ | exact pw_stepA _ | exact pw_stepB _ | rfl) ?_)); done)); (focus ((repeat' ((conv => whnf); first | exact trivial | refine Both.mk (by first | with_reducible rfl | exact iN_succ _ | exact pw_stepA _ | exact pw_stepB _ | rfl) ?_)); done)); (focus exact rfl); (focus exact rfl); (focus exact rfl)))
      | ((have _e := e); (conv => whnf); subst e; exact ⟨rfl⟩)
      | ((conv => whnf); skip)
  · cases h
abbrev tb_Pw (m : Nat → Nat) : List (Nat × Sp) := (79, sp_Pw) :: tb_rValid m
theorem C_Pw (G2 : World → Prop) (D2 : VData) (k2 : DataOK Tryd.prog G2 D2) (m : Nat → Nat) : CSound Tryd.prog (and2 (GB m) (and2 (GP m) G2)) (tab (or2 (DB m) (or2 (DP m) D2)) (tb_Pw m)) := (C_rValid G2 D2 k2 m).cons (e_Pw G2 D2 k2 m)
/-- The lowest bits. -/
def loN (v n : BitVec 64) : BitVec 64 := BitVec.ofNat 64 (v.toNat % 2 ^ n.toNat)
theorem n_int {n : BitVec 64} (h : n.toNat ≤ 64) : n.toInt = (n.toNat : Int) := by rw [BitVec.toInt_eq_toNat_cond]; split <;> omega
theorem sle64 {n : BitVec 64} (h : n.toNat ≤ 64) : (64#64).sle n = decide (n.toNat = 64) ∧ n.sle 0#64 = decide (n.toNat = 0) := by
  have e64 : (64#64).toInt = 64 := rfl
  have e0 : (0#64).toInt = 0 := rfl
  rw [BitVec.sle_eq_decide, BitVec.sle_eq_decide, n_int h, e64, e0]
  refine ⟨decide_eq_decide.2 (by omega), decide_eq_decide.2 (by omega)⟩
theorem lo_64 {v n : BitVec 64} (h : n.toNat = 64) : v = loN v n := by
  unfold loN
  rw [h]
  apply BitVec.eq_of_toNat_eq
  rw [BitVec.toNat_ofNat]
  have := v.isLt
  omega
theorem lo_lt {v n : BitVec 64} (h : n.toNat < 64) : v % (1#64 <<< n.toNat) = loN v n := by
  unfold loN
  apply BitVec.eq_of_toNat_eq
  rw [BitVec.toNat_umod, pw_nat h, BitVec.toNat_ofNat]
  exact (Nat.mod_eq_of_lt (Nat.lt_of_le_of_lt (Nat.mod_le _ _) v.isLt)).symm
def sp_Lo : Sp
  | [.one (.b64 false v), .one (.b64 true n)] => some (Cond.p (1 ≤ n.toNat ∧ n.toNat ≤ 64), .one (.b64 false (loN v n)))
  | _ => none
set_option maxRecDepth 100000 in
set_option maxHeartbeats 4000000 in
theorem e_Lo (G2 : World → Prop) (D2 : VData) (k2 : DataOK Tryd.prog G2 D2) (m : Nat → Nat) : EntryOK Tryd.prog (and2 (GB m) (and2 (GP m) G2)) 34 sp_Lo := by
  refine .of_F (C_Pw G2 D2 k2 m) (by kernel_rfl) Tryd.func34 (by kernel_rfl) (by kernel_rfl) (fun args c v h hc => ?_)
  unfold sp_Lo at h
  split at h
  · rename_i v n; cases h
    refine ⟨rfl, rfl, ?_⟩
    obtain ⟨h1, h2⟩ := hc
    obtain ⟨e1, e2⟩ := sle64 h2
    rw [decide_eq_false (by omega)] at e2
    rcases Nat.lt_or_ge n.toNat 64 with g | g
    · rw [decide_eq_false (by omega)] at e1
      repeat' (first
        | (with_reducible apply Given.mk; intro h; (try (rw [e1] at h; exact absurd h (by decide))); (try (rw [e2] at h; exact absurd h (by decide))))
        | ((conv => whnf); with_reducible apply Both.mk))
      all_goals first
        | ((with_reducible apply Ob.mk); with_reducible exact g)
        | ((with_reducible apply Ob.mk); with_reducible exact pw_ne g)
        | (with_reducible apply Ob.mk; kernel_rfl)
        | ((conv => whnf); refine ⟨?_⟩; rw [lo_lt g])
        | ((conv => whnf); skip)
    · have g : n.toNat = 64 := by omega
      rw [decide_eq_true g] at e1
      repeat' (first
        | (with_reducible apply Given.mk; intro h; (try (rw [e1] at h; exact absurd h (by decide))))
        | ((conv => whnf); with_reducible apply Both.mk))
      all_goals first
        | (with_reducible apply Ob.mk; kernel_rfl)
        | ((conv => whnf); refine ⟨?_⟩; rw [← lo_64 g])
        | ((conv => whnf); skip)
  · cases h
abbrev tb_Lo (m : Nat → Nat) : List (Nat × Sp) := (34, sp_Lo) :: tb_Pw m
theorem C_Lo (G2 : World → Prop) (D2 : VData) (k2 : DataOK Tryd.prog G2 D2) (m : Nat → Nat) : CSound Tryd.prog (and2 (GB m) (and2 (GP m) G2)) (tab (or2 (DB m) (or2 (DP m) D2)) (tb_Lo m)) := (C_Pw G2 D2 k2 m).cons (e_Lo G2 D2 k2 m)
/-- Some lowest bits, their sign told on. -/
def sgN (v n : BitVec 64) : BitVec 64 := (v.setWidth n.toNat).signExtend 64
theorem lo_eq {v n : BitVec 64} : (loN v n).toNat = v.toNat % 2 ^ n.toNat := by
  unfold loN
  rw [BitVec.toNat_ofNat]
  exact Nat.mod_eq_of_lt (Nat.lt_of_le_of_lt (Nat.mod_le _ _) v.isLt)
theorem sg_64 {v n : BitVec 64} (h : n.toNat = 64) : loN v n = sgN v n := by
  rw [← lo_64 h]
  unfold sgN
  rw [h, BitVec.setWidth_eq, BitVec.signExtend_eq]
theorem sg_nat {v n : BitVec 64} (h : n.toNat < 64) : (sgN v n).toNat = v.toNat % 2 ^ n.toNat + if (v.setWidth n.toNat).msb then 18446744073709551616 - 2 ^ n.toNat else 0 := by
  unfold sgN
  rw [BitVec.toNat_signExtend]
  have h2 : 2 ^ n.toNat < 2 ^ 64 := Nat.pow_lt_pow_right (by decide) h
  have h3 : v.toNat % 2 ^ n.toNat < 2 ^ n.toNat := Nat.mod_lt _ (Nat.two_pow_pos _)
  have e : ((v.setWidth n.toNat).setWidth 64).toNat = v.toNat % 2 ^ n.toNat := by
    rw [BitVec.toNat_setWidth, BitVec.toNat_setWidth]
    exact Nat.mod_eq_of_lt (by omega)
  rw [e]
theorem ms_n {v n : BitVec 64} (h1 : 1 ≤ n.toNat) : (v.setWidth n.toNat).msb = decide (2 ^ (n.toNat - 1) ≤ v.toNat % 2 ^ n.toNat) := by
  rw [BitVec.msb_eq_decide, BitVec.toNat_setWidth]
theorem sg_lo {v n : BitVec 64} (h1 : 1 ≤ n.toNat) (h : n.toNat < 64) (g : (loN v n).ult (1#64 <<< (n - 1#64).toNat) = true) : loN v n = sgN v n := by
  have en : (n - 1#64).toNat = n.toNat - 1 := by rw [BitVec.toNat_sub_of_le (by rw [BitVec.le_def]; exact h1)]; rfl
  rw [BitVec.ult_iff_toNat_lt, en, pw_nat (by omega), lo_eq] at g
  apply BitVec.eq_of_toNat_eq
  rw [sg_nat h, lo_eq, ms_n h1, decide_eq_false (by omega), if_neg (by decide), Nat.add_zero]
theorem sg_hi {v n : BitVec 64} (h1 : 1 ≤ n.toNat) (h : n.toNat < 64) (g : (loN v n).ult (1#64 <<< (n - 1#64).toNat) = false) : loN v n - 1#64 <<< n.toNat = sgN v n := by
  have en : (n - 1#64).toNat = n.toNat - 1 := by rw [BitVec.toNat_sub_of_le (by rw [BitVec.le_def]; exact h1)]; rfl
  have g2 : ¬ ((loN v n).ult (1#64 <<< (n - 1#64).toNat) = true) := by rw [g]; decide
  rw [BitVec.ult_iff_toNat_lt, en, pw_nat (by omega), lo_eq] at g2
  apply BitVec.eq_of_toNat_eq
  rw [sg_nat h, ms_n h1, decide_eq_true (by omega), if_pos rfl, BitVec.toNat_sub, pw_nat h, lo_eq]
  have h2 : 2 ^ n.toNat < 2 ^ 64 := Nat.pow_lt_pow_right (by decide) h
  have h3 : v.toNat % 2 ^ n.toNat < 2 ^ n.toNat := Nat.mod_lt _ (Nat.two_pow_pos _)
  omega
theorem n1_lt {n : BitVec 64} (h1 : 1 ≤ n.toNat) (h : n.toNat ≤ 64) : (n - 1#64).toNat < 64 := by
  rw [BitVec.toNat_sub_of_le (by rw [BitVec.le_def]; exact h1)]
  show n.toNat - 1 < 64
  omega
def sp_Sg : Sp
  | [.one (.b64 false v), .one (.b64 true n)] => some (Cond.p (1 ≤ n.toNat ∧ n.toNat ≤ 64), .one (.b64 false (sgN v n)))
  | _ => none
set_option maxRecDepth 100000 in
set_option maxHeartbeats 4000000 in
theorem e_Sg (G2 : World → Prop) (D2 : VData) (k2 : DataOK Tryd.prog G2 D2) (m : Nat → Nat) : EntryOK Tryd.prog (and2 (GB m) (and2 (GP m) G2)) 81 sp_Sg := by
  refine .of_F (C_Lo G2 D2 k2 m) (by kernel_rfl) Tryd.func81 (by kernel_rfl) (by kernel_rfl) (fun args c v h hc => ?_)
  unfold sp_Sg at h
  split at h
  · rename_i v n; cases h
    refine ⟨rfl, rfl, ?_⟩
    obtain ⟨h1, h2⟩ := hc
    obtain ⟨e1, e2⟩ := sle64 h2
    rw [decide_eq_false (by omega)] at e2
    rcases Nat.lt_or_ge n.toNat 64 with g | g
    · rw [decide_eq_false (by omega)] at e1
      repeat' (first
        | (with_reducible apply Given.mk; intro h; (try simp only [e1, e2, Bool.or_self, Bool.false_or, Bool.or_false, Bool.true_eq_false, Bool.false_eq_true] at h))
        | ((conv => whnf); with_reducible apply Both.mk))
      all_goals first
        | ((with_reducible apply Ob.mk); with_reducible exact g)
        | ((with_reducible apply Ob.mk); with_reducible exact ⟨h1, h2⟩)
        | ((with_reducible apply Ob.mk); with_reducible exact n1_lt h1 h2)
        | (with_reducible apply Ob.mk; kernel_rfl)
        | ((conv => whnf); refine ⟨?_⟩; rw [← sg_lo h1 g h])
        | ((conv => whnf); refine ⟨?_⟩; rw [← sg_hi h1 g h])
        | ((conv => whnf); skip)
    · have g : n.toNat = 64 := by omega
      rw [decide_eq_true g] at e1
      repeat' (first
        | (with_reducible apply Given.mk; intro h; (try simp only [e1, e2, Bool.or_self, Bool.false_or, Bool.or_false, Bool.true_or, Bool.or_true, Bool.true_eq_false, Bool.false_eq_true] at h))
        | ((conv => whnf); with_reducible apply Both.mk))
      all_goals first
        | ((with_reducible apply Ob.mk); with_reducible exact ⟨h1, h2⟩)
        | ((with_reducible apply Ob.mk); with_reducible exact n1_lt h1 h2)
        | (with_reducible apply Ob.mk; kernel_rfl)
        | ((conv => whnf); refine ⟨?_⟩; rw [← sg_64 g])
        | ((conv => whnf); skip)
  · cases h
abbrev tb_Sg (m : Nat → Nat) : List (Nat × Sp) := (81, sp_Sg) :: tb_Lo m
theorem C_Sg (G2 : World → Prop) (D2 : VData) (k2 : DataOK Tryd.prog G2 D2) (m : Nat → Nat) : CSound Tryd.prog (and2 (GB m) (and2 (GP m) G2)) (tab (or2 (DB m) (or2 (DP m) D2)) (tb_Sg m)) := (C_Lo G2 D2 k2 m).cons (e_Sg G2 D2 k2 m)
/- The lowest bits, of 64 and of 32. -/
def lo32 (v : BitVec 64) : BitVec 64 := (v.setWidth 32).setWidth 64
theorem loN_64 (v : BitVec 64) : loN v 64#64 = v := (lo_64 rfl).symm
theorem loN_32 (v : BitVec 64) : loN v 32#64 = lo32 v := by
  apply BitVec.eq_of_toNat_eq
  rw [lo_eq]
  unfold lo32
  rw [BitVec.toNat_setWidth, BitVec.toNat_setWidth]
  show v.toNat % 2 ^ 32 = v.toNat % 2 ^ 32 % 2 ^ 64
  omega
def sp_Lo2 : Sp
  | [.one (.b64 false v), .one (.b64 true n)] => match n.toNat with
    | 64 => some (Cond.t, .one (.b64 false v))
    | 32 => some (Cond.t, .one (.b64 false (lo32 v)))
    | _ => none
  | _ => none
theorem e_Lo2 (G2 : World → Prop) (D2 : VData) (k2 : DataOK Tryd.prog G2 D2) (m : Nat → Nat) : EntryOK Tryd.prog (and2 (GB m) (and2 (GP m) G2)) 34 sp_Lo2 := by
  refine entry_turn (e_Lo G2 D2 k2 m) _ (fun args c v h1 h2 => ?_)
  unfold sp_Lo2 at h1
  split at h1
  · rename_i v n
    split at h1
    · rename_i e
      obtain rfl : n = 64#64 := BitVec.eq_of_toNat_eq e
      cases h1
      refine ⟨Cond.p (1 ≤ (64#64 : BitVec 64).toNat ∧ (64#64 : BitVec 64).toNat ≤ 64) (some inferInstance), ?_, (show 1 ≤ (64#64 : BitVec 64).toNat ∧ (64#64 : BitVec 64).toNat ≤ 64 by decide)⟩
      show some (_, AV.one (L.b64 false (loN v 64#64))) = _
      rw [loN_64]
    · rename_i e
      obtain rfl : n = 32#64 := BitVec.eq_of_toNat_eq e
      cases h1
      refine ⟨Cond.p (1 ≤ (32#64 : BitVec 64).toNat ∧ (32#64 : BitVec 64).toNat ≤ 64) (some inferInstance), ?_, (show 1 ≤ (32#64 : BitVec 64).toNat ∧ (32#64 : BitVec 64).toNat ≤ 64 by decide)⟩
      show some (_, AV.one (L.b64 false (loN v 32#64))) = _
      rw [loN_32]
    · cases h1
  · cases h1
abbrev tb_Lo2 (m : Nat → Nat) : List (Nat × Sp) := (34, sp_Lo2) :: tb_Sg m
theorem C_Lo2 (G2 : World → Prop) (D2 : VData) (k2 : DataOK Tryd.prog G2 D2) (m : Nat → Nat) : CSound Tryd.prog (and2 (GB m) (and2 (GP m) G2)) (tab (or2 (DB m) (or2 (DP m) D2)) (tb_Lo2 m)) := (C_Sg G2 D2 k2 m).cons (e_Lo2 G2 D2 k2 m)
end Go.Proofs.YtppankimieopiaaDoor
