/-
  Chapter 11: which instructions may be, by the document: all kinds. Conditions: none.
-/
import Derived.Test.YtppankimieopiaaDoorFv
namespace Go.Proofs.YtppankimieopiaaDoor
open Go.Ep Go.RowKit
set_option linter.unusedVariables false
set_option linter.unusedSimpArgs false
theorem k_ne {k : BitVec 64} (h : k.slt 1#64 = true ∨ (22#64).sle k = true) : ∀ n : Nat, 1 ≤ n → n < 22 → (k == BitVec.ofNat 64 n) = false := by
  intro n h1 h2
  rw [beq_eq_false_iff_ne]
  rintro rfl
  have e1 : (1#64).toInt = 1 := rfl
  have e2 : (22#64).toInt = 22 := rfl
  rw [BitVec.slt_iff_toInt_lt, BitVec.sle_iff_toInt_le, e1, e2, toInt_ofNat (by omega)] at h
  omega
def sp_rValid : Sp
  | [.agg [.b64 true k, .b64 true al, .b64 true cc, .b64 true sz, .bool w, .bool sh, .b64 true d, .b64 true s, .b32 true dp, .b32 true rl, .b64 true im]] => some (Cond.t, .one (.bool (vld k al cc sz w sh d s dp rl im)))
  | _ => none
set_option maxRecDepth 100000 in
set_option maxHeartbeats 16000000 in
theorem e_rValid (G2 : World → Prop) (D2 : VData) (k2 : DataOK Tryd.prog G2 D2) (m : Nat → Nat) : EntryOK Tryd.prog (and2 (GB m) (and2 (GP m) G2)) 21 sp_rValid := by
  refine .of_F (CSound.tabI (C_rword G2 D2 k2 m) (by kernel_rfl) fs_v 4) (by kernel_rfl) Tryd.func21 (by kernel_rfl) (by kernel_rfl) (fun args c v h hc => ?_)
  unfold sp_rValid at h
  split at h
  · rename_i k al cc sz w sh d s dp rl im; cases h
    refine ⟨rfl, rfl, ?_⟩
    rcases ks k with rfl | rfl | rfl | rfl | rfl | rfl | rfl | rfl | rfl | rfl | rfl | rfl | rfl | rfl | rfl | rfl | rfl | rfl | rfl | rfl | rfl | hk
    rotate_right 1
    · rw [show vld k al cc sz w sh d s dp rl im = false from vld_none hk]
      have n1 : (k == 1#64) = false := k_ne hk 1 (by decide) (by decide)
      have n2 : (k == 2#64) = false := k_ne hk 2 (by decide) (by decide)
      have n3 : (k == 3#64) = false := k_ne hk 3 (by decide) (by decide)
      have n4 : (k == 4#64) = false := k_ne hk 4 (by decide) (by decide)
      have n5 : (k == 5#64) = false := k_ne hk 5 (by decide) (by decide)
      have n6 : (k == 6#64) = false := k_ne hk 6 (by decide) (by decide)
      have n7 : (k == 7#64) = false := k_ne hk 7 (by decide) (by decide)
      have n8 : (k == 8#64) = false := k_ne hk 8 (by decide) (by decide)
      have n9 : (k == 9#64) = false := k_ne hk 9 (by decide) (by decide)
      have n10 : (k == 10#64) = false := k_ne hk 10 (by decide) (by decide)
      have n11 : (k == 11#64) = false := k_ne hk 11 (by decide) (by decide)
      have n12 : (k == 12#64) = false := k_ne hk 12 (by decide) (by decide)
      have n13 : (k == 13#64) = false := k_ne hk 13 (by decide) (by decide)
      have n14 : (k == 14#64) = false := k_ne hk 14 (by decide) (by decide)
      have n15 : (k == 15#64) = false := k_ne hk 15 (by decide) (by decide)
      have n16 : (k == 16#64) = false := k_ne hk 16 (by decide) (by decide)
      have n17 : (k == 17#64) = false := k_ne hk 17 (by decide) (by decide)
      have n18 : (k == 18#64) = false := k_ne hk 18 (by decide) (by decide)
      have n19 : (k == 19#64) = false := k_ne hk 19 (by decide) (by decide)
      have n20 : (k == 20#64) = false := k_ne hk 20 (by decide) (by decide)
      have n21 : (k == 21#64) = false := k_ne hk 21 (by decide) (by decide)
      repeat' (first
        | ((with_reducible apply Given.mk); intro h; (try simp only [n1, n2, n3, n4, n5, n6, n7, n8, n9, n10, n11, n12, n13, n14, n15, n16, n17, n18, n19, n20, n21, Bool.or_self, Bool.false_eq_true] at h); (try exact absurd h (by decide)))
        | ((conv => whnf); with_reducible apply Both.mk))
      all_goals first
        | (with_reducible apply Ob.mk; kernel_rfl)
        | ((conv => whnf); exact ⟨rfl⟩)
        | ((conv => whnf); skip)
    · exact rv_1 D2 m al cc sz w sh d s dp rl im
    · exact rv_2 D2 m al cc sz w sh d s dp rl im
    · exact rv_3 D2 m al cc sz w sh d s dp rl im
    · exact rv_4 D2 m al cc sz w sh d s dp rl im
    · exact rv_5 D2 m al cc sz w sh d s dp rl im
    · exact rv_6 D2 m al cc sz w sh d s dp rl im
    · exact rv_7 D2 m al cc sz w sh d s dp rl im
    · exact rv_8 D2 m al cc sz w sh d s dp rl im
    · exact rv_9 D2 m al cc sz w sh d s dp rl im
    · exact rv_10 D2 m al cc sz w sh d s dp rl im
    · exact rv_11 D2 m al cc sz w sh d s dp rl im
    · exact rv_12 D2 m al cc sz w sh d s dp rl im
    · exact rv_13 D2 m al cc sz w sh d s dp rl im
    · exact rv_14 D2 m al cc sz w sh d s dp rl im
    · exact rv_15 D2 m al cc sz w sh d s dp rl im
    · exact rv_16 D2 m al cc sz w sh d s dp rl im
    · exact rv_17 D2 m al cc sz w sh d s dp rl im
    · exact rv_18 D2 m al cc sz w sh d s dp rl im
    · exact rv_19 D2 m al cc sz w sh d s dp rl im
    · exact rv_20 D2 m al cc sz w sh d s dp rl im
    · exact rv_21 D2 m al cc sz w sh d s dp rl im
  · cases h
abbrev tb_rValid (m : Nat → Nat) : List (Nat × Sp) := (21, sp_rValid) :: tb_rword m
theorem C_rValid (G2 : World → Prop) (D2 : VData) (k2 : DataOK Tryd.prog G2 D2) (m : Nat → Nat) : CSound Tryd.prog (and2 (GB m) (and2 (GP m) G2)) (tab (or2 (DB m) (or2 (DP m) D2)) (tb_rValid m)) := (C_rword G2 D2 k2 m).cons (e_rValid G2 D2 k2 m)
end Go.Proofs.YtppankimieopiaaDoor
