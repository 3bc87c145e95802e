/-
  Chapter 21: knows() by a closed run; the law StepsNone, as the evaluator leaves it. Conditions: as typed.
-/
import Derived.Test.YtnoaakipfbfajaaGreatDoorZs
import Derived.Test.YtnoaakipfbfajaaGreatDoorPl
namespace Go.Proofs.YtnoaakipfbfajaaGreatDoor
open Go.Ep Go.RowKit
set_option linter.unusedVariables false
set_option linter.unusedSimpArgs false
set_option maxRecDepth 100000 in
theorem e_knows (m : Nat → Nat) : EntryOK Tryz.prog (GI m) 4 spT :=
  EntryOK.of_YT (pu := puZ) (im := imZ) (mk := mkZs) (fuel := 1000) (n := 12) (m := 8) (C_Size m) (by kernel_rfl) fs_Z (by kernel_rfl)
abbrev tb_knows : List (Nat × Sp) := (4, spT) :: tb_Size
theorem C_knows (m : Nat → Nat) : CSound Tryz.prog (GI m) (tab (DI m) tb_knows) := (C_Size m).cons (e_knows m)
noncomputable abbrev FSs : List (Nat × Func) := [(5, Tryz.f5), (6, Tryz.f6)]
theorem fs_s : FsOK Tryz.prog FSs := FsOK.cons Tryz.func5 (by kernel_rfl) (by kernel_rfl) (FsOK.cons Tryz.func6 (by kernel_rfl) (by kernel_rfl) FsOK.nil)
theorem C_st (m : Nat → Nat) : CSound Tryz.prog (GI m) (tabI Tryz.prog (DI m) tb_knows FSs 3) := CSound.tabI (C_knows m) (by kernel_rfl) fs_s 3
theorem no_min (pc : BitVec 64) (h : (if (BitVec.ofInt 64 (Int.negSucc 0)).slt pc = true then BitVec.ofInt 64 (Int.negSucc 0) else pc).slt 0#64 = false) : False := by
  have e1 : (BitVec.ofInt 64 (Int.negSucc 0)).toInt = -1 := by decide
  have e0 : (0#64).toInt = 0 := by decide
  split at h <;> rename_i g <;> simp only [BitVec.slt_eq_decide, decide_eq_true_eq, decide_eq_false_iff_not, e1, e0] at h g <;> omega
theorem no_max (n pc : BitVec 64) (h0 : n.slt 0#64 = false) (h1 : (64#64).slt n = false) (h2 : (n + if pc.slt 0#64 = true then 0#64 else pc).slt 0#64 = false)
    (h3 : n.sle (n + if pc.slt 0#64 = true then 0#64 else pc) = false) : False := by
  have e0 : (0#64).toInt = 0 := by decide
  have e64 : (64#64).toInt = 64 := by decide
  have z0 : (0#64).toNat = 0 := by decide
  have key : ∀ m : BitVec 64, m.slt 0#64 = false → (n + m).slt 0#64 = false → n.sle (n + m) = false → False := by
    intro m hm h2 h3
    simp only [BitVec.slt_eq_decide, BitVec.sle_eq_decide, decide_eq_false_iff_not, e0, e64] at hm h0 h1 h2 h3
    have := n.isLt; have := m.isLt
    rw [BitVec.toInt_eq_toNat_cond] at hm h0 h1 h2 h3
    rw [BitVec.toInt_eq_toNat_cond] at h3
    rw [BitVec.toNat_add] at h2 h3
    omega
  split at h2
  · exact key 0#64 (by decide) h2 (by simpa only [*, if_true] using h3)
  · rename_i g
    exact key pc (by simpa using g) h2 (by simpa only [g, Bool.false_eq_true, if_false] using h3)
theorem no_len {len : Nat} (hl : len < 9223372036854775808) : (BitVec.ofNat 64 len).slt 0#64 = false := by
  have e0 : (0#64).toInt = 0 := by decide
  simp only [BitVec.slt_eq_decide, decide_eq_false_iff_not, e0]
  rw [BitVec.toInt_eq_toNat_cond, BitVec.toNat_ofNat]
  omega

set_option maxRecDepth 100000 in
set_option maxHeartbeats 8000000 in
theorem StepsNone_main1 (m : Nat → Nat) (pc : BitVec 64) (T : TypeId) (len cap : Nat) (hl : len < 9223372036854775808) (f : Nat → List PL) :
    FI Tryz.prog (tabI Tryz.prog (DI m) tb_knows FSs 3) Tryz.f3 1 [.one (.slc 0 0 len cap), .one (.b64 true pc)] [(0, .ro T [.seg 5 len f])] (fun r _ => r = .one (.bool true)) := by
  repeat' (first
    | (with_reducible apply Given.mk; intro h; (try exact absurd h (by decide)))
    | ((conv => whnf); first
      | with_reducible apply Both.mk))
  all_goals first
    | (with_reducible apply Ob.mk; kernel_rfl)
    | (with_reducible apply Ob.mk; decide)
    | ((with_reducible apply Ob.mk); exact hl)
    | ((conv => whnf); exact rfl)
    | (with_reducible apply Ob.mk; skip)
    | (exfalso; exact no_min pc (by assumption))
    | (exfalso; exact no_max _ pc (no_len hl) (by assumption) (by assumption) (by assumption))
    | ((conv => whnf); skip)
set_option maxRecDepth 100000 in
set_option maxHeartbeats 8000000 in
theorem StepsNone_main0 (m : Nat → Nat) (pc : BitVec 64) (ad : Option Addr) (cap : Nat) :
    FI Tryz.prog (tabI Tryz.prog (DI m) tb_knows FSs 3) Tryz.f3 1 [.one (.raw (.slice ad 0 cap)), .one (.b64 true pc)] [] (fun r _ => r = .one (.bool true)) := by
  repeat' (first
    | (with_reducible apply Given.mk; intro h; (try exact absurd h (by decide)))
    | ((conv => whnf); first
      | with_reducible apply Both.mk))
  all_goals first
    | (with_reducible apply Ob.mk; kernel_rfl)
    | (with_reducible apply Ob.mk; decide)
    | ((conv => whnf); exact rfl)
    | (with_reducible apply Ob.mk; skip)
    | (exfalso; exact no_min pc (by assumption))
    | (exfalso; exact no_max 0#64 pc (by decide) (by assumption) (by assumption) (by assumption))
    | ((conv => whnf); skip)
end Go.Proofs.YtnoaakipfbfajaaGreatDoor
