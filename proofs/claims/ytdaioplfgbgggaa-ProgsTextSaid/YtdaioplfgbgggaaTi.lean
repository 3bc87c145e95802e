/-
  Chapter 04: the document's line: its walk over one word. Conditions: as typed.
-/
import Derived.Test.YtdaioplfgbgggaaTe
namespace Go.Proofs.Ytdaioplfgbgggaa
open Go.Ep Go.RowKit
set_option linter.unusedVariables false
set_option linter.unusedSimpArgs false
set_option maxRecDepth 100000 in
set_option maxHeartbeats 16000000 in
theorem line_walk1 (T : TypeId) (wg : Nat → ByteArray) (hg : ∀ j, (wg j).size ≤ 4000) :
    FI Try.prog (withIm (withHL (withH (tab noData ((67, sp_nm) :: tb_t)) [(59, h_num), (56, h_reg), (57, h_parse)]) [(58, h_flds), (55, h_raw)]) [58, 55]) Try.f34 1 [.one (.slc 0 0 1 1)] [(0, .ro T [.seg 1 1 (sF wg)])] (KL .t) := by
  repeat' (first
    | ((with_reducible apply Given.mk); intro h; (try dsimp only [hkI] at h); (try (first | exact absurd (show (BitVec.ofNat 64 (1 - 1) == 2#64) = true from h) (by decide) | skip)); (try (have el : len = 3 := len3 hl hx h; subst el)); (try (first | simp only [f1, f2, f3, f4, f5, f6, f7, f8, f9, f10, f11, Bool.and_false, Bool.and_true, Bool.true_and, Bool.false_and, Bool.or_false, Bool.false_or, Bool.true_or, Bool.or_true, Bool.true_eq_false, Bool.false_eq_true, Bool.not_true, Bool.not_false] at h | simp only [f1, f2, f3, f4, f5, f6, f7, f8, f9, f10, Bool.and_false, Bool.and_true, Bool.true_and, Bool.false_and, Bool.or_false, Bool.false_or, Bool.true_or, Bool.or_true, Bool.true_eq_false, Bool.false_eq_true, Bool.not_true, Bool.not_false] at h | simp only [f1, f2, f3, f4, f5, f6, f7, f8, f9, Bool.and_false, Bool.and_true, Bool.true_and, Bool.false_and, Bool.or_false, Bool.false_or, Bool.true_or, Bool.or_true, Bool.true_eq_false, Bool.false_eq_true, Bool.not_true, Bool.not_false] at h | simp only [f1, f2, f3, f4, f5, f6, f7, f8, Bool.and_false, Bool.and_true, Bool.true_and, Bool.false_and, Bool.or_false, Bool.false_or, Bool.true_or, Bool.or_true, Bool.true_eq_false, Bool.false_eq_true, Bool.not_true, Bool.not_false] at h)); (try simp only [BitVec.reduceBNe, BitVec.reduceBEq, beq_self_eq_true, bne_self_eq_false, Bool.or_false, Bool.false_or, Bool.and_true, Bool.true_and, decide_true, Bool.true_eq_false, Bool.false_eq_true, Bool.not_true, Bool.not_false] at h))
    | ((conv => whnf); first
      | with_reducible apply Both.mk
      | ((with_reducible apply Each.mk); intro kk)
      | ((fail_if_success (have _q := q3)); refine LoopP.mk (Nat) (fun k => k ≤ 256) ((fun k => mkS (Try.f34).ntmps [(4, .one (.str (wg (0#64).toNat))), (5, .one (.slc 0 0 0 0)), (12, iN k)] [(0, .ro T [.seg 1 1 (sF wg)])])) (fun k => 256 - k) ⟨0, Nat.zero_le _, ⟨?_, ?_, ?_, ?_, ?_⟩⟩ ?_; (focus ((repeat' ((conv => whnf); first | exact trivial | refine Both.mk (by first | with_reducible rfl | exact iN_succ _ | rfl) ?_)); done)); (focus ((repeat' ((conv => whnf); first | exact trivial | refine Both.mk (by first | with_reducible rfl | exact iN_succ _ | rfl) ?_)); done)); (focus exact rfl); (focus exact rfl); (focus exact rfl); (rintro o3 q3 <;> dsimp only; refine lcls_of (BitVec.signExtend 8 (BitVec.ofNat 64 o3)) (fun f1 f2 f3 f4 f5 f6 f7 f8 f9 => ?_) (fun f1 f2 f3 f4 f5 f6 f7 f8 f9 f10 f11 => ?_) (fun f1 f2 f3 f4 f5 f6 f7 f8 f9 f10 f11 => ?_) (fun f1 f2 f3 f4 f5 f6 f7 f8 f9 f10 f11 => ?_) (fun f1 f2 f3 f4 f5 f6 f7 f8 f9 => ?_) (fun f1 f2 f3 f4 f5 f6 f7 f8 f9 => ?_) (fun f1 f2 f3 f4 f5 f6 f7 f8 f9 => ?_) (fun f1 f2 f3 f4 f5 f6 f7 f8 => ?_) (fun f1 f2 f3 f4 f5 f6 f7 f8 f9 f10 => ?_) (fun f1 f2 f3 f4 f5 f6 f7 f8 f9 f10 => ?_) (fun f1 f2 f3 f4 f5 f6 f7 f8 f9 f10 => ?_)))))
  all_goals first
    | ((with_reducible apply Ob.mk); with_reducible assumption)
    | (with_reducible apply Ob.mk; kernel_rfl)
    | ((with_reducible apply Ob.mk); exact ⟨by decide, by decide⟩)
    | ((with_reducible apply Ob.mk); exact ⟨by decide, short_from hg _, by decide⟩)
    | ((with_reducible apply Ob.mk); show 0 + 0 ≤ 1 ∧ 0 ≤ 0; decide)
    | ((with_reducible apply Ob.mk); exact wgs hg _)
    | ((with_reducible apply Ob.mk); exact fun _ => rfl)
    | ((with_reducible apply Ob.mk); exact ⟨rfl, fun _ => rfl, fun _ => rfl⟩)
    | ((with_reducible apply Ob.mk); exact ⟨by decide, hx⟩)
    | ((with_reducible apply Ob.mk); exact ⟨by omega, short_from hg _, by decide⟩)
    | ((with_reducible apply Ob.mk); exact (by decide : (4294967296#64 : BitVec 64) ≠ 0#64))
    | ((with_reducible apply Ob.mk); exact Nat.le_refl _)
    | ((with_reducible apply Ob.mk); have h21 : kk.size ≤ 21 := (by with_reducible assumption); first | (show 2 + kk.size < 9223372036854775808; omega) | (show 3 + kk.size < 9223372036854775808; omega))
    | ((with_reducible apply Ob.mk); have h21 := nameS_len (BitVec.signExtend 8 (BitVec.ofNat 64 o3)); show (nameS (BitVec.signExtend 8 (BitVec.ofNat 64 o3))).size + 2 < 9223372036854775808; omega)
    | ((with_reducible apply Ob.mk); first | (show 0 + 1 < 65536; decide) | (show 1 + 1 < 65536; decide))
    | ((with_reducible apply Ob.mk); decide)
    | ((conv => whnf); first | exact .inl ⟨false, rfl, rfl⟩ | exact .inl ⟨kk, h, rfl⟩)
    | ((conv => whnf); exact .inr ⟨((1, (fun _ => kk.1), kk.2) : Nat × IT × Bool), _, ⟨Nat.le_refl _, Nat.le_succ _⟩, rfl, rfl⟩)
    | ((conv => whnf); exact .inr ⟨((1, (fun _ => (⟨0#8, 0#8, 0#8, 0#16, 0#32⟩ : IN)), kk) : Nat × IT × Bool), _, ⟨Nat.le_refl _, Nat.le_succ _⟩, rfl, rfl⟩)
    | ((conv => whnf); exact .inr ⟨((2, inOf (joinF 1 (inF fun _ => kk.1) (cutN 1 5 zL)), kk.2) : Nat × IT × Bool), _, ⟨Nat.le_succ _, Nat.le_refl _⟩, rfl, congrArg (fun f => some (Blk.row 37 5 2 f)) (isI_join rfl rfl)⟩)
    | ((conv => whnf); exact .inr ⟨((2, inOf (cutN 2 5 [_, _, _, _, _, _, _, _, _, _]), _) : Nat × IT × Bool), _, ⟨Nat.le_succ _, Nat.le_refl _⟩, rfl, congrArg (fun f => some (Blk.row 37 5 2 f)) (isI_cut2 _ _ _ _ _ _ _ _ _ _ _ rfl)⟩)
    | ((conv => whnf); refine ⟨o3 + 1, le256 q3 (by with_reducible assumption), (by have := le256 q3 (by with_reducible assumption); show 256 - (o3 + 1) < 256 - o3; omega), ⟨?_, ?_, ?_, ?_, ?_⟩⟩; (focus ((repeat' ((conv => whnf); first | exact trivial | refine Both.mk (by first | with_reducible rfl | exact iN_succ _ | rfl) ?_)); done)); (focus ((repeat' ((conv => whnf); first | exact trivial | refine Both.mk (by first | with_reducible rfl | exact iN_succ _ | rfl) ?_)); done)); (focus exact rfl); (focus exact rfl); (focus exact rfl))
    | (with_reducible apply Ob.mk; skip)
    | ((conv => whnf); skip)
end Go.Proofs.Ytdaioplfgbgggaa
