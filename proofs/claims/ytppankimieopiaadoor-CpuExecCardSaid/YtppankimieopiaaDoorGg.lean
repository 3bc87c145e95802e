/-
  CpuExec, as the evaluator walks it. Conditions: as typed.
-/
import Derived.Test.YtppankimieopiaaDoorGf
import Derived.Test.YtppankimieopiaaDoorRows
namespace Go.Proofs.YtppankimieopiaaDoor
open Go.Ep Go.RowKit
set_option linter.unusedVariables false
set_option linter.unusedSimpArgs false

abbrev tb_X (m : Nat → Nat) : List (Nat × Sp) := (13, sp_Exec) :: (15, sp_Set) :: tb_rExec m
theorem C_X (G2 : World → Prop) (D2 : VData) (k2 : DataOK Tryd.prog G2 D2) (m : Nat → Nat) : CSound Tryd.prog (and2 (GB m) (and2 (GP m) G2)) (tab (or2 (DB m) (or2 (DP m) D2)) (tb_X m)) := ((C_rExec G2 D2 k2 m).cons (e_Set G2 D2 k2 m)).cons (e_Exec G2 D2 k2 m)
/- The same contracts, their answers by letters. -/
def sp_SetF (Z : MX → MX) : Sp
  | [.agg [.b64 true k, .b64 true al, .b64 true cc, .b64 true sz, .bool w, .bool sh, .b64 true d, .b64 true s, .b32 true dp, .b32 true rl, .b64 true im]] => some (Cond.t, .agg (LX (Z ⟨k, al, cc, sz, w, sh, d, s, dp, rl, im⟩)))
  | _ => none
theorem e_SetF (G2 : World → Prop) (D2 : VData) (k2 : DataOK Tryd.prog G2 D2) (m : Nat → Nat) {Z : MX → MX} (h : ∀ Y, setX Y = Z Y) : EntryOK Tryd.prog (and2 (GB m) (and2 (GP m) G2)) 15 (sp_SetF Z) := by
  refine entry_turn (e_Set G2 D2 k2 m) _ (fun args c v h1 h2 => ?_)
  unfold sp_SetF at h1
  split at h1
  · cases h1
    refine ⟨Cond.t, ?_, trivial⟩
    show some (Cond.t, AV.agg (LX (setX _))) = _
    rw [h]
  · cases h1
def sp_ExecF (S : MS) (T : MX → MS) (E : MX → BitVec 64) : Sp
  | [.agg [.b64 true k, .b64 true al, .b64 true cc, .b64 true sz, .bool w, .bool sh, .b64 true d, .b64 true s, .b32 true dp, .b32 true rl, .b64 true im], .agg [.b64 false r0, .b64 false r1, .b64 false r2, .b64 false r3, .b64 false r4, .b64 false r5, .b64 false r6, .b64 false r7, .b64 false r8, .b64 false r9, .b64 false r10, .b64 false r11, .b64 false r12, .b64 false r13, .b64 false r14, .b64 false r15, .bool fz, .bool fs, .bool fc, .bool fo, .b64 false pc]] => some (Cond.p (⟨fun j => nthW [r0, r1, r2, r3, r4, r5, r6, r7, r8, r9, r10, r11, r12, r13, r14, r15] j, fz, fs, fc, fo, pc⟩ = S), .tup [(true, LS (T ⟨k, al, cc, sz, w, sh, d, s, dp, rl, im⟩)), (false, [.b64 true (E ⟨k, al, cc, sz, w, sh, d, s, dp, rl, im⟩)])])
  | _ => none
theorem sp_F {S : MS} {T : MX → MS} {E : MX → BitVec 64} (h : ∀ Y, LS (exS Y S) = LS (T Y)) (h' : ∀ Y, exE Y S = E Y) (args : List AV) (c : Cond) (v : AV) (h1 : sp_ExecF S T E args = some (c, v)) (h2 : c.holds) : ∃ c', sp_Exec args = some (c', v) ∧ c'.holds := by
  unfold sp_ExecF at h1
  split at h1
  · rename_i k al cc sz w sh d s dp rl im r0 r1 r2 r3 r4 r5 r6 r7 r8 r9 r10 r11 r12 r13 r14 r15 fz fs fc fo pc
    cases h1
    refine ⟨Cond.t, ?_, trivial⟩
    have h2 : ⟨fun j => nthW [r0, r1, r2, r3, r4, r5, r6, r7, r8, r9, r10, r11, r12, r13, r14, r15] j, fz, fs, fc, fo, pc⟩ = S := h2
    show some (Cond.t, exA ⟨k, al, cc, sz, w, sh, d, s, dp, rl, im⟩ ⟨fun j => nthW [r0, r1, r2, r3, r4, r5, r6, r7, r8, r9, r10, r11, r12, r13, r14, r15] j, fz, fs, fc, fo, pc⟩) = _
    rw [h2]
    unfold exA
    rw [h, h']
  · cases h1
abbrev tb_F (S : MS) (T : MX → MS) (E : MX → BitVec 64) (Z : MX → MX) (m : Nat → Nat) : List (Nat × Sp) := (13, sp_ExecF S T E) :: (14, sp_ExecF S T E) :: (15, sp_SetF Z) :: tb_X m
theorem C_F (m : Nat → Nat) {S : MS} {T : MX → MS} {E : MX → BitVec 64} {Z : MX → MX} (h1 : ∀ Y, setX Y = Z Y) (h2 : ∀ Y, LS (exS Y S) = LS (T Y)) (h3 : ∀ Y, exE Y S = E Y) : CSound Tryd.prog (GU m) (tab (DU m) (tb_F S T E Z m)) :=
  (((C_X anyWorld noData .none m).cons (e_SetF anyWorld noData .none m h1)).cons (entry_turn (e_rExec anyWorld noData .none m) _ (sp_F h2 h3))).cons (entry_turn (e_Exec anyWorld noData .none m) _ (sp_F h2 h3))
def kz : Nat → BitVec 64
  | 0 => BitVec.ofInt 64 (Int.negSucc 0)
  | n + 1 => BitVec.ofNat 64 n
theorem kz_next (n : Nat) : kz n + 1#64 = kz (n + 1) := by
  cases n with
  | zero => rfl
  | succ n => show BitVec.ofNat 64 n + 1#64 = BitVec.ofNat 64 (n + 1); rw [BitVec.ofNat_add n 1]
theorem kz_stepA (n : Nat) : AV.one (.b64 true (kz n + 1#64)) = AV.one (.b64 true (kz (n + 1))) := by rw [kz_next]
theorem kz_le {n : Nat} (h : n < 24) : (kz n).sle 22#64 = true := by
  cases n with
  | zero => decide
  | succ n =>
    show (BitVec.ofNat 64 n).sle 22#64 = true
    rw [BitVec.sle_iff_toInt_le, toInt_ofNat (by omega)]
    show (n : Int) ≤ 22
    omega
set_option maxRecDepth 100000 in
set_option maxHeartbeats 4000000 in
theorem CpuExec_go (m : Nat → Nat) (T : MX → MS) (E : MX → BitVec 64) (Z : MX → MX) (k al cc sz : BitVec 64) (w sh : Bool) (d s : BitVec 64) (dp rl : BitVec 32) (im : BitVec 64) (r0 r1 r2 r3 r4 r5 r6 r7 r8 r9 r10 r11 r12 r13 r14 r15 : BitVec 64) (fz fs fc fo : Bool) (pc : BitVec 64) : F Tryd.prog (tab (DU m) (tb_F ⟨fun j => nthW [r0, r1, r2, r3, r4, r5, r6, r7, r8, r9, r10, r11, r12, r13, r14, r15] j, fz, fs, fc, fo, pc⟩ T E Z m)) Tryd.f3 [.agg [.b64 true k, .b64 true al, .b64 true cc, .b64 true sz, .bool w, .bool sh, .b64 true d, .b64 true s, .b32 true dp, .b32 true rl, .b64 true im], .agg [.b64 false r0, .b64 false r1, .b64 false r2, .b64 false r3, .b64 false r4, .b64 false r5, .b64 false r6, .b64 false r7, .b64 false r8, .b64 false r9, .b64 false r10, .b64 false r11, .b64 false r12, .b64 false r13, .b64 false r14, .b64 false r15, .bool fz, .bool fs, .bool fc, .bool fo, .b64 false pc]] (fun r => r = .one (.bool true)) := by
  repeat' (first
    | ((with_reducible apply Given.mk); intro h; (try ((have _q := q); rw [kz_le q] at h; exact absurd h (by decide))); (try simp only [bne, beq_self_eq_true, Bool.and_self, Bool.not_true, Bool.false_eq_true, Bool.true_eq_false] at h); (try exact absurd h (by decide)))
    | ((conv => whnf); first | with_reducible apply Both.mk | ((fail_if_success (have _q := hj)); refine LoopP.mk (Nat) (fun j => j ≤ 24) (fun j => mkS (Tryd.f3).ntmps [(0, .agg [.b64 true k, .b64 true al, .b64 true cc, .b64 true sz, .bool w, .bool sh, .b64 true d, .b64 true s, .b32 true dp, .b32 true rl, .b64 true im]), (1, .agg [.b64 false r0, .b64 false r1, .b64 false r2, .b64 false r3, .b64 false r4, .b64 false r5, .b64 false r6, .b64 false r7, .b64 false r8, .b64 false r9, .b64 false r10, .b64 false r11, .b64 false r12, .b64 false r13, .b64 false r14, .b64 false r15, .bool fz, .bool fs, .bool fc, .bool fo, .b64 false pc]), (2, .one (.ptr 2 0)), (3, .one (.ptr 3 0)), (4, .one (.bool false)), (5, .one (.b64 true (kz j)))] [(3, .cells 27 [.b64 false r0, .b64 false r1, .b64 false r2, .b64 false r3, .b64 false r4, .b64 false r5, .b64 false r6, .b64 false r7, .b64 false r8, .b64 false r9, .b64 false r10, .b64 false r11, .b64 false r12, .b64 false r13, .b64 false r14, .b64 false r15, .bool fz, .bool fs, .bool fc, .bool fo, .b64 false pc]), (2, .cells 23 [.b64 true k, .b64 true al, .b64 true cc, .b64 true sz, .bool w, .bool sh, .b64 true d, .b64 true s, .b32 true dp, .b32 true rl, .b64 true im])]) (fun j => 24 - j) ⟨0, (by decide), ⟨?_, ?_, ?_, ?_, ?_⟩⟩ ?_; (focus ((repeat' ((conv => whnf); first | exact trivial | refine Both.mk (by first | with_reducible rfl | exact iN_succ _ | rfl) ?_)); done)); (focus ((repeat' ((conv => whnf); first | exact trivial | refine Both.mk (by first | with_reducible rfl | exact iN_succ _ | rfl) ?_)); done)); (focus exact rfl); (focus exact rfl); (focus exact rfl); (rintro j hj; rcases Nat.lt_or_ge j 24 with q | q; rotate_left 1; (have e24 : j = 24 := Nat.le_antisymm hj q); subst e24; rotate_left 1))))
  all_goals first
    | ((with_reducible apply Ob.mk); with_reducible exact rfl)
    | (with_reducible apply Ob.mk; kernel_rfl)
    | (with_reducible apply Ob.mk; decide)
    | ((have _q := q); ((conv => whnf); refine ⟨j + 1, (show j + 1 ≤ 24 from q), (show 24 - (j + 1) < 24 - j by omega), ⟨?_, ?_, ?_, ?_, ?_⟩⟩; (focus ((repeat' ((conv => whnf); first | exact trivial | refine Both.mk (by first | with_reducible rfl | exact iN_succ _ | exact kz_stepA _ | rfl) ?_)); done)); (focus ((repeat' ((conv => whnf); first | exact trivial | refine Both.mk (by first | with_reducible rfl | exact iN_succ _ | exact kz_stepA _ | rfl) ?_)); done)); (focus exact rfl); (focus exact rfl); (focus exact rfl)))
    | ((conv => whnf); exact ⟨rfl⟩)
    | ((conv => whnf); skip)
theorem CpuExec_main (m : Nat → Nat) (k al cc sz : BitVec 64) (w sh : Bool) (d s : BitVec 64) (dp rl : BitVec 32) (im : BitVec 64) (r0 r1 r2 r3 r4 r5 r6 r7 r8 r9 r10 r11 r12 r13 r14 r15 : BitVec 64) (fz fs fc fo : Bool) (pc : BitVec 64) : ∃ C, CSound Tryd.prog (GU m) C ∧ F Tryd.prog C Tryd.f3 [.agg [.b64 true k, .b64 true al, .b64 true cc, .b64 true sz, .bool w, .bool sh, .b64 true d, .b64 true s, .b32 true dp, .b32 true rl, .b64 true im], .agg [.b64 false r0, .b64 false r1, .b64 false r2, .b64 false r3, .b64 false r4, .b64 false r5, .b64 false r6, .b64 false r7, .b64 false r8, .b64 false r9, .b64 false r10, .b64 false r11, .b64 false r12, .b64 false r13, .b64 false r14, .b64 false r15, .bool fz, .bool fs, .bool fc, .bool fo, .b64 false pc]] (fun r => r = .one (.bool true)) :=
  ⟨_, C_F m (S := ⟨fun j => nthW [r0, r1, r2, r3, r4, r5, r6, r7, r8, r9, r10, r11, r12, r13, r14, r15] j, fz, fs, fc, fo, pc⟩) (T := fun Y => exS Y ⟨fun j => nthW [r0, r1, r2, r3, r4, r5, r6, r7, r8, r9, r10, r11, r12, r13, r14, r15] j, fz, fs, fc, fo, pc⟩) (E := fun Y => exE Y ⟨fun j => nthW [r0, r1, r2, r3, r4, r5, r6, r7, r8, r9, r10, r11, r12, r13, r14, r15] j, fz, fs, fc, fo, pc⟩) (Z := setX) (fun _ => rfl) (fun _ => rfl) (fun _ => rfl), CpuExec_go m _ _ _ k al cc sz w sh d s dp rl im r0 r1 r2 r3 r4 r5 r6 r7 r8 r9 r10 r11 r12 r13 r14 r15 fz fs fc fo pc⟩
end Go.Proofs.YtppankimieopiaaDoor
