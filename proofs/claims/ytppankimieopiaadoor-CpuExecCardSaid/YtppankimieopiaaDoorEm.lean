/-
  Contracts with letters, for a law's walk. Conditions: as typed.
-/
import Derived.Test.YtppankimieopiaaDoorEl
namespace Go.Proofs.YtppankimieopiaaDoor
open Go.Ep Go.RowKit
set_option linter.unusedVariables false
set_option linter.unusedSimpArgs false

theorem entry_turn {P : Program} {G : World → Prop} {f : FuncId} {sp : Sp} (e : EntryOK P G f sp) (sp' : Sp) (h : ∀ args c v, sp' args = some (c, v) → c.holds → ∃ c', sp args = some (c', v) ∧ c'.holds) : EntryOK P G f sp' := by
  refine ⟨e.fn, fun args c v h1 h2 => ?_⟩
  obtain ⟨c', h3, h4⟩ := h args c v h1 h2
  exact e.calls args c' v h3 h4
def sp_SetL (X Y : MX) : Sp
  | [.agg [.b64 true k, .b64 true al, .b64 true cc, .b64 true sz, .bool w, .bool sh, .b64 true d, .b64 true s, .b32 true dp, .b32 true rl, .b64 true im]] => some (Cond.p (⟨k, al, cc, sz, w, sh, d, s, dp, rl, im⟩ = X), .agg (LX Y))
  | _ => none
theorem e_SetL (G2 : World → Prop) (D2 : VData) (k2 : DataOK Tryd.prog G2 D2) (m : Nat → Nat) {X Y : MX} (h : setX X = Y) : EntryOK Tryd.prog (and2 (GB m) (and2 (GP m) G2)) 15 (sp_SetL X Y) := by
  refine entry_turn (e_Set G2 D2 k2 m) _ (fun args c v h1 h2 => ?_)
  unfold sp_SetL at h1
  split at h1
  · rename_i k al cc sz w sh d s dp rl im
    cases h1
    refine ⟨Cond.t, ?_, trivial⟩
    have h2 : ⟨k, al, cc, sz, w, sh, d, s, dp, rl, im⟩ = X := h2
    show some (Cond.t, AV.agg (LX (setX ⟨k, al, cc, sz, w, sh, d, s, dp, rl, im⟩))) = _
    rw [h2, h]
  · cases h1
def sp_ExecL (Y : MX) (S T : MS) (E : BitVec 64) : Sp
  | [.agg [.b64 true k, .b64 true al, .b64 true cc, .b64 true sz, .bool w, .bool sh, .b64 true d, .b64 true s, .b32 true dp, .b32 true rl, .b64 true im], .agg [.b64 false r0, .b64 false r1, .b64 false r2, .b64 false r3, .b64 false r4, .b64 false r5, .b64 false r6, .b64 false r7, .b64 false r8, .b64 false r9, .b64 false r10, .b64 false r11, .b64 false r12, .b64 false r13, .b64 false r14, .b64 false r15, .bool fz, .bool fs, .bool fc, .bool fo, .b64 false pc]] => some (Cond.p (⟨k, al, cc, sz, w, sh, d, s, dp, rl, im⟩ = Y ∧ ⟨fun j => nthW [r0, r1, r2, r3, r4, r5, r6, r7, r8, r9, r10, r11, r12, r13, r14, r15] j, fz, fs, fc, fo, pc⟩ = S), .tup [(true, LS T), (false, [.b64 true E])])
  | _ => none
theorem e_ExecL (G2 : World → Prop) (D2 : VData) (k2 : DataOK Tryd.prog G2 D2) (m : Nat → Nat) {Y : MX} {S T : MS} {E : BitVec 64} (h : LS (exS Y S) = LS T) (h' : exE Y S = E) : EntryOK Tryd.prog (and2 (GB m) (and2 (GP m) G2)) 13 (sp_ExecL Y S T E) := by
  refine entry_turn (e_Exec G2 D2 k2 m) _ (fun args c v h1 h2 => ?_)
  unfold sp_ExecL at h1
  split at h1
  · rename_i k al cc sz w sh d s dp rl im r0 r1 r2 r3 r4 r5 r6 r7 r8 r9 r10 r11 r12 r13 r14 r15 fz fs fc fo pc
    cases h1
    refine ⟨Cond.t, ?_, trivial⟩
    have h2 : ⟨k, al, cc, sz, w, sh, d, s, dp, rl, im⟩ = Y ∧ ⟨fun j => nthW [r0, r1, r2, r3, r4, r5, r6, r7, r8, r9, r10, r11, r12, r13, r14, r15] j, fz, fs, fc, fo, pc⟩ = S := h2
    show some (Cond.t, exA ⟨k, al, cc, sz, w, sh, d, s, dp, rl, im⟩ ⟨fun j => nthW [r0, r1, r2, r3, r4, r5, r6, r7, r8, r9, r10, r11, r12, r13, r14, r15] j, fz, fs, fc, fo, pc⟩) = _
    rw [h2.1, h2.2]
    unfold exA
    rw [h, h']
  · cases h1
end Go.Proofs.YtppankimieopiaaDoor
