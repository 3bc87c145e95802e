/-
  Functions gone through in their callers' places, with contracts told by kind alone at every depth. Conditions: as typed.
-/
import Derived.Test.YtppankimieopiaaDoorPv
namespace Go.Ep
open Go.RowKit
set_option linter.unusedVariables false
set_option linter.unusedSimpArgs false
noncomputable def inlNH (P : Program) (C : Table) (hs : List (Nat × SpH)) (fs : List (Nat × Func)) (n : Nat) : FuncId → Nat → List AV → List (Nat × Blk) → (AV → List (Nat × Blk) → Prop) → Prop :=
  Nat.rec (motive := fun _ => FuncId → Nat → List AV → List (Nat × Blk) → (AV → List (Nat × Blk) → Prop) → Prop) (hInl hs fun _ _ _ _ _ => Stuck "deep")
    (fun _ ih => hInl hs fun f tp args h K => match findF fs f with
      | some fn => FI P (withInl C ih) fn tp args h K
      | none => Stuck "call") n
section
variable {P : Program} {G : World → Prop} {D : VData} {C : Table}
theorem inlNH_sound (hC : CSound P G C) (hm : P.follows .mixedOrders = true) {hs : List (Nat × SpH)} (hw : EntriesH P G hs) {fs : List (Nat × Func)} (hfs : FsOK P fs) : ∀ n, InlOK P G (inlNH P C hs fs n)
  | 0 => hInl_sound hw fun _ _ _ _ _ h => by cases (h : Stuck "deep")
  | n + 1 => hInl_sound hw fun f tp args h K hF hlt hn => by
    have hF : (match (generalizing := false) findF fs f with
      | some fn => FI P (withInl C (inlNH P C hs fs n)) fn tp args h K
      | none => Stuck "call") := hF
    split at hF
    · rename_i fn hfn
      obtain ⟨h1, h2, h3⟩ := hfs f fn hfn
      exact ⟨⟨fn, h1, h2, h3⟩, fun b w0 ρ us w hG hb hargs H => FI_sound (C := withInl C (inlNH P C hs fs n)) (hC.inl' (inlNH_sound hC hm hw hfs n) C.app C.nm C.tp C.im C.mks) hm h1 hF hlt hn b w0 ρ us w hG hb hargs H⟩
    · cases hF
abbrev tabHI (P : Program) (D : VData) (l : List (Nat × Sp)) (ms : List (Nat × SpM)) (hs : List (Nat × SpH)) (fs : List (Nat × Func)) (n : Nat) : Table := withInl (tabM D l ms) (inlNH P (tabM D l ms) hs fs n)
theorem CSound.tabHI {l : List (Nat × Sp)} {ms : List (Nat × SpM)} (h : CSound P G (tabM D l ms)) (hm : P.follows .mixedOrders = true) {hs : List (Nat × SpH)} (hw : EntriesH P G hs) {fs : List (Nat × Func)} (hfs : FsOK P fs) (n : Nat) : CSound P G (tabHI P D l ms hs fs n) :=
  h.inl' (inlNH_sound h hm hw hfs n) .sym 0 0 [] []
end
end Go.Ep
