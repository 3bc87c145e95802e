/-
  Contracts of functions whose answers are told by their kind alone: some number, some text. Conditions: as typed.
-/
import Derived.Test.YtppankimieopiaaDoorPs
namespace Go.Ep
open Go.RowKit
set_option linter.unusedVariables false
set_option linter.unusedSimpArgs false
/-- An answer: under a condition one of some values. -/
structure HA : Type 1 where
  c : Cond
  κ : Type
  ok : κ → Prop
  v : κ → AV
abbrev SpH := List AV → Option HA
def tabH : List (Nat × SpH) → FuncId → Option SpH
  | [], _ => none
  | (g, sp) :: r, f => match Nat.beq g f with
    | true => some sp
    | false => tabH r f
inductive Each (κ : Type) (p : κ → Prop) : Prop
  | mk (h : ∀ k, p k)
def hInl (hs : List (Nat × SpH)) (base : FuncId → Nat → List AV → List (Nat × Blk) → (AV → List (Nat × Blk) → Prop) → Prop) : FuncId → Nat → List AV → List (Nat × Blk) → (AV → List (Nat × Blk) → Prop) → Prop :=
  fun f tp args h K => match tabH hs f with
    | none => base f tp args h K
    | some sp => match sp args with
      | some a => withC a.c (Each a.κ fun k => Given (a.ok k) (K (a.v k) h))
      | none => Stuck "kind"
section
variable {P : Program} {G : World → Prop}
structure EntryH (P : Program) (G : World → Prop) (f : FuncId) (sp : SpH) : Prop where
  fn : ∃ fn, P.funcs[f]? = some fn ∧ (fn.name == "runtime.NumGoroutine") = false ∧ fn.body.isNone = false
  calls : ∀ args a, sp args = some a → a.c.holds → (∀ k, (a.v k).names = []) ∧
    ∀ us ρ, RelAs ρ args us → ∀ w0 w : World, G w0 → Below w0.heap.size w0 w → w0.heap.size ≤ w.heap.size → Calls P f us.toArray w (fun e w' => ∃ k u, a.ok k ∧ e = .returned u ∧ (∀ ρ, RelA ρ (a.v k) u) ∧ Below w.heap.size w w')
inductive EntriesH (P : Program) (G : World → Prop) : List (Nat × SpH) → Prop
  | nil : EntriesH P G []
  | cons {f : Nat} {sp : SpH} {l : List (Nat × SpH)} (e : EntryH P G f sp) (h : EntriesH P G l) : EntriesH P G ((f, sp) :: l)
theorem EntriesH.get : ∀ {l : List (Nat × SpH)} {f : Nat} {sp : SpH}, EntriesH P G l → tabH l f = some sp → EntryH P G f sp
  | [], _, _, _, h => by cases h
  | (g, s) :: l, f, sp, .cons e h, hs => by
    simp only [tabH] at hs
    split at hs
    · rename_i he
      have : g = f := by simpa using he
      subst this
      obtain rfl := Option.some.inj hs
      exact e
    · exact EntriesH.get h hs
theorem RelH.lt {b : Nat} {w0 w : World} {ρ : Nat → Loc} {h : Nat → Option Blk} (H : RelH b w0 ρ h w) {i : Nat} {c : Blk} (hi : h i = some c) : (ρ i).b < w.heap.size := by
  have := H.heap i c hi
  rcases Nat.lt_or_ge (ρ i).b w.heap.size with h1 | h1
  · exact h1
  · rw [Array.getElem?_eq_none h1] at this
    cases c <;> exact absurd this (by simp [RelB])
theorem RelH.later {b : Nat} {w0 w w' : World} {ρ : Nat → Loc} {h : Nat → Option Blk} (H : RelH b w0 ρ h w) (hb : Below w.heap.size w w') : RelH b w0 ρ h w' :=
  ⟨fun i c hi => by rw [hb.block _ (H.lt hi)]; exact H.heap i c hi, H.namesH, H.low, H.inj, H.below.trans (hb.mono H.base), Nat.le_trans H.base hb.size⟩
theorem hInl_sound {hs : List (Nat × SpH)} (hw : EntriesH P G hs) {base : FuncId → Nat → List AV → List (Nat × Blk) → (AV → List (Nat × Blk) → Prop) → Prop} (hb : InlOK P G base) : InlOK P G (hInl hs base) := by
  intro f tp args h K hK hlt hn
  unfold hInl at hK
  split at hK
  · exact hb f tp args h K hK hlt hn
  · rename_i sp hsp
    split at hK
    · rename_i a ha
      obtain ⟨hc, ⟨hK⟩⟩ := withC_eq hK
      have he := hw.get hsp
      obtain ⟨hv, hcall⟩ := he.calls args a ha hc
      refine ⟨he.fn, fun b w0 ρ us w hG hb0 hrel H => (hcall us ρ hrel w0 w hG (hb0 ▸ H.below) (hb0 ▸ H.base)).mono ?_⟩
      rintro e w' ⟨k, u, hok, rfl, hu, hbel⟩
      obtain ⟨hk⟩ := hK k
      exact ⟨a.v k, h, u, ρ, hk hok, rfl, hu ρ, by rw [hv k]; simp, H.later hbel, fun m hm => ⟨hm, rfl⟩, hbel.size, fun k' h1 _ => hbel.block k' h1, fun m c h1 _ h2 => by rw [h1] at h2; cases h2⟩
    · cases hK
abbrev withH (C : Table) (hs : List (Nat × SpH)) : Table := ⟨C.fn, C.glob, C.look, hInl hs C.inl, C.app, C.nm, C.tp, C.im, C.mkr, C.mks⟩
theorem CSound.withH {C : Table} (h : CSound P G C) {hs : List (Nat × SpH)} (hw : EntriesH P G hs) : CSound P G (withH C hs) := ⟨h.stable, h.globs, h.looks, h.calls, hInl_sound hw h.inl, h.mkr⟩
/-- From the function's walk. -/
theorem EntryH.of_FI {C : Table} (hC : CSound P G C) (hm : P.follows .mixedOrders = true) {f : FuncId} {fn : Func} {sp : SpH} (hf : P.funcs[f]? = some fn)
    (hn : (fn.name == "runtime.NumGoroutine") = false) (hb : fn.body.isNone = false)
    (h : ∀ args a, sp args = some a → a.c.holds → closed args = true ∧ (∀ k, (a.v k).names = []) ∧ FI P C fn 0 args [] (fun r _ => ∃ k, a.ok k ∧ r = a.v k)) : EntryH P G f sp := by
  refine ⟨⟨fn, hf, hn, hb⟩, fun args a hs hc => ?_⟩
  obtain ⟨hcl, hv, hF⟩ := h args a hs hc
  refine ⟨hv, fun us ρ hrel w0 w hG hbel hsz => (FI_sound hC hm hf hF (fun m hm => by simp [look] at hm) (fun v hv m hm => by rw [closed_spec hcl v hv] at hm; simp at hm) w0.heap.size w0 ρ us w hG rfl hrel
    ⟨fun i b hi => by simp [look] at hi, fun i b hi => by simp [look] at hi, fun i c hi => by simp [look] at hi, fun i j c d hi => by simp [look] at hi, hbel, hsz⟩).mono ?_⟩
  rintro e w' ⟨v, h', u, ρ', ⟨k, hok, rfl⟩, rfl, hr, -, H, -, hgr, hfr, -⟩
  refine ⟨k, u, hok, rfl, fun ρ'' => relA_any hr (hv k), ⟨?_, ?_, ?_, hgr, fun k hk => hfr k hk fun m c hm => by simp [look] at hm⟩⟩
  · rw [H.below.os, hbel.os]
  · rw [H.below.tape, hbel.tape]
  · rw [H.below.output, hbel.output]
end
end Go.Ep
