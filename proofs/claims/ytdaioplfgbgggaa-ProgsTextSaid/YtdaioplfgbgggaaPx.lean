/-
  Contracts of functions whose answers are told by their kind alone, and which hand out a row or none. Conditions: as typed.
-/
import Derived.Test.YtdaioplfgbgggaaPw
namespace Go.Ep
open Go.RowKit
set_option linter.unusedVariables false
set_option linter.unusedSimpArgs false
/-- An answer: one of some values; or a new row, and one of some values. -/
structure HK : Type 1 where
  c : Cond
  κ1 : Type
  ok1 : κ1 → Prop
  v1 : κ1 → AV
  κ2 : Type
  ok2 : κ2 → Prop
  n2 : κ2 → Nat
  r2 : κ2 → List (Bool × List L)
  b2 : κ2 → Blk
abbrev SpHK := List AV → Option HK
def tabHK : List (Nat × SpHK) → FuncId → Option SpHK
  | [], _ => none
  | (g, sp) :: r, f => match Nat.beq g f with
    | true => some sp
    | false => tabHK r f
def rowV (a : HK) (k : a.κ2) (d : Nat) : AV := .tup ((false, [.rsl d (a.n2 k)]) :: a.r2 k)
noncomputable def hkInl (ks : List (Nat × SpHK)) (base : FuncId → Nat → List AV → List (Nat × Blk) → (AV → List (Nat × Blk) → Prop) → Prop) : FuncId → Nat → List AV → List (Nat × Blk) → (AV → List (Nat × Blk) → Prop) → Prop :=
  fun f tp args h K => match tabHK ks f with
    | none => base f tp args h K
    | some sp => match sp args with
      | some a => withC a.c (Both (Each a.κ1 fun k => Given (a.ok1 k) (K (a.v1 k) h)) (Each a.κ2 fun k => Given (a.ok2 k) (forceB (a.b2 k) fun b => K (rowV a k tp) ((tp, b) :: h))))
      | none => Stuck "kind"
section
variable {P : Program} {G : World → Prop} {D : VData}
structure EntryHK (P : Program) (G : World → Prop) (f : FuncId) (sp : SpHK) : Prop where
  fn : ∃ fn, P.funcs[f]? = some fn ∧ (fn.name == "runtime.NumGoroutine") = false ∧ fn.body.isNone = false
  calls : ∀ args a, sp args = some a → a.c.holds → (∀ k, (a.v1 k).names = []) ∧ (∀ k, vnames (a.r2 k) = []) ∧ (∀ k, (a.b2 k).own = true ∧ (a.b2 k).names = []) ∧
    ∀ us ρ, RelAs ρ args us → ∀ w0 w : World, G w0 → Below w0.heap.size w0 w → w0.heap.size ≤ w.heap.size → Calls P f us.toArray w (fun e w' => (∃ k u, a.ok1 k ∧ e = .returned u ∧ (∀ ρ, RelA ρ (a.v1 k) u) ∧ Below w.heap.size w w') ∨
      ∃ k u q, a.ok2 k ∧ e = .returned u ∧ RelA (fun _ => q) (rowV a k 0) u ∧ RelB (fun _ => q) q (a.b2 k) w'.heap[q.b]? ∧ w.heap.size ≤ q.b ∧ Below w.heap.size w w')
inductive EntriesHK (P : Program) (G : World → Prop) : List (Nat × SpHK) → Prop
  | nil : EntriesHK P G []
  | cons {f : Nat} {sp : SpHK} {l : List (Nat × SpHK)} (e : EntryHK P G f sp) (h : EntriesHK P G l) : EntriesHK P G ((f, sp) :: l)
theorem EntriesHK.get : ∀ {l : List (Nat × SpHK)} {f : Nat} {sp : SpHK}, EntriesHK P G l → tabHK l f = some sp → EntryHK P G f sp
  | [], _, _, _, h => by cases h
  | (g, s) :: l, f, sp, .cons e h, hs => by
    simp only [tabHK] at hs
    split at hs
    · rename_i he
      have : g = f := by simpa using he
      subst this
      obtain rfl := Option.some.inj hs
      exact e
    · exact EntriesHK.get h hs
theorem rowV_at {ρ : Nat → Loc} {a : HK} {k : a.κ2} {d : Nat} {u : Value} {q : Loc} (hr : vnames (a.r2 k) = []) (h : RelA (fun _ => q) (rowV a k 0) u) (hd : ρ d = q) : RelA ρ (rowV a k d) u := by
  obtain ⟨cs, e, h⟩ := h
  refine ⟨cs, e, ?_⟩
  generalize cs.toList = us at h
  cases us with
  | nil => exact h
  | cons v vs =>
    obtain ⟨h1, h2⟩ := h
    refine ⟨fun _ => ?_, relVs_agree h2 (by rw [hr]; simp)⟩
    have := h1 (by simp)
    rw [this]
    simp only [gL, hd]
theorem RelH.add {b : Nat} {w0 w w' : World} {ρ : Nat → Loc} {h : Nat → Option Blk} {i : Nat} {q : Loc} {c : Blk} (H : RelH b w0 ρ h w) (hi : h i = none) (hbel : Below w.heap.size w w') (hB : RelB (fun _ => q) q c w'.heap[q.b]?) (hown : c.own = true) (hn : c.names = [])
    (hq : w.heap.size ≤ q.b) : RelH b w0 (fun j => if j = i then q else ρ j) (upd h i c) w' := by
  have H' := H.later hbel
  have hne : ∀ m, h m ≠ none → m ≠ i := fun m hm e => hm (by rw [e]; exact hi)
  have hq' : ∀ j d, h j = some d → (ρ j).b ≠ q.b := fun j d hj => by have := H.lt hj; omega
  refine ⟨fun j d hj => ?_, fun j d hj m hm => ?_, fun j d hj => ?_, fun j k d e hj hk ho he => ?_, H'.below, H'.base⟩
  · unfold upd at hj
    split at hj
    · rename_i e
      obtain rfl := Option.some.inj hj
      rw [if_pos e]
      exact relB_agree hB (by rw [hn]; simp)
    · rename_i e
      rw [if_neg e]
      exact relB_agree (H'.heap j d hj) fun m hm => if_neg (hne m (H.namesH j d hj m hm))
  · unfold upd at hj ⊢
    split at hj
    · obtain rfl := Option.some.inj hj
      rw [hn] at hm; simp at hm
    · have := H.namesH j d hj m hm
      rw [if_neg (hne m this)]; exact this
  · unfold upd at hj
    split at hj
    · rename_i e
      obtain rfl := Option.some.inj hj
      rw [if_pos e]
      exact ⟨fun _ => Nat.le_trans H.base hq, fun e => by rw [hown] at e; cases e⟩
    · rename_i e
      rw [if_neg e]; exact H.low j d hj
  · unfold upd at hj hk
    by_cases h1 : j = i <;> by_cases h2 : k = i
    · rw [h1, h2]
    · rw [if_neg h2] at hk
      rw [if_pos h1, if_neg h2] at he
      exact absurd he.symm (hq' k e hk)
    · rw [if_neg h1] at hj
      rw [if_neg h1, if_pos h2] at he
      exact absurd he (hq' j d hj)
    · rw [if_neg h1] at hj
      rw [if_neg h2] at hk
      rw [if_neg h1, if_neg h2] at he
      exact H.inj j k d e hj hk ho he
theorem hkInl_sound {ks : List (Nat × SpHK)} (hw : EntriesHK P G ks) {base : FuncId → Nat → List AV → List (Nat × Blk) → (AV → List (Nat × Blk) → Prop) → Prop} (hb : InlOK P G base) : InlOK P G (hkInl ks base) := by
  intro f tp args h K hK hlt hn
  unfold hkInl at hK
  split at hK
  · exact hb f tp args h K hK hlt hn
  · rename_i sp hsp
    split at hK
    · rename_i a ha
      obtain ⟨hc, ⟨⟨hK1⟩, ⟨hK2⟩⟩⟩ := withC_eq hK
      have he := hw.get hsp
      obtain ⟨hv, hr, hbo, hcall⟩ := he.calls args a ha hc
      refine ⟨he.fn, fun b w0 ρ us w hG hb0 hrel H => (hcall us ρ hrel w0 w hG (hb0 ▸ H.below) (hb0 ▸ H.base)).mono ?_⟩
      rintro e w' (⟨k, u, hok, rfl, hu, hbel⟩ | ⟨k, u, q, hok, rfl, hu, hB, hq, hbel⟩)
      · obtain ⟨hk⟩ := hK1 k
        exact ⟨a.v1 k, h, u, ρ, hk hok, rfl, hu ρ, by rw [hv k]; simp, H.later hbel, fun m hm => ⟨hm, rfl⟩, hbel.size, fun k' h1 _ => hbel.block k' h1, fun m c h1 _ h2 => by rw [h1] at h2; cases h2⟩
      · obtain ⟨hk⟩ := hK2 k
        have hk := hk hok
        rw [forceB_eq] at hk
        have hi : look h tp = none := by
          cases e : look h tp with
          | none => rfl
          | some c => exact absurd (hlt tp (by rw [e]; simp)) (Nat.lt_irrefl _)
        have hne : ∀ m, look h m ≠ none → m ≠ tp := fun m hm e => hm (by rw [e]; exact hi)
        refine ⟨rowV a k tp, (tp, a.b2 k) :: h, u, fun j => if j = tp then q else ρ j, hk, rfl, rowV_at (hr k) hu (if_pos rfl), fun m hm => ?_, ?_, fun m hm => ?_, hbel.size, fun k' h1 _ => hbel.block k' h1, fun m c h1 _ h2 => ?_⟩
        · have : m = tp := by
            have h5 : (rowV a k tp).names = tp :: vnames (a.r2 k) := rfl
            rw [h5, hr k] at hm
            simpa using hm
          rw [look_cons, this]; simp [upd]
        · rw [look_cons]; exact H.add hi hbel hB (hbo k).1 (hbo k).2 hq
        · rw [look_cons]
          exact ⟨by simp [upd, hne m hm, hm], if_neg (hne m hm)⟩
        · rw [look_cons] at h1
          unfold upd at h1
          split at h1
          · rename_i e; show w.heap.size ≤ (if m = tp then q else ρ m).b; rw [if_pos e]; exact hq
          · rw [h1] at h2; cases h2
    · cases hK
/-- From the function's walk. -/
theorem EntryHK.of_FI {C : Table} (hC : CSound P G C) (hm : P.follows .mixedOrders = true) {f : FuncId} {fn : Func} {sp : SpHK} (hf : P.funcs[f]? = some fn)
    (hn : (fn.name == "runtime.NumGoroutine") = false) (hb : fn.body.isNone = false)
    (h : ∀ args a, sp args = some a → a.c.holds → closed args = true ∧ (∀ k, (a.v1 k).names = []) ∧ (∀ k, vnames (a.r2 k) = []) ∧ (∀ k, (a.b2 k).own = true ∧ (a.b2 k).names = []) ∧
      FI P C fn 0 args [] (fun r h => (∃ k, a.ok1 k ∧ r = a.v1 k) ∨ ∃ k x, a.ok2 k ∧ r = rowV a k x ∧ look h x = some (a.b2 k))) : EntryHK P G f sp := by
  refine ⟨⟨fn, hf, hn, hb⟩, fun args a hs hc => ?_⟩
  obtain ⟨hcl, hv, hr, hbo, hF⟩ := h args a hs hc
  refine ⟨hv, hr, hbo, fun us ρ hrel w0 w hG hbel hsz => (FI_sound hC hm hf hF (fun m hm => by simp [look] at hm) (fun v hv m hm => by rw [closed_spec hcl v hv] at hm; simp at hm) w0.heap.size w0 ρ us w hG rfl hrel
    ⟨fun i b hi => by simp [look] at hi, fun i b hi => by simp [look] at hi, fun i c hi => by simp [look] at hi, fun i j c d hi => by simp [look] at hi, hbel, hsz⟩).mono ?_⟩
  rintro e w' ⟨v, h', u, ρ', hK, rfl, hrv, -, H, -, hgr, hfr, hnew⟩
  have hB : Below w.heap.size w w' := ⟨by rw [H.below.os, hbel.os], by rw [H.below.tape, hbel.tape], by rw [H.below.output, hbel.output], hgr, fun k hk => hfr k hk fun m c hm => by simp [look] at hm⟩
  rcases hK with ⟨k, hok, rfl⟩ | ⟨k, x, hok, rfl, hx⟩
  · exact .inl ⟨k, u, hok, rfl, fun ρ'' => relA_any hrv (hv k), hB⟩
  · refine .inr ⟨k, u, ρ' x, hok, rfl, ?_, relB_agree (H.heap x _ hx) (by rw [(hbo k).2]; simp), hnew x _ hx (hbo k).1 rfl, hB⟩
    obtain ⟨cs, e, h5⟩ := hrv
    refine ⟨cs, e, ?_⟩
    generalize cs.toList = vs at h5
    cases vs with
    | nil => exact h5
    | cons v vs =>
      obtain ⟨h6, h7⟩ := h5
      refine ⟨fun _ => ?_, relVs_agree h7 (by rw [hr k]; simp)⟩
      have := h6 (by simp)
      rw [this]
      simp only [gL]
/-- Rows handed out ahead of all else that is gone through. -/
abbrev withHK (C : Table) (ks : List (Nat × SpHK)) : Table := ⟨C.fn, C.glob, C.look, hkInl ks C.inl, C.app, C.nm, C.tp, C.im, C.mkr, C.mks⟩
theorem CSound.withHK {C : Table} (h : CSound P G C) {ks : List (Nat × SpHK)} (hw : EntriesHK P G ks) : CSound P G (withHK C ks) := ⟨h.stable, h.globs, h.looks, h.calls, hkInl_sound hw h.inl, h.mkr⟩
end
end Go.Ep
