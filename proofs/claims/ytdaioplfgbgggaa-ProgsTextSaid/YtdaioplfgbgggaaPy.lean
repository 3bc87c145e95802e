/-
  Contracts by kind of functions whose last argument is a slice of elements of one cell, which they read. Conditions: as typed.
-/
import Derived.Test.YtdaioplfgbgggaaPx
import Derived.Test.YtdaioplfgbgggaaPr
namespace Go.Ep
open Go.RowKit
set_option linter.unusedVariables false
set_option linter.unusedSimpArgs false
/-- The slice at the end of some arguments: how many elements, and what they are; and the arguments ahead of it. -/
def sliceOf (args : List AV) (bs : List (Nat × Blk)) : Option (Cond × Nat × (Nat → List PL) × List AV) := match lastA args with
  | some (pre, .one (.rsl i len)) => match bs with
    | [(j, .row _ z' n f)] => match Nat.beq i j, Nat.beq z' 1 with
      | true, true => some (.p (len ≤ n), len, f, pre)
      | _, _ => none
    | _ => none
  | some (pre, .one (.rsc i z k len)) => match bs with
    | [(j, .row _ z' n f)] => match Nat.beq i j, Nat.beq z 1, Nat.beq z' 1 with
      | true, true, true => some (.p (k + len ≤ n), len, fun t => f (k + t), pre)
      | _, _, _ => none
    | _ => none
  | some (pre, .one (.slc i off len cap)) => match bs with
    | [(j, b)] => match Nat.beq i j, rowOf 1 b with
      | true, some (n, f) => some (.p (off + len ≤ n ∧ len ≤ cap), len, fun t => f (off + t), pre)
      | _, _ => none
    | _ => none
  | _ => none
abbrev SpHL := Nat → (Nat → List PL) → List AV → Option HK
def tabHL : List (Nat × SpHL) → FuncId → Option SpHL
  | [], _ => none
  | (g, sp) :: r, f => match Nat.beq g f with
    | true => some sp
    | false => tabHL r f
noncomputable def hlInl (ks : List (Nat × SpHL)) (base : FuncId → Nat → List AV → List (Nat × Blk) → (AV → List (Nat × Blk) → Prop) → Prop) : FuncId → Nat → List AV → List (Nat × Blk) → (AV → List (Nat × Blk) → Prop) → Prop :=
  fun f tp args h K => match tabHL ks f with
    | none => base f tp args h K
    | some sp => match sliceOf args (blks (look h) (anames args)) with
      | some (c, len, g, pre) => withC c (match sp len g pre with
        | some a => withC a.c (Both (Each a.κ1 fun k => Given (a.ok1 k) (K (a.v1 k) h)) (Each a.κ2 fun k => Given (a.ok2 k) (forceB (a.b2 k) fun b => K (rowV a k tp) ((tp, b) :: h))))
        | none => Stuck "kind")
      | none => Stuck "slice"
theorem SegV.from1 {k len n : Nat} {f : Nat → List PL} {us : List Value} (h : SegV 1 n f us) (hm : k + len ≤ n) : SegV 1 len (fun t => f (k + t)) ((us.drop k).take len) := by
  refine ⟨by rw [List.length_take, List.length_drop, h.1]; omega, fun t ht => ?_⟩
  obtain ⟨h1, h2⟩ := h.2 (k + t) (by omega)
  refine ⟨h1, fun j hj => ?_⟩
  have := h2 j hj
  rw [List.getElem?_take, if_pos (by omega), List.getElem?_drop]
  rw [← this]
  congr 1
  omega
section
variable {P : Program} {G : World → Prop} {D : VData}
theorem sliceOf_rel {args : List AV} {bs : List (Nat × Blk)} {c : Cond} {len : Nat} {g : Nat → List PL} {pre : List AV} (h : sliceOf args bs = some (c, len, g, pre)) (hc : c.holds) {ρ : Nat → Loc} {us : List Value} {w : World} (hrel : RelAs ρ args us) (hB : RelBs ρ bs w) :
    ∃ (us0 : List Value) (q : Loc) (cap : Nat) (cs : Array Value) (T : TypeId) (fr : Nat × Nat) (u1 ws : List Value), us = us0 ++ [Value.slice (some ⟨q.b, q.o, none⟩) len cap] ∧ len ≤ cap ∧ RelAs ρ pre us0 ∧ w.heap[q.b]? = some (.cells cs T fr) ∧ cs.toList.drop q.o = u1 ++ ws ∧ SegV 1 len g u1 := by
  unfold sliceOf at h
  split at h
  · rename_i pre' i len' hl
    obtain rfl := lastA_eq hl
    obtain ⟨us0, u, rfl, hp, hu⟩ := relAs_snoc hrel
    split at h
    · rename_i j T' z' n f
      split at h
      · rename_i hij hz'
        obtain rfl : i = j := by simpa using hij
        obtain rfl : z' = 1 := by simpa using hz'
        simp only [Option.some.injEq, Prod.mk.injEq] at h
        obtain ⟨rfl, rfl, rfl, rfl⟩ := h
        have hkn : len' ≤ n := hc
        obtain ⟨cs, e, h0, h1, h2, h3, h4⟩ := hB (i, .row T' 1 n f) (by simp)
        have hu := hu (by simp)
        simp only [gL] at hu
        subst hu
        have hs := h4.from1 (k := 0) (len := len') (by omega)
        simp only [Nat.zero_add, List.drop_zero] at hs
        refine ⟨us0, ⟨(ρ i).b, (ρ i).o, 0⟩, _, cs, T', (0, 0), ((cs.toList.take (1 * n)).take len'), cs.toList.drop len', rfl, Nat.le_trans hkn h2, hp, e, ?_, hs⟩
        rw [h0, List.drop_zero, Nat.one_mul, List.take_take, Nat.min_eq_left hkn, List.take_append_drop]
      · cases h
    · cases h
  · rename_i pre' i z k len' hl
    obtain rfl := lastA_eq hl
    obtain ⟨us0, u, rfl, hp, hu⟩ := relAs_snoc hrel
    split at h
    · rename_i j T' z' n f
      split at h
      · rename_i hij hz hz'
        obtain rfl : i = j := by simpa using hij
        obtain rfl : z = 1 := by simpa using hz
        obtain rfl : z' = 1 := by simpa using hz'
        simp only [Option.some.injEq, Prod.mk.injEq] at h
        obtain ⟨rfl, rfl, rfl, rfl⟩ := h
        have hkn : k + len' ≤ n := hc
        obtain ⟨cs, e, h0, h1, h2, h3, h4⟩ := hB (i, .row T' 1 n f) (by simp)
        have hu := hu (by simp)
        simp only [gL] at hu
        subst hu
        have hs := h4.from1 hkn
        by_cases hck : (ρ i).c = k
        · have h2' : n ≤ (ρ i).c := h2
          have hl0 : len' = 0 := by omega
          subst hl0
          rw [if_pos hck]
          exact ⟨us0, ⟨(ρ i).b, (ρ i).o + 0, 0⟩, _, cs, T', (0, 0), [], cs.toList.drop ((ρ i).o + 0), rfl, Nat.zero_le _, hp, e, rfl, ⟨rfl, fun t ht => by omega⟩⟩
        · rw [if_neg hck]
          refine ⟨us0, ⟨(ρ i).b, (ρ i).o + 1 * k, 0⟩, _, cs, T', (0, 0), (((cs.toList.take (1 * n)).drop k).take len'), cs.toList.drop (k + len'), rfl, (by have : n ≤ (ρ i).c := h2; omega), hp, e, ?_, hs⟩
          rw [h0, Nat.zero_add, Nat.one_mul, Nat.one_mul]
          have e1 : ((cs.toList.take n).drop k).take len' = (cs.toList.drop k).take len' := by
            rw [List.drop_take, List.take_take]
            congr 1
            omega
          rw [e1]
          rw [show cs.toList.drop (k + len') = (cs.toList.drop k).drop len' by rw [List.drop_drop], List.take_append_drop]
      · cases h
    · cases h
  · rename_i pre' i off len' cap hl
    obtain rfl := lastA_eq hl
    obtain ⟨us0, u, rfl, hp, hu⟩ := relAs_snoc hrel
    split at h
    · rename_i j b
      split at h
      · rename_i n f hij hr
        obtain rfl : i = j := by simpa using hij
        simp only [Option.some.injEq, Prod.mk.injEq] at h
        obtain ⟨rfl, rfl, rfl, rfl⟩ := h
        obtain ⟨hkn, hlc⟩ : off + len' ≤ n ∧ len' ≤ cap := hc
        obtain ⟨cs, T, fr, e, u1, ws, hd, hs⟩ := rowOf_rel hr (hB (i, b) (by simp))
        have hu := hu (by simp)
        simp only [gL] at hu
        subst hu
        refine ⟨us0, ⟨(ρ i).b, (ρ i).o + off, 0⟩, _, cs, T, fr, (u1.drop off).take len', (u1.drop off).drop len' ++ ws, rfl, hlc, hp, e, ?_, hs.from1 hkn⟩
        rw [← List.append_assoc, List.take_append_drop, ← List.drop_drop, hd, List.drop_append_of_le_length (by rw [hs.1]; omega)]
      · cases h
    · cases h
  · cases h
structure EntryHL (P : Program) (G : World → Prop) (f : FuncId) (sp : SpHL) : Prop where
  fn : ∃ fn, P.funcs[f]? = some fn ∧ (fn.name == "runtime.NumGoroutine") = false ∧ fn.body.isNone = false
  calls : ∀ len g pre a, sp len g pre = some a → a.c.holds → (∀ k, (a.v1 k).names = []) ∧ (∀ k, vnames (a.r2 k) = []) ∧ (∀ k, (a.b2 k).own = true ∧ (a.b2 k).names = []) ∧
    ∀ (us0 : List Value) ρ (q : Loc) (cap : Nat) (cs : Array Value) (T : TypeId) (fr : Nat × Nat) (u1 ws : List Value) (w : World), RelAs ρ pre us0 → w.heap[q.b]? = some (.cells cs T fr) → cs.toList.drop q.o = u1 ++ ws → SegV 1 len g u1 → G w → len ≤ cap →
      Calls P f (us0 ++ [Value.slice (some ⟨q.b, q.o, none⟩) len cap]).toArray w (fun e w' => (∃ k u, a.ok1 k ∧ e = .returned u ∧ (∀ ρ, RelA ρ (a.v1 k) u) ∧ Below w.heap.size w w') ∨
      ∃ k u q, a.ok2 k ∧ e = .returned u ∧ RelA (fun _ => q) (rowV a k 0) u ∧ RelB (fun _ => q) q (a.b2 k) w'.heap[q.b]? ∧ w.heap.size ≤ q.b ∧ Below w.heap.size w w')
inductive EntriesHL (P : Program) (G : World → Prop) : List (Nat × SpHL) → Prop
  | nil : EntriesHL P G []
  | cons {f : Nat} {sp : SpHL} {l : List (Nat × SpHL)} (e : EntryHL P G f sp) (h : EntriesHL P G l) : EntriesHL P G ((f, sp) :: l)
theorem EntriesHL.get : ∀ {l : List (Nat × SpHL)} {f : Nat} {sp : SpHL}, EntriesHL P G l → tabHL l f = some sp → EntryHL P G f sp
  | [], _, _, _, h => by cases h
  | (g, s) :: l, f, sp, .cons e h, hs => by
    simp only [tabHL] at hs
    split at hs
    · rename_i he
      have : g = f := by simpa using he
      subst this
      obtain rfl := Option.some.inj hs
      exact e
    · exact EntriesHL.get h hs
theorem hlInl_sound (hst : ∀ w w', G w → Below w.heap.size w w' → G w') {ks : List (Nat × SpHL)} (hw : EntriesHL P G ks) {base : FuncId → Nat → List AV → List (Nat × Blk) → (AV → List (Nat × Blk) → Prop) → Prop} (hb : InlOK P G base) : InlOK P G (hlInl ks base) := by
  intro f tp args h K hK hlt hn
  unfold hlInl at hK
  split at hK
  · exact hb f tp args h K hK hlt hn
  · rename_i sp hsp
    split at hK
    · rename_i c0 len g pre hsl
      obtain ⟨hc0, hK⟩ := withC_eq hK
      split at hK
      · rename_i a ha
        obtain ⟨hc, ⟨⟨hK1⟩, ⟨hK2⟩⟩⟩ := withC_eq hK
        have he := hw.get hsp
        obtain ⟨hv, hr, hbo, hcall⟩ := he.calls len g pre a ha hc
        refine ⟨he.fn, fun b w0 ρ us w hG hb0 hrel H => ?_⟩
        have hGw : G w := hst w0 w hG (hb0 ▸ H.below)
        obtain ⟨us0, q0, cap, cs, T, fr, u1, ws, rfl, hlc, hp, e0, hd, hs⟩ := sliceOf_rel hsl hc0 hrel (fun p hp => H.heap _ _ (blks_mem hp).2 : RelBs ρ _ w)
        refine (hcall us0 ρ q0 cap cs T fr u1 ws w hp e0 hd hs hGw hlc).mono ?_
        rintro e w' (⟨k, u, hok, rfl, hu, hbel⟩ | ⟨k, u, q, hok, rfl, hu, hB, hq, hbel⟩)
        · obtain ⟨hk⟩ := hK1 k
          exact ⟨a.v1 k, h, u, ρ, hk hok, rfl, hu ρ, by rw [hv k]; simp, H.later hbel, fun m hm => ⟨hm, rfl⟩, hbel.size, fun k' h1 _ => hbel.block k' h1, fun m c h1 _ h2 => by rw [h1] at h2; cases h2⟩
        · obtain ⟨hk⟩ := hK2 k
          have hk := hk hok
          rw [forceB_eq] at hk
          have hi : look h tp = none := by
            cases e : look h tp with
            | none => rfl
            | some c => exact absurd (hlt tp (by rw [e]; simp)) (Nat.lt_irrefl _)
          have hne : ∀ m, look h m ≠ none → m ≠ tp := fun m hm e => hm (by rw [e]; exact hi)
          refine ⟨rowV a k tp, (tp, a.b2 k) :: h, u, fun j => if j = tp then q else ρ j, hk, rfl, rowV_at (hr k) hu (if_pos rfl), fun m hm => ?_, ?_, fun m hm => ?_, hbel.size, fun k' h1 _ => hbel.block k' h1, fun m c h1 _ h2 => ?_⟩
          · have : m = tp := by
              have h5 : (rowV a k tp).names = tp :: vnames (a.r2 k) := rfl
              rw [h5, hr k] at hm
              simpa using hm
            rw [look_cons, this]; simp [upd]
          · rw [look_cons]; exact H.add hi hbel hB (hbo k).1 (hbo k).2 hq
          · rw [look_cons]
            exact ⟨by simp [upd, hne m hm, hm], if_neg (hne m hm)⟩
          · rw [look_cons] at h1
            unfold upd at h1
            split at h1
            · rename_i e; show w.heap.size ≤ (if m = tp then q else ρ m).b; rw [if_pos e]; exact hq
            · rw [h1] at h2; cases h2
      · cases hK
    · cases hK
/-- From the function's walk. -/
theorem EntryHL.of_FI {C : Table} (hC : CSound P G C) (hm : P.follows .mixedOrders = true) {f : FuncId} {fn : Func} {sp : SpHL} (hf : P.funcs[f]? = some fn)
    (hn : (fn.name == "runtime.NumGoroutine") = false) (hb : fn.body.isNone = false)
    (h : ∀ len g pre a, sp len g pre = some a → a.c.holds → closed pre = true ∧ (∀ k, (a.v1 k).names = []) ∧ (∀ k, vnames (a.r2 k) = []) ∧ (∀ k, (a.b2 k).own = true ∧ (a.b2 k).names = []) ∧
      ∀ (T : TypeId) (cap : Nat), len ≤ cap → FI P C fn 1 (pre ++ [.one (.slc 0 0 len cap)]) [(0, .ro T [.seg 1 len g])] (fun r h => (∃ k, a.ok1 k ∧ r = a.v1 k) ∨ ∃ k x, a.ok2 k ∧ r = rowV a k x ∧ look h x = some (a.b2 k))) : EntryHL P G f sp := by
  refine ⟨⟨fn, hf, hn, hb⟩, fun len g pre a hs hc => ?_⟩
  obtain ⟨hcl, hv, hr, hbo, hF⟩ := h len g pre a hs hc
  have hcl' := closed_spec hcl
  refine ⟨hv, hr, hbo, fun us0 ρ q cap cs T fr u1 ws w hp e0 hd hseg hG hlc => (FI_sound hC hm hf (hF T cap hlc) (fun m hm => ?_) (fun v hv m hm => ?_) w.heap.size w (fun _ => q) _ w hG rfl
    (relAs_snoc_mk (relAs_any hcl' hp) (fun _ => by simp [gL])) (RelH.one (q := q) (T := T) (us := u1) (ws := ws) e0 hd ⟨_, [], by simp, hseg, rfl⟩ rfl)).mono ?_⟩
  · rw [look_eq_beq] at hm
    split at hm
    · rename_i e; omega
    · simp [look] at hm
  · rcases List.mem_append.1 hv with hv | hv
    · rw [hcl' v hv] at hm; simp at hm
    · obtain rfl : v = .one (.slc 0 0 len cap) := by simpa using hv
      obtain rfl : m = 0 := by simpa [AV.names, L.names] using hm
      rw [look_eq_beq]; simp
  · rintro e w' ⟨v, h', u, ρ', hK, rfl, hrv, -, H, hold, hgr, hfr, hnew⟩
    rcases hK with ⟨k, hok, rfl⟩ | ⟨k, x, hok, rfl, hx⟩
    · exact .inl ⟨k, u, hok, rfl, fun ρ'' => relA_any hrv (hv k), H.below⟩
    · refine .inr ⟨k, u, ρ' x, hok, rfl, ?_, relB_agree (H.heap x _ hx) (by rw [(hbo k).2]; simp), (H.low x _ hx).1 (hbo k).1, H.below⟩
      obtain ⟨cs, e, h5⟩ := hrv
      refine ⟨cs, e, ?_⟩
      generalize cs.toList = vs at h5
      cases vs with
      | nil => exact h5
      | cons v vs =>
        obtain ⟨h6, h7⟩ := h5
        refine ⟨fun _ => ?_, relVs_agree h7 (by rw [hr k]; simp)⟩
        have := h6 (by simp)
        rw [this]
        simp only [gL]
abbrev withHL (C : Table) (ks : List (Nat × SpHL)) : Table := ⟨C.fn, C.glob, C.look, hlInl ks C.inl, C.app, C.nm, C.tp, C.im, C.mkr, C.mks⟩
theorem CSound.withHL {C : Table} (h : CSound P G C) {ks : List (Nat × SpHL)} (hw : EntriesHL P G ks) : CSound P G (withHL C ks) := ⟨h.stable, h.globs, h.looks, h.calls, hlInl_sound h.stable hw h.inl, h.mkr⟩
end
end Go.Ep
