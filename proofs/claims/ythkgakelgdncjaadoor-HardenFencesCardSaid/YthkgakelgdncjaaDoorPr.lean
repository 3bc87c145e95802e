/-
  Contracts of functions that make memory and hand it out. Conditions: as typed.
-/
import Derived.Test.YthkgakelgdncjaaDoorPq
namespace Go.Ep
open Go.RowKit
set_option linter.unusedVariables false
set_option linter.unusedSimpArgs false

abbrev SpK := List AV → List (Nat × Blk) → Option (Cond × Blk × NewV)
def tabK : List (Nat × SpK) → FuncId → List AV → List (Nat × Blk) → Option (Cond × Blk × NewV)
  | [], _, _, _ => none
  | (g, sp) :: r, f, args, bs => match Nat.beq g f with
    | true => sp args bs
    | false => tabK r f args bs
def namesK : List (Nat × SpK) → List Nat
  | [] => []
  | (g, _) :: r => g :: namesK r
abbrev withMk (C : Table) (l : List (Nat × SpK)) : Table := ⟨C.fn, C.glob, C.look, C.inl, C.app, C.nm, C.tp, C.im, tabK l, namesK l⟩
structure EntryK (P : Program) (G : World → Prop) (f : FuncId) (sp : SpK) : Prop where
  fn : ∃ fn, P.funcs[f]? = some fn ∧ (fn.name == "runtime.NumGoroutine") = false ∧ fn.body.isNone = false
  calls : ∀ args bs c b nv, sp args bs = some (c, b, nv) → c.holds → b.own = true ∧ b.names = [] ∧
    ∀ us ρ, RelAs ρ args us → ∀ w, G w → RelBs ρ bs w → (∀ p ∈ bs, (ρ p.1).b < w.heap.size) → Calls P f us.toArray w (fun e w' => ∃ u q, e = .returned u ∧ RelL (fun _ => q) (nv.at 0) u ∧ RelB ρ q b w'.heap[q.b]? ∧ w.heap.size ≤ q.b ∧ Below w.heap.size w w')
inductive EntriesK (P : Program) (G : World → Prop) : List (Nat × SpK) → Prop
  | nil : EntriesK P G []
  | cons {f : Nat} {sp : SpK} {l : List (Nat × SpK)} (e : EntryK P G f sp) (h : EntriesK P G l) : EntriesK P G ((f, sp) :: l)
section
variable {P : Program} {G : World → Prop} {D : VData}
theorem EntriesK.ok : ∀ {l : List (Nat × SpK)}, EntriesK P G l → MkOK P G (tabK l)
  | [], _ => fun _ _ _ _ _ _ h => by cases h
  | (g, sp) :: l, .cons e h => fun f args bs c b nv hs hc => by
    simp only [tabK] at hs
    split at hs
    · rename_i he
      have he' : g = f := by simpa using he
      subst he'
      obtain ⟨h1, h2, h3⟩ := e.calls args bs c b nv hs hc
      exact ⟨h1, h2, e.fn, h3⟩
    · exact EntriesK.ok h f args bs c b nv hs hc
theorem CSound.withMk {C : Table} (h : CSound P G C) {l : List (Nat × SpK)} (hl : EntriesK P G l) : CSound P G (withMk C l) := ⟨h.stable, h.globs, h.looks, h.calls, h.inl, hl.ok⟩
theorem CSound.withIm {C : Table} (h : CSound P G C) (im : List Nat) : CSound P G (withIm C im) := ⟨h.stable, h.globs, h.looks, h.calls, h.inl, h.mkr⟩
theorem nv_of {ρ : Nat → Loc} {nv : NewV} {d : Nat} {u : Value} (h : RelL ρ (nv.at d) u) : RelL (fun _ => ρ d) (nv.at 0) u := by
  intro _
  have := h (by cases nv <;> simp [NewV.at])
  rw [this]
  cases nv <;> simp [NewV.at, gL]
theorem EntryK.of_FI {C : Table} (hC : CSound P G C) (hm : P.follows .mixedOrders = true) {f : FuncId} {fn : Func} {sp : SpK} (hf : P.funcs[f]? = some fn)
    (hn : (fn.name == "runtime.NumGoroutine") = false) (hb : fn.body.isNone = false)
    (h : ∀ args bs c b nv, sp args bs = some (c, b, nv) → c.holds → closed args = true ∧ b.own = true ∧ b.names = [] ∧ FI P C fn 0 args [] (fun v h => ∃ x, v = .one (nv.at x) ∧ look h x = some b)) : EntryK P G f sp := by
  refine ⟨⟨fn, hf, hn, hb⟩, fun args bs c b nv hs hc => ?_⟩
  obtain ⟨h1, h2, h3, h4⟩ := h args bs c b nv hs hc
  refine ⟨h2, h3, fun us ρ hrel w hG _ _ => (FI_sound hC hm hf h4 (fun m hm => by simp [look] at hm) (fun v hv m hm => by rw [closed_spec h1 v hv] at hm; simp at hm) w.heap.size w ρ us w hG rfl hrel
    ⟨fun i b hi => by simp [look] at hi, fun i b hi => by simp [look] at hi, fun i c hi => by simp [look] at hi, fun i j c d hi => by simp [look] at hi, Below.refl _ _, Nat.le_refl _⟩).mono ?_⟩
  rintro e w' ⟨v, h', u, ρ', ⟨x, rfl, hx⟩, rfl, hr, -, H, -⟩
  exact ⟨u, ρ' x, rfl, nv_of hr, relB_agree (H.heap x b hx) (by rw [h3]; simp), (H.low x b hx).1 h2, H.below⟩
/-- The elements of a slice that is handed on to be read: how many there are, and what they are. -/
def rowOf (z : Nat) : Blk → Option (Nat × (Nat → List PL))
  | .ro _ [.seg z' n f] => match Nat.beq z z' with
    | true => some (n, f)
    | false => none
  | .row _ z' n f => match Nat.beq z z' with
    | true => some (n, f)
    | false => none
  | _ => none
/-- A contract of a function whose first argument is a slice that it reads: by its length, its elements, and the other arguments. -/
def spS (z : Nat) (sq : Nat → (Nat → List PL) → List AV → Option (Cond × AV)) : SpM := fun args bs => match args with
  | .one (.slc i 0 len _) :: rest => match bs with
    | [(j, b)] => match Nat.beq i j, rowOf z b with
      | true, some (n, f) => match sq len f rest with
        | some (c, v) => some (bothC (.p (len ≤ n)) c, v)
        | none => none
      | _, _ => none
    | _ => none
  | .one (.rsl i len) :: rest => match bs with
    | [(j, b)] => match Nat.beq i j, rowOf z b with
      | true, some (n, f) => match sq len f rest with
        | some (c, v) => some (bothC (.p (len ≤ n)) c, v)
        | none => none
      | _, _ => none
    | _ => none
  | .one (.raw (.slice _ 0 _)) :: rest => sq 0 (fun _ => []) rest
  | _ => none
theorem SegV.take {z n m : Nat} {f : Nat → List PL} {us : List Value} (h : SegV z n f us) (hm : m ≤ n) : SegV z m f (us.take (z * m)) := by
  have hle : z * m ≤ z * n := Nat.mul_le_mul_left z hm
  refine ⟨by rw [List.length_take, h.1]; omega, fun k hk => ?_⟩
  obtain ⟨h1, h2⟩ := h.2 k (by omega)
  have hb := mul_lt_of (z := z) hk
  exact ⟨h1, fun j hj => by rw [List.getElem?_take, if_pos (by omega)]; exact h2 j hj⟩
theorem rowOf_rel {z n : Nat} {f : Nat → List PL} {b : Blk} (h : rowOf z b = some (n, f)) {ρ : Nat → Loc} {q : Loc} {o : Option Obj} (hb : RelB ρ q b o) :
    ∃ (cs : Array Value) (T : TypeId) (fr : Nat × Nat), o = some (.cells cs T fr) ∧ ∃ us ws, cs.toList.drop q.o = us ++ ws ∧ SegV z n f us := by
  unfold rowOf at h
  split at h
  · rename_i T z' n' f'
    split at h
    · rename_i hz
      obtain rfl : z = z' := by simpa using hz
      simp only [Option.some.injEq, Prod.mk.injEq] at h
      obtain ⟨rfl, rfl⟩ := h
      obtain ⟨cs, fr, e, us, ws, h0, h1⟩ := hb
      obtain ⟨u1, w1, h2, h3, h4⟩ := h1
      obtain rfl : w1 = [] := h4
      exact ⟨cs, T, fr, e, u1, ws, by rw [h0, h2, List.append_nil], h3⟩
    · cases h
  · rename_i T z' n' f'
    split at h
    · rename_i hz
      obtain rfl : z = z' := by simpa using hz
      simp only [Option.some.injEq, Prod.mk.injEq] at h
      obtain ⟨rfl, rfl⟩ := h
      obtain ⟨cs, e, h0, h1, h2, h3, h4⟩ := hb
      exact ⟨cs, T, (0, 0), e, _, cs.toList.drop (z * n'), by rw [h0]; simp, h4⟩
    · cases h
  · cases h
/-- From the function's walk. -/
theorem EntryM.of_slice {C : Table} (hC : CSound P G C) (hm : P.follows .mixedOrders = true) {f : FuncId} {fn : Func} {z : Nat} {sq : Nat → (Nat → List PL) → List AV → Option (Cond × AV)} (hf : P.funcs[f]? = some fn)
    (hn : (fn.name == "runtime.NumGoroutine") = false) (hb : fn.body.isNone = false)
    (h : ∀ len g rest c v, sq len g rest = some (c, v) → c.holds → closed rest = true ∧ v.names = [] ∧ ∀ (T : TypeId) (cap : Nat), FI P C fn 1 (.one (.slc 0 0 len cap) :: rest) [(0, .ro T [.seg z len g])] (fun r _ => r = v))
    (h0 : ∀ rest c v, sq 0 (fun _ => []) rest = some (c, v) → c.holds → ∀ (ad : Option Addr) (cap : Nat), FI P C fn 1 (.one (.raw (.slice ad 0 cap)) :: rest) [] (fun r _ => r = v)) : EntryM P G f (spS z sq) := by
  have key : ∀ {i len n : Nat} {b : Blk} {g : Nat → List PL} {rest : List AV} {c : Cond} {v : AV} {us : List Value} {ρ : Nat → Loc} {w : World} {cap : Nat}, rowOf z b = some (n, g) → sq len g rest = some (c, v) → len ≤ n → c.holds →
      RelAs ρ rest us → G w → RelB ρ (ρ i) b w.heap[(ρ i).b]? → Calls P f (.slice (some ⟨(ρ i).b, (ρ i).o, none⟩) len cap :: us).toArray w (fun e w' => ∃ u, e = .returned u ∧ (∀ ρ, RelA ρ v u) ∧ Below w.heap.size w w') := by
    intro i len n b g rest c v us ρ w cap hr hs hle hc hrel hG hB
    obtain ⟨hcl, hv, hF⟩ := h len g rest c v hs hc
    obtain ⟨cs, T, fr, e, us1, ws, hd, hseg⟩ := rowOf_rel hr hB
    have hcl' := closed_spec hcl
    have hle' : z * len ≤ z * n := Nat.mul_le_mul_left z hle
    refine calls_of_FI hC hm hf (hF T cap) (fun m hm => ?_) (fun v hv m hm => ?_) hv hG (us := .slice (some ⟨(ρ i).b, (ρ i).o, none⟩) len cap :: us) (ρ := fun _ => ρ i) ⟨fun _ => by simp [gL], relAs_any hcl' hrel⟩
      (RelH.one (q := ρ i) (T := T) (us := us1.take (z * len)) (ws := us1.drop (z * len) ++ ws) e (by rw [hd, ← List.append_assoc, List.take_append_drop]) ⟨_, [], by simp, hseg.take hle, rfl⟩ rfl)
    · rw [look_eq_beq] at hm
      split at hm
      · rename_i e; omega
      · simp [look] at hm
    · rcases List.mem_cons.1 hv with rfl | hv
      · obtain rfl : m = 0 := by simpa [AV.names, L.names] using hm
        rw [look_eq_beq]; simp
      · rw [hcl' v hv] at hm; simp at hm
  refine ⟨⟨fn, hf, hn, hb⟩, fun args bs c v hs hc => ?_⟩
  unfold spS at hs
  split at hs
  · rename_i i len cap rest
    split at hs
    · rename_i j b
      split at hs
      · rename_i n g hij hr
        obtain rfl : i = j := by simpa using hij
        split at hs
        · rename_i c' v' hsq
          simp only [Option.some.injEq, Prod.mk.injEq] at hs
          obtain ⟨rfl, rfl⟩ := hs
          obtain ⟨hle, hc'⟩ := bothC_holds hc
          refine ⟨(h len g rest c' v' hsq hc').2.1, fun us ρ hrel w hG hB hlt => ?_⟩
          match us, hrel with
          | u :: us, ⟨h1, h2⟩ =>
            have h1 := h1 (by simp)
            simp only [gL, Nat.add_zero] at h1
            subst h1
            exact (key hr hsq hle hc' h2 hG (hB (i, b) (by simp))).mono fun e w' ⟨u, h3, h4, h5⟩ => ⟨u, h3, h4 ρ, h5⟩
        · cases hs
      · cases hs
    · cases hs
  · rename_i i len rest
    split at hs
    · rename_i j b
      split at hs
      · rename_i n g hij hr
        obtain rfl : i = j := by simpa using hij
        split at hs
        · rename_i c' v' hsq
          simp only [Option.some.injEq, Prod.mk.injEq] at hs
          obtain ⟨rfl, rfl⟩ := hs
          obtain ⟨hle, hc'⟩ := bothC_holds hc
          refine ⟨(h len g rest c' v' hsq hc').2.1, fun us ρ hrel w hG hB hlt => ?_⟩
          match us, hrel with
          | u :: us, ⟨h1, h2⟩ =>
            have h1 := h1 (by simp)
            simp only [gL] at h1
            subst h1
            exact (key hr hsq hle hc' h2 hG (hB (i, b) (by simp))).mono fun e w' ⟨u, h3, h4, h5⟩ => ⟨u, h3, h4 ρ, h5⟩
        · cases hs
      · cases hs
    · cases hs
  · rename_i ad cap rest
    obtain ⟨hcl, hv, _⟩ := h 0 _ rest c v hs hc
    refine ⟨hv, fun us ρ hrel w hG hB hlt => ?_⟩
    match us, hrel with
    | u :: us, ⟨h1, h2⟩ =>
      have h1 := h1 (by simp)
      simp only [gL] at h1
      subst h1
      have hcl' := closed_spec hcl
      refine (calls_of_FI hC hm hf (h0 rest c v hs hc ad cap) (fun m hm => by simp [look] at hm) (fun v hv m hm => ?_) hv hG (us := .slice ad 0 cap :: us) (ρ := ρ) ⟨fun _ => rfl, h2⟩
        ⟨fun i b hi => by simp [look] at hi, fun i b hi => by simp [look] at hi, fun i c hi => by simp [look] at hi, fun i j c d hi => by simp [look] at hi, Below.refl _ _, Nat.le_refl _⟩).mono fun e w' ⟨u, h3, h4, h5⟩ => ⟨u, h3, h4 ρ, h5⟩
      rcases List.mem_cons.1 hv with rfl | hv
      · simp [AV.names, L.names] at hm
      · rw [hcl' v hv] at hm; simp at hm
  · cases hs
end
end Go.Ep
