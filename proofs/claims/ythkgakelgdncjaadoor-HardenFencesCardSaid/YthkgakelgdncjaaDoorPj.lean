/-
  Tables of contracts, function by function; a law's own call. Conditions: as typed.
-/
import Derived.Test.YthkgakelgdncjaaDoorPi
namespace Go.Ep
open Go.RowKit
set_option linter.unusedVariables false
set_option linter.unusedSimpArgs false

abbrev Sp := List AV → Option (Cond × AV)
def tabF : List (Nat × Sp) → FuncId → List AV → Option (Cond × AV)
  | [], _, _ => none
  | (g, sp) :: r, f, args => match Nat.beq g f with
    | true => sp args
    | false => tabF r f args
/-- What package variables hold, and what look-ups in their maps tell. -/
structure VData where
  glob : TypeId → Nat → Nat → Option AV
  look : TypeId → Bool → Nat → Nat → AV → Option (Cond × AV)
abbrev noData : VData := ⟨fun _ _ _ => none, fun _ _ _ _ _ => none⟩
abbrev tab (D : VData) (l : List (Nat × Sp)) : Table := ⟨fun f args _ => tabF l f args, D.glob, D.look, fun _ _ _ _ _ => Stuck "call", .sym, 0, 0, [], fun _ _ _ => none, []⟩
/-- Contracts, and functions that are gone through in their callers' places. -/
abbrev tabI (P : Program) (D : VData) (l : List (Nat × Sp)) (fs : List (Nat × Func)) (n : Nat) : Table := withInl (tab D l) (inlN P (tab D l) fs n)
/-- Functions that are gone through in their callers' places even where an order is drawn, if all else there comes ahead of them. -/
abbrev withIm (C : Table) (im : List Nat) : Table := ⟨C.fn, C.glob, C.look, C.inl, C.app, C.nm, C.tp, im, C.mkr, C.mks⟩
structure DataOK (P : Program) (G : World → Prop) (D : VData) : Prop where
  stable : ∀ w w', G w → Below w.heap.size w w' → G w'
  globs : ∀ T g off v, D.glob T g off = some v → v.names = [] ∧ ∀ w, G w → ∃ u, (loadVar T ⟨g, off, none⟩).run P w = .ok u w ∧ ∀ ρ, RelA ρ v u
  looks : ∀ T ok g b key c v, D.look T ok g b key = some (c, v) → c.holds → v.names = [] ∧ ∀ w, G w → ∀ ρ k, RelA ρ key k → ∃ u, (Instr.lookup T (.map (some b)) k ok).run P w = .ok u w ∧ RelA ρ v u
def anyWorld : World → Prop := fun _ => True

structure EntryOK (P : Program) (G : World → Prop) (f : FuncId) (sp : Sp) : Prop where
  fn : ∃ fn, P.funcs[f]? = some fn ∧ (fn.name == "runtime.NumGoroutine") = false ∧ fn.body.isNone = false
  calls : ∀ args c v, sp args = some (c, v) → c.holds → v.names = [] ∧
    ∀ us ρ, RelAs ρ args us → ∀ w, G w → Calls P f us.toArray w (fun e w' => ∃ u, e = .returned u ∧ RelA ρ v u ∧ Below w.heap.size w w')

section
variable {P : Program} {G : World → Prop} {D : VData}

theorem CSound.nil (h : DataOK P G D) : CSound P G (tab D []) := ⟨h.stable, h.globs, h.looks, fun f args bs c v e => by simp [tabF] at e, InlOK.none P G, MkOK.none P G⟩
theorem DataOK.none : DataOK P anyWorld noData := ⟨fun _ _ _ _ => trivial, fun _ _ _ _ e => by simp at e, fun _ _ _ _ _ _ _ e => by simp at e⟩
theorem CSound.start : CSound P anyWorld (tab noData []) := CSound.nil .none
theorem CSound.cons {l : List (Nat × Sp)} {f : FuncId} {sp : Sp} (h : CSound P G (tab D l)) (e : EntryOK P G f sp) : CSound P G (tab D ((f, sp) :: l)) := by
  refine ⟨h.stable, h.globs, h.looks, fun g args bs c v hs hc => ?_, InlOK.none P G, MkOK.none P G⟩
  simp only [tabF] at hs
  split at hs
  · rename_i he
    have he' : f = g := by simpa using he
    subst he'
    obtain ⟨h1, h2⟩ := e.calls args c v hs hc
    exact ⟨h1, .inl ⟨e.fn, fun us ρ hr w hG _ _ => h2 us ρ hr w hG⟩⟩
  · exact h.calls g args bs c v hs hc
/-- A function without a body that the model stands in for. -/
structure EntryX (P : Program) (G : World → Prop) (f : FuncId) (sp : Sp) : Prop where
  calls : ∀ args c v, sp args = some (c, v) → c.holds → v.names = [] ∧
    ∀ us ρ, RelAs ρ args us → ∀ w, G w → ∃ u w', (callFunc f us.toArray).run P w = .ok (.value u) w' ∧ RelA ρ v u ∧ Below w.heap.size w w'
theorem CSound.consX {l : List (Nat × Sp)} {f : FuncId} {sp : Sp} (h : CSound P G (tab D l)) (e : EntryX P G f sp) : CSound P G (tab D ((f, sp) :: l)) := by
  refine ⟨h.stable, h.globs, h.looks, fun g args bs c v hs hc => ?_, InlOK.none P G, MkOK.none P G⟩
  simp only [tabF] at hs
  split at hs
  · rename_i he
    have he' : f = g := by simpa using he
    subst he'
    obtain ⟨h1, h2⟩ := e.calls args c v hs hc
    exact ⟨h1, .inr fun us ρ hr w hG _ => h2 us ρ hr w hG⟩
  · exact h.calls g args bs c v hs hc

theorem relA_any {ρ ρ' : Nat → Loc} {v : AV} {u : Value} (h : RelA ρ v u) (hn : v.names = []) : RelA ρ' v u := relA_agree h (by simp [hn])
theorem CSound.tabI {l : List (Nat × Sp)} (h : CSound P G (tab D l)) (hm : P.follows .mixedOrders = true) {fs : List (Nat × Func)} (hfs : FsOK P fs) (n : Nat) : CSound P G (tabI P D l fs n) :=
  h.inl' (inlN_sound h hm hfs n) .sym 0 0 [] []
def closed : List AV → Bool
  | [] => true
  | v :: vs => match v.names with
    | [] => closed vs
    | _ => false
theorem closed_spec : ∀ {l : List AV}, closed l = true → ∀ v ∈ l, v.names = []
  | [], _, v, hv => by simp at hv
  | x :: l, h, v, hv => by
    simp only [closed] at h
    split at h
    · rename_i hx
      rcases List.mem_cons.1 hv with rfl | hv
      · exact hx
      · exact closed_spec h v hv
    · cases h
theorem EntryOK.of_F {C : Table} (hC : CSound P G C) (hm : P.follows .mixedOrders = true) {f : FuncId} {fn : Func} {sp : Sp} (hf : P.funcs[f]? = some fn)
    (hn : (fn.name == "runtime.NumGoroutine") = false) (hb : fn.body.isNone = false)
    (h : ∀ args c v, sp args = some (c, v) → c.holds → v.names = [] ∧ closed args = true ∧ F P C fn args (fun r => r = v)) : EntryOK P G f sp := by
  refine ⟨⟨fn, hf, hn, hb⟩, fun args c v hs hc => ?_⟩
  obtain ⟨h1, h2, h3⟩ := h args c v hs hc
  refine ⟨h1, fun us ρ hrel w hG => ?_⟩
  refine (F_sound hC hm hf h3 (closed_spec h2) hrel hG).mono ?_
  rintro e w' ⟨v', u, ρ', rfl, rfl, hr, hb⟩
  exact ⟨u, rfl, relA_any hr h1, hb⟩
theorem RelH.one {q : Loc} {T : TypeId} {ls : List L} {w : World} {cs : Array Value} {fr : Nat × Nat} (hw : w.heap[q.b]? = some (.cells cs T fr)) {us ws : List Value} (hd : cs.toList.drop q.o = us ++ ws) (hr : RelLs (fun _ => q) ls us) (hn : lnames ls = []) :
    RelH w.heap.size w (fun _ => q) (look [(0, .ro T ls)]) w := by
  have hlt : q.b < w.heap.size := (Array.getElem?_eq_some_iff.1 hw).1
  have key : ∀ i c, look [(0, Blk.ro T ls)] i = some c → c = .ro T ls ∧ i = 0 := fun i c hi => by
    rw [look_eq_beq] at hi
    split at hi
    · rename_i e; exact ⟨(Option.some.inj hi).symm, e.symm⟩
    · simp [look] at hi
  refine ⟨fun i c hi => ?_, fun i c hi m hm => ?_, fun i c hi => ?_, fun i j c d hi hj ho _ => ?_, Below.refl _ _, Nat.le_refl _⟩
  · obtain ⟨rfl, -⟩ := key i c hi; exact ⟨cs, fr, hw, us, ws, hd, hr⟩
  · obtain ⟨rfl, -⟩ := key i c hi; rw [show (Blk.ro T ls).names = lnames ls from rfl, hn] at hm; simp at hm
  · obtain ⟨rfl, -⟩ := key i c hi; exact ⟨(fun h => by cases h), fun _ => hlt⟩
  · obtain ⟨rfl, -⟩ := key i c hi; cases ho
/-- A function that is handed read-only memory. -/
theorem calls_of_FI {C : Table} (hC : CSound P G C) (hm : P.follows .mixedOrders = true) {f : FuncId} {fn : Func} (hf : P.funcs[f]? = some fn) {nm : Nat} {args : List AV} {h : List (Nat × Blk)} {v : AV}
    (hF : FI P C fn nm args h (fun r _ => r = v)) (hlt : ∀ m, look h m ≠ none → m < nm) (hn : ∀ v ∈ args, ∀ m ∈ v.names, look h m ≠ none) (hv : v.names = []) {ρ : Nat → Loc} {us : List Value} {w : World} (hG : G w)
    (hargs : RelAs ρ args us) (H : RelH w.heap.size w ρ (look h) w) : Calls P f us.toArray w (fun e w' => ∃ u, e = .returned u ∧ (∀ ρ, RelA ρ v u) ∧ Below w.heap.size w w') := by
  refine (FI_sound hC hm hf hF hlt hn w.heap.size w ρ us w hG rfl hargs H).mono ?_
  rintro e w' ⟨v', h', u, ρ', rfl, rfl, hr, -, H', -⟩
  exact ⟨u, rfl, fun ρ'' => relA_any hr hv, H'.below⟩
/-- A law's own call: it answers true. -/
theorem law_of_F {C : Table} (hC : CSound P G C) (hm : P.follows .mixedOrders = true) {f : FuncId} {fn : Func} (hf : P.funcs[f]? = some fn) {args : List AV} (hcl : closed args = true)
    (h : F P C fn args (fun r => r = .one (.bool true))) {us : List Value} (hrel : RelAs (fun n => ⟨n, 0, 0⟩) args us) {w : World} (hG : G w) :
    Calls P f us.toArray w (fun e w' => e = .returned (.bool true) ∧ Below w.heap.size w w') := by
  refine (F_sound hC hm hf h (closed_spec hcl) hrel hG).mono ?_
  rintro e w' ⟨v', u, ρ', rfl, rfl, hr, hb⟩
  have := hr (by simp)
  simp only [gL] at this
  exact ⟨by rw [this], hb⟩
/-- A number that fits its kind is a bit vector's. -/
theorem vI_of (K : IntKind) (n : Int) (h : (Lit.int K n).wf = true) : ∃ x : BitVec K.bits, n = vI K.signed x := by
  have hk : K.wrap n = n := by
    simp only [Lit.wf] at h
    cases K <;> simp [IntKind.min, IntKind.max, IntKind.bits, IntKind.signed, IntKind.wrap] at h ⊢ <;> omega
  exact ⟨BitVec.ofInt K.bits n, by rw [← wrap_vI, hk]⟩
end
end Go.Ep
