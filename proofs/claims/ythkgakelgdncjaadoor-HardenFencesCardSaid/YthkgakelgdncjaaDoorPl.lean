/-
  A contract of a function that is handed an own map of its caller's, and leaves it as it is; laws that are handed slices. Conditions: as typed.
-/
import Derived.Test.YthkgakelgdncjaaDoorPk
namespace Go.Ep
open Go.RowKit
set_option linter.unusedVariables false
set_option linter.unusedSimpArgs false

abbrev SpM := List AV → List (Nat × Blk) → Option (Cond × AV)
def tabG : List (Nat × SpM) → FuncId → List AV → List (Nat × Blk) → Option (Cond × AV) → Option (Cond × AV)
  | [], _, _, _, d => d
  | (g, sp) :: r, f, args, bs, d => match Nat.beq g f with
    | true => sp args bs
    | false => tabG r f args bs d
/-- Contracts, and some of functions that are handed a map. -/
abbrev tabM (D : VData) (l : List (Nat × Sp)) (ms : List (Nat × SpM)) : Table := ⟨fun f args bs => tabG ms f args bs (tabF l f args), D.glob, D.look, fun _ _ _ _ _ => Stuck "call", .sym, 0, 0, [], fun _ _ _ => none, []⟩
abbrev tabMI (P : Program) (D : VData) (l : List (Nat × Sp)) (ms : List (Nat × SpM)) (fs : List (Nat × Func)) (n : Nat) : Table := withInl (tabM D l ms) (inlN P (tabM D l ms) fs n)
def mapOf : Blk → Option (List (BitVec 64 × BitVec 64))
  | .imap es => some es
  | .romap es => some es
  | _ => none
def lastA : List AV → Option (List AV × AV)
  | [] => none
  | x :: r => match r with
    | [] => some ([], x)
    | _ :: _ => match lastA r with
      | some (p, l) => some (x :: p, l)
      | none => none
/-- A contract of a function whose last argument is a map, that it leaves as it is, and does not ask. -/
def spM (sp : Sp) : SpM := fun args bs => match bs with
  | [(j, b)] => match mapOf b with
    | some _ => match lastA args with
      | some (pre, .one (.imap i)) => match Nat.beq j i with
        | true => sp pre
        | false => none
      | _ => none
    | none => none
  | _ => none
theorem lastA_eq : ∀ {l : List AV} {p : List AV} {x : AV}, lastA l = some (p, x) → l = p ++ [x]
  | [], _, _, h => by cases h
  | y :: r, p, x, h => by
    simp only [lastA] at h
    split at h
    · simp only [Option.some.injEq, Prod.mk.injEq] at h
      obtain ⟨rfl, rfl⟩ := h
      rfl
    · split at h
      · rename_i q l hq
        simp only [Option.some.injEq, Prod.mk.injEq] at h
        obtain ⟨rfl, rfl⟩ := h
        rw [lastA_eq hq]; rfl
      · cases h
structure EntryM (P : Program) (G : World → Prop) (f : FuncId) (sp : SpM) : Prop where
  fn : ∃ fn, P.funcs[f]? = some fn ∧ (fn.name == "runtime.NumGoroutine") = false ∧ fn.body.isNone = false
  calls : ∀ args bs c v, sp args bs = some (c, v) → c.holds → v.names = [] ∧
    ∀ us ρ, RelAs ρ args us → ∀ w, G w → RelBs ρ bs w → (∀ p ∈ bs, (ρ p.1).b < w.heap.size) → Calls P f us.toArray w (fun e w' => ∃ u, e = .returned u ∧ RelA ρ v u ∧ Below w.heap.size w w')

section
variable {P : Program} {G : World → Prop} {D : VData}
theorem CSound.consM {l : List (Nat × Sp)} {ms : List (Nat × SpM)} {g : Nat} {sp : SpM} (h : CSound P G (tabM D l ms)) (e : EntryM P G g sp) : CSound P G (tabM D l ((g, sp) :: ms)) := by
  refine ⟨h.stable, h.globs, h.looks, fun f args bs c v hs hc => ?_, InlOK.none P G, MkOK.none P G⟩
  simp only [tabG] at hs
  split at hs
  · rename_i he
    have he' : g = f := by simpa using he
    subst he'
    obtain ⟨h1, h2⟩ := e.calls args bs c v hs hc
    exact ⟨h1, .inl ⟨e.fn, h2⟩⟩
  · exact h.calls f args bs c v hs hc
theorem CSound.startM {l : List (Nat × Sp)} (h : CSound P G (tab D l)) : CSound P G (tabM D l []) := h
theorem CSound.tabMI {l : List (Nat × Sp)} {ms : List (Nat × SpM)} (h : CSound P G (tabM D l ms)) (hm : P.follows .mixedOrders = true) {fs : List (Nat × Func)} (hfs : FsOK P fs) (n : Nat) : CSound P G (tabMI P D l ms fs n) :=
  h.inl' (inlN_sound h hm hfs n) .sym 0 0 [] []
theorem EntryOK.up {f : FuncId} {sp : Sp} (e : EntryOK P G f sp) : EntryM P G f (fun args _ => sp args) := ⟨e.fn, fun args bs c v hs hc => ⟨(e.calls args c v hs hc).1, fun us ρ hr w hG _ _ => (e.calls args c v hs hc).2 us ρ hr w hG⟩⟩
theorem relAs_snoc {ρ : Nat → Loc} : ∀ {pre : List AV} {x : AV} {us : List Value}, RelAs ρ (pre ++ [x]) us → ∃ us1 u, us = us1 ++ [u] ∧ RelAs ρ pre us1 ∧ RelA ρ x u
  | [], _, [], h => h.elim
  | [], _, u :: us, h => by
    obtain ⟨h1, h2⟩ := h
    cases us with
    | nil => exact ⟨[], u, rfl, trivial, h1⟩
    | cons _ _ => exact h2.elim
  | _ :: _, _, [], h => h.elim
  | p :: pre, _, u :: us, h => by
    obtain ⟨h1, h2⟩ := h
    obtain ⟨us1, u', rfl, h3, h4⟩ := relAs_snoc h2
    exact ⟨u :: us1, u', rfl, ⟨h1, h3⟩, h4⟩
theorem relAs_snoc_mk {ρ : Nat → Loc} : ∀ {pre : List AV} {x : AV} {us1 : List Value} {u : Value}, RelAs ρ pre us1 → RelA ρ x u → RelAs ρ (pre ++ [x]) (us1 ++ [u])
  | [], _, [], _, _, h => ⟨h, trivial⟩
  | [], _, _ :: _, _, h, _ => h.elim
  | _ :: _, _, [], _, h, _ => h.elim
  | _ :: _, _, _ :: _, _, h, h' => ⟨h.1, relAs_snoc_mk h.2 h'⟩
theorem relAs_any {ρ ρ' : Nat → Loc} : ∀ {l : List AV} {us : List Value}, (∀ v ∈ l, v.names = []) → RelAs ρ l us → RelAs ρ' l us
  | [], [], _, _ => trivial
  | [], _ :: _, _, h => h.elim
  | _ :: _, [], _, h => h.elim
  | v :: l, u :: us, hn, h => ⟨relA_any h.1 (hn v (by simp)), relAs_any (fun v hv => hn v (by simp [hv])) h.2⟩
theorem RelH.romap {ρ : Nat → Loc} {q : Loc} {w : World} {es : List (BitVec 64 × BitVec 64)} (h : RelB ρ q (.romap es) w.heap[q.b]?) (hlt : q.b < w.heap.size) : RelH w.heap.size w (fun _ => q) (look [(0, .romap es)]) w := by
  have key : ∀ i c, look [(0, Blk.romap es)] i = some c → c = .romap es ∧ i = 0 := fun i c hi => by
    rw [look_eq_beq] at hi
    split at hi
    · rename_i e; exact ⟨(Option.some.inj hi).symm, e.symm⟩
    · simp [look] at hi
  refine ⟨fun i c hi => ?_, fun i c hi m hm => ?_, fun i c hi => ?_, fun i j c d hi hj ho _ => ?_, Below.refl _ _, Nat.le_refl _⟩
  · obtain ⟨rfl, -⟩ := key i c hi; exact h
  · obtain ⟨rfl, -⟩ := key i c hi; simp [Blk.names] at hm
  · obtain ⟨rfl, -⟩ := key i c hi; exact ⟨(fun h => by cases h), fun _ => hlt⟩
  · obtain ⟨rfl, -⟩ := key i c hi; cases ho
theorem EntryM.of_FI {C : Table} (hC : CSound P G C) (hm : P.follows .mixedOrders = true) {f : FuncId} {fn : Func} {sp : Sp} (hf : P.funcs[f]? = some fn)
    (hn : (fn.name == "runtime.NumGoroutine") = false) (hb : fn.body.isNone = false)
    (h : ∀ pre c v es, sp pre = some (c, v) → c.holds → closed pre = true ∧ v.names = [] ∧ FI P C fn 1 (pre ++ [.one (.imap 0)]) [(0, .romap es)] (fun r _ => r = v)) : EntryM P G f (spM sp) := by
  refine ⟨⟨fn, hf, hn, hb⟩, fun args bs c v hs hc => ?_⟩
  unfold spM at hs
  split at hs
  · rename_i j b
    split at hs
    · rename_i es hes
      split at hs
      · rename_i pre i hl
        split at hs
        · rename_i hj
          obtain rfl : j = i := by simpa using hj
          obtain rfl := lastA_eq hl
          obtain ⟨h1, h2, h3⟩ := h pre c v es hs hc
          refine ⟨h2, fun us ρ hrel w hG hB hlt => ?_⟩
          obtain ⟨us1, u, rfl, h4, h5⟩ := relAs_snoc hrel
          have hcl := closed_spec h1
          have hB' : RelB ρ (ρ j) (.romap es) w.heap[(ρ j).b]? := by
            have := hB (j, b) (by simp)
            cases b <;> simp [mapOf] at hes <;> subst hes <;> exact this
          have hq : (ρ j).b < w.heap.size := hlt (j, b) (by simp)
          have hu : RelA (fun _ => ρ j) (.one (.imap 0)) u := fun _ => h5 (by simp)
          refine (calls_of_FI hC hm hf h3 (fun m hm => ?_) (fun v hv m hm => ?_) h2 hG (relAs_snoc_mk (relAs_any hcl h4) hu) (RelH.romap (ρ := ρ) hB' hq)).mono ?_
          · rw [look_eq_beq] at hm
            split at hm
            · rename_i e; omega
            · simp [look] at hm
          · rcases List.mem_append.1 hv with hv | hv
            · rw [hcl v hv] at hm; simp at hm
            · obtain rfl : v = .one (.imap 0) := by simpa using hv
              obtain rfl : m = 0 := by simpa [AV.names, L.names] using hm
              rw [look_eq_beq]; simp
          · rintro e w' ⟨u', rfl, h6, h7⟩
            exact ⟨u', rfl, h6 ρ, h7⟩
        · cases hs
      · cases hs
    · cases hs
  · cases hs
/-- A law that is handed an empty slice. -/
theorem law_of_FI0 {C : Table} (hC : CSound P G C) (hm : P.follows .mixedOrders = true) {f : FuncId} {fn : Func} (hf : P.funcs[f]? = some fn) {args : List AV}
    (hF : FI P C fn 1 args [] (fun r _ => r = .one (.bool true))) (hcl : closed args = true) {us : List Value} {w : World} (hG : G w) (hrel : RelAs (fun _ => ⟨0, 0, 0⟩) args us) :
    Calls P f us.toArray w (fun e w' => e = .returned (.bool true) ∧ Below w.heap.size w w') := by
  refine (calls_of_FI hC hm hf hF (fun m hm => ?_) (fun v hv m hm => ?_) rfl hG hrel ⟨fun i b hi => ?_, fun i b hi => ?_, fun i c hi => ?_, fun i j c d hi => ?_, Below.refl _ _, Nat.le_refl _⟩).mono ?_
  · simp [look] at hm
  · rw [closed_spec hcl v hv] at hm; simp at hm
  · simp [look] at hi
  · simp [look] at hi
  · simp [look] at hi
  · simp [look] at hi
  · rintro e w' ⟨u', rfl, h6, h7⟩
    have := h6 (fun _ => ⟨0, 0, 0⟩) (by simp)
    simp only [gL] at this
    exact ⟨by rw [this], h7⟩
/-- A law that is handed a slice: its own call answers true. -/
theorem law_of_FI {C : Table} (hC : CSound P G C) (hm : P.follows .mixedOrders = true) {f : FuncId} {fn : Func} (hf : P.funcs[f]? = some fn) {T : TypeId} {ls : List L} {l : L} {rest : List AV}
    (hF : FI P C fn 1 (.one l :: rest) [(0, .ro T ls)] (fun r _ => r = .one (.bool true))) (hl : l.names = [0]) (hcl : closed rest = true) (hls : lnames ls = []) {q : Loc} {w : World} {cs : Array Value} {fr : Nat × Nat} (hG : G w)
    (hw : w.heap[q.b]? = some (.cells cs T fr)) {us0 ws : List Value} (hd : cs.toList.drop q.o = us0 ++ ws) (hr : RelLs (fun _ => q) ls us0) {us : List Value} (hrel : RelAs (fun _ => q) (.one l :: rest) us) :
    Calls P f us.toArray w (fun e w' => e = .returned (.bool true) ∧ Below w.heap.size w w') := by
  refine (calls_of_FI hC hm hf hF (fun m hm => ?_) (fun v hv m hm => ?_) rfl hG hrel (RelH.one hw hd hr hls)).mono ?_
  · rw [look_eq_beq] at hm
    split at hm
    · rename_i e; omega
    · simp [look] at hm
  · rcases List.mem_cons.1 hv with rfl | hv
    · have hm : m ∈ l.names := hm
      rw [hl] at hm
      obtain rfl : m = 0 := by simpa using hm
      rw [look_eq_beq]; simp
    · rw [closed_spec hcl v hv] at hm; simp at hm
  · rintro e w' ⟨u', rfl, h6, h7⟩
    have := h6 (fun _ => q) (by simp)
    simp only [gL] at this
    exact ⟨by rw [this], h7⟩
end
end Go.Ep
