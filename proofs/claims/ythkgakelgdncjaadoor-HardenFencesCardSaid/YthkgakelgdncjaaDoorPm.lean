/-
  Package variables that hold maps, as a tied card's condition gives them: what the evaluator's tables say of them. Conditions: as typed.
-/
import Derived.Test.YthkgakelgdncjaaDoorPk
import Derived.Maps.Keyed
import Derived.WideKeyArgs
import Derived.WideKeyArgs2
import Derived.WideKeyElems2
import Derived.Deep.Strs
import Derived.MakeChecks
import Derived.FnData
namespace Go.Ep
open Go.RowKit Go.ChangeShapes Go.WideShapes Go.WideElems
set_option linter.unusedVariables false
set_option linter.unusedSimpArgs false

/-- How the condition reads an element. -/
abbrev elemU (P : Program) (W : World) (n : Nat) (e : TypeId) : Value → Option (DataW Unit × List MemPlace) := elemAt (fun _ => ()) P W 0 (fun _ => true) false n e
/-- The variable g holds the map in block b, that reads as D. -/
structure MapIs (P : Program) (k e : TypeId) (D : DataW Unit) (w : World) (g b : Nat) : Prop where
  cell : w.cell? ⟨g, 0, none⟩ = some (.map (some b))
  lowG : g < w.heap.size
  lowB : b < w.heap.size
  row : ∃ es clock n W, w.heap[b]? = some (.map es clock) ∧ Fit P k (elemU P W n e) es clock ∧ D = .map ((es.toList.map (rg P k (elemU P W n e))).foldr DataW.insert [])

section
variable {P : Program} {k e T : TypeId} {D : DataW Unit} {w w' : World} {g b : Nat}
theorem MapIs.later (h : MapIs P k e D w g b) (hb : Below w.heap.size w w') : MapIs P k e D w' g b := by
  obtain ⟨es, clock, n, W, h1, h2, h3⟩ := h.row
  exact ⟨by rw [World.cell?_of_block (w := w) (hb.block g h.lowG)]; exact h.cell, Nat.lt_of_lt_of_le h.lowG hb.size, Nat.lt_of_lt_of_le h.lowB hb.size, es, clock, n, W, by rw [hb.block b h.lowB]; exact h1, h2, h3⟩
theorem MapIs.load (h : MapIs P k e D w g b) (hA : isAggT P T = some false) : (loadVar T ⟨g, 0, none⟩).run P w = .ok (.map (some b)) w := by
  simp [loadVar, isAgg_run hA, h.cell]
theorem MapIs.look (K : Maps.Keyed P k) (ht : P.underlying T = some (.map k e)) {z : Value} (hz : (zeroValue e).run P w = .ok z w) (h : MapIs P k e D w g b) (c : Bool) {key : Value} {kl : Lit} (hkey : keyOf P k key = some kl) :
    ((Instr.lookup T (.map (some b)) key c).run P w = .ok (if c then .tuple #[z, .bool false] else z) w ∧ ∀ zd, D.atKey kl zd = zd) ∨
    ∃ v y n W, (Instr.lookup T (.map (some b)) key c).run P w = .ok (if c then .tuple #[v, .bool true] else v) w ∧ elemU P W n e v = some y ∧ ∀ zd, D.atKey kl zd = y.1 := by
  obtain ⟨es, clock, n, W, h1, h2, h3⟩ := h.row
  rcases Maps.fit_look c K ht hz h1 h2 hkey with ⟨h4, -, h5⟩ | ⟨e0, y, -, -, h4, h5, h6, -⟩
  · exact .inl ⟨h4, by rw [h3]; exact h5⟩
  · exact .inr ⟨_, y, n, W, h4, h5, by rw [h3]; exact h6⟩
theorem laid_map {name : String} {entries : List (Lit × DataW Unit)} {rest : List (String × DataW Unit)} {ps : List MemPlace} (h : DataW.LaidVars P w ((name, .map entries) :: rest) ps) (hg : P.globalNamed name = some g)
    (hT : (P.globals[g]?).map (·.type) = some T) (ht : P.underlying T = some (.map k e)) : (∃ b, MapIs P k e (.map entries) w g b) ∧ ∃ q, DataW.LaidVars P w rest q := by
  obtain ⟨g0, t0, cs0, f0, p0, q0, hg0, ht0, hv0, hd0, hr, -⟩ := h
  obtain rfl := Option.some.inj (hg.symm.trans hg0)
  obtain rfl := Option.some.inj (hT.symm.trans ht0)
  refine ⟨?_, q0, hr⟩
  rcases open_map ht hd0 with ⟨_, hx⟩ | ⟨b, es, clock, n, rfl, hcs, hb, _, F, hx⟩
  · simp at hx
  simp only [Prod.mk.injEq] at hx
  have hcell : w.cell? ⟨g, 0, none⟩ = some (.map (some b)) := by
    have := World.var?_cell hg0 hv0 0
    obtain rfl : cs0 = #[.map (some b)] := by cases cs0; simp_all
    simpa using this
  have lowG : g < w.heap.size := by
    cases ho : w.heap[g]? with
    | none => simp [World.cell?, ho] at hcell
    | some o => exact (Array.getElem?_eq_some_iff.1 ho).1
  exact ⟨b, hcell, lowG, (Array.getElem?_eq_some_iff.1 hb).1, es, clock, n, w, hb, F, hx.1⟩
theorem elem_int {q : IntKind} (he : P.underlying e = some (.int q)) {W : World} {n : Nat} {v : Value} {y : DataW Unit × List MemPlace} (h : elemU P W n e v = some y) : ∃ a, v = .int q a ∧ y.1 = .lit (.int q a) := by
  obtain ⟨a, h1, h2, -⟩ := elemAt_int he h
  exact ⟨a, h1, by rw [h2]⟩
theorem elem_bool3 {f0 f1 f2 : Field} (he : P.underlying e = some (.struct #[f0, f1, f2])) (o0 : f0.offset = 0) (o1 : f1.offset = 1) (o2 : f2.offset = 2) (h0 : P.underlying f0.type = some .bool) (h1 : P.underlying f1.type = some .bool)
    (h2 : P.underlying f2.type = some .bool) (c0 : P.cellsOf f0.type = 1) (c1 : P.cellsOf f1.type = 1) (c2 : P.cellsOf f2.type = 1) (ce : P.cellsOf e = 3) {W : World} {n : Nat} {v : Value} {y : DataW Unit × List MemPlace} (h : elemU P W n e v = some y) :
    ∃ a b c, v = .agg #[.bool a, .bool b, .bool c] ∧ y.1 = .agg [.lit (.bool a), .lit (.bool b), .lit (.bool c)] := by
  unfold elemU elemAt at h
  split at h
  · rename_i hf
    obtain ⟨y0, y1, y2, m, rfl, hl, g0, g1, g2⟩ := Deep.trod_struct3 he h
    obtain ⟨a, e0, rfl⟩ := DataW.trod_bool h0 g0
    obtain ⟨b, e1, rfl⟩ := DataW.trod_bool h1 g1
    obtain ⟨c, e2, rfl⟩ := DataW.trod_bool h2 g2
    cases v <;> simp [Value.formed, he] at hf
    rename_i cs
    obtain ⟨l⟩ := cs
    rw [ce] at hl
    simp [Value.cells] at hl e0 e1 e2
    match l, hl with
    | [x0, x1, x2], _ =>
      simp [c0, c1, c2, o0, o1, o2] at e0 e1 e2
      subst e0 e1 e2
      exact ⟨a, b, c, rfl, rfl⟩
  · cases h
end
end Go.Ep
