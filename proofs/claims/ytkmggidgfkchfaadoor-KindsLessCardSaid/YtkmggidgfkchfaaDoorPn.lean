/-
  Package variables that hold maps of function values, as a tied card's condition gives them ('func table'). Conditions: as typed.
-/
import Derived.Test.YtkmggidgfkchfaaDoorPm
import Derived.LaidMore
namespace Go.Ep
open Go.RowKit Go.ChangeShapes Go.WideShapes Go.WideElems

/-- How the condition reads an element: functions by their names. -/
abbrev elemF (P : Program) (W : World) (n : Nat) (e : TypeId) : Value → Option (DataW (List UInt8) × List MemPlace) := elemAt (funcToken P) P W 0 (fun _ => true) true n e
/-- The variable g holds the map in block b, that reads as D. -/
structure MapF (P : Program) (k e : TypeId) (D : DataW (List UInt8)) (w : World) (g b : Nat) : Prop where
  cell : w.cell? ⟨g, 0, none⟩ = some (.map (some b))
  lowG : g < w.heap.size
  lowB : b < w.heap.size
  row : ∃ es clock n W, w.heap[b]? = some (.map es clock) ∧ Fit P k (elemF P W n e) es clock ∧ D = .map ((es.toList.map (rg P k (elemF P W n e))).foldr DataW.insert [])

section
variable {P : Program} {k e T : TypeId} {D : DataW (List UInt8)} {w w' : World} {g b : Nat}
theorem MapF.later (h : MapF P k e D w g b) (hb : Below w.heap.size w w') : MapF P k e D w' g b := by
  obtain ⟨es, clock, n, W, h1, h2, h3⟩ := h.row
  exact ⟨by rw [World.cell?_of_block (w := w) (hb.block g h.lowG)]; exact h.cell, Nat.lt_of_lt_of_le h.lowG hb.size, Nat.lt_of_lt_of_le h.lowB hb.size, es, clock, n, W, by rw [hb.block b h.lowB]; exact h1, h2, h3⟩
theorem MapF.load (h : MapF P k e D w g b) (hA : isAggT P T = some false) : (loadVar T ⟨g, 0, none⟩).run P w = .ok (.map (some b)) w := by
  simp [loadVar, isAgg_run hA, h.cell]
theorem MapF.look (K : Maps.Keyed P k) (ht : P.underlying T = some (.map k e)) {z : Value} (hz : (zeroValue e).run P w = .ok z w) (h : MapF P k e D w g b) (c : Bool) {key : Value} {kl : Lit} (hkey : keyOf P k key = some kl) :
    ((Instr.lookup T (.map (some b)) key c).run P w = .ok (if c then .tuple #[z, .bool false] else z) w ∧ ∀ zd, D.atKey kl zd = zd) ∨
    ∃ v y n W, (Instr.lookup T (.map (some b)) key c).run P w = .ok (if c then .tuple #[v, .bool true] else v) w ∧ elemF P W n e v = some y ∧ ∀ zd, D.atKey kl zd = y.1 := by
  obtain ⟨es, clock, n, W, h1, h2, h3⟩ := h.row
  rcases Maps.fit_look c K ht hz h1 h2 hkey with ⟨h4, -, h5⟩ | ⟨e0, y, -, -, h4, h5, h6, -⟩
  · exact .inl ⟨h4, by rw [h3]; exact h5⟩
  · exact .inr ⟨_, y, n, W, h4, h5, by rw [h3]; exact h6⟩
theorem laid_mapF {name : String} {d : DataW Unit} {entries : List (Lit × DataW (List UInt8))} (h : funcsAt P w name d) (hd : d.funcsOut = .map entries) (hg : P.globalNamed name = some g)
    (hT : (P.globals[g]?).map (·.type) = some T) (ht : P.underlying T = some (.map k e)) : ∃ b, MapF P k e (.map entries) w g b := by
  obtain ⟨g0, t0, cs0, f0, p0, hg0, ht0, hv0, hd0⟩ := h
  obtain rfl := Option.some.inj (hg.symm.trans hg0)
  obtain rfl := Option.some.inj (hT.symm.trans ht0)
  rw [hd] at hd0
  rcases open_map ht hd0 with ⟨_, hx⟩ | ⟨b, es, clock, n, rfl, hcs, hb, _, F, hx⟩
  · simp at hx
  simp only [Prod.mk.injEq] at hx
  have hcell : w.cell? ⟨g, 0, none⟩ = some (.map (some b)) := by
    have := World.var?_cell hg0 hv0 0
    obtain rfl : cs0 = #[.map (some b)] := by cases cs0; simp_all
    simpa using this
  have lowG : g < w.heap.size := by
    cases ho : w.heap[g]? with
    | none => simp [World.cell?, ho] at hcell
    | some o => exact (Array.getElem?_eq_some_iff.1 ho).1
  exact ⟨b, hcell, lowG, (Array.getElem?_eq_some_iff.1 hb).1, es, clock, n, w, hb, F, hx.1⟩
theorem elem_fn2 {f0 f1 : Field} (he : P.underlying e = some (.struct #[f0, f1])) (o0 : f0.offset = 0) (o1 : f1.offset = 1) (c0 : P.cellsOf f0.type = 1) (c1 : P.cellsOf f1.type = 1) (ce : P.cellsOf e = 2)
    {W : World} {n : Nat} {v : Value} {y : DataW (List UInt8) × List MemPlace} (h : elemF P W n e v = some y) :
    ∃ v0 v1 m y0 y1, v = .agg #[v0, v1] ∧ y.1 = .agg [y0.1, y1.1] ∧ DataW.trod (funcToken P) P W 0 (fun _ => true) true m f0.type [v0] = some y0 ∧ DataW.trod (funcToken P) P W 0 (fun _ => true) true m f1.type [v1] = some y1 := by
  unfold elemF elemAt at h
  split at h
  · rename_i hf
    obtain ⟨y0, y1, m, rfl, hl, g0, g1⟩ := trod_struct2 he h
    cases v <;> simp [Value.formed, he] at hf
    rename_i cs
    obtain ⟨l⟩ := cs
    rw [ce] at hl
    simp [Value.cells] at hl
    match l, hl with
    | [x0, x1], _ =>
      simp [c0, c1, o0, o1, Value.cells] at g0 g1
      exact ⟨x0, x1, m, y0, y1, rfl, rfl, g0, g1⟩
  · cases h
end
end Go.Ep
