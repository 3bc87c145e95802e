/-
  Package variables that hold plain values (numbers, bools, texts; structs and arrays of these), and slices of integers, as a tied card's condition gives them: what their cells are. Conditions: as typed.
-/
import Derived.Test.YthkgakelgdncjaaDoorPm
import Derived.Test.YthkgakelgdncjaaDoorFlat
import Derived.ChangeSlices
namespace Go.Proofs.YthkgakelgdncjaaDoor
open Go.ChangeShapes Go.WideShapes Go.ChangeAt Go.RowKit
set_option linter.unusedVariables false
set_option linter.unusedSimpArgs false

/-- The cells of plain data. -/
def flatC {H : Type} : Nat → DataW H → List Value
  | 0, _ => []
  | _ + 1, .lit (.int k n) => [.int k n]
  | _ + 1, .lit (.bool b) => [.bool b]
  | _ + 1, .lit (.string s) => [.string ⟨⟨s⟩⟩]
  | n + 1, .agg ds => ds.flatMap (flatC n)
  | _, _ => []
theorem oks_len : ∀ {ls : List Leaf} {cs : List Value}, oks ls cs → ls.length = cs.length
  | [], [], _ => rfl
  | _ :: _, _ :: _, h => by simp [oks_len h.2]
  | [], _ :: _, h => h.elim
  | _ :: _, [], h => h.elim

section
variable {H : Type} {enc : TypeId × Value → H} {P : Program} {w : World} {base : Nat} {spare : Nat → Bool} {held : Bool}

theorem fields_data {m d : Nat} {g : TypeId → Option (List Leaf)}
    (hg : ∀ t l cs x, g t = some l → DataW.trod enc P w base spare held m t cs = some x → flatC d x.1 = cs ∧ l.length = cs.length) (cs : List Value) :
    ∀ (fs : List Field) (o : Nat) (ls : List Leaf) (xs : List (DataW H × List MemPlace)), flatFields P g o fs = some ls → o + ls.length = cs.length →
      (fs.mapM fun f => DataW.trod enc P w base spare held m f.type ((cs.drop f.offset).take (P.cellsOf f.type))) = some xs → (xs.map (·.1)).flatMap (flatC d) = cs.drop o := by
  intro fs
  induction fs with
  | nil =>
    intro o ls xs h hl hx
    simp only [flatFields, Option.some.injEq] at h
    subst h
    simp at hx
    subst hx
    rw [List.drop_of_length_le (by simp at hl; omega)]
    rfl
  | cons f fs ih =>
    intro o ls xs h hl hx
    simp only [flatFields] at h
    split at h
    · rename_i ho
      obtain ⟨l, hgl, h⟩ := Option.bind_eq_some_iff.1 h
      split at h
      · rename_i hlen
        obtain ⟨ls', h', rfl⟩ := Option.map_eq_some_iff.1 h
        simp only [List.mapM_cons, Option.bind_eq_bind, Option.pure_def] at hx
        obtain ⟨x, hx0, hx⟩ := Option.bind_eq_some_iff.1 hx
        obtain ⟨xs', hx1, hx⟩ := Option.bind_eq_some_iff.1 hx
        obtain rfl := Option.some.inj hx
        obtain ⟨h1, h2⟩ := hg _ _ _ _ hgl hx0
        rw [ho, ← hlen] at h1
        have h3 := ih _ _ _ h' (by simp at hl; omega) hx1
        rw [split_at cs o l.length]
        simp only [List.map_cons, List.flatMap_cons]
        rw [h1, h3]
      · cases h
    · cases h
theorem array_data {m d : Nat} {e : TypeId} {l : List Leaf} (hg : ∀ cs x, DataW.trod enc P w base spare held m e cs = some x → flatC d x.1 = cs ∧ l.length = cs.length) (cs : List Value) (c : Nat) (hc : l.length = c) :
    ∀ (n o : Nat) (xs : List (DataW H × List MemPlace)), o + n * c = cs.length →
      ((List.range' 0 n).mapM fun i => DataW.trod enc P w base spare held m e ((cs.drop (o + i * c)).take c)) = some xs → (xs.map (·.1)).flatMap (flatC d) = cs.drop o := by
  have key : ∀ (n s o : Nat) (xs : List (DataW H × List MemPlace)), o + (s + n) * c = cs.length →
      ((List.range' s n).mapM fun i => DataW.trod enc P w base spare held m e ((cs.drop (o + i * c)).take c)) = some xs → (xs.map (·.1)).flatMap (flatC d) = cs.drop (o + s * c) := by
    intro n
    induction n with
    | zero =>
      intro s o xs hl hx
      simp at hx
      subst hx
      rw [List.drop_of_length_le (by simp at hl; omega)]
      rfl
    | succ n ih =>
      intro s o xs hl hx
      rw [List.range'_succ] at hx
      simp only [List.mapM_cons, Option.bind_eq_bind, Option.pure_def] at hx
      obtain ⟨x, hx0, hx⟩ := Option.bind_eq_some_iff.1 hx
      obtain ⟨xs', hx1, hx⟩ := Option.bind_eq_some_iff.1 hx
      obtain rfl := Option.some.inj hx
      obtain ⟨h1, h2⟩ := hg _ _ hx0
      have h3 := ih (s + 1) o xs' (by rw [show s + 1 + n = s + (n + 1) by omega]; exact hl) hx1
      rw [split_at cs (o + s * c) c]
      simp only [List.map_cons, List.flatMap_cons]
      rw [h1, h3, show o + (s + 1) * c = o + s * c + c by rw [Nat.add_mul]; omega]
  intro n o xs hl hx
  have := key n 0 o xs (by simpa using hl) hx
  simpa using this
/-- **Plain data are their cells.** -/
theorem flat_data : ∀ (d fuel : Nat) (t : TypeId) (l : List Leaf) (cs : List Value) (x : DataW H × List MemPlace), flat P d t = some l → DataW.trod enc P w base spare held fuel t cs = some x →
    flatC d x.1 = cs ∧ l.length = cs.length := by
  intro d
  induction d with
  | zero => intro _ _ _ _ _ h; cases h
  | succ d ih =>
    intro fuel t l cs x hf h
    refine ⟨?_, oks_len (flat_oks (d + 1) fuel t l cs x hf h)⟩
    simp only [flat] at hf
    cases fuel with
    | zero => simp [DataW.trod] at h
    | succ fuel =>
      unfold DataW.trod at h
      split at hf
      · rename_i ht
        rw [ht] at h
        split at h <;> simp_all
        subst h; rfl
      · rename_i k ht
        rw [ht] at h
        split at h <;> simp_all
        obtain ⟨-, rfl⟩ := h; rfl
      · rename_i ht
        rw [ht] at h
        split at h <;> simp_all
        obtain ⟨-, rfl⟩ := h; rfl
      · rename_i fs ht
        obtain ⟨l', h1, h2⟩ := Option.bind_eq_some_iff.1 hf
        split at h2
        · rename_i hl
          obtain rfl := Option.some.inj h2
          rw [ht] at h
          simp only at h
          split at h
          · rename_i hcs
            obtain ⟨xs, hx, rfl⟩ := Option.map_eq_some_iff.1 h
            have := fields_data (d := d) (fun t l cs x a b => ih fuel t l cs x a b) cs fs.toList 0 l' xs h1 (by omega) hx
            simpa [flatC] using this
          · cases h
        · cases h2
      · rename_i n e ht
        obtain ⟨l', h1, h2⟩ := Option.bind_eq_some_iff.1 hf
        split at h2
        · rename_i hl
          rw [ht] at h
          simp only at h
          split at h
          · rename_i hcs
            obtain ⟨xs, hx, rfl⟩ := Option.map_eq_some_iff.1 h
            have := array_data (d := d) (fun cs x b => ih fuel e l' cs x h1 b) cs (P.cellsOf e) hl.1 n 0 xs (by rw [← hl.1, Nat.zero_add, hl.2, hcs]) (by simpa [List.range_eq_range'] using hx)
            simpa [flatC] using this
          · cases h
        · cases h2
      · cases hf
end

/-- The variable's own cells. -/
theorem laid_flat {P : Program} {w : World} {name : String} {D : DataW Unit} {rest : List (String × DataW Unit)} {ps : List MemPlace} {g : Nat} {T : TypeId} {l : List Leaf} (h : DataW.LaidVars P w ((name, D) :: rest) ps) (hg : P.globalNamed name = some g)
    (hT : (P.globals[g]?).map (·.type) = some T) (d : Nat) (hf : flat P d T = some l) : (∀ j, j < (flatC d D).length → w.cell? ⟨g, j, none⟩ = (flatC d D)[j]?) ∧ ∃ q, DataW.LaidVars P w rest q := by
  obtain ⟨g0, t0, cs0, f0, p0, q0, hg0, ht0, hv0, hd0, hr, -⟩ := h
  obtain rfl := Option.some.inj (hg.symm.trans hg0)
  obtain rfl := Option.some.inj (hT.symm.trans ht0)
  have h1 := (flat_data d f0 T l cs0.toList _ hf hd0).1
  refine ⟨fun j hj => ?_, q0, hr⟩
  rw [h1]
  have := World.var?_cell hg0 hv0 j
  simpa using this
/-- A slice of integers. -/
theorem laid_ints {P : Program} {w : World} {name : String} {ns : List Int} {rest : List (String × DataW Unit)} {ps : List MemPlace} {g : Nat} {T e : TypeId} {k : IntKind} (h : DataW.LaidVars P w ((name, .slice (ns.map fun n => .lit (.int k n)) []) :: rest) ps) (hg : P.globalNamed name = some g)
    (hT : (P.globals[g]?).map (·.type) = some T) (ht : P.underlying T = some (.slice e)) (he : P.underlying e = some (.int k)) (hc : P.cellsOf e = 1) (hns : 0 < ns.length) :
    (∃ b o, w.cell? ⟨g, 0, none⟩ = some (.slice (some ⟨b, o, none⟩) ns.length ns.length) ∧ ∀ j, j < ns.length → w.cell? ⟨b, o + j, none⟩ = some (.int k (ns.getD j 0))) ∧ ∃ q, DataW.LaidVars P w rest q := by
  obtain ⟨g0, t0, cs0, f0, p0, q0, hg0, ht0, hv0, hd0, hr, -⟩ := h
  obtain rfl := Option.some.inj (hg.symm.trans hg0)
  obtain rfl := Option.some.inj (hT.symm.trans ht0)
  refine ⟨?_, q0, hr⟩
  have hcell := World.var?_cell hg0 hv0 0
  rcases open_ints ht he hc hd0 with ⟨_, hx⟩ | ⟨a, len, cap, zs, hcs, _, hl, _, hzl, hx, hz, _⟩
  · simp at hx
  simp only [if_true, Prod.mk.injEq, DataW.slice.injEq] at hx hzl
  obtain ⟨⟨h1, h2⟩, -⟩ := hx
  have hdrop : zs.drop len = [] := by
    cases hd : zs.drop len with
    | nil => rfl
    | cons z r => rw [hd] at h2; simp [lits] at h2
  have hlen : cap ≤ len := by
    have := List.drop_eq_nil_iff.1 hdrop
    omega
  obtain rfl : len = cap := by omega
  have htake : zs.take len = zs := List.take_of_length_le (by omega)
  rw [htake] at h1
  have hinj : ∀ (xs ys : List Int), (xs.map fun n => (DataW.lit (Lit.int k n) : DataW Unit)) = lits k ys → xs = ys := by
    intro xs
    induction xs with
    | nil => intro ys h; cases ys with
      | nil => rfl
      | cons y ys => simp [lits] at h
    | cons x xs ih => intro ys h; cases ys with
      | nil => simp [lits] at h
      | cons y ys =>
        simp only [lits, List.map_cons, List.cons.injEq, DataW.lit.injEq, Lit.int.injEq, true_and] at h
        rw [h.1, ih ys h.2]
  obtain rfl := hinj ns zs h1
  obtain ⟨ab, ao, asp⟩ := a
  refine ⟨ab, ao, ?_, fun j hj => ?_⟩
  · obtain rfl : cs0 = #[.slice (some ⟨ab, ao, asp⟩) len len] := by cases cs0; simp_all
    have h0 := hz 0 (by omega)
    have hsp : asp = none := by
      cases asp with
      | none => rfl
      | some q =>
        simp only [Addr.add, if_true, World.cell?] at h0
        split at h0
        · simp at h0
        · cases h0
    subst hsp
    rw [hzl]
    simpa using hcell
  · have := hz j hj
    unfold Addr.add at this
    split at this
    · rename_i h0
      subst h0
      cases asp with
      | none => simpa using this
      | some q =>
        exfalso
        simp only [World.cell?] at this
        split at this
        · simp at this
        · cases this
    · exact this
end Go.Proofs.YthkgakelgdncjaaDoor
