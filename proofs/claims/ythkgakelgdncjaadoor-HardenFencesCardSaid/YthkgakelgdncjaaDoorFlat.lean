/-
  How an argument that is a struct or an array of plain values (numbers, bools, texts, and structs and arrays of these) is opened: it is a row of cells, each of its kind. Conditions: the type is such a one ('flat', a closed fact).
-/
import Derived.ProofKit
import Derived.OpenShut
import Derived.ShutString
import Derived.Lib.SmallJoins
namespace Go.Proofs.YthkgakelgdncjaaDoor
open Go.ChangeShapes Go.WideShapes Go.ChangeAt Go.RowKit
set_option linter.unusedVariables false
set_option linter.unusedSimpArgs false

inductive Leaf where
  | int (k : IntKind)
  | bool
  | str
def Leaf.ok : Leaf → Value → Prop
  | .int k, v => ∃ n, v = .int k n ∧ (Lit.int k n).wf = true
  | .bool, v => ∃ b, v = .bool b
  | .str, v => ∃ s, v = .string s ∧ s.size ≤ maxLen
def oks : List Leaf → List Value → Prop
  | [], [] => True
  | l :: ls, v :: vs => l.ok v ∧ oks ls vs
  | _, _ => False
def flatFields (P : Program) (g : TypeId → Option (List Leaf)) : Nat → List Field → Option (List Leaf)
  | _, [] => some []
  | o, f :: fs => if f.offset = o then (g f.type).bind fun l => if l.length = P.cellsOf f.type then (flatFields P g (o + l.length) fs).map (l ++ ·) else none else none
def flat (P : Program) : Nat → TypeId → Option (List Leaf)
  | 0, _ => none
  | d + 1, t => match P.underlying t with
    | some .bool => some [.bool]
    | some (.int k) => some [.int k]
    | some .string => some [.str]
    | some (.struct fs) => (flatFields P (flat P d) 0 fs.toList).bind fun l => if l.length = P.cellsOf t then some l else none
    | some (.array n e) => (flat P d e).bind fun l => if l.length = P.cellsOf e ∧ n * l.length = P.cellsOf t then some ((List.replicate n l).flatten) else none
    | _ => none

theorem oks_cons {l : Leaf} {ls : List Leaf} {cs : List Value} (h : oks (l :: ls) cs) : ∃ v vs, cs = v :: vs ∧ l.ok v ∧ oks ls vs := by
  cases cs with
  | nil => exact h.elim
  | cons v vs => exact ⟨v, vs, rfl, h.1, h.2⟩
theorem oks_nil {cs : List Value} (h : oks [] cs) : cs = [] := by
  cases cs with
  | nil => rfl
  | cons v vs => exact h.elim
theorem oks_append : ∀ {l1 l2 : List Leaf} {c1 c2 : List Value}, oks l1 c1 → oks l2 c2 → oks (l1 ++ l2) (c1 ++ c2)
  | [], _, [], _, _, h => h
  | [], _, _ :: _, _, h, _ => h.elim
  | _ :: _, _, [], _, h, _ => h.elim
  | _ :: _, _, _ :: _, _, h, h' => ⟨h.1, oks_append h.2 h'⟩
theorem split_at (cs : List Value) (o n : Nat) : cs.drop o = (cs.drop o).take n ++ cs.drop (o + n) := by
  rw [← List.drop_drop, List.take_append_drop]

section
variable {H : Type} {enc : TypeId × Value → H} {P : Program} {w : World} {base : Nat} {spare : Nat → Bool} {held : Bool}

theorem fields_oks {m : Nat} {g : TypeId → Option (List Leaf)}
    (hg : ∀ t l cs x, g t = some l → DataW.trod enc P w base spare held m t cs = some x → oks l cs) (cs : List Value) :
    ∀ (fs : List Field) (o : Nat) (ls : List Leaf), flatFields P g o fs = some ls → o + ls.length = cs.length →
      (∀ (i : Nat) (f : Field), fs[i]? = some f → ∃ x, DataW.trod enc P w base spare held m f.type ((cs.drop f.offset).take (P.cellsOf f.type)) = some x) → oks ls (cs.drop o) := by
  intro fs
  induction fs with
  | nil =>
    intro o ls h hl _
    simp only [flatFields, Option.some.injEq] at h
    subst h
    rw [List.drop_of_length_le (by simp at hl; omega)]
    trivial
  | cons f fs ih =>
    intro o ls h hl hx
    simp only [flatFields] at h
    split at h
    · rename_i ho
      obtain ⟨l, hgl, h⟩ := Option.bind_eq_some_iff.1 h
      split at h
      · rename_i hlen
        obtain ⟨ls', h', rfl⟩ := Option.map_eq_some_iff.1 h
        obtain ⟨x, hx0⟩ := hx 0 f rfl
        have h1 := hg _ _ _ _ hgl hx0
        rw [ho, ← hlen] at h1
        rw [split_at cs o l.length]
        refine oks_append h1 (ih _ _ h' (by simp at hl; omega) fun i f' hf => hx (i + 1) f' (by simpa using hf))
      · cases h
    · cases h

theorem array_oks {m : Nat} {e : TypeId} {l : List Leaf} (hg : ∀ cs x, DataW.trod enc P w base spare held m e cs = some x → oks l cs) (cs : List Value) (c : Nat) (_hc : l.length = c) :
    ∀ (n o : Nat), o + n * c = cs.length → (∀ i, i < n → ∃ x, DataW.trod enc P w base spare held m e ((cs.drop (o + i * c)).take c) = some x) → oks (List.replicate n l).flatten (cs.drop o) := by
  intro n
  induction n with
  | zero =>
    intro o hl _
    rw [List.drop_of_length_le (by omega)]
    trivial
  | succ n ih =>
    intro o hl hx
    rw [List.replicate_succ, List.flatten_cons, split_at cs o c]
    obtain ⟨x, hx0⟩ := hx 0 (by omega)
    refine oks_append (hg _ _ (by simpa using hx0)) (ih (o + c) (by rw [Nat.add_mul] at hl; omega) fun i hi => ?_)
    obtain ⟨y, hy⟩ := hx (i + 1) (by omega)
    exact ⟨y, by rw [show o + c + i * c = o + (i + 1) * c by rw [Nat.add_mul]; omega]; exact hy⟩

theorem flat_oks : ∀ (d fuel : Nat) (t : TypeId) (l : List Leaf) (cs : List Value) (x : DataW H × List MemPlace), flat P d t = some l → DataW.trod enc P w base spare held fuel t cs = some x → oks l cs := by
  intro d
  induction d with
  | zero => intro _ _ _ _ _ h; cases h
  | succ d ih =>
    intro fuel t l cs x hf h
    simp only [flat] at hf
    split at hf
    · rename_i ht
      obtain rfl := Option.some.inj hf
      cases fuel with
      | zero => simp [DataW.trod] at h
      | succ fuel =>
        unfold DataW.trod at h
        rw [ht] at h
        split at h <;> simp_all [oks, Leaf.ok]
    · rename_i k ht
      obtain rfl := Option.some.inj hf
      cases fuel with
      | zero => simp [DataW.trod] at h
      | succ fuel =>
        unfold DataW.trod at h
        rw [ht] at h
        split at h <;> simp_all [oks, Leaf.ok]
    · rename_i ht
      obtain rfl := Option.some.inj hf
      cases fuel with
      | zero => simp [DataW.trod] at h
      | succ fuel =>
        unfold DataW.trod at h
        rw [ht] at h
        split at h <;> simp_all [oks, Leaf.ok]
    · rename_i fs ht
      obtain ⟨l', hl', hf⟩ := Option.bind_eq_some_iff.1 hf
      split at hf
      · rename_i hlen
        obtain rfl := Option.some.inj hf
        obtain ⟨xs, n, _, rfl, hl, hxl, hfs⟩ := DataW.trod_struct ht h
        have := fields_oks (fun t l cs x a b => ih n t l cs x a b) cs fs.toList 0 l' hl' (by omega) (fun i f hi => by
          have hlt : i < xs.length := by
            have := (List.getElem?_eq_some_iff.1 hi).1
            simp at this
            omega
          exact ⟨_, (hfs i f (by simpa using hi)).trans (List.getElem?_eq_getElem hlt)⟩)
        simpa using this
      · cases hf
    · rename_i n e ht
      obtain ⟨l', hl', hf⟩ := Option.bind_eq_some_iff.1 hf
      split at hf
      · rename_i hlen
        obtain rfl := Option.some.inj hf
        obtain ⟨xs, m, _, rfl, hl, hxl, hfs⟩ := DataW.trod_array ht h
        have := array_oks (fun cs x b => ih m e l' cs x hl' b) cs (P.cellsOf e) hlen.1 n 0 (by rw [← hlen.1]; omega) (fun i hi => by
          have hlt : i < xs.length := by omega
          exact ⟨_, by simpa using (hfs i hi).trans (List.getElem?_eq_getElem hlt)⟩)
        simpa using this
      · cases hf
    · cases hf

/-- A struct or an array of plain values that came in. -/
theorem open_flat {r : Reach} {b0 : Nat} {t : TypeId} {v : Value} {d : DataW H} {p : List MemPlace} (dep : Nat) {ls : List Leaf} (hfl : flat P dep t = some ls)
    (hag : (match P.underlying t with | some (.struct _) | some (.array _ _) => true | _ => false) = true)
    (hv : Value.okWide P w r b0 t v) (h : DataW.Trod enc P w base spare held t v d p) : ∃ cs : List Value, v = .agg cs.toArray ∧ oks ls cs := by
  obtain ⟨fuel, hf⟩ := h
  have hc : ∃ cs, v = .agg cs := by
    unfold Value.okWide at hv
    split at hv
    · obtain ⟨cs, rfl, _⟩ := hv; exact ⟨cs, rfl⟩
    · obtain ⟨cs, rfl, _⟩ := hv; exact ⟨cs, rfl⟩
    · rename_i h1 h2
      split at hag
      · exact (h1 _ ‹_›).elim
      · exact (h2 _ _ ‹_›).elim
      · cases hag
  obtain ⟨cs, rfl⟩ := hc
  exact ⟨cs.toList, by simp, flat_oks dep fuel t ls _ _ hfl hf⟩
end
end Go.Proofs.YthkgakelgdncjaaDoor
