/-
  How an argument that is a struct or an array of plain values (numbers, bools, texts, and structs and arrays of these) is opened: it is a row of cells, each of its kind. Conditions: the type is such a one ('flat', a closed fact).
-/
import Derived.ProofKit
import Derived.OpenShut
import Derived.ShutString
import Derived.Lib.SmallJoins
import Derived.Test.YtdaioplfgbgggaaPk
import Derived.Deep.Slices
namespace Go.Proofs.Ytdaioplfgbgggaa
open Go.ChangeShapes Go.WideShapes Go.ChangeAt Go.RowKit
set_option linter.unusedVariables false
set_option linter.unusedSimpArgs false

inductive Leaf where
  | int (k : IntKind)
  | bool
  | str
def Leaf.ok : Leaf → Value → Prop
  | .int k, v => ∃ n, v = .int k n ∧ (Lit.int k n).wf = true
  | .bool, v => ∃ b, v = .bool b
  | .str, v => ∃ s, v = .string s ∧ s.size ≤ maxLen
def oks : List Leaf → List Value → Prop
  | [], [] => True
  | l :: ls, v :: vs => l.ok v ∧ oks ls vs
  | _, _ => False
def flatFields (P : Program) (g : TypeId → Option (List Leaf)) : Nat → List Field → Option (List Leaf)
  | _, [] => some []
  | o, f :: fs => if f.offset = o then (g f.type).bind fun l => if l.length = P.cellsOf f.type then (flatFields P g (o + l.length) fs).map (l ++ ·) else none else none
def flat (P : Program) : Nat → TypeId → Option (List Leaf)
  | 0, _ => none
  | d + 1, t => match P.underlying t with
    | some .bool => some [.bool]
    | some (.int k) => some [.int k]
    | some .string => some [.str]
    | some (.struct fs) => (flatFields P (flat P d) 0 fs.toList).bind fun l => if l.length = P.cellsOf t then some l else none
    | some (.array n e) => (flat P d e).bind fun l => if l.length = P.cellsOf e ∧ n * l.length = P.cellsOf t then some ((List.replicate n l).flatten) else none
    | _ => none

theorem oks_cons {l : Leaf} {ls : List Leaf} {cs : List Value} (h : oks (l :: ls) cs) : ∃ v vs, cs = v :: vs ∧ l.ok v ∧ oks ls vs := by
  cases cs with
  | nil => exact h.elim
  | cons v vs => exact ⟨v, vs, rfl, h.1, h.2⟩
theorem oks_nil {cs : List Value} (h : oks [] cs) : cs = [] := by
  cases cs with
  | nil => rfl
  | cons v vs => exact h.elim
theorem oks_append : ∀ {l1 l2 : List Leaf} {c1 c2 : List Value}, oks l1 c1 → oks l2 c2 → oks (l1 ++ l2) (c1 ++ c2)
  | [], _, [], _, _, h => h
  | [], _, _ :: _, _, h, _ => h.elim
  | _ :: _, _, [], _, h, _ => h.elim
  | _ :: _, _, _ :: _, _, h, h' => ⟨h.1, oks_append h.2 h'⟩
theorem split_at (cs : List Value) (o n : Nat) : cs.drop o = (cs.drop o).take n ++ cs.drop (o + n) := by
  rw [← List.drop_drop, List.take_append_drop]

section
variable {H : Type} {enc : TypeId × Value → H} {P : Program} {w : World} {base : Nat} {spare : Nat → Bool} {held : Bool}

theorem fields_oks {m : Nat} {g : TypeId → Option (List Leaf)}
    (hg : ∀ t l cs x, g t = some l → DataW.trod enc P w base spare held m t cs = some x → oks l cs) (cs : List Value) :
    ∀ (fs : List Field) (o : Nat) (ls : List Leaf), flatFields P g o fs = some ls → o + ls.length = cs.length →
      (∀ (i : Nat) (f : Field), fs[i]? = some f → ∃ x, DataW.trod enc P w base spare held m f.type ((cs.drop f.offset).take (P.cellsOf f.type)) = some x) → oks ls (cs.drop o) := by
  intro fs
  induction fs with
  | nil =>
    intro o ls h hl _
    simp only [flatFields, Option.some.injEq] at h
    subst h
    rw [List.drop_of_length_le (by simp at hl; omega)]
    trivial
  | cons f fs ih =>
    intro o ls h hl hx
    simp only [flatFields] at h
    split at h
    · rename_i ho
      obtain ⟨l, hgl, h⟩ := Option.bind_eq_some_iff.1 h
      split at h
      · rename_i hlen
        obtain ⟨ls', h', rfl⟩ := Option.map_eq_some_iff.1 h
        obtain ⟨x, hx0⟩ := hx 0 f rfl
        have h1 := hg _ _ _ _ hgl hx0
        rw [ho, ← hlen] at h1
        rw [split_at cs o l.length]
        refine oks_append h1 (ih _ _ h' (by simp at hl; omega) fun i f' hf => hx (i + 1) f' (by simpa using hf))
      · cases h
    · cases h

theorem array_oks {m : Nat} {e : TypeId} {l : List Leaf} (hg : ∀ cs x, DataW.trod enc P w base spare held m e cs = some x → oks l cs) (cs : List Value) (c : Nat) (_hc : l.length = c) :
    ∀ (n o : Nat), o + n * c = cs.length → (∀ i, i < n → ∃ x, DataW.trod enc P w base spare held m e ((cs.drop (o + i * c)).take c) = some x) → oks (List.replicate n l).flatten (cs.drop o) := by
  intro n
  induction n with
  | zero =>
    intro o hl _
    rw [List.drop_of_length_le (by omega)]
    trivial
  | succ n ih =>
    intro o hl hx
    rw [List.replicate_succ, List.flatten_cons, split_at cs o c]
    obtain ⟨x, hx0⟩ := hx 0 (by omega)
    refine oks_append (hg _ _ (by simpa using hx0)) (ih (o + c) (by rw [Nat.add_mul] at hl; omega) fun i hi => ?_)
    obtain ⟨y, hy⟩ := hx (i + 1) (by omega)
    exact ⟨y, by rw [show o + c + i * c = o + (i + 1) * c by rw [Nat.add_mul]; omega]; exact hy⟩

theorem flat_oks : ∀ (d fuel : Nat) (t : TypeId) (l : List Leaf) (cs : List Value) (x : DataW H × List MemPlace), flat P d t = some l → DataW.trod enc P w base spare held fuel t cs = some x → oks l cs := by
  intro d
  induction d with
  | zero => intro _ _ _ _ _ h; cases h
  | succ d ih =>
    intro fuel t l cs x hf h
    simp only [flat] at hf
    split at hf
    · rename_i ht
      obtain rfl := Option.some.inj hf
      cases fuel with
      | zero => simp [DataW.trod] at h
      | succ fuel =>
        unfold DataW.trod at h
        rw [ht] at h
        split at h <;> simp_all [oks, Leaf.ok]
    · rename_i k ht
      obtain rfl := Option.some.inj hf
      cases fuel with
      | zero => simp [DataW.trod] at h
      | succ fuel =>
        unfold DataW.trod at h
        rw [ht] at h
        split at h <;> simp_all [oks, Leaf.ok]
    · rename_i ht
      obtain rfl := Option.some.inj hf
      cases fuel with
      | zero => simp [DataW.trod] at h
      | succ fuel =>
        unfold DataW.trod at h
        rw [ht] at h
        split at h <;> simp_all [oks, Leaf.ok]
    · rename_i fs ht
      obtain ⟨l', hl', hf⟩ := Option.bind_eq_some_iff.1 hf
      split at hf
      · rename_i hlen
        obtain rfl := Option.some.inj hf
        obtain ⟨xs, n, _, rfl, hl, hxl, hfs⟩ := DataW.trod_struct ht h
        have := fields_oks (fun t l cs x a b => ih n t l cs x a b) cs fs.toList 0 l' hl' (by omega) (fun i f hi => by
          have hlt : i < xs.length := by
            have := (List.getElem?_eq_some_iff.1 hi).1
            simp at this
            omega
          exact ⟨_, (hfs i f (by simpa using hi)).trans (List.getElem?_eq_getElem hlt)⟩)
        simpa using this
      · cases hf
    · rename_i n e ht
      obtain ⟨l', hl', hf⟩ := Option.bind_eq_some_iff.1 hf
      split at hf
      · rename_i hlen
        obtain rfl := Option.some.inj hf
        obtain ⟨xs, m, _, rfl, hl, hxl, hfs⟩ := DataW.trod_array ht h
        have := array_oks (fun cs x b => ih m e l' cs x hl' b) cs (P.cellsOf e) hlen.1 n 0 (by rw [← hlen.1]; omega) (fun i hi => by
          have hlt : i < xs.length := by omega
          exact ⟨_, by simpa using (hfs i hi).trans (List.getElem?_eq_getElem hlt)⟩)
        simpa using this
      · cases hf
    · cases hf

/-- A struct or an array of plain values that came in. -/
theorem open_flat {r : Reach} {b0 : Nat} {t : TypeId} {v : Value} {d : DataW H} {p : List MemPlace} (dep : Nat) {ls : List Leaf} (hfl : flat P dep t = some ls)
    (hag : (match P.underlying t with | some (.struct _) | some (.array _ _) => true | _ => false) = true)
    (hv : Value.okWide P w r b0 t v) (h : DataW.Trod enc P w base spare held t v d p) : ∃ cs : List Value, v = .agg cs.toArray ∧ oks ls cs := by
  obtain ⟨fuel, hf⟩ := h
  have hc : ∃ cs, v = .agg cs := by
    unfold Value.okWide at hv
    split at hv
    · obtain ⟨cs, rfl, _⟩ := hv; exact ⟨cs, rfl⟩
    · obtain ⟨cs, rfl, _⟩ := hv; exact ⟨cs, rfl⟩
    · rename_i h1 h2
      split at hag
      · exact (h1 _ ‹_›).elim
      · exact (h2 _ _ ‹_›).elim
      · cases hag
  obtain ⟨cs, rfl⟩ := hc
  exact ⟨cs.toList, by simp, flat_oks dep fuel t ls _ _ hfl hf⟩
end
end Go.Proofs.Ytdaioplfgbgggaa
/-
  Slices that came in, of plain elements: where they lie, and what their cells are. Conditions: as typed.
-/
namespace Go.Proofs.Ytdaioplfgbgggaa
open Go.Ep Go.ChangeShapes Go.WideShapes Go.ChangeAt Go.RowKit
set_option linter.unusedVariables false
set_option linter.unusedSimpArgs false

/-- Is a plain value of a leaf's kind? -/
def okP : Leaf → PL → Bool
  | .int .u64, .b64 false _ => true
  | .int .i64, .b64 true _ => true
  | .int .u32, .b32 false _ => true
  | .int .i32, .b32 true _ => true
  | .int .u16, .b16 false _ => true
  | .int .i16, .b16 true _ => true
  | .int .u8, .b8 false _ => true
  | .int .i8, .b8 true _ => true
  | .bool, .bool _ => true
  | _, _ => false
def oksP : List Leaf → List PL → Prop
  | [], [] => True
  | l :: ls, p :: ps => okP l p = true ∧ oksP ls ps
  | _, _ => False
def noStr : List Leaf → Bool
  | [] => true
  | .str :: _ => false
  | _ :: ls => noStr ls
theorem leaf_pl {l : Leaf} {v : Value} (h : l.ok v) (hs : noStr [l] = true) : ∃ p, v = gP p ∧ okP l p = true := by
  cases l with
  | int k =>
    obtain ⟨n, rfl, hw⟩ := h
    obtain ⟨x, rfl⟩ := vI_of k n hw
    cases k
    · exact ⟨.b8 true x, rfl, rfl⟩
    · exact ⟨.b16 true x, rfl, rfl⟩
    · exact ⟨.b32 true x, rfl, rfl⟩
    · exact ⟨.b64 true x, rfl, rfl⟩
    · exact ⟨.b8 false x, rfl, rfl⟩
    · exact ⟨.b16 false x, rfl, rfl⟩
    · exact ⟨.b32 false x, rfl, rfl⟩
    · exact ⟨.b64 false x, rfl, rfl⟩
  | bool => obtain ⟨b, rfl⟩ := h; exact ⟨.bool b, rfl, rfl⟩
  | str => cases hs
theorem leaves_pl : ∀ {ls : List Leaf} {cs : List Value}, oks ls cs → noStr ls = true → ∃ ps, cs = ps.map gP ∧ oksP ls ps
  | [], [], _, _ => ⟨[], rfl, trivial⟩
  | [], _ :: _, h, _ => h.elim
  | _ :: _, [], h, _ => h.elim
  | l :: ls, c :: cs, h, hs => by
    have h1 : noStr [l] = true ∧ noStr ls = true := by cases l <;> simp_all [noStr]
    obtain ⟨p, e, hp⟩ := leaf_pl h.1 h1.1
    obtain ⟨ps, e', hps⟩ := leaves_pl h.2 h1.2
    exact ⟨p :: ps, by rw [e, e']; rfl, hp, hps⟩
theorem oksP_len : ∀ {ls : List Leaf} {ps : List PL}, oksP ls ps → ps.length = ls.length
  | [], [], _ => rfl
  | _ :: _, _ :: _, h => by simp [oksP_len h.2]
  | [], _ :: _, h => h.elim
  | _ :: _, [], h => h.elim

/-- **A slice of plain elements**: empty, or the cells of a block. -/
theorem open_rows {H : Type} {enc : TypeId × Value → H} {P : Program} {w : World} {base : Nat} {spare : Nat → Bool} {held : Bool} {t e : TypeId} {ls : List Leaf} (d : Nat) (ht : P.underlying t = some (.slice e)) (hf : flat P d e = some ls) (hs : noStr ls = true)
    (hz : ls.length = P.cellsOf e) (h0 : 0 < ls.length) {v : Value} {x : DataW H × List MemPlace} {fuel : Nat} (h : DataW.trod enc P w base spare held fuel t [v] = some x) :
    (∃ ad cap, v = .slice ad 0 cap) ∨ ∃ (b o len cap : Nat) (cs : Array Value) (T : TypeId) (fr : Nat × Nat) (us ws : List Value) (f : Nat → List PL), 0 < len ∧ len ≤ maxLen ∧ v = .slice (some ⟨b, o, none⟩) len cap ∧
      w.heap[b]? = some (.cells cs T fr) ∧ cs.toList.drop o = us ++ ws ∧ SegV ls.length len f us ∧ ∀ k, oksP ls (f k) := by
  rcases Deep.open_slice ht h with ⟨hv, -⟩ | ⟨a, len, cap, m, n, D, Pl, hv, hb, hl, hm, hmm, -, hx⟩
  · exact .inl ⟨none, 0, by simpa using hv⟩
  obtain rfl : v = .slice (some a) len cap := by simpa using hv
  rcases Nat.eq_zero_or_pos len with rfl | hpos
  · exact .inl ⟨_, _, rfl⟩
  have hlm : len ≤ m := by rw [hmm]; split <;> omega
  obtain ⟨ba, oa, sa⟩ := a
  rw [← hz] at hx
  have cell : ∀ i, i < len → ∃ cs', cs'.length = ls.length ∧ oks ls cs' ∧ ∀ j, j < ls.length → w.cell? (((⟨ba, oa, sa⟩ : Addr).add (i * ls.length)).add j) = cs'[j]? := by
    intro i hi
    obtain ⟨cs', h1, h2⟩ := hx i (by omega)
    obtain ⟨_, h3, h4⟩ := World.cells?_some h1
    exact ⟨cs', h3, flat_oks d n e ls cs' _ hf h2, h4⟩
  -- the block
  obtain ⟨c0, l0, o0, e0⟩ := cell 0 hpos
  have e00 := e0 0 h0
  obtain ⟨v0, hv0⟩ : ∃ v0, c0[0]? = some v0 := ⟨_, List.getElem?_eq_getElem (by omega)⟩
  rw [hv0] at e00
  simp only [Nat.zero_mul, Addr.add, if_true] at e00
  have hblk : ∃ cs T fr, w.heap[ba]? = some (.cells cs T fr) ∧ sa = none := by
    unfold World.cell? at e00
    split at e00
    · rename_i c T fr hh
      refine ⟨c, T, fr, hh, ?_⟩
      cases sa with
      | none => rfl
      | some s => simp at e00
    · cases e00
  obtain ⟨cs, T, fr, hh, rfl⟩ := hblk
  have cellE : ∀ o, w.cell? ⟨ba, o, none⟩ = cs[o]? := fun o => by simp [World.cell?, hh]
  have key : ∀ i, i < len → ∃ ps, oksP ls ps ∧ ∀ j, j < ls.length → cs[oa + (i * ls.length + j)]? = (ps[j]?).map gP := by
    intro i hi
    obtain ⟨cs', h1, h2, h3⟩ := cell i hi
    obtain ⟨ps, rfl, hps⟩ := leaves_pl h2 hs
    refine ⟨ps, hps, fun j hj => ?_⟩
    have h4 := h3 j hj
    rw [Deep.add_add] at h4
    have h5 : (⟨ba, oa, none⟩ : Addr).add (i * ls.length + j) = ⟨ba, oa + (i * ls.length + j), none⟩ := by
      unfold Addr.add
      split
      · rename_i e; rw [e, Nat.add_zero]
      · rfl
    rw [h5, cellE] at h4
    rw [h4, List.getElem?_map]
  obtain ⟨p0, hp0, -⟩ := key 0 hpos
  have each : ∀ i, ∃ ps, oksP ls ps ∧ (i < len → ∀ j, j < ls.length → cs[oa + (i * ls.length + j)]? = (ps[j]?).map gP) := by
    intro i
    by_cases hi : i < len
    · obtain ⟨ps, h1, h2⟩ := key i hi
      exact ⟨ps, h1, fun _ => h2⟩
    · exact ⟨p0, hp0, fun hi' => absurd hi' hi⟩
  obtain ⟨f, hfk⟩ : ∃ f : Nat → List PL, ∀ i, oksP ls (f i) ∧ (i < len → ∀ j, j < ls.length → cs[oa + (i * ls.length + j)]? = ((f i)[j]?).map gP) := ⟨fun i => Classical.choose (each i), fun i => Classical.choose_spec (each i)⟩
  have hlen : ls.length * len ≤ (cs.toList.drop oa).length := by
    have h1 := (hfk (len - 1)).2 (by omega) (ls.length - 1) (by omega)
    have h2 := oksP_len (hfk (len - 1)).1
    rw [List.getElem?_eq_getElem (by omega)] at h1
    have h3 := (Array.getElem?_eq_some_iff.1 h1).1
    rw [List.length_drop, show cs.toList.length = cs.size from rfl]
    have h4 : (len - 1) * ls.length + ls.length = ls.length * len := by
      rw [Nat.mul_comm ls.length len]
      obtain ⟨k, rfl⟩ : ∃ k, len = k + 1 := ⟨len - 1, by omega⟩
      rw [Nat.add_sub_cancel, Nat.add_mul, Nat.one_mul]
    omega
  refine .inr ⟨ba, oa, len, cap, cs, T, fr, (cs.toList.drop oa).take (ls.length * len), (cs.toList.drop oa).drop (ls.length * len), f, hpos, by omega, rfl, hh, (List.take_append_drop _ _).symm, ⟨by rw [List.length_take]; omega, fun k hk => ⟨oksP_len (hfk k).1, fun j hj => ?_⟩⟩, fun k => (hfk k).1⟩
  rw [List.getElem?_take, if_pos, List.getElem?_drop, Array.getElem?_toList, Nat.mul_comm ls.length k]
  · exact (hfk k).2 hk j hj
  · exact Nat.lt_of_lt_of_le (Nat.add_lt_add_left hj _) (Go.Ep.mul_lt_of hk)
theorem oksP_cons {l : Leaf} {ls : List Leaf} {ps : List PL} (h : oksP (l :: ls) ps) : ∃ p r, ps = p :: r ∧ okP l p = true ∧ oksP ls r := by
  cases ps with
  | nil => exact h.elim
  | cons p r => exact ⟨p, r, rfl, h.1, h.2⟩
theorem oksP_nil {ps : List PL} (h : oksP [] ps) : ps = [] := by
  cases ps with
  | nil => rfl
  | cons p r => exact h.elim
theorem ok_i64 {p : PL} (h : okP (.int .i64) p = true) : ∃ x : BitVec 64, p = .b64 true x := by
  cases p with
  | bool b => simp [okP] at h
  | str b => simp [okP] at h
  | _ s x => cases s <;> first | exact ⟨x, rfl⟩ | (simp [okP] at h)
theorem ok_u64 {p : PL} (h : okP (.int .u64) p = true) : ∃ x : BitVec 64, p = .b64 false x := by
  cases p with
  | bool b => simp [okP] at h
  | str b => simp [okP] at h
  | _ s x => cases s <;> first | exact ⟨x, rfl⟩ | (simp [okP] at h)
theorem ok_u32 {p : PL} (h : okP (.int .u32) p = true) : ∃ x : BitVec 32, p = .b32 false x := by
  cases p with
  | bool b => simp [okP] at h
  | str b => simp [okP] at h
  | _ s x => cases s <;> first | exact ⟨x, rfl⟩ | (simp [okP] at h)
theorem ok_i32 {p : PL} (h : okP (.int .i32) p = true) : ∃ x : BitVec 32, p = .b32 true x := by
  cases p with
  | bool b => simp [okP] at h
  | str b => simp [okP] at h
  | _ s x => cases s <;> first | exact ⟨x, rfl⟩ | (simp [okP] at h)
theorem ok_i16 {p : PL} (h : okP (.int .i16) p = true) : ∃ x : BitVec 16, p = .b16 true x := by
  cases p with
  | bool b => simp [okP] at h
  | str b => simp [okP] at h
  | _ s x => cases s <;> first | exact ⟨x, rfl⟩ | (simp [okP] at h)
theorem ok_u8 {p : PL} (h : okP (.int .u8) p = true) : ∃ x : BitVec 8, p = .b8 false x := by
  cases p with
  | bool b => simp [okP] at h
  | str b => simp [okP] at h
  | _ s x => cases s <;> first | exact ⟨x, rfl⟩ | (simp [okP] at h)
theorem ok_bool {p : PL} (h : okP .bool p = true) : ∃ x : Bool, p = .bool x := by
  cases p with
  | bool b => exact ⟨b, rfl⟩
  | str b => simp [okP] at h
  | _ s x => simp [okP] at h
end Go.Proofs.Ytdaioplfgbgggaa
