/-
  Slices that came in, of plain elements: where they lie, and what their cells are. Conditions: as typed.
-/
import Derived.Test.YthkgakelgdncjaaDoorFlat
import Derived.Test.YthkgakelgdncjaaDoorPk
import Derived.Deep.Slices
namespace Go.Proofs.YthkgakelgdncjaaDoor
open Go.Ep Go.ChangeShapes Go.WideShapes Go.ChangeAt Go.RowKit
set_option linter.unusedVariables false
set_option linter.unusedSimpArgs false

/-- Is a plain value of a leaf's kind? -/
def okP : Leaf → PL → Bool
  | .int .u64, .b64 false _ => true
  | .int .i64, .b64 true _ => true
  | .int .u32, .b32 false _ => true
  | .int .i32, .b32 true _ => true
  | .int .u16, .b16 false _ => true
  | .int .i16, .b16 true _ => true
  | .int .u8, .b8 false _ => true
  | .int .i8, .b8 true _ => true
  | .bool, .bool _ => true
  | _, _ => false
def oksP : List Leaf → List PL → Prop
  | [], [] => True
  | l :: ls, p :: ps => okP l p = true ∧ oksP ls ps
  | _, _ => False
def noStr : List Leaf → Bool
  | [] => true
  | .str :: _ => false
  | _ :: ls => noStr ls
theorem leaf_pl {l : Leaf} {v : Value} (h : l.ok v) (hs : noStr [l] = true) : ∃ p, v = gP p ∧ okP l p = true := by
  cases l with
  | int k =>
    obtain ⟨n, rfl, hw⟩ := h
    obtain ⟨x, rfl⟩ := vI_of k n hw
    cases k
    · exact ⟨.b8 true x, rfl, rfl⟩
    · exact ⟨.b16 true x, rfl, rfl⟩
    · exact ⟨.b32 true x, rfl, rfl⟩
    · exact ⟨.b64 true x, rfl, rfl⟩
    · exact ⟨.b8 false x, rfl, rfl⟩
    · exact ⟨.b16 false x, rfl, rfl⟩
    · exact ⟨.b32 false x, rfl, rfl⟩
    · exact ⟨.b64 false x, rfl, rfl⟩
  | bool => obtain ⟨b, rfl⟩ := h; exact ⟨.bool b, rfl, rfl⟩
  | str => cases hs
theorem leaves_pl : ∀ {ls : List Leaf} {cs : List Value}, oks ls cs → noStr ls = true → ∃ ps, cs = ps.map gP ∧ oksP ls ps
  | [], [], _, _ => ⟨[], rfl, trivial⟩
  | [], _ :: _, h, _ => h.elim
  | _ :: _, [], h, _ => h.elim
  | l :: ls, c :: cs, h, hs => by
    have h1 : noStr [l] = true ∧ noStr ls = true := by cases l <;> simp_all [noStr]
    obtain ⟨p, e, hp⟩ := leaf_pl h.1 h1.1
    obtain ⟨ps, e', hps⟩ := leaves_pl h.2 h1.2
    exact ⟨p :: ps, by rw [e, e']; rfl, hp, hps⟩
theorem oksP_len : ∀ {ls : List Leaf} {ps : List PL}, oksP ls ps → ps.length = ls.length
  | [], [], _ => rfl
  | _ :: _, _ :: _, h => by simp [oksP_len h.2]
  | [], _ :: _, h => h.elim
  | _ :: _, [], h => h.elim

/-- **A slice of plain elements**: empty, or the cells of a block. -/
theorem open_rows {H : Type} {enc : TypeId × Value → H} {P : Program} {w : World} {base : Nat} {spare : Nat → Bool} {held : Bool} {t e : TypeId} {ls : List Leaf} (d : Nat) (ht : P.underlying t = some (.slice e)) (hf : flat P d e = some ls) (hs : noStr ls = true)
    (hz : ls.length = P.cellsOf e) (h0 : 0 < ls.length) {v : Value} {x : DataW H × List MemPlace} {fuel : Nat} (h : DataW.trod enc P w base spare held fuel t [v] = some x) :
    (∃ ad cap, v = .slice ad 0 cap) ∨ ∃ (b o len cap : Nat) (cs : Array Value) (T : TypeId) (fr : Nat × Nat) (us ws : List Value) (f : Nat → List PL), 0 < len ∧ len ≤ maxLen ∧ v = .slice (some ⟨b, o, none⟩) len cap ∧
      w.heap[b]? = some (.cells cs T fr) ∧ cs.toList.drop o = us ++ ws ∧ SegV ls.length len f us ∧ ∀ k, oksP ls (f k) := by
  rcases Deep.open_slice ht h with ⟨hv, -⟩ | ⟨a, len, cap, m, n, D, Pl, hv, hb, hl, hm, hmm, -, hx⟩
  · exact .inl ⟨none, 0, by simpa using hv⟩
  obtain rfl : v = .slice (some a) len cap := by simpa using hv
  rcases Nat.eq_zero_or_pos len with rfl | hpos
  · exact .inl ⟨_, _, rfl⟩
  have hlm : len ≤ m := by rw [hmm]; split <;> omega
  obtain ⟨ba, oa, sa⟩ := a
  rw [← hz] at hx
  have cell : ∀ i, i < len → ∃ cs', cs'.length = ls.length ∧ oks ls cs' ∧ ∀ j, j < ls.length → w.cell? (((⟨ba, oa, sa⟩ : Addr).add (i * ls.length)).add j) = cs'[j]? := by
    intro i hi
    obtain ⟨cs', h1, h2⟩ := hx i (by omega)
    obtain ⟨_, h3, h4⟩ := World.cells?_some h1
    exact ⟨cs', h3, flat_oks d n e ls cs' _ hf h2, h4⟩
  -- the block
  obtain ⟨c0, l0, o0, e0⟩ := cell 0 hpos
  have e00 := e0 0 h0
  obtain ⟨v0, hv0⟩ : ∃ v0, c0[0]? = some v0 := ⟨_, List.getElem?_eq_getElem (by omega)⟩
  rw [hv0] at e00
  simp only [Nat.zero_mul, Addr.add, if_true] at e00
  have hblk : ∃ cs T fr, w.heap[ba]? = some (.cells cs T fr) ∧ sa = none := by
    unfold World.cell? at e00
    split at e00
    · rename_i c T fr hh
      refine ⟨c, T, fr, hh, ?_⟩
      cases sa with
      | none => rfl
      | some s => simp at e00
    · cases e00
  obtain ⟨cs, T, fr, hh, rfl⟩ := hblk
  have cellE : ∀ o, w.cell? ⟨ba, o, none⟩ = cs[o]? := fun o => by simp [World.cell?, hh]
  have key : ∀ i, i < len → ∃ ps, oksP ls ps ∧ ∀ j, j < ls.length → cs[oa + (i * ls.length + j)]? = (ps[j]?).map gP := by
    intro i hi
    obtain ⟨cs', h1, h2, h3⟩ := cell i hi
    obtain ⟨ps, rfl, hps⟩ := leaves_pl h2 hs
    refine ⟨ps, hps, fun j hj => ?_⟩
    have h4 := h3 j hj
    rw [Deep.add_add] at h4
    have h5 : (⟨ba, oa, none⟩ : Addr).add (i * ls.length + j) = ⟨ba, oa + (i * ls.length + j), none⟩ := by
      unfold Addr.add
      split
      · rename_i e; rw [e, Nat.add_zero]
      · rfl
    rw [h5, cellE] at h4
    rw [h4, List.getElem?_map]
  obtain ⟨p0, hp0, -⟩ := key 0 hpos
  have each : ∀ i, ∃ ps, oksP ls ps ∧ (i < len → ∀ j, j < ls.length → cs[oa + (i * ls.length + j)]? = (ps[j]?).map gP) := by
    intro i
    by_cases hi : i < len
    · obtain ⟨ps, h1, h2⟩ := key i hi
      exact ⟨ps, h1, fun _ => h2⟩
    · exact ⟨p0, hp0, fun hi' => absurd hi' hi⟩
  obtain ⟨f, hfk⟩ : ∃ f : Nat → List PL, ∀ i, oksP ls (f i) ∧ (i < len → ∀ j, j < ls.length → cs[oa + (i * ls.length + j)]? = ((f i)[j]?).map gP) := ⟨fun i => Classical.choose (each i), fun i => Classical.choose_spec (each i)⟩
  have hlen : ls.length * len ≤ (cs.toList.drop oa).length := by
    have h1 := (hfk (len - 1)).2 (by omega) (ls.length - 1) (by omega)
    have h2 := oksP_len (hfk (len - 1)).1
    rw [List.getElem?_eq_getElem (by omega)] at h1
    have h3 := (Array.getElem?_eq_some_iff.1 h1).1
    rw [List.length_drop, show cs.toList.length = cs.size from rfl]
    have h4 : (len - 1) * ls.length + ls.length = ls.length * len := by
      rw [Nat.mul_comm ls.length len]
      obtain ⟨k, rfl⟩ : ∃ k, len = k + 1 := ⟨len - 1, by omega⟩
      rw [Nat.add_sub_cancel, Nat.add_mul, Nat.one_mul]
    omega
  refine .inr ⟨ba, oa, len, cap, cs, T, fr, (cs.toList.drop oa).take (ls.length * len), (cs.toList.drop oa).drop (ls.length * len), f, hpos, by omega, rfl, hh, (List.take_append_drop _ _).symm, ⟨by rw [List.length_take]; omega, fun k hk => ⟨oksP_len (hfk k).1, fun j hj => ?_⟩⟩, fun k => (hfk k).1⟩
  rw [List.getElem?_take, if_pos, List.getElem?_drop, Array.getElem?_toList, Nat.mul_comm ls.length k]
  · exact (hfk k).2 hk j hj
  · exact Nat.lt_of_lt_of_le (Nat.add_lt_add_left hj _) (Go.Ep.mul_lt_of hk)
theorem oksP_cons {l : Leaf} {ls : List Leaf} {ps : List PL} (h : oksP (l :: ls) ps) : ∃ p r, ps = p :: r ∧ okP l p = true ∧ oksP ls r := by
  cases ps with
  | nil => exact h.elim
  | cons p r => exact ⟨p, r, rfl, h.1, h.2⟩
theorem oksP_nil {ps : List PL} (h : oksP [] ps) : ps = [] := by
  cases ps with
  | nil => rfl
  | cons p r => exact h.elim
theorem ok_i64 {p : PL} (h : okP (.int .i64) p = true) : ∃ x : BitVec 64, p = .b64 true x := by
  cases p with
  | bool b => simp [okP] at h
  | str b => simp [okP] at h
  | _ s x => cases s <;> first | exact ⟨x, rfl⟩ | (simp [okP] at h)
theorem ok_u64 {p : PL} (h : okP (.int .u64) p = true) : ∃ x : BitVec 64, p = .b64 false x := by
  cases p with
  | bool b => simp [okP] at h
  | str b => simp [okP] at h
  | _ s x => cases s <;> first | exact ⟨x, rfl⟩ | (simp [okP] at h)
theorem ok_u32 {p : PL} (h : okP (.int .u32) p = true) : ∃ x : BitVec 32, p = .b32 false x := by
  cases p with
  | bool b => simp [okP] at h
  | str b => simp [okP] at h
  | _ s x => cases s <;> first | exact ⟨x, rfl⟩ | (simp [okP] at h)
theorem ok_i32 {p : PL} (h : okP (.int .i32) p = true) : ∃ x : BitVec 32, p = .b32 true x := by
  cases p with
  | bool b => simp [okP] at h
  | str b => simp [okP] at h
  | _ s x => cases s <;> first | exact ⟨x, rfl⟩ | (simp [okP] at h)
theorem ok_i16 {p : PL} (h : okP (.int .i16) p = true) : ∃ x : BitVec 16, p = .b16 true x := by
  cases p with
  | bool b => simp [okP] at h
  | str b => simp [okP] at h
  | _ s x => cases s <;> first | exact ⟨x, rfl⟩ | (simp [okP] at h)
theorem ok_u8 {p : PL} (h : okP (.int .u8) p = true) : ∃ x : BitVec 8, p = .b8 false x := by
  cases p with
  | bool b => simp [okP] at h
  | str b => simp [okP] at h
  | _ s x => cases s <;> first | exact ⟨x, rfl⟩ | (simp [okP] at h)
theorem ok_bool {p : PL} (h : okP .bool p = true) : ∃ x : Bool, p = .bool x := by
  cases p with
  | bool b => exact ⟨b, rfl⟩
  | str b => simp [okP] at h
  | _ s x => simp [okP] at h
end Go.Proofs.YthkgakelgdncjaaDoor
