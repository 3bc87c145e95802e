/-
  The evaluator's operations are the model's: what each yields, if its condition holds, in every world that is as the evaluator bears it. Conditions: as typed.
-/
import Derived.Test.YthkgakelgdncjaaDoorPb
import Derived.Laws.StructEq
import Derived.Laws.CopyRow
import Derived.Laws.Cells
import Derived.Laws.Rows
import Derived.ChangeKeysEq
namespace Go.Ep
open Go.RowKit
set_option linter.unusedVariables false
set_option linter.unusedSimpArgs false

/-- Where a name's block lies: its number, the place in it at which names' places begin, a row's capacity. -/
structure Loc where
  b : Nat
  o : Nat
  c : Nat
def k64 : Bool → IntKind
  | true => .i64
  | false => .u64
def k32 : Bool → IntKind
  | true => .i32
  | false => .u32
def k16 : Bool → IntKind
  | true => .i16
  | false => .u16
def k8 : Bool → IntKind
  | true => .i8
  | false => .u8
def capVals (ρ : Nat → Loc) : List (Nat × Nat) → List Value
  | [] => []
  | (i, o) :: r => .pointer (some ⟨(ρ i).b, (ρ i).o + o, none⟩) :: capVals ρ r
def gP : PL → Value
  | .b64 s x => .int (k64 s) (vI s x)
  | .b32 s x => .int (k32 s) (vI s x)
  | .b16 s x => .int (k16 s) (vI s x)
  | .b8 s x => .int (k8 s) (vI s x)
  | .bool b => .bool b
  | .str s => .string s
/-- The model's value. ρ: which block a name is. -/
def gL (ρ : Nat → Loc) : L → Value
  | .b64 s x => .int (k64 s) (vI s x)
  | .b32 s x => .int (k32 s) (vI s x)
  | .b16 s x => .int (k16 s) (vI s x)
  | .b8 s x => .int (k8 s) (vI s x)
  | .bool b => .bool b
  | .str s => .string s
  | .ptr i off => .pointer (some ⟨(ρ i).b, (ρ i).o + off, none⟩)
  | .eptr i off _ k => .pointer (some ⟨(ρ i).b, (ρ i).o + (off + k), none⟩)
  | .slc i off len cap => .slice (some ⟨(ρ i).b, (ρ i).o + off, none⟩) len cap
  | .gmap _ b => .map (some b)
  | .clo f caps => .func (.func f) #[] (capVals ρ caps).toArray
  | .raw v => v
  | .rptr i o z k p => .pointer (some ⟨(ρ i).b, (ρ i).o + (o + (z * k + p)), none⟩)
  | .rsl i n => .slice (some ⟨(ρ i).b, (ρ i).o, none⟩) n (ρ i).c
  | .rsc i z k n => .slice (some ⟨(ρ i).b, (ρ i).o + (if (ρ i).c = k then 0 else z * k), none⟩) n ((ρ i).c - k)
  | .imap i => .map (some (ρ i).b)
  | .seg _ _ _ => undef
  | .junk => undef
def isSeg : L → Bool
  | .seg _ _ _ => true
  | _ => false
theorem gP_toL (ρ : Nat → Loc) (p : PL) : gL ρ p.toL = gP p := by cases p <;> rfl
theorem toL_seg (p : PL) : isSeg p.toL = false := by cases p <;> rfl
theorem toL_names (p : PL) : p.toL.names = [] := by cases p <;> rfl
theorem toL_junk (p : PL) : p.toL ≠ .junk := by cases p <;> simp [PL.toL]
theorem pl_toL {l : L} {p : PL} (h : l.pl = some p) : l = p.toL := by
  cases l <;> simp [L.pl] at h <;> subst h <;> rfl
def RelL (ρ : Nat → Loc) (l : L) (v : Value) : Prop := l ≠ .junk → v = gL ρ l
/-- Values that are elements, told by a function. -/
def SegV (z n : Nat) (f : Nat → List PL) (us : List Value) : Prop := us.length = z * n ∧ ∀ k, k < n → (f k).length = z ∧ ∀ j, j < z → us[z * k + j]? = ((f k)[j]?).map gP
def RelI (ρ : Nat → Loc) (l : L) (us : List Value) : Prop := match l with
  | .seg z n f => SegV z n f us
  | l => ∃ v, us = [v] ∧ RelL ρ l v
def RelLs (ρ : Nat → Loc) : List L → List Value → Prop
  | [], vs => vs = []
  | l :: ls, vs => ∃ us ws, vs = us ++ ws ∧ RelI ρ l us ∧ RelLs ρ ls ws
def RelVs (ρ : Nat → Loc) : List (Bool × List L) → List Value → Prop
  | [], [] => True
  | (true, ls) :: r, v :: vs => (∃ cs : Array Value, v = .agg cs ∧ RelLs ρ ls cs.toList) ∧ RelVs ρ r vs
  | (false, [l]) :: r, v :: vs => RelL ρ l v ∧ RelVs ρ r vs
  | _, _ => False
def RelA (ρ : Nat → Loc) : AV → Value → Prop
  | .one l, v => RelL ρ l v
  | .agg ls, v => ∃ cs : Array Value, v = .agg cs ∧ RelLs ρ ls cs.toList
  | .tup vs, v => ∃ cs : Array Value, v = .tuple cs ∧ RelVs ρ vs cs.toList
def RelAs (ρ : Nat → Loc) : List AV → List Value → Prop
  | [], [] => True
  | x :: xs, v :: vs => RelA ρ x v ∧ RelAs ρ xs vs
  | _, _ => False
/-- The entries of an own map of numbers. -/
def entsOf (es : List (BitVec 64 × BitVec 64)) : List (Value × Value) := es.map fun p => (.int .i64 p.1.toInt, .int .i64 p.2.toInt)
/-- q: where the block lies. -/
def RelB (ρ : Nat → Loc) (q : Loc) : Blk → Option Obj → Prop
  | .cells T ls, o => ∃ cs : Array Value, o = some (.cells cs T (0, 0)) ∧ q.o = 0 ∧ RelLs ρ ls cs.toList
  | .ro T ls, o => ∃ (cs : Array Value) (fr : Nat × Nat), o = some (.cells cs T fr) ∧ ∃ us ws, cs.toList.drop q.o = us ++ ws ∧ RelLs ρ ls us
  | .row T z n f, o => ∃ cs : Array Value, o = some (.cells cs T (0, 0)) ∧ q.o = 0 ∧ cs.size = z * q.c ∧ n ≤ q.c ∧ q.c ≤ maxLen ∧ SegV z n f (cs.toList.take (z * n))
  | .imap es, o => ∃ (ents : Array MapEntry) (clock : Nat), o = some (.map ents clock) ∧ ents.toList.map (fun e => (e.key, e.val)) = entsOf es
  | .romap es, o => ∃ (ents : Array MapEntry) (clock : Nat), o = some (.map ents clock) ∧ ents.toList.map (fun e => (e.key, e.val)) = entsOf es
theorem relI_one {ρ : Nat → Loc} {l : L} {us : List Value} (h : isSeg l = false) : RelI ρ l us ↔ ∃ v, us = [v] ∧ RelL ρ l v := by
  cases l <;> first | exact Iff.rfl | simp [isSeg] at h
theorem relLs_cons {ρ : Nat → Loc} {l : L} {ls : List L} {vs : List Value} (h : isSeg l = false) : RelLs ρ (l :: ls) vs ↔ ∃ v ws, vs = v :: ws ∧ RelL ρ l v ∧ RelLs ρ ls ws := by
  constructor
  · rintro ⟨us, ws, rfl, h1, h2⟩
    obtain ⟨v, rfl, h3⟩ := (relI_one h).1 h1
    exact ⟨v, ws, rfl, h3, h2⟩
  · rintro ⟨v, ws, rfl, h1, h2⟩
    exact ⟨[v], ws, rfl, (relI_one h).2 ⟨v, rfl, h1⟩, h2⟩
theorem relI_len {ρ : Nat → Loc} {l : L} {us : List Value} (h : RelI ρ l us) : wid l = us.length := by
  cases hs : isSeg l with
  | true => cases l <;> simp [isSeg] at hs; exact h.1.symm
  | false =>
    obtain ⟨v, rfl, _⟩ := (relI_one hs).1 h
    cases l <;> first | rfl | simp [isSeg] at hs
theorem relLs_len {ρ : Nat → Loc} : ∀ {ls : List L} {vs : List Value}, RelLs ρ ls vs → wids ls = vs.length
  | [], _, h => by cases h; rfl
  | l :: ls, _, ⟨us, ws, e, h1, h2⟩ => by subst e; simp [wids, relI_len h1, relLs_len h2]; omega
theorem relLs_nil {ρ : Nat → Loc} {vs : List Value} : RelLs ρ [] vs ↔ vs = [] := Iff.rfl
theorem relLs_app {ρ : Nat → Loc} : ∀ {xs ys : List L} {us vs : List Value}, RelLs ρ xs us → RelLs ρ ys vs → RelLs ρ (appL xs ys) (us ++ vs)
  | [], _, _, _, h, h' => by cases h; exact h'
  | x :: xs, ys, _, vs, ⟨us, ws, e, h1, h2⟩, h' => ⟨us, ws ++ vs, by rw [e, List.append_assoc], h1, relLs_app h2 h'⟩
theorem relL_toL {ρ : Nat → Loc} (p : PL) : RelL ρ p.toL (gP p) := fun _ => (gP_toL ρ p).symm
theorem relLs_toLs {ρ : Nat → Loc} : ∀ ps : List PL, RelLs ρ (toLs ps) (ps.map gP)
  | [] => rfl
  | p :: ps => (relLs_cons (toL_seg p)).2 ⟨gP p, ps.map gP, rfl, relL_toL p, relLs_toLs ps⟩
theorem toPLs_eq : ∀ {ls : List L} {ps : List PL}, toPLs ls = some ps → ls = toLs ps
  | [], ps, h => by simp [toPLs] at h; subst h; rfl
  | l :: ls, ps, h => by
    simp only [toPLs] at h
    split at h
    · rename_i p hp
      split at h
      · rename_i r hr
        obtain rfl := Option.some.inj h
        rw [pl_toL hp, toPLs_eq hr]; rfl
      · cases h
    · cases h
theorem relLs_back {ρ : Nat → Loc} : ∀ {ps : List PL} {vs : List Value}, RelLs ρ (toLs ps) vs → vs = ps.map gP
  | [], _, h => h
  | p :: ps, vs, h => by
    obtain ⟨v, ws, rfl, h1, h2⟩ := (relLs_cons (toL_seg p)).1 h
    rw [relLs_back h2, h1 (toL_junk p), gP_toL]; rfl
theorem toPLs_rel {ρ : Nat → Loc} {ls : List L} {ps : List PL} {vs : List Value} (h : toPLs ls = some ps) (hr : RelLs ρ ls vs) : vs = ps.map gP := by
  rw [toPLs_eq h] at hr; exact relLs_back hr
theorem toLs_names : ∀ ps : List PL, lnames (toLs ps) = []
  | [] => rfl
  | p :: ps => by simp [toLs, lnames, toL_names, toLs_names ps]
theorem dropP_eq : ∀ (ps : List PL) (n : Nat), dropP ps n = ps.drop n
  | ps, 0 => by cases ps <;> rfl
  | [], n + 1 => by simp [dropP]
  | _ :: ps, n + 1 => by simp [dropP, dropP_eq ps n]
theorem takeP_eq : ∀ (ps : List PL) (n : Nat) (r : List PL), takeP ps n = some r → r = ps.take n ∧ n ≤ ps.length
  | ps, 0, r, h => by cases ps <;> simp [takeP] at h <;> simp [h]
  | [], n + 1, r, h => by simp [takeP] at h
  | p :: ps, n + 1, r, h => by
    simp only [takeP] at h
    split at h
    · rename_i r' hr
      obtain rfl := Option.some.inj h
      obtain ⟨h1, h2⟩ := takeP_eq ps n r' hr
      subst h1
      exact ⟨rfl, by simpa using h2⟩
    · cases h
theorem appL_eq : ∀ xs ys : List L, appL xs ys = xs ++ ys
  | [], _ => rfl
  | x :: xs, ys => by simp [appL, appL_eq xs ys]
/-- An element's values. -/
theorem SegV.elem {z n : Nat} {f : Nat → List PL} {us : List Value} (h : SegV z n f us) {k : Nat} (hk : k < n) : (us.drop (z * k)).take z = (f k).map gP := by
  obtain ⟨hl, he⟩ := h.2 k hk
  apply List.ext_getElem?
  intro j
  rw [List.getElem?_take, List.getElem?_map]
  split
  · rename_i hj
    rw [List.getElem?_drop, he j hj]
  · rename_i hj
    rw [List.getElem?_eq_none (by omega)]; rfl
theorem mul_lt_of {z k m : Nat} (h : k < m) : z * k + z ≤ z * m := by
  calc z * k + z = z * (k + 1) := by rw [Nat.mul_add, Nat.mul_one]
    _ ≤ z * m := Nat.mul_le_mul_left z h
theorem SegV.tail {z m : Nat} {f : Nat → List PL} {us : List Value} (h : SegV z m f us) {k : Nat} (hk : k ≤ m) : SegV z (m - k) (fun j => f (j + k)) (us.drop (z * k)) := by
  refine ⟨by rw [List.length_drop, h.1, Nat.mul_sub], fun j hj => ?_⟩
  obtain ⟨h1, h2⟩ := h.2 (j + k) (by omega)
  refine ⟨h1, fun i hi => ?_⟩
  rw [List.getElem?_drop, ← h2 i hi]
  congr 1
  rw [Nat.mul_add]; omega
theorem SegV.cut {z m : Nat} {f : Nat → List PL} {us : List Value} (h : SegV z m f us) {k o : Nat} (hk : k < m) (ho : o ≤ z) :
    us.drop (z * k + o) = ((f k).drop o).map gP ++ us.drop (z * (k + 1)) := by
  have h1 := h.elem hk
  have hl : ((f k).map gP).length = z := by simp [(h.2 k hk).1]
  have h2 : us.drop (z * k) = (f k).map gP ++ us.drop (z * (k + 1)) := by
    rw [← h1, Nat.mul_add, Nat.mul_one, ← List.drop_drop]
    exact (List.take_append_drop z _).symm
  rw [← List.drop_drop, h2, List.drop_append_of_le_length (by omega), List.map_drop]
theorem relLs_tailS {ρ : Nat → Loc} {z m : Nat} {f : Nat → List PL} {us ws : List Value} {ls : List L} (h : SegV z m f us) (hw : RelLs ρ ls ws) {k : Nat} (hk : k ≤ m) :
    RelLs ρ (tailS z m f k ls) (us.drop (z * k) ++ ws) := by
  unfold tailS
  split
  · rename_i e
    have e' : k = m := by simpa using e
    subst e'
    rw [List.drop_of_length_le (by rw [h.1]; exact Nat.le_refl _)]
    exact hw
  · exact ⟨_, _, rfl, h.tail hk, hw⟩
theorem dropL_cons {l : L} {ls : List L} {n : Nat} (h : isSeg l = false) : dropL (l :: ls) (n + 1) = dropL ls n := by
  cases l <;> first | rfl | simp [isSeg] at h
theorem takeL_cons {l : L} {ls : List L} {n : Nat} (h : isSeg l = false) : takeL (l :: ls) (n + 1) = (match takeL ls n with | some r => some (l :: r) | none => none) := by
  cases l <;> first | rfl | simp [isSeg] at h
theorem relLs_drop {ρ : Nat → Loc} : ∀ {ls : List L} {vs : List Value} (n : Nat), RelLs ρ ls vs → RelLs ρ (dropL ls n) (vs.drop n)
  | ls, vs, 0, h => by cases ls <;> simpa [dropL] using h
  | [], _, n + 1, h => by cases h; simp [dropL, RelLs]
  | l :: ls, vs, n + 1, h => by
    cases hs : isSeg l with
    | false =>
      obtain ⟨v, ws, rfl, _, h2⟩ := (relLs_cons hs).1 h
      rw [dropL_cons hs]
      simpa using relLs_drop n h2
    | true =>
      cases l <;> simp [isSeg] at hs
      rename_i z m f
      obtain ⟨us, ws, rfl, h1, h2⟩ := h
      have h1 : SegV z m f us := h1
      have hl := h1.1
      simp only [dropL]
      split
      · rename_i hle
        have hle' : z * m ≤ n + 1 := by simpa using hle
        rw [List.drop_append, List.drop_of_length_le (by omega), List.nil_append, hl]
        exact relLs_drop _ h2
      · rename_i hle
        have hlt : n + 1 < z * m := by
          have : ¬ z * m ≤ n + 1 := fun e => by rw [Nat.ble_eq_true_of_le e] at hle; cases hle
          omega
        have hz : 0 < z := Nat.pos_of_ne_zero fun e => by subst e; simp at hlt
        have hk : (n + 1) / z < m := Nat.div_lt_of_lt_mul hlt
        have ho : (n + 1) % z < z := Nat.mod_lt _ hz
        have hn : z * ((n + 1) / z) + (n + 1) % z = n + 1 := Nat.div_add_mod _ _
        rw [List.drop_append_of_le_length (by omega)]
        have hc := h1.cut hk (Nat.le_of_lt ho)
        rw [hn] at hc
        rw [hc, List.append_assoc, dropP_eq]
        exact relLs_app (relLs_toLs _) (relLs_tailS h1 h2 hk)
theorem relLs_take {ρ : Nat → Loc} : ∀ {ls : List L} {vs : List Value} (n : Nat) {r : List L}, takeL ls n = some r → RelLs ρ ls vs → RelLs ρ r (vs.take n) ∧ n ≤ vs.length
  | ls, vs, 0, r, h, _ => by
    have : r = [] := by cases ls <;> simp [takeL] at h <;> exact h
    subst this; simp [RelLs]
  | [], _, n + 1, r, h, _ => by simp [takeL] at h
  | l :: ls, vs, n + 1, r, h, h' => by
    cases hs : isSeg l with
    | false =>
      obtain ⟨v, ws, rfl, h1, h2⟩ := (relLs_cons hs).1 h'
      rw [takeL_cons hs] at h
      split at h
      · rename_i r' hr
        obtain rfl : l :: r' = r := by simpa using h
        have ⟨h3, h4⟩ := relLs_take n hr h2
        exact ⟨(relLs_cons hs).2 ⟨v, _, by simp, h1, h3⟩, by simpa using h4⟩
      · cases h
    | true =>
      cases l <;> simp [isSeg] at hs
      rename_i z m f
      obtain ⟨us, ws, rfl, h1, h2⟩ := h'
      have h1 : SegV z m f us := h1
      have hl := h1.1
      simp only [takeL] at h
      split at h
      · rename_i hle
        have hle' : z * m ≤ n + 1 := by simpa using hle
        split at h
        · rename_i r' hr
          obtain rfl := Option.some.inj h
          have ⟨h3, h4⟩ := relLs_take _ hr h2
          refine ⟨⟨us, ws.take (n + 1 - z * m), ?_, h1, h3⟩, ?_⟩
          · rw [List.take_append, List.take_of_length_le (by omega), hl]
          · simp; omega
        · cases h
      · rename_i hle
        have hlt : n + 1 < z * m := by
          have : ¬ z * m ≤ n + 1 := fun e => by rw [Nat.ble_eq_true_of_le e] at hle; cases hle
          omega
        split at h
        · rename_i hz
          have hz' : n + 1 ≤ z := by simpa using hz
          split at h
          · rename_i r' hr
            obtain rfl := Option.some.inj h
            obtain ⟨rfl, hlen⟩ := takeP_eq _ _ _ hr
            have hm : 0 < m := Nat.pos_of_ne_zero fun e => by subst e; simp at hlt
            have he := h1.elem hm
            rw [Nat.mul_zero, List.drop_zero] at he
            refine ⟨?_, by simp; omega⟩
            rw [List.take_append_of_le_length (by omega)]
            have : us.take (n + 1) = ((f 0).take (n + 1)).map gP := by
              rw [List.map_take, ← he, List.take_take, Nat.min_eq_left hz']
            rw [this]
            exact relLs_toLs _
          · cases h
        · cases h
theorem relLs_head {ρ : Nat → Loc} {ls : List L} {vs : List Value} {l : L} (h : RelLs ρ ls vs) (e : headL ls = some l) : ∃ v, vs.head? = some v ∧ RelL ρ l v ∧ isSeg l = false := by
  cases ls with
  | nil => simp [headL] at e
  | cons x xs =>
    cases hs : isSeg x with
    | false =>
      obtain ⟨v, ws, rfl, h1, -⟩ := (relLs_cons hs).1 h
      have : x = l := by cases x <;> first | simpa [headL] using e | simp [isSeg] at hs
      subst this
      exact ⟨v, rfl, h1, hs⟩
    | true =>
      cases x <;> simp [isSeg] at hs
      rename_i z m f
      obtain ⟨us, ws, rfl, h1, h2⟩ := h
      have h1 : SegV z m f us := h1
      simp only [headL] at e
      split at e
      · cases e
      · rename_i m'
        split at e
        · rename_i p r hp
          obtain rfl := Option.some.inj e
          have he := h1.elem (k := 0) (by omega)
          rw [hp, Nat.mul_zero, List.drop_zero] at he
          refine ⟨gP p, ?_, relL_toL p, toL_seg p⟩
          cases us with
          | nil => simp at he
          | cons u us =>
            cases z with
            | zero => simp at he
            | succ z => simp at he; simp [he.1]
        · cases e
theorem pickP_eq (c : Prop) [Decidable c] (v x : PL) : pickP c v x = if c then v else x := by
  cases v with
  | b64 s v => cases x with
    | b64 s' x => cases s <;> cases s' <;> simp only [pickP] <;> split <;> rfl
    | _ => rfl
  | b32 s v => cases x with
    | b32 s' x => cases s <;> cases s' <;> simp only [pickP] <;> split <;> rfl
    | _ => rfl
  | b16 s v => cases x with
    | b16 s' x => cases s <;> cases s' <;> simp only [pickP] <;> split <;> rfl
    | _ => rfl
  | b8 s v => cases x with
    | b8 s' x => cases s <;> cases s' <;> simp only [pickP] <;> split <;> rfl
    | _ => rfl
  | bool v => cases x with
    | bool x => simp only [pickP]; split <;> rfl
    | _ => rfl
  | str v => rfl
theorem mergeP_len (c : Prop) [Decidable c] : ∀ (p : Nat) (vs xs : List PL), (mergeP c p vs xs).length = xs.length
  | _, _, [] => by simp [mergeP]
  | 0, [], x :: xs => by simp [mergeP]
  | 0, v :: vs, x :: xs => by simp [mergeP, mergeP_len c 0 vs xs]
  | p + 1, vs, x :: xs => by simp [mergeP, mergeP_len c p vs xs]
theorem mergeP_get (c : Prop) [Decidable c] : ∀ (p : Nat) (vs xs : List PL) (j : Nat), p + vs.length ≤ xs.length → (mergeP c p vs xs)[j]? = if c ∧ p ≤ j ∧ j < p + vs.length then vs[j - p]? else xs[j]?
  | p, vs, [], j, h => by
    obtain rfl : vs = [] := List.eq_nil_of_length_eq_zero (by simp only [List.length_nil] at h; omega)
    simp [mergeP]
  | 0, [], x :: xs, j, _ => by simp [mergeP]
  | 0, v :: vs, x :: xs, 0, _ => by
    simp only [mergeP, List.getElem?_cons_zero, pickP_eq]
    by_cases hc : c <;> simp [hc]
  | 0, v :: vs, x :: xs, j + 1, h => by
    simp only [mergeP, List.getElem?_cons_succ]
    rw [mergeP_get c 0 vs xs j (by simpa using h)]
    by_cases hc : c <;> simp [hc]
  | p + 1, vs, x :: xs, 0, _ => by simp [mergeP]
  | p + 1, vs, x :: xs, j + 1, h => by
    simp only [mergeP, List.getElem?_cons_succ]
    rw [mergeP_get c p vs xs j (by simp at h; omega)]
    by_cases hc : c ∧ p ≤ j ∧ j < p + vs.length
    · rw [if_pos hc, if_pos ⟨hc.1, by omega, by omega⟩]; congr 1; omega
    · rw [if_neg hc, if_neg fun e => hc ⟨e.1, by omega, by omega⟩]
theorem SegV.upd {z m : Nat} {f : Nat → List PL} {us : List Value} (h : SegV z m f us) {k o : Nat} {ps : List PL} (hk : k < m) (ho : o + ps.length ≤ z) :
    SegV z m (updF f k o ps) (us.take (z * k + o) ++ ps.map gP ++ us.drop (z * k + o + ps.length)) := by
  have hb := mul_lt_of (z := z) hk
  have hl := h.1
  have hlen : (us.take (z * k + o) ++ ps.map gP ++ us.drop (z * k + o + ps.length)).length = z * m := by
    simp only [List.length_append, List.length_take, List.length_map, List.length_drop]; omega
  refine ⟨hlen, fun j hj => ?_⟩
  obtain ⟨h1, h2⟩ := h.2 j hj
  refine ⟨by rw [updF, mergeP_len]; exact h1, fun i hi => ?_⟩
  have hbj := mul_lt_of (z := z) hj
  rw [updF, List.append_assoc]
  by_cases hjk : j = k
  · subst hjk
    rw [mergeP_get _ _ _ _ _ (by omega)]
    by_cases hin : o ≤ i ∧ i < o + ps.length
    · rw [if_pos ⟨rfl, hin.1, hin.2⟩, List.getElem?_append_right (by simp; omega), List.getElem?_append_left (by simp; omega), List.getElem?_map]
      congr 2
      simp; omega
    · rw [if_neg fun e => hin e.2]
      by_cases hlo : i < o
      · rw [List.getElem?_append_left (by simp; omega), List.getElem?_take, if_pos (by omega), h2 i hi]
      · rw [List.getElem?_append_right (by simp; omega), List.getElem?_append_right (by simp; omega), List.getElem?_drop, ← h2 i hi]
        congr 1
        simp; omega
  · have hm : mergeP (j = k) o ps (f j) = f j := by
      apply List.ext_getElem?
      intro i'
      rw [mergeP_get _ _ _ _ _ (by omega), if_neg fun e => hjk e.1]
    rw [hm, ← h2 i hi]
    rcases Nat.lt_or_gt_of_ne hjk with hlt | hgt
    · have := mul_lt_of (z := z) hlt
      rw [List.getElem?_append_left (by simp; omega), List.getElem?_take, if_pos (by omega)]
    · have := mul_lt_of (z := z) hgt
      rw [List.getElem?_append_right (by simp; omega), List.getElem?_append_right (by simp; omega), List.getElem?_drop]
      congr 1
      simp; omega
theorem whole_set {ρ : Nat → Loc} {ls vs : List L} {cs us : List Value} (h : RelLs ρ ls cs) (h' : RelLs ρ vs us) : RelLs ρ (appL vs (dropL ls (wids vs))) (cs.take 0 ++ us ++ cs.drop (0 + us.length)) := by
  rw [relLs_len h', Nat.zero_add]
  simpa using relLs_app h' (relLs_drop us.length h)
/-- Values laid into cells. -/
theorem relLs_setLs {ρ : Nat → Loc} : ∀ {ls vs r : List L} {cs us : List Value} (n : Nat), setLs ls n vs = some r → RelLs ρ ls cs → RelLs ρ vs us →
    RelLs ρ r (cs.take n ++ us ++ cs.drop (n + us.length)) ∧ n + us.length ≤ cs.length
  | [], vs, r, cs, us, n, e, h, h' => by
    cases h
    simp only [setLs] at e
    split at e
    · split at e
      · obtain rfl := Option.some.inj e
        cases h'
        simp [RelLs]
      · cases e
    · cases e
  | l :: ls, vs, r, cs, us, n, e, h, h' => by
    have whole : ∀ {X : List L}, X = l :: ls → n = 0 → (match Nat.ble (wids vs) (wids X) with
        | true => some (appL vs (dropL X (wids vs)))
        | false => none) = some r → RelLs ρ r (cs.take n ++ us ++ cs.drop (n + us.length)) ∧ n + us.length ≤ cs.length := by
      rintro X rfl rfl e
      split at e
      · rename_i hle
        obtain rfl := Option.some.inj e
        have hle' : wids vs ≤ wids (l :: ls) := by simpa using hle
        rw [relLs_len h', relLs_len h] at hle'
        exact ⟨whole_set h h', by omega⟩
      · cases e
    cases hs : isSeg l with
    | false =>
      have e : (match (generalizing := false) n with
          | 0 => match Nat.ble (wids vs) (wids (l :: ls)) with
            | true => some (appL vs (dropL (l :: ls) (wids vs)))
            | false => none
          | n + 1 => match setLs ls n vs with
            | some r => some (l :: r)
            | none => none) = some r := by
        cases l <;> first | exact e | simp [isSeg] at hs
      cases n with
      | zero => exact whole rfl rfl e
      | succ n =>
        dsimp only at e
        split at e
        · rename_i r' hr
          obtain rfl := Option.some.inj e
          obtain ⟨v, ws, rfl, h1, h2⟩ := (relLs_cons hs).1 h
          obtain ⟨h3, h4⟩ := relLs_setLs n hr h2 h'
          refine ⟨(relLs_cons hs).2 ⟨v, _, ?_, h1, h3⟩, by simp; omega⟩
          rw [show n + 1 + us.length = (n + us.length) + 1 by omega]
          simp
        · cases e
    | true =>
      cases l <;> simp [isSeg] at hs
      rename_i z m f
      obtain ⟨qs, ws, rfl, h1, h2⟩ := h
      have h1 : SegV z m f qs := h1
      have hl := h1.1
      simp only [setLs] at e
      split at e
      · rename_i hle
        have hle' : z * m ≤ n := by simpa using hle
        split at e
        · rename_i r' hr
          obtain rfl := Option.some.inj e
          obtain ⟨h3, h4⟩ := relLs_setLs _ hr h2 h'
          refine ⟨⟨qs, _, ?_, h1, h3⟩, by simp; omega⟩
          rw [List.take_append, List.take_of_length_le (by omega), List.drop_append, List.drop_of_length_le (by omega), hl]
          rw [show n - z * m + us.length = n + us.length - z * m by omega]
          simp
        · cases e
      · rename_i hle
        have hlt : n < z * m := by
          have : ¬ z * m ≤ n := fun e => by rw [Nat.ble_eq_true_of_le e] at hle; cases hle
          omega
        split at e
        · rename_i ps hps
          split at e
          · rename_i hfit
            have hfit' : n % z + ps.length ≤ z := by simpa using hfit
            obtain rfl := Option.some.inj e
            have hz : 0 < z := Nat.pos_of_ne_zero fun e => by subst e; simp at hlt
            have hk : n / z < m := Nat.div_lt_of_lt_mul hlt
            have hn : z * (n / z) + n % z = n := Nat.div_add_mod _ _
            have hu := toPLs_rel hps h'
            have hul : us.length = ps.length := by rw [hu]; simp
            have hseg := h1.upd hk hfit'
            rw [hn, ← hu] at hseg
            have hb := mul_lt_of (z := z) hk
            refine ⟨⟨_, ws, ?_, hseg, h2⟩, by simp; omega⟩
            rw [List.take_append_of_le_length (by omega), List.drop_append_of_le_length (by omega), hul]
            simp
          · split at e
            · exact whole rfl rfl e
            · cases e
        · split at e
          · exact whole rfl rfl e
          · cases e
/-- A row's element. -/
theorem relLs_rdR {ρ : Nat → Loc} {ls : List L} {vs : List Value} {o z k p s : Nat} {c : Cond} {r : List L} (h : RelLs ρ ls vs) (e : rdR ls o z k p s = some (c, r)) (hc : c.holds) :
    RelLs ρ r ((vs.drop (o + (z * k + p))).take s) ∧ s ≤ (vs.drop (o + (z * k + p))).length := by
  have hd := relLs_drop o h
  unfold rdR at e
  cases hx : dropL ls o with
  | nil => rw [hx] at e; cases e
  | cons l r0 =>
    rw [hx] at e hd
    rw [← List.drop_drop]
    cases hs : isSeg l with
    | false =>
      have e : (match (generalizing := false) takeL (dropL (l :: r0) (z * k + p)) s with
          | some r => some (Cond.t, r)
          | none => none) = some (c, r) := by cases l <;> first | exact e | simp [isSeg] at hs
      split at e
      · rename_i r' hr
        simp only [Option.some.injEq, Prod.mk.injEq] at e
        obtain ⟨-, rfl⟩ := e
        exact relLs_take s hr (relLs_drop _ hd)
      · cases e
    | true =>
      cases l <;> simp [isSeg] at hs
      rename_i z' n f
      dsimp only at e
      split at e
      · rename_i hz
        have hz' : z = z' := by simpa using hz
        subst hz'
        split at e
        · rename_i ps hps
          simp only [Option.some.injEq, Prod.mk.injEq] at e
          obtain ⟨rfl, rfl⟩ := e
          have hk : k < n := hc
          obtain ⟨us, ws, h0, h1, h2⟩ := hd
          have h1 : SegV z n f us := h1
          obtain ⟨rfl, hlen⟩ := takeP_eq _ _ _ hps
          rw [dropP_eq] at hlen ⊢
          have hfl := (h1.2 k hk).1
          simp only [List.length_drop] at hlen
          have hb := mul_lt_of (z := z) hk
          have hul := h1.1
          by_cases hp : p ≤ z
          · have hcut := h1.cut hk hp
            rw [h0, List.drop_append_of_le_length (by omega), hcut]
            refine ⟨?_, by simp; omega⟩
            have : (((f k).drop p).map gP ++ us.drop (z * (k + 1)) ++ ws).take s = (((f k).drop p).take s).map gP := by
              rw [List.append_assoc, List.take_append_of_le_length (by simp; omega), List.map_take]
            rw [this]
            exact relLs_toLs _
          · obtain rfl : s = 0 := by omega
            refine ⟨?_, Nat.zero_le _⟩
            simp [toLs, RelLs]
        · cases e
      · cases e
theorem relLs_wrR {ρ : Nat → Loc} {z k p : Nat} {vs : List L} {us : List Value} (h' : RelLs ρ vs us) : ∀ {ls r : List L} {cs : List Value} (o : Nat) {c : Cond}, wrR z k p vs ls o = some (c, r) → c.holds → RelLs ρ ls cs →
    RelLs ρ r (cs.take (o + (z * k + p)) ++ us ++ cs.drop (o + (z * k + p) + us.length)) ∧ o + (z * k + p) + us.length ≤ cs.length
  | [], r, cs, o, c, e, _, _ => by simp [wrR] at e
  | l :: ls, r, cs, o, c, e, hc, h => by
    cases hs : isSeg l with
    | false =>
      have e : (match (generalizing := false) o with
          | 0 => match setLs (l :: ls) (z * k + p) vs with
            | some r => some (Cond.t, r)
            | none => none
          | o + 1 => match wrR z k p vs ls o with
            | some (c, r) => some (c, l :: r)
            | none => none) = some (c, r) := by cases l <;> first | exact e | simp [isSeg] at hs
      cases o with
      | zero =>
        dsimp only at e
        split at e
        · rename_i r' hr
          simp only [Option.some.injEq, Prod.mk.injEq] at e
          obtain ⟨-, rfl⟩ := e
          rw [Nat.zero_add]
          exact relLs_setLs _ hr h h'
        · cases e
      | succ o =>
        dsimp only at e
        split at e
        · rename_i c' r' hr
          simp only [Option.some.injEq, Prod.mk.injEq] at e
          obtain ⟨rfl, rfl⟩ := e
          obtain ⟨v, ws, rfl, h1, h2⟩ := (relLs_cons hs).1 h
          obtain ⟨h3, h4⟩ := relLs_wrR h' o hr hc h2
          refine ⟨(relLs_cons hs).2 ⟨v, _, ?_, h1, h3⟩, by simp; omega⟩
          rw [show o + 1 + (z * k + p) = (o + (z * k + p)) + 1 by omega, show o + (z * k + p) + 1 + us.length = (o + (z * k + p) + us.length) + 1 by omega]
          simp
        · cases e
    | true =>
      cases l <;> simp [isSeg] at hs
      rename_i z' n f
      obtain ⟨qs, ws, rfl, h1, h2⟩ := h
      have h1 : SegV z' n f qs := h1
      have hl := h1.1
      simp only [wrR] at e
      split at e
      · split at e
        · rename_i hz
          have hz' : z = z' := by simpa using hz
          subst hz'
          split at e
          · rename_i ps hps
            split at e
            · rename_i hfit
              have hfit' : p + ps.length ≤ z := by simpa using hfit
              simp only [Option.some.injEq, Prod.mk.injEq] at e
              obtain ⟨rfl, rfl⟩ := e
              have hk : k < n := hc
              have hu := toPLs_rel hps h'
              have hul : us.length = ps.length := by rw [hu]; simp
              have hseg := h1.upd hk hfit'
              rw [← hu] at hseg
              have hb := mul_lt_of (z := z) hk
              rw [Nat.zero_add]
              refine ⟨⟨_, ws, ?_, hseg, h2⟩, by simp; omega⟩
              rw [List.take_append_of_le_length (by omega), List.drop_append_of_le_length (by omega), hul]
              simp
            · cases e
          · cases e
        · cases e
      · rename_i o
        split at e
        · rename_i hle
          have hle' : z' * n ≤ o + 1 := by simpa using hle
          split at e
          · rename_i c' r' hr
            simp only [Option.some.injEq, Prod.mk.injEq] at e
            obtain ⟨rfl, rfl⟩ := e
            obtain ⟨h3, h4⟩ := relLs_wrR h' _ hr hc h2
            refine ⟨⟨qs, _, ?_, h1, h3⟩, by simp; omega⟩
            rw [List.take_append, List.take_of_length_le (by omega), List.drop_append, List.drop_of_length_le (by omega), hl]
            rw [show o + 1 - z' * n + (z * k + p) = o + 1 + (z * k + p) - z' * n by omega, show o + 1 + (z * k + p) - z' * n + us.length = o + 1 + (z * k + p) + us.length - z' * n by omega]
            simp
          · cases e
        · cases e
theorem gL_leaf {ρ} {l : L} (h : l.ok = true) : leafV (gL ρ l) = true := by
  cases l <;> simp_all [L.ok, gL, leafV]
theorem cells_leaf {v : Value} (h : leafV v = true) : v.cells = #[v] := by
  cases v <;> simp_all [leafV, Value.cells]
theorem oneCell_leaf {v : Value} (h : leafV v = true) : v.oneCell' = true := by
  cases v <;> simp_all [leafV, Value.oneCell']
theorem relL_ok {ρ} {l : L} {v : Value} (hl : l.ok = true) (h : RelL ρ l v) : v = gL ρ l := h (by intro e; subst e; simp [L.ok] at hl)
theorem ok_seg {l : L} (h : l.ok = true) : isSeg l = false := by cases l <;> first | rfl | simp [L.ok] at h
/-- The cells of a value. -/
theorem rel_ls {ρ} {x : AV} {v : Value} {ls : List L} (h : RelA ρ x v) (e : x.ls = some ls) : RelLs ρ ls v.cells.toList := by
  cases x with
  | one l =>
    simp only [AV.ls] at e
    split at e
    · rename_i hl
      obtain rfl : [l] = ls := by simpa using e
      have hv := relL_ok hl h
      rw [cells_leaf (by rw [hv]; exact gL_leaf hl)]
      exact (relLs_cons (ok_seg hl)).2 ⟨v, [], rfl, h, rfl⟩
    · cases e
  | agg ls' =>
    obtain rfl : ls' = ls := by simpa [AV.ls] using e
    obtain ⟨cs, rfl, h⟩ := h
    exact h
  | tup vs => simp [AV.ls] at e
theorem gP_one (p : PL) : (gP p).oneCell' = true := by cases p <;> rfl
theorem SegV.mem {z n : Nat} {f : Nat → List PL} {us : List Value} (h : SegV z n f us) {v : Value} (hv : v ∈ us) : ∃ p, v = gP p := by
  obtain ⟨i, hi⟩ := List.mem_iff_getElem?.1 hv
  have hlt : i < z * n := by rw [← h.1]; exact (List.getElem?_eq_some_iff.1 hi).1
  have hz : 0 < z := Nat.pos_of_ne_zero fun e => by subst e; simp at hlt
  have hk : i / z < n := Nat.div_lt_of_lt_mul hlt
  have h1 := (h.2 _ hk).2 _ (Nat.mod_lt i hz)
  rw [Nat.div_add_mod, hi] at h1
  cases hp : (f (i / z))[i % z]? with
  | none => rw [hp] at h1; simp at h1
  | some p => rw [hp] at h1; exact ⟨p, by simpa using h1⟩
theorem okLs_one {ρ} : ∀ {ls : List L} {vs : List Value}, RelLs ρ ls vs → okLs ls = true → ∀ v ∈ vs, v.oneCell' = true
  | [], _, h, _ => by cases h; simp
  | l :: ls, vs, h, hk => by
    simp only [okLs] at hk
    split at hk
    · rename_i hl
      obtain ⟨us, ws, rfl, h1, h2⟩ := h
      intro u hu
      rcases List.mem_append.1 hu with hu | hu
      · cases hs : isSeg l with
        | true =>
          cases l <;> simp [isSeg] at hs
          obtain ⟨p, rfl⟩ := SegV.mem h1 hu
          exact gP_one p
        | false =>
          obtain ⟨v, rfl, h3⟩ := (relI_one hs).1 h1
          obtain rfl : u = v := by simpa using hu
          have hl' : l.ok = true := by cases l <;> first | exact hl | simp [isSeg] at hs
          rw [relL_ok hl' h3]; exact oneCell_leaf (gL_leaf hl')
      · exact okLs_one h2 hk u hu
    · cases hk

theorem litW_rel {ρ} (K : IntKind) (mk : BitVec K.bits → L) (hmk : ∀ z, gL ρ (mk z) = .int K (vI K.signed z)) (n : Int) : RelL ρ (litW K.bits K.signed mk (.int K n) n) (.int K n) := by
  have hr : RelL ρ (L.raw (.int K n)) (.int K n) := fun _ => rfl
  unfold litW
  cases n with
  | ofNat m =>
    dsimp only
    split
    · rename_i h
      intro _
      show .int K (Int.ofNat m) = gL ρ (mk (BitVec.ofNat K.bits m))
      rw [hmk]
      congr 1
      have h' := Nat.le_of_ble_eq_true h
      cases K <;> simp only [IntKind.signed, IntKind.bits, vI, BitVec.toInt_ofNat', BitVec.toNat_ofNat] at h' ⊢ <;> simp at h' ⊢ <;> (try rw [Int.bmod_eq_of_le]) <;> omega
    · exact hr
  | negSucc m =>
    dsimp only
    cases hs : K.signed
    · exact hr
    · dsimp only
      split
      · rename_i h
        intro _
        rw [hmk]
        congr 1
        have h' := Nat.le_of_ble_eq_true h
        cases K <;> simp only [IntKind.signed, IntKind.bits, vI, BitVec.toInt_ofInt, Bool.false_eq_true] at h' hs ⊢ <;> (rw [Int.bmod_eq_of_le] <;> simp at h' ⊢ <;> omega)
      · exact hr
theorem ofLeaf_rel {ρ} (v : Value) : RelL ρ (ofLeaf v) v := by
  cases v with
  | int k n =>
    cases k
    · exact litW_rel .i8 (L.b8 true) (fun _ => rfl) n
    · exact litW_rel .i16 (L.b16 true) (fun _ => rfl) n
    · exact litW_rel .i32 (L.b32 true) (fun _ => rfl) n
    · exact litW_rel .i64 (L.b64 true) (fun _ => rfl) n
    · exact litW_rel .u8 (L.b8 false) (fun _ => rfl) n
    · exact litW_rel .u16 (L.b16 false) (fun _ => rfl) n
    · exact litW_rel .u32 (L.b32 false) (fun _ => rfl) n
    · exact litW_rel .u64 (L.b64 false) (fun _ => rfl) n
  | _ => exact fun _ => rfl
theorem litW_seg {w : Nat} {s : Bool} {mk : BitVec w → L} (hmk : ∀ z, isSeg (mk z) = false) (v : Value) (n : Int) : isSeg (litW w s mk v n) = false := by
  unfold litW
  cases n <;> dsimp only
  · split <;> first | exact hmk _ | rfl
  · cases s <;> dsimp only
    · rfl
    · split <;> first | exact hmk _ | rfl
theorem ofLeaf_seg (v : Value) : isSeg (ofLeaf v) = false := by
  cases v with
  | int k n =>
    cases k
    · exact litW_seg (s := true) (mk := L.b8 true) (fun _ => rfl) (.int .i8 n) n
    · exact litW_seg (s := true) (mk := L.b16 true) (fun _ => rfl) (.int .i16 n) n
    · exact litW_seg (s := true) (mk := L.b32 true) (fun _ => rfl) (.int .i32 n) n
    · exact litW_seg (s := true) (mk := L.b64 true) (fun _ => rfl) (.int .i64 n) n
    · exact litW_seg (s := false) (mk := L.b8 false) (fun _ => rfl) (.int .u8 n) n
    · exact litW_seg (s := false) (mk := L.b16 false) (fun _ => rfl) (.int .u16 n) n
    · exact litW_seg (s := false) (mk := L.b32 false) (fun _ => rfl) (.int .u32 n) n
    · exact litW_seg (s := false) (mk := L.b64 false) (fun _ => rfl) (.int .u64 n) n
  | _ => rfl
theorem mapLeaf_rel {ρ} : ∀ vs : List Value, RelLs ρ (mapLeaf vs) vs
  | [] => rfl
  | v :: vs => (relLs_cons (ofLeaf_seg v)).2 ⟨v, vs, rfl, ofLeaf_rel v, mapLeaf_rel vs⟩
theorem ofV_rel {ρ} (v : Value) : RelA ρ (ofV v) v := by
  cases v with
  | agg cs => exact ⟨cs, rfl, mapLeaf_rel _⟩
  | _ => exact ofLeaf_rel _
theorem litW_names {w : Nat} {s : Bool} {mk : BitVec w → L} (hmk : ∀ z, (mk z).names = []) (v : Value) (n : Int) : (litW w s mk v n).names = [] := by
  unfold litW
  cases n <;> dsimp only
  · split <;> first | exact hmk _ | rfl
  · cases s <;> dsimp only
    · rfl
    · split <;> first | exact hmk _ | rfl
theorem ofLeaf_names (v : Value) : (ofLeaf v).names = [] := by
  cases v with
  | int k n =>
    cases k
    · exact litW_names (s := true) (mk := L.b8 true) (fun _ => rfl) (.int .i8 n) n
    · exact litW_names (s := true) (mk := L.b16 true) (fun _ => rfl) (.int .i16 n) n
    · exact litW_names (s := true) (mk := L.b32 true) (fun _ => rfl) (.int .i32 n) n
    · exact litW_names (s := true) (mk := L.b64 true) (fun _ => rfl) (.int .i64 n) n
    · exact litW_names (s := false) (mk := L.b8 false) (fun _ => rfl) (.int .u8 n) n
    · exact litW_names (s := false) (mk := L.b16 false) (fun _ => rfl) (.int .u16 n) n
    · exact litW_names (s := false) (mk := L.b32 false) (fun _ => rfl) (.int .u32 n) n
    · exact litW_names (s := false) (mk := L.b64 false) (fun _ => rfl) (.int .u64 n) n
  | _ => rfl
theorem mapLeaf_names : ∀ vs : List Value, lnames (mapLeaf vs) = []
  | [] => rfl
  | v :: vs => by simp [mapLeaf, lnames, ofLeaf_names, mapLeaf_names vs]
theorem ofV_names (v : Value) : (ofV v).names = [] := by
  cases v with
  | agg cs => exact mapLeaf_names _
  | _ => simp only [ofV, AV.names, ofLeaf_names]

theorem lnames_mem {n : Nat} : ∀ {ls : List L}, n ∈ lnames ls ↔ ∃ l ∈ ls, n ∈ l.names
  | [] => by simp [lnames]
  | l :: ls => by simp [lnames, lnames_mem]
theorem appL_names {m : Nat} {xs ys : List L} (h : m ∈ lnames (appL xs ys)) : m ∈ lnames xs ∨ m ∈ lnames ys := by
  rw [appL_eq, lnames_mem] at h
  obtain ⟨l, hl, hm⟩ := h
  rcases List.mem_append.1 hl with hl | hl
  · exact .inl (lnames_mem.2 ⟨l, hl, hm⟩)
  · exact .inr (lnames_mem.2 ⟨l, hl, hm⟩)
theorem cons_names {m : Nat} {l : L} {ls : List L} (h : m ∈ lnames ls) : m ∈ lnames (l :: ls) := by simp [lnames, h]
theorem dropL_names {m : Nat} : ∀ {ls : List L} (n : Nat), m ∈ lnames (dropL ls n) → m ∈ lnames ls
  | ls, 0, h => by cases ls <;> simpa [dropL] using h
  | [], n + 1, h => by simp [dropL, lnames] at h
  | l :: ls, n + 1, h => by
    cases hs : isSeg l with
    | false => rw [dropL_cons hs] at h; exact cons_names (dropL_names n h)
    | true =>
      cases l <;> simp [isSeg] at hs
      simp only [dropL] at h
      split at h
      · exact cons_names (dropL_names _ h)
      · rcases appL_names h with h | h
        · simp [toLs_names] at h
        · unfold tailS at h
          split at h
          · exact cons_names h
          · simp only [lnames, L.names, List.nil_append] at h; exact cons_names h
theorem takeL_names {m : Nat} : ∀ {ls r : List L} (n : Nat), takeL ls n = some r → m ∈ lnames r → m ∈ lnames ls
  | ls, r, 0, h, hm => by
    have : r = [] := by cases ls <;> simp [takeL] at h <;> exact h
    subst this; simp [lnames] at hm
  | [], r, n + 1, h, _ => by simp [takeL] at h
  | l :: ls, r, n + 1, h, hm => by
    cases hs : isSeg l with
    | false =>
      rw [takeL_cons hs] at h
      split at h
      · rename_i r' hr
        obtain rfl := Option.some.inj h
        simp only [lnames, List.mem_append] at hm ⊢
        exact hm.imp id (takeL_names n hr)
      · cases h
    | true =>
      cases l <;> simp [isSeg] at hs
      simp only [takeL] at h
      split at h
      · split at h
        · rename_i r' hr
          obtain rfl := Option.some.inj h
          simp only [lnames, L.names, List.nil_append] at hm
          exact cons_names (takeL_names _ hr hm)
        · cases h
      · split at h
        · split at h
          · obtain rfl := Option.some.inj h
            simp [toLs_names] at hm
          · cases h
        · cases h
theorem headL_names {m : Nat} {ls : List L} {l : L} (h : headL ls = some l) (hm : m ∈ l.names) : m ∈ lnames ls := by
  cases ls with
  | nil => simp [headL] at h
  | cons x xs =>
    cases hs : isSeg x with
    | false =>
      have : x = l := by cases x <;> first | simpa [headL] using h | simp [isSeg] at hs
      subst this
      simp [lnames, hm]
    | true =>
      cases x <;> simp [isSeg] at hs
      simp only [headL] at h
      split at h
      · cases h
      · split at h
        · obtain rfl := Option.some.inj h
          simp [toL_names] at hm
        · cases h
theorem sub_names {ls r : List L} {o n m : Nat} (h : takeL (dropL ls o) n = some r) (hm : m ∈ lnames r) : m ∈ lnames ls := dropL_names o (takeL_names n h hm)
theorem head_names {ls : List L} {l : L} {o m : Nat} (h : headL (dropL ls o) = some l) (hm : m ∈ l.names) : m ∈ lnames ls := dropL_names o (headL_names h hm)
theorem setLs_names {m : Nat} {vs : List L} : ∀ {ls r : List L} (n : Nat), setLs ls n vs = some r → m ∈ lnames r → m ∈ lnames ls ∨ m ∈ lnames vs
  | [], r, n, e, hm => by
    simp only [setLs] at e
    split at e
    · split at e
      · obtain rfl := Option.some.inj e; simp [lnames] at hm
      · cases e
    · cases e
  | l :: ls, r, n, e, hm => by
    have whole : ∀ {X : List L}, X = l :: ls → (match Nat.ble (wids vs) (wids X) with
        | true => some (appL vs (dropL X (wids vs)))
        | false => none) = some r → m ∈ lnames (l :: ls) ∨ m ∈ lnames vs := by
      rintro X rfl e
      split at e
      · obtain rfl := Option.some.inj e
        rcases appL_names hm with h | h
        · exact .inr h
        · exact .inl (dropL_names _ h)
      · cases e
    cases hs : isSeg l with
    | false =>
      have e : (match (generalizing := false) n with
          | 0 => match Nat.ble (wids vs) (wids (l :: ls)) with
            | true => some (appL vs (dropL (l :: ls) (wids vs)))
            | false => none
          | n + 1 => match setLs ls n vs with
            | some r => some (l :: r)
            | none => none) = some r := by
        cases l <;> first | exact e | simp [isSeg] at hs
      cases n with
      | zero => exact whole rfl e
      | succ n =>
        dsimp only at e
        split at e
        · rename_i r' hr
          obtain rfl := Option.some.inj e
          simp only [lnames, List.mem_append] at hm ⊢
          rcases hm with h | h
          · exact .inl (.inl h)
          · exact (setLs_names n hr h).imp .inr id
        · cases e
    | true =>
      cases l <;> simp [isSeg] at hs
      simp only [setLs] at e
      split at e
      · split at e
        · rename_i r' hr
          obtain rfl := Option.some.inj e
          simp only [lnames, L.names, List.nil_append] at hm
          exact (setLs_names _ hr hm).imp cons_names id
        · cases e
      · split at e
        · split at e
          · obtain rfl := Option.some.inj e
            simp only [lnames, L.names, List.nil_append] at hm
            exact .inl (cons_names hm)
          · split at e
            · exact whole rfl e
            · cases e
        · split at e
          · exact whole rfl e
          · cases e
theorem rdR_names {ls r : List L} {o z k p s m : Nat} {c : Cond} (e : rdR ls o z k p s = some (c, r)) (hm : m ∈ lnames r) : m ∈ lnames ls := by
  unfold rdR at e
  cases hx : dropL ls o with
  | nil => rw [hx] at e; cases e
  | cons l r0 =>
    rw [hx] at e
    refine dropL_names o ?_
    rw [hx]
    cases hs : isSeg l with
    | false =>
      have e : (match (generalizing := false) takeL (dropL (l :: r0) (z * k + p)) s with
          | some r => some (Cond.t, r)
          | none => none) = some (c, r) := by cases l <;> first | exact e | simp [isSeg] at hs
      split at e
      · rename_i r' hr
        simp only [Option.some.injEq, Prod.mk.injEq] at e
        obtain ⟨-, rfl⟩ := e
        exact sub_names hr hm
      · cases e
    | true =>
      cases l <;> simp [isSeg] at hs
      dsimp only at e
      split at e
      · split at e
        · simp only [Option.some.injEq, Prod.mk.injEq] at e
          obtain ⟨-, rfl⟩ := e
          simp [toLs_names] at hm
        · cases e
      · cases e
theorem wrR_names {z k p m : Nat} {vs : List L} : ∀ {ls r : List L} (o : Nat) {c : Cond}, wrR z k p vs ls o = some (c, r) → m ∈ lnames r → m ∈ lnames ls ∨ m ∈ lnames vs
  | [], r, o, c, e, _ => by simp [wrR] at e
  | l :: ls, r, o, c, e, hm => by
    cases hs : isSeg l with
    | false =>
      have e : (match (generalizing := false) o with
          | 0 => match setLs (l :: ls) (z * k + p) vs with
            | some r => some (Cond.t, r)
            | none => none
          | o + 1 => match wrR z k p vs ls o with
            | some (c, r) => some (c, l :: r)
            | none => none) = some (c, r) := by cases l <;> first | exact e | simp [isSeg] at hs
      cases o with
      | zero =>
        dsimp only at e
        split at e
        · rename_i r' hr
          simp only [Option.some.injEq, Prod.mk.injEq] at e
          obtain ⟨-, rfl⟩ := e
          exact setLs_names _ hr hm
        · cases e
      | succ o =>
        dsimp only at e
        split at e
        · rename_i c' r' hr
          simp only [Option.some.injEq, Prod.mk.injEq] at e
          obtain ⟨rfl, rfl⟩ := e
          simp only [lnames, List.mem_append] at hm ⊢
          rcases hm with h | h
          · exact .inl (.inl h)
          · exact (wrR_names o hr h).imp .inr id
        · cases e
    | true =>
      cases l <;> simp [isSeg] at hs
      simp only [wrR] at e
      split at e
      · split at e
        · split at e
          · split at e
            · simp only [Option.some.injEq, Prod.mk.injEq] at e
              obtain ⟨rfl, rfl⟩ := e
              simp only [lnames, L.names, List.nil_append] at hm
              exact .inl (cons_names hm)
            · cases e
          · cases e
        · cases e
      · split at e
        · split at e
          · rename_i c' r' hr
            simp only [Option.some.injEq, Prod.mk.injEq] at e
            obtain ⟨rfl, rfl⟩ := e
            simp only [lnames, L.names, List.nil_append] at hm
            exact (wrR_names _ hr hm).imp cons_names id
          · cases e
        · cases e
theorem ls_names {x : AV} {ls : List L} (e : x.ls = some ls) : lnames ls = x.names := by
  cases x with
  | one l =>
    simp only [AV.ls] at e
    split at e
    · obtain rfl : [l] = ls := by simpa using e
      simp [lnames, AV.names]
    · cases e
  | agg l =>
    obtain rfl : l = ls := by simpa [AV.ls] using e
    rfl
  | tup vs => simp [AV.ls] at e
theorem same_and {s t : Bool} {α : Type _} {x : α} {y : α} (h : same s t (some x) = some y) : s = t ∧ x = y := by
  cases s <;> cases t <;> simp [same] at h <;> exact ⟨rfl, h⟩
theorem col64_eq {s : Bool} : ∀ {ls : List L} {xs : List (BitVec 64)}, col64 s ls = some xs → ls = xs.map (.b64 s)
  | [], xs, e => by simp [col64] at e; subst e; rfl
  | l :: ls, xs, e => by
    cases l with
    | b64 s' x =>
      simp only [col64] at e
      split at e
      · rename_i x' xs' h1 h2
        obtain rfl := Option.some.inj e
        obtain ⟨rfl, rfl⟩ := same_and h1
        rw [col64_eq h2]; rfl
      · cases e
    | _ => simp [col64] at e
theorem relLs_b64 {ρ : Nat → Loc} {s : Bool} : ∀ {xs : List (BitVec 64)} {vs : List Value}, RelLs ρ (xs.map (.b64 s)) vs ↔ vs = xs.map fun x => .int (k64 s) (vI s x)
  | [], vs => Iff.rfl
  | x :: xs, vs => by
    rw [List.map_cons, relLs_cons rfl]
    constructor
    · rintro ⟨v, ws, rfl, h1, h2⟩
      rw [relLs_b64.1 h2, h1 (by simp)]; rfl
    · rintro rfl
      exact ⟨_, _, rfl, fun _ => rfl, relLs_b64.2 rfl⟩
theorem nthW_eq {w : Nat} : ∀ (xs : List (BitVec w)) (k : Nat), k < xs.length → xs[k]? = some (nthW xs k)
  | [], k, h => by simp at h
  | x :: xs, 0, _ => rfl
  | x :: xs, k + 1, h => by simp [nthW, nthW_eq xs k (by simpa using h)]
theorem selL_get {ρ : Nat → Loc} {ls : List L} {l : L} {vs : List Value} {k : Nat} (e : selL ls k = some l) (h : RelLs ρ ls vs) (hk : k < vs.length) : vs[k]? = some (gL ρ l) ∧ l.names = [] := by
  unfold selL at e
  split at e
  · rename_i s x r
    split at e
    · rename_i xs hx
      obtain rfl := Option.some.inj e
      rw [col64_eq hx] at h
      have hv := relLs_b64.1 h
      subst hv
      refine ⟨?_, rfl⟩
      rw [List.getElem?_map, nthW_eq xs k (by simpa using hk)]; rfl
    · cases e
  · cases e
theorem selL_len {ρ : Nat → Loc} {ls : List L} {l : L} {vs : List Value} {k : Nat} (e : selL ls k = some l) (h : RelLs ρ ls vs) : vs.length = ls.length := by
  unfold selL at e
  split at e
  · rename_i s x r
    split at e
    · rename_i xs hx
      rw [col64_eq hx] at h
      have hv := relLs_b64.1 h
      rw [hv, col64_eq hx]
      simp
    · cases e
  · cases e
theorem updL_eq {s : Bool} {v : BitVec 64} {k : Nat} : ∀ {ls r : List L} {j : Nat}, updL s v k j ls = some r → ∃ xs : List (BitVec 64), ls = xs.map (.b64 s) ∧ r = (if j ≤ k then xs.set (k - j) v else xs).map (.b64 s)
  | [], r, j, e => by simp [updL] at e; subst e; exact ⟨[], rfl, by split <;> rfl⟩
  | l :: ls, r, j, e => by
    cases l with
    | b64 s' x =>
      simp only [updL] at e
      split at e
      · rename_i x' r' h1 h2
        obtain rfl := Option.some.inj e
        obtain ⟨rfl, rfl⟩ := same_and h1
        obtain ⟨xs, rfl, rfl⟩ := updL_eq h2
        refine ⟨x :: xs, rfl, ?_⟩
        rcases Nat.lt_trichotomy k j with hk | hk | hk
        · rw [if_neg (by omega), if_neg (by omega), if_neg (by omega)]; rfl
        · subst hk
          rw [if_pos rfl, if_neg (by omega), if_pos (Nat.le_refl _), Nat.sub_self]; rfl
        · rw [if_neg (by omega), if_pos (by omega), if_pos (by omega), show k - j = (k - (j + 1)) + 1 by omega]; rfl
      · cases e
    | _ => simp [updL] at e
theorem b64_names {s : Bool} : ∀ xs : List (BitVec 64), lnames (xs.map (.b64 s)) = []
  | [] => rfl
  | x :: xs => by simp only [List.map_cons, lnames, L.names, b64_names xs, List.nil_append]
theorem updL_names {s : Bool} {v : BitVec 64} {k : Nat} {ls r : List L} {j : Nat} (e : updL s v k j ls = some r) : lnames r = [] := by
  obtain ⟨xs, rfl, rfl⟩ := updL_eq e
  exact b64_names _
theorem updL_rel {ρ : Nat → Loc} {s : Bool} {v : BitVec 64} {k : Nat} {ls r : List L} {vs : List Value} {j : Nat} (e : updL s v k j ls = some r) (h : RelLs ρ ls vs) :
    RelLs ρ r (if j ≤ k then vs.set (k - j) (.int (k64 s) (vI s v)) else vs) := by
  obtain ⟨xs, rfl, rfl⟩ := updL_eq e
  rw [relLs_b64.1 h]
  refine relLs_b64.2 ?_
  split
  · rw [List.map_set]
  · rfl
theorem capVals_congr {ρ ρ' : Nat → Loc} : ∀ {caps : List (Nat × Nat)}, (∀ m ∈ capN caps, ρ' m = ρ m) → capVals ρ' caps = capVals ρ caps
  | [], _ => rfl
  | (i, o) :: r, h => by
    simp only [capVals]
    rw [h i (by simp [capN]), capVals_congr fun m hm => h m (by simp [capN, hm])]
theorem inCaps_spec {d : Nat} : ∀ {caps : List (Nat × Nat)}, inCaps d caps = false → d ∉ capN caps
  | [], _ => by simp [capN]
  | (i, o) :: r, h => by
    simp only [inCaps] at h
    split at h
    · cases h
    · rename_i hne
      have h1 := Nat.ne_of_beq_eq_false hne
      have h2 := inCaps_spec h
      simp only [capN, List.mem_cons, not_or]
      exact ⟨fun e => h1 e.symm, h2⟩
theorem relL_agree {ρ ρ' : Nat → Loc} {l : L} {v : Value} (h : RelL ρ l v) (he : ∀ m ∈ l.names, ρ' m = ρ m) : RelL ρ' l v := by
  intro hl
  rw [h hl]
  cases l with
  | ptr i o => simp [gL, he i (by simp [L.names])]
  | eptr i o n k => simp [gL, he i (by simp [L.names])]
  | slc i o n c => simp [gL, he i (by simp [L.names])]
  | rptr i o z k p => simp [gL, he i (by simp [L.names])]
  | rsl i n => simp [gL, he i (by simp [L.names])]
  | rsc i z k n => simp [gL, he i (by simp [L.names])]
  | imap i => simp [gL, he i (by simp [L.names])]
  | clo f caps => simp only [gL]; rw [capVals_congr fun m hm => he m (by simpa [L.names] using hm)]
  | _ => rfl
theorem relLs_agree {ρ ρ' : Nat → Loc} : ∀ {ls : List L} {vs : List Value}, RelLs ρ ls vs → (∀ m ∈ lnames ls, ρ' m = ρ m) → RelLs ρ' ls vs
  | [], _, h, _ => h
  | l :: ls, vs, ⟨us, ws, e, h1, h2⟩, he => by
    refine ⟨us, ws, e, ?_, relLs_agree h2 fun m hm => he m (by simp [lnames, hm])⟩
    cases hs : isSeg l with
    | true => cases l <;> simp [isSeg] at hs; exact h1
    | false =>
      obtain ⟨v, h3, h4⟩ := (relI_one hs).1 h1
      exact (relI_one hs).2 ⟨v, h3, relL_agree h4 fun m hm => he m (by simp [lnames, hm])⟩
theorem relVs_agree {ρ ρ' : Nat → Loc} : ∀ {ls : List (Bool × List L)} {vs : List Value}, RelVs ρ ls vs → (∀ m ∈ vnames ls, ρ' m = ρ m) → RelVs ρ' ls vs
  | [], [], _, _ => trivial
  | (true, ls) :: r, v :: vs, ⟨⟨cs, e, h1⟩, h2⟩, he => ⟨⟨cs, e, relLs_agree h1 fun m hm => he m (by simp [vnames, hm])⟩, relVs_agree h2 fun m hm => he m (by simp [vnames, hm])⟩
  | (false, [l]) :: r, v :: vs, ⟨h1, h2⟩, he => ⟨relL_agree h1 fun m hm => he m (by simp [vnames, lnames, hm]), relVs_agree h2 fun m hm => he m (by simp [vnames, hm])⟩
  | [], _ :: _, h, _ => h.elim
  | (true, _) :: _, [], h, _ => h.elim
  | (false, []) :: _, [], h, _ => h.elim
  | (false, []) :: _, _ :: _, h, _ => h.elim
  | (false, _ :: _ :: _) :: _, [], h, _ => h.elim
  | (false, _ :: _ :: _) :: _, _ :: _, h, _ => h.elim
  | (false, [_]) :: _, [], h, _ => h.elim
theorem relA_agree {ρ ρ' : Nat → Loc} {v : AV} {u : Value} (h : RelA ρ v u) (he : ∀ m ∈ v.names, ρ' m = ρ m) : RelA ρ' v u := by
  cases v with
  | one l => exact relL_agree h he
  | agg ls => obtain ⟨cs, e, h⟩ := h; exact ⟨cs, e, relLs_agree h he⟩
  | tup vs => obtain ⟨cs, e, h⟩ := h; exact ⟨cs, e, relVs_agree h he⟩
theorem relB_agree {ρ ρ' : Nat → Loc} {q : Loc} {b : Blk} {o : Option Obj} (h : RelB ρ q b o) (he : ∀ m ∈ b.names, ρ' m = ρ m) : RelB ρ' q b o := by
  cases b with
  | cells T ls => obtain ⟨cs, e, h0, h⟩ := h; exact ⟨cs, e, h0, relLs_agree h he⟩
  | ro T ls => obtain ⟨cs, fr, e, us, ws, h0, h⟩ := h; exact ⟨cs, fr, e, us, ws, h0, relLs_agree h he⟩
  | row T z n f => exact h
  | imap es => exact h
  | romap es => exact h
/-- What is read of a block. -/
theorem relB_get {ρ : Nat → Loc} {q : Loc} {b : Blk} {o : Option Obj} {ls : List L} (h : RelB ρ q b o) (e : b.rdL = some ls) :
    ∃ (T : TypeId) (cs : Array Value) (fr : Nat × Nat), o = some (.cells cs T fr) ∧ ∃ us ws, cs.toList.drop q.o = us ++ ws ∧ RelLs ρ ls us := by
  cases b with
  | cells T ls' =>
    obtain rfl : ls' = ls := by simpa [Blk.rdL] using e
    obtain ⟨cs, e, h0, h⟩ := h
    exact ⟨T, cs, _, e, cs.toList, [], by rw [h0]; simp, h⟩
  | ro T ls' =>
    obtain rfl : ls' = ls := by simpa [Blk.rdL] using e
    obtain ⟨cs, fr, e, h⟩ := h
    exact ⟨T, cs, fr, e, h⟩
  | row T z n f =>
    obtain rfl : [L.seg z n f] = ls := by simpa [Blk.rdL] using e
    obtain ⟨cs, e, h0, -, -, -, h⟩ := h
    refine ⟨T, cs, _, e, cs.toList.take (z * n), cs.toList.drop (z * n), by rw [h0]; simp, _, [], by simp, h, rfl⟩
  | imap es => cases e
  | romap es => cases e
theorem names_rdL {b : Blk} {ls : List L} (e : b.rdL = some ls) : b.names = lnames ls := by
  cases b with
  | cells T ls' => simp [Blk.rdL] at e; subst e; rfl
  | ro T ls' => simp [Blk.rdL] at e; subst e; rfl
  | row T z n f => simp [Blk.rdL] at e; subst e; rfl
  | imap es => cases e
  | romap es => cases e
theorem SegV.cons {z n : Nat} {f : Nat → List PL} {ws : List Value} (h : SegV z n (fun k => f (k + 1)) ws) (hf : (f 0).length = z) : SegV z (n + 1) f ((f 0).map gP ++ ws) := by
  refine ⟨by simp [h.1, hf, Nat.mul_add]; omega, fun k hk => ?_⟩
  cases k with
  | zero =>
    refine ⟨hf, fun j hj => ?_⟩
    rw [Nat.mul_zero, Nat.zero_add, List.getElem?_append_left (by simp; omega), List.getElem?_map]
  | succ k =>
    obtain ⟨h1, h2⟩ := h.2 k (by omega)
    refine ⟨h1, fun j hj => ?_⟩
    rw [List.getElem?_append_right (by simp [Nat.mul_add]; omega), ← h2 j hj]
    congr 1
    simp [Nat.mul_add]; omega
theorem eqB_eq {a b : Bool} (h : eqB a b = true) : a = b := by cases a <;> cases b <;> first | rfl | simp [eqB] at h
theorem eqPL_eq {x y : PL} (h : eqPL x y = true) : x = y := by
  cases x <;> cases y <;> simp only [eqPL, Bool.false_eq_true] at h
  all_goals first
    | (split at h
       · rename_i hs
         have h1 := eqB_eq hs
         have h2 := BitVec.eq_of_toNat_eq (Nat.eq_of_beq_eq_true h)
         rw [h1, h2]
       · cases h)
    | rw [eqB_eq h]
theorem cutPL_rel {ρ : Nat → Loc} : ∀ {ps : List PL} {ls r : List L} {vs : List Value}, cutPL ps ls = some r → RelLs ρ ls vs → ∃ ws, vs = ps.map gP ++ ws ∧ RelLs ρ r ws
  | [], ls, r, vs, e, h => by simp [cutPL] at e; subst e; exact ⟨vs, rfl, h⟩
  | p :: ps, [], r, vs, e, _ => by simp [cutPL] at e
  | p :: ps, l :: ls, r, vs, e, h => by
    simp only [cutPL] at e
    split at e
    · rename_i q hq
      split at e
      · rename_i hpq
        obtain rfl := eqPL_eq hpq
        rw [pl_toL hq] at h
        obtain ⟨v, ws, rfl, h1, h2⟩ := (relLs_cons (toL_seg _)).1 h
        obtain ⟨ws', rfl, h3⟩ := cutPL_rel e h2
        exact ⟨ws', by rw [h1 (toL_junk _), gP_toL]; rfl, h3⟩
      · cases e
    · cases e
theorem repPL_rel {ρ : Nat → Loc} {ps : List PL} : ∀ {n : Nat} {ls : List L} {vs : List Value}, repPL ps n ls = true → RelLs ρ ls vs → SegV ps.length n (fun _ => ps) vs
  | 0, [], _, _, h => by cases h; exact ⟨by simp, fun k hk => by omega⟩
  | 0, _ :: _, _, e, _ => by simp [repPL] at e
  | n + 1, ls, vs, e, h => by
    simp only [repPL] at e
    split at e
    · rename_i r hr
      obtain ⟨ws, rfl, h1⟩ := cutPL_rel hr h
      exact SegV.cons (f := fun _ => ps) (repPL_rel e h1) rfl
    · cases e
theorem normF_rel {P : Program} {ρ : Nat → Loc} {nf : TypeId → List L → List L} (H : ∀ T ls vs, RelLs ρ ls vs → RelLs ρ (nf T ls) vs) : ∀ (fs : List Field) (o : Nat) (ls r : List L) (vs : List Value), normF P nf o fs ls = some r → RelLs ρ ls vs → RelLs ρ r vs
  | [], o, [], r, vs, e, h => by simp [normF] at e; subst e; exact h
  | [], o, _ :: _, r, vs, e, _ => by simp [normF] at e
  | f :: fs, o, ls, r, vs, e, h => by
    simp only [normF] at e
    split at e
    · cases e
    · rename_i i hi
      split at e
      · cases e
      · split at e
        · cases e
        · rename_i a ha
          split at e
          · cases e
          · rename_i r' hr
            obtain rfl := Option.some.inj e
            have h1 := (relLs_take _ ha h).1
            have h2 := normF_rel H fs _ _ r' _ hr (relLs_drop i.size h)
            have := relLs_app (H f.type a _ h1) h2
            rwa [List.take_append_drop] at this
theorem norm_rel {P : Program} {ρ : Nat → Loc} : ∀ (d : Nat) (T : TypeId) (ls : List L) (vs : List Value), RelLs ρ ls vs → RelLs ρ (norm P d T ls) vs
  | 0, _, _, _, h => h
  | d + 1, T, ls, vs, h => by
    simp only [norm]
    split
    · split
      · rename_i r hr
        exact normF_rel (norm_rel d) _ _ _ _ _ hr h
      · exact h
    · split
      · rename_i i hi
        split
        · split
          · rename_i a ha
            split
            · rename_i ps hps
              split
              · rename_i hrep
                obtain ⟨h1, h2⟩ := relLs_take _ ha h
                have h3 := toPLs_rel hps h1
                have h4 : ps.length = i.size := by
                  have := congrArg List.length h3
                  simp at this
                  omega
                refine ⟨vs, [], by simp, ?_, rfl⟩
                have := repPL_rel hrep h
                rw [h4] at this
                exact this
              · exact h
            · exact h
          · exact h
        · exact h
      · exact h
    · exact h
theorem normF_names {P : Program} {nf : TypeId → List L → List L} {m : Nat} (H : ∀ T ls, m ∈ lnames (nf T ls) → m ∈ lnames ls) : ∀ (fs : List Field) (o : Nat) (ls r : List L), normF P nf o fs ls = some r → m ∈ lnames r → m ∈ lnames ls
  | [], o, [], r, e, h => by simp [normF] at e; subst e; exact h
  | [], o, _ :: _, r, e, _ => by simp [normF] at e
  | f :: fs, o, ls, r, e, h => by
    simp only [normF] at e
    split at e
    · cases e
    · split at e
      · cases e
      · split at e
        · cases e
        · rename_i a ha
          split at e
          · cases e
          · rename_i r' hr
            obtain rfl := Option.some.inj e
            rcases appL_names h with h | h
            · exact takeL_names _ ha (H _ _ h)
            · exact dropL_names _ (normF_names H fs _ _ r' hr h)
theorem norm_names {P : Program} {m : Nat} : ∀ (d : Nat) (T : TypeId) (ls : List L), m ∈ lnames (norm P d T ls) → m ∈ lnames ls
  | 0, _, _, h => h
  | d + 1, T, ls, h => by
    simp only [norm] at h
    split at h
    · split at h
      · rename_i r hr
        exact normF_names (norm_names d) _ _ _ _ hr h
      · exact h
    · split at h
      · split at h
        · split at h
          · split at h
            · split at h
              · simp [lnames, L.names] at h
              · exact h
            · exact h
          · exact h
        · exact h
      · exact h
    · exact h
/-- Elements that are appended. -/
theorem srcF_rel {ρ : Nat → Loc} {ls : List L} {vs : List Value} {off z m : Nat} {c : Cond} {g : Nat → List PL} (h : RelLs ρ ls vs) (e : srcF ls off z m = some (c, g)) (hc : c.holds) :
    z * m ≤ (vs.drop off).length ∧ ((∀ j, j < m → (g j).length = z) → SegV z m g ((vs.drop off).take (z * m))) := by
  have hd := relLs_drop off h
  unfold srcF at e
  cases hx : dropL ls off with
  | nil => rw [hx] at e; cases e
  | cons l r0 =>
    rw [hx] at e hd
    cases hs : isSeg l with
    | true =>
      cases l <;> simp [isSeg] at hs
      rename_i z' n f
      dsimp only at e
      split at e
      · rename_i hz
        have hz' : z = z' := by simpa using hz
        subst hz'
        simp only [Option.some.injEq, Prod.mk.injEq] at e
        obtain ⟨rfl, rfl⟩ := e
        have hm : m ≤ n := hc
        obtain ⟨us, ws, h0, h1, h2⟩ := hd
        have h1 : SegV z n f us := h1
        have hle : z * m ≤ z * n := Nat.mul_le_mul_left z hm
        have hul := h1.1
        refine ⟨by rw [h0]; simp; omega, fun _ => ?_⟩
        rw [h0, List.take_append_of_le_length (by omega)]
        refine ⟨by simp; omega, fun k hk => ?_⟩
        obtain ⟨h3, h4⟩ := h1.2 k (by omega)
        have hb := mul_lt_of (z := z) hk
        exact ⟨h3, fun j hj => by rw [List.getElem?_take, if_pos (by omega), h4 j hj]⟩
      · cases e
    | false =>
      replace e : (match (generalizing := false) Nat.beq m 1 with
          | true => match takeL (l :: r0) z with
            | some a => match toPLs a with
              | some ps => some (Cond.t, fun _ => ps)
              | none => none
            | none => none
          | false => match takeL (l :: r0) (z * m) with
            | some a => match toPLs a with
              | some ps => some (.t, fun k => match takeP (dropP ps (z * k)) z with | some r => r | none => [])
              | none => none
            | none => none) = some (c, g) := by cases l <;> first | exact e | simp [isSeg] at hs
      cases hm : Nat.beq m 1 with
      | true =>
        rw [hm] at e
        dsimp only at e
        obtain rfl : m = 1 := by simpa using hm
        cases ha : takeL (l :: r0) z with
        | none => rw [ha] at e; cases e
        | some a =>
          rw [ha] at e
          dsimp only at e
          cases hps : toPLs a with
          | none => rw [hps] at e; cases e
          | some ps =>
            rw [hps] at e
            simp only [Option.some.injEq, Prod.mk.injEq] at e
            obtain ⟨-, rfl⟩ := e
            obtain ⟨h1, h2⟩ := relLs_take _ ha hd
            rw [Nat.mul_one]
            refine ⟨h2, fun hl => ?_⟩
            rw [toPLs_rel hps h1]
            have hl0 : ps.length = z := hl 0 (by decide)
            have := SegV.cons (z := z) (n := 0) (f := fun _ => ps) (ws := []) ⟨by simp, fun k hk => by omega⟩ hl0
            simpa using this
      | false =>
        rw [hm] at e
        dsimp only at e
        cases ha : takeL (l :: r0) (z * m) with
        | none => rw [ha] at e; cases e
        | some a =>
          rw [ha] at e
          dsimp only at e
          cases hps : toPLs a with
          | none => rw [hps] at e; cases e
          | some ps =>
            rw [hps] at e
            simp only [Option.some.injEq, Prod.mk.injEq] at e
            obtain ⟨-, rfl⟩ := e
            obtain ⟨h1, h2⟩ := relLs_take _ ha hd
            refine ⟨h2, fun hl => ?_⟩
            have h3 := toPLs_rel hps h1
            have hpl : ps.length = z * m := by
              have := congrArg List.length h3
              rw [List.length_take, Nat.min_eq_left h2, List.length_map] at this
              exact this.symm
            rw [h3]
            refine ⟨by simp [hpl], fun k hk => ?_⟩
            refine ⟨hl k hk, fun j hj => ?_⟩
            have hb := mul_lt_of (z := z) hk
            have hsome : takeP (dropP ps (z * k)) z = some ((ps.drop (z * k)).take z) := by
              have key : ∀ (qs : List PL) (n : Nat), n ≤ qs.length → takeP qs n = some (qs.take n) := by
                intro qs
                induction qs with
                | nil => intro n hn; obtain rfl : n = 0 := by simpa using hn
                         rfl
                | cons q qs ih => intro n hn; cases n with
                  | zero => rfl
                  | succ n => simp [takeP, ih n (by simpa using hn)]
              rw [dropP_eq]
              exact key _ _ (by simp; omega)
            dsimp only
            rw [hsome]
            dsimp only
            rw [List.getElem?_map, List.getElem?_take, if_pos hj, List.getElem?_drop]
theorem relAs_append {ρ : Nat → Loc} : ∀ {xs ys : List AV} {us vs : List Value}, RelAs ρ xs us → RelAs ρ ys vs → RelAs ρ (xs ++ ys) (us ++ vs)
  | [], _, [], _, _, h => h
  | _ :: _, _, _ :: _, _, h, h' => ⟨h.1, relAs_append h.2 h'⟩
  | [], _, _ :: _, _, h, _ => h.elim
  | _ :: _, _, [], _, h, _ => h.elim
theorem capVs_rel (ρ : Nat → Loc) : ∀ caps : List (Nat × Nat), RelAs ρ (capVs caps) (capVals ρ caps)
  | [] => trivial
  | (i, o) :: r => ⟨fun _ => rfl, capVs_rel ρ r⟩
theorem capVs_names : ∀ {caps : List (Nat × Nat)} {v : AV} {m : Nat}, v ∈ capVs caps → m ∈ v.names → m ∈ capN caps
  | [], _, _, h, _ => by simp [capVs] at h
  | (i, o) :: r, v, m, h, hm => by
    simp only [capVs, List.mem_cons] at h
    rcases h with rfl | h
    · simp only [AV.names, L.names, List.mem_singleton] at hm; subst hm; simp [capN]
    · simp [capN, capVs_names h hm]
end Go.Ep
