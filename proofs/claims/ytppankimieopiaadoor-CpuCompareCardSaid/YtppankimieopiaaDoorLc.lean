/-
  The evaluator's operations are the model's: what each yields, if its condition holds, in every world that is as the evaluator bears it. Conditions: as typed.
-/
import Derived.Test.YtppankimieopiaaDoorLb
import Derived.Laws.StructEq
import Derived.Laws.CopyRow
import Derived.Laws.Cells
import Derived.Laws.Rows
import Derived.ChangeKeysEq
namespace Go.El
open Go.RowKit

def k64 : Bool → IntKind
  | true => .i64
  | false => .u64
def k32 : Bool → IntKind
  | true => .i32
  | false => .u32
def k16 : Bool → IntKind
  | true => .i16
  | false => .u16
def k8 : Bool → IntKind
  | true => .i8
  | false => .u8
def capVals (ρ : Nat → Nat) : List (Nat × Nat) → List Value
  | [] => []
  | (i, o) :: r => .pointer (some ⟨ρ i, o, none⟩) :: capVals ρ r
/-- The model's value. ρ: which block a name is. -/
def gL (ρ : Nat → Nat) : L → Value
  | .b64 s x => .int (k64 s) (vI s x)
  | .b32 s x => .int (k32 s) (vI s x)
  | .b16 s x => .int (k16 s) (vI s x)
  | .b8 s x => .int (k8 s) (vI s x)
  | .bool b => .bool b
  | .str s => .string s
  | .ptr i off => .pointer (some ⟨ρ i, off, none⟩)
  | .eptr i off _ k => .pointer (some ⟨ρ i, off + k, none⟩)
  | .slc i off len cap => .slice (some ⟨ρ i, off, none⟩) len cap
  | .gmap _ b => .map (some b)
  | .clo f caps => .func (.func f) #[] (capVals ρ caps).toArray
  | .raw v => v
  | .junk => undef
def RelL (ρ : Nat → Nat) (l : L) (v : Value) : Prop := l ≠ .junk → v = gL ρ l
def RelLs (ρ : Nat → Nat) : List L → List Value → Prop
  | [], [] => True
  | l :: ls, v :: vs => RelL ρ l v ∧ RelLs ρ ls vs
  | _, _ => False
def RelVs (ρ : Nat → Nat) : List (Bool × List L) → List Value → Prop
  | [], [] => True
  | (true, ls) :: r, v :: vs => (∃ cs : Array Value, v = .agg cs ∧ RelLs ρ ls cs.toList) ∧ RelVs ρ r vs
  | (false, [l]) :: r, v :: vs => RelL ρ l v ∧ RelVs ρ r vs
  | _, _ => False
def RelA (ρ : Nat → Nat) : AV → Value → Prop
  | .one l, v => RelL ρ l v
  | .agg ls, v => ∃ cs : Array Value, v = .agg cs ∧ RelLs ρ ls cs.toList
  | .tup vs, v => ∃ cs : Array Value, v = .tuple cs ∧ RelVs ρ vs cs.toList
def RelAs (ρ : Nat → Nat) : List AV → List Value → Prop
  | [], [] => True
  | x :: xs, v :: vs => RelA ρ x v ∧ RelAs ρ xs vs
  | _, _ => False
def RelB (ρ : Nat → Nat) : Blk → Option Obj → Prop
  | .cells T ls, o => ∃ cs : Array Value, o = some (.cells cs T (0, 0)) ∧ RelLs ρ ls cs.toList
  | .ro T ls, o => ∃ (cs : Array Value) (fr : Nat × Nat), o = some (.cells cs T fr) ∧ RelLs ρ ls cs.toList
theorem relB_get {ρ : Nat → Nat} {b : Blk} {o : Option Obj} (h : RelB ρ b o) : ∃ (T : TypeId) (cs : Array Value) (fr : Nat × Nat), o = some (.cells cs T fr) ∧ RelLs ρ b.rdL cs.toList := by
  cases b with
  | cells T ls => obtain ⟨cs, e, h⟩ := h; exact ⟨T, cs, _, e, h⟩
  | ro T ls => obtain ⟨cs, fr, e, h⟩ := h; exact ⟨T, cs, fr, e, h⟩
theorem names_rdL (b : Blk) : b.names = lnames b.rdL := by cases b <;> rfl

theorem relLs_len {ρ} : ∀ {ls : List L} {vs : List Value}, RelLs ρ ls vs → ls.length = vs.length
  | [], [], _ => rfl
  | _ :: _, _ :: _, h => by simp [relLs_len h.2]
  | [], _ :: _, h => h.elim
  | _ :: _, [], h => h.elim
theorem relLs_drop {ρ} : ∀ {ls : List L} {vs : List Value} (n : Nat), RelLs ρ ls vs → RelLs ρ (dropL ls n) (vs.drop n)
  | ls, vs, 0, h => by simpa [dropL] using h
  | [], [], _ + 1, _ => by simp [dropL, RelLs]
  | _ :: _, _ :: _, n + 1, h => by simpa [dropL] using relLs_drop n h.2
  | [], _ :: _, _ + 1, h => h.elim
  | _ :: _, [], _ + 1, h => h.elim
theorem relLs_take {ρ} : ∀ {ls : List L} {vs : List Value} (n : Nat) {r : List L}, takeL ls n = some r → RelLs ρ ls vs → RelLs ρ r (vs.take n) ∧ n ≤ vs.length
  | ls, vs, 0, r, h, _ => by
    have : r = [] := by cases ls <;> simp [takeL] at h <;> exact h
    subst this; simp [RelLs]
  | [], _, n + 1, r, h, _ => by simp [takeL] at h
  | l :: ls, [], n + 1, r, _, h' => h'.elim
  | l :: ls, v :: vs, n + 1, r, h, h' => by
    simp only [takeL] at h
    split at h
    · rename_i r' hr
      obtain rfl : l :: r' = r := by simpa using h
      have ⟨h1, h2⟩ := relLs_take n hr h'.2
      exact ⟨⟨h'.1, by simpa using h1⟩, by simpa using h2⟩
    · cases h
theorem relLs_set {ρ} : ∀ {ls : List L} {vs : List Value} (n : Nat) {l : L} {v : Value}, RelLs ρ ls vs → RelL ρ l v → RelLs ρ (ls.set n l) (vs.set n v)
  | [], [], _, _, _, _, _ => by simp [RelLs]
  | _ :: _, _ :: _, 0, _, _, h, h' => ⟨h', h.2⟩
  | _ :: _, _ :: _, n + 1, _, _, h, h' => ⟨h.1, relLs_set n h.2 h'⟩
  | [], _ :: _, _, _, _, h, _ => h.elim
  | _ :: _, [], _, _, _, h, _ => h.elim
theorem setLs_nil (ls : List L) (n : Nat) : setLs ls n [] = ls := by cases ls <;> cases n <;> rfl
theorem setLs_cons : ∀ (ls : List L) (n : Nat) (v : L) (vs : List L), setLs ls n (v :: vs) = setLs (ls.set n v) (n + 1) vs
  | [], n, v, vs => by cases n <;> cases vs <;> simp [setLs]
  | l :: ls, 0, v, vs => by
    cases vs with
    | nil => cases ls <;> simp [setLs]
    | cons u us => simp [setLs]
  | l :: ls, n + 1, v, vs => by
    have := setLs_cons ls n v vs
    cases vs with
    | nil => simp only [setLs, List.set_cons_succ] at this ⊢; rw [this]
    | cons u us => simp only [setLs, List.set_cons_succ] at this ⊢; rw [this]
theorem relLs_setLs {ρ} : ∀ {ns : List L} {us : List Value} {ls : List L} {vs : List Value} (n : Nat), RelLs ρ ls vs → RelLs ρ ns us → n + ns.length ≤ ls.length →
    RelLs ρ (setLs ls n ns) (vs.take n ++ us ++ vs.drop (n + us.length))
  | [], [], ls, vs, n, h, _, _ => by rw [setLs_nil]; simpa using h
  | v :: ns, u :: us, ls, vs, n, h, h', hl => by
    rw [setLs_cons]
    have hlen := relLs_len h
    simp only [List.length_cons] at hl
    have := relLs_setLs (n + 1) (relLs_set n h h'.1) h'.2 (by simp; omega)
    have e : (vs.set n u).take (n + 1) ++ us ++ (vs.set n u).drop (n + 1 + us.length) = vs.take n ++ (u :: us) ++ vs.drop (n + (u :: us).length) := by
      have h1 : (vs.set n u).take (n + 1) = vs.take n ++ [u] := by
        rw [List.take_succ_eq_append_getElem (by simp; omega)]
        simp [List.take_set_of_le]
      rw [h1, List.drop_set_of_lt (by omega)]
      simp [Nat.add_assoc, Nat.add_comm 1]
    rw [e] at this
    exact this
  | [], _ :: _, _, _, _, _, h, _ => h.elim
  | _ :: _, [], _, _, _, _, h, _ => h.elim
theorem relLs_head {ρ} {ls : List L} {vs : List Value} {l : L} {r : List L} (h : RelLs ρ ls vs) (e : ls = l :: r) : ∃ v, vs.head? = some v ∧ RelL ρ l v := by
  subst e
  cases vs with
  | nil => exact h.elim
  | cons v vs => exact ⟨v, rfl, h.1⟩
theorem gL_leaf {ρ} {l : L} (h : l.ok = true) : leafV (gL ρ l) = true := by
  cases l <;> simp_all [L.ok, gL, leafV]
theorem cells_leaf {v : Value} (h : leafV v = true) : v.cells = #[v] := by
  cases v <;> simp_all [leafV, Value.cells]
theorem oneCell_leaf {v : Value} (h : leafV v = true) : v.oneCell' = true := by
  cases v <;> simp_all [leafV, Value.oneCell']
theorem relL_ok {ρ} {l : L} {v : Value} (hl : l.ok = true) (h : RelL ρ l v) : v = gL ρ l := h (by intro e; subst e; simp [L.ok] at hl)
/-- The cells of a value. -/
theorem rel_ls {ρ} {x : AV} {v : Value} {ls : List L} (h : RelA ρ x v) (e : x.ls = some ls) : RelLs ρ ls v.cells.toList := by
  cases x with
  | one l =>
    simp only [AV.ls] at e
    split at e
    · rename_i hl
      obtain rfl : [l] = ls := by simpa using e
      have hv := relL_ok hl h
      rw [cells_leaf (by rw [hv]; exact gL_leaf hl)]
      exact ⟨h, trivial⟩
    · cases e
  | agg ls' =>
    obtain rfl : ls' = ls := by simpa [AV.ls] using e
    obtain ⟨cs, rfl, h⟩ := h
    exact h
  | tup vs => simp [AV.ls] at e
theorem okLs_one {ρ} : ∀ {ls : List L} {vs : List Value}, RelLs ρ ls vs → okLs ls = true → ∀ v ∈ vs, v.oneCell' = true
  | [], [], _, _ => by simp
  | l :: ls, v :: vs, h, hk => by
    simp only [okLs] at hk
    split at hk
    · rename_i hl
      intro u hu
      rcases List.mem_cons.1 hu with rfl | hu
      · rw [relL_ok hl h.1]; exact oneCell_leaf (gL_leaf hl)
      · exact okLs_one h.2 hk u hu
    · cases hk
  | [], _ :: _, h, _ => h.elim
  | _ :: _, [], h, _ => h.elim

theorem litW_rel {ρ} (K : IntKind) (mk : BitVec K.bits → L) (hmk : ∀ z, gL ρ (mk z) = .int K (vI K.signed z)) (n : Int) : RelL ρ (litW K.bits K.signed mk (.int K n) n) (.int K n) := by
  have hr : RelL ρ (L.raw (.int K n)) (.int K n) := fun _ => rfl
  unfold litW
  cases n with
  | ofNat m =>
    dsimp only
    split
    · rename_i h
      intro _
      show .int K (Int.ofNat m) = gL ρ (mk (BitVec.ofNat K.bits m))
      rw [hmk]
      congr 1
      have h' := Nat.le_of_ble_eq_true h
      cases K <;> simp only [IntKind.signed, IntKind.bits, vI, BitVec.toInt_ofNat', BitVec.toNat_ofNat] at h' ⊢ <;> simp at h' ⊢ <;> (try rw [Int.bmod_eq_of_le]) <;> omega
    · exact hr
  | negSucc m =>
    dsimp only
    cases hs : K.signed
    · exact hr
    · dsimp only
      split
      · rename_i h
        intro _
        rw [hmk]
        congr 1
        have h' := Nat.le_of_ble_eq_true h
        cases K <;> simp only [IntKind.signed, IntKind.bits, vI, BitVec.toInt_ofInt, Bool.false_eq_true] at h' hs ⊢ <;> (rw [Int.bmod_eq_of_le] <;> simp at h' ⊢ <;> omega)
      · exact hr
theorem ofLeaf_rel {ρ} (v : Value) : RelL ρ (ofLeaf v) v := by
  cases v with
  | int k n =>
    cases k
    · exact litW_rel .i8 (L.b8 true) (fun _ => rfl) n
    · exact litW_rel .i16 (L.b16 true) (fun _ => rfl) n
    · exact litW_rel .i32 (L.b32 true) (fun _ => rfl) n
    · exact litW_rel .i64 (L.b64 true) (fun _ => rfl) n
    · exact litW_rel .u8 (L.b8 false) (fun _ => rfl) n
    · exact litW_rel .u16 (L.b16 false) (fun _ => rfl) n
    · exact litW_rel .u32 (L.b32 false) (fun _ => rfl) n
    · exact litW_rel .u64 (L.b64 false) (fun _ => rfl) n
  | _ => exact fun _ => rfl
theorem mapLeaf_rel {ρ} : ∀ vs : List Value, RelLs ρ (mapLeaf vs) vs
  | [] => trivial
  | v :: vs => ⟨ofLeaf_rel v, mapLeaf_rel vs⟩
theorem ofV_rel {ρ} (v : Value) : RelA ρ (ofV v) v := by
  cases v with
  | agg cs => exact ⟨cs, rfl, mapLeaf_rel _⟩
  | _ => exact ofLeaf_rel _
theorem litW_names {w : Nat} {s : Bool} {mk : BitVec w → L} (hmk : ∀ z, (mk z).names = []) (v : Value) (n : Int) : (litW w s mk v n).names = [] := by
  unfold litW
  cases n <;> dsimp only
  · split <;> first | exact hmk _ | rfl
  · cases s <;> dsimp only
    · rfl
    · split <;> first | exact hmk _ | rfl
theorem ofLeaf_names (v : Value) : (ofLeaf v).names = [] := by
  cases v with
  | int k n =>
    cases k
    · exact litW_names (s := true) (mk := L.b8 true) (fun _ => rfl) (.int .i8 n) n
    · exact litW_names (s := true) (mk := L.b16 true) (fun _ => rfl) (.int .i16 n) n
    · exact litW_names (s := true) (mk := L.b32 true) (fun _ => rfl) (.int .i32 n) n
    · exact litW_names (s := true) (mk := L.b64 true) (fun _ => rfl) (.int .i64 n) n
    · exact litW_names (s := false) (mk := L.b8 false) (fun _ => rfl) (.int .u8 n) n
    · exact litW_names (s := false) (mk := L.b16 false) (fun _ => rfl) (.int .u16 n) n
    · exact litW_names (s := false) (mk := L.b32 false) (fun _ => rfl) (.int .u32 n) n
    · exact litW_names (s := false) (mk := L.b64 false) (fun _ => rfl) (.int .u64 n) n
  | _ => rfl
theorem mapLeaf_names : ∀ vs : List Value, lnames (mapLeaf vs) = []
  | [] => rfl
  | v :: vs => by simp [mapLeaf, lnames, ofLeaf_names, mapLeaf_names vs]
theorem ofV_names (v : Value) : (ofV v).names = [] := by
  cases v with
  | agg cs => exact mapLeaf_names _
  | _ => simp only [ofV, AV.names, ofLeaf_names]

theorem lnames_mem {n : Nat} : ∀ {ls : List L}, n ∈ lnames ls ↔ ∃ l ∈ ls, n ∈ l.names
  | [] => by simp [lnames]
  | l :: ls => by simp [lnames, lnames_mem]
theorem dropL_eq : ∀ (ls : List L) (n : Nat), dropL ls n = ls.drop n
  | ls, 0 => by cases ls <;> rfl
  | [], n + 1 => by simp [dropL]
  | _ :: ls, n + 1 => by simp [dropL, dropL_eq ls n]
theorem takeL_eq : ∀ (ls : List L) (n : Nat) (r : List L), takeL ls n = some r → r = ls.take n
  | ls, 0, r, h => by cases ls <;> simp [takeL] at h <;> simp [h]
  | [], n + 1, r, h => by simp [takeL] at h
  | l :: ls, n + 1, r, h => by
    simp only [takeL] at h
    split at h
    · rename_i r' hr
      obtain rfl : l :: r' = r := by simpa using h
      simp [takeL_eq ls n r' hr]
    · cases h
theorem sub_names {ls r : List L} {o n m : Nat} (h : takeL (dropL ls o) n = some r) (hm : m ∈ lnames r) : m ∈ lnames ls := by
  rw [takeL_eq _ _ _ h, dropL_eq, lnames_mem] at hm
  obtain ⟨l, hl, hm⟩ := hm
  exact lnames_mem.2 ⟨l, List.mem_of_mem_drop (List.mem_of_mem_take hl), hm⟩
theorem head_names {ls r : List L} {l : L} {o m : Nat} (h : dropL ls o = l :: r) (hm : m ∈ l.names) : m ∈ lnames ls := by
  rw [dropL_eq] at h
  exact lnames_mem.2 ⟨l, List.mem_of_mem_drop (by rw [h]; simp), hm⟩
theorem setLs_names {m : Nat} : ∀ {ns ls : List L} (n : Nat), m ∈ lnames (setLs ls n ns) → m ∈ lnames ls ∨ m ∈ lnames ns
  | [], ls, n, h => by rw [setLs_nil] at h; exact .inl h
  | v :: ns, ls, n, h => by
    rw [setLs_cons] at h
    rcases setLs_names (n + 1) h with h | h
    · rw [lnames_mem] at h
      obtain ⟨l, hl, hm⟩ := h
      rcases List.mem_or_eq_of_mem_set hl with hl | rfl
      · exact .inl (lnames_mem.2 ⟨l, hl, hm⟩)
      · exact .inr (by simp [lnames, hm])
    · exact .inr (by simp [lnames, h])
theorem ls_names {x : AV} {ls : List L} (e : x.ls = some ls) : lnames ls = x.names := by
  cases x with
  | one l =>
    simp only [AV.ls] at e
    split at e
    · obtain rfl : [l] = ls := by simpa using e
      simp [lnames, AV.names]
    · cases e
  | agg l =>
    obtain rfl : l = ls := by simpa [AV.ls] using e
    rfl
  | tup vs => simp [AV.ls] at e
theorem col64_get {ρ : Nat → Nat} {s : Bool} : ∀ {ls : List L} {xs : List (BitVec 64)} {vs : List Value} {k : Nat}, col64 s ls = some xs → RelLs ρ ls vs → k < ls.length → vs[k]? = some (.int (k64 s) (vI s (nthW xs k)))
  | [], _, _, k, _, _, h => by simp at h
  | l :: ls, xs, [], _, _, h, _ => h.elim
  | .b64 s' x :: ls, xs, v :: vs, k, e, h, hk => by
    simp only [col64] at e
    split at e
    · rename_i x' xs' h1 h2
      obtain rfl := Option.some.inj e
      have hs : s = s' ∧ x = x' := by cases s <;> cases s' <;> simp_all [same]
      obtain ⟨rfl, rfl⟩ := hs
      cases k with
      | zero => simp only [nthW, List.getElem?_cons_zero]; rw [h.1 (by simp)]; rfl
      | succ k => simp only [nthW, List.getElem?_cons_succ]; exact col64_get h2 h.2 (by simpa using hk)
    · cases e
  | .b32 _ _ :: _, _, _ :: _, _, e, _, _ => by simp [col64] at e
  | .b16 _ _ :: _, _, _ :: _, _, e, _, _ => by simp [col64] at e
  | .b8 _ _ :: _, _, _ :: _, _, e, _, _ => by simp [col64] at e
  | .bool _ :: _, _, _ :: _, _, e, _, _ => by simp [col64] at e
  | .str _ :: _, _, _ :: _, _, e, _, _ => by simp [col64] at e
  | .ptr _ _ :: _, _, _ :: _, _, e, _, _ => by simp [col64] at e
  | .eptr _ _ _ _ :: _, _, _ :: _, _, e, _, _ => by simp [col64] at e
  | .slc _ _ _ _ :: _, _, _ :: _, _, e, _, _ => by simp [col64] at e
  | .gmap _ _ :: _, _, _ :: _, _, e, _, _ => by simp [col64] at e
  | .clo _ _ :: _, _, _ :: _, _, e, _, _ => by simp [col64] at e
  | .raw _ :: _, _, _ :: _, _, e, _, _ => by simp [col64] at e
  | .junk :: _, _, _ :: _, _, e, _, _ => by simp [col64] at e
theorem selL_get {ρ : Nat → Nat} {ls : List L} {l : L} {vs : List Value} {k : Nat} (e : selL ls k = some l) (h : RelLs ρ ls vs) (hk : k < ls.length) : vs[k]? = some (gL ρ l) ∧ l.names = [] := by
  unfold selL at e
  split at e
  · rename_i s x r
    split at e
    · rename_i xs hx
      obtain rfl := Option.some.inj e
      exact ⟨col64_get hx h hk, rfl⟩
    · cases e
  · cases e
theorem updL_names {s : Bool} {v : BitVec 64} {k : Nat} : ∀ {ls r : List L} {j : Nat}, updL s v k j ls = some r → lnames r = []
  | [], r, j, e => by simp [updL] at e; subst e; rfl
  | .b64 s' x :: ls, r, j, e => by
    simp only [updL] at e
    split at e
    · rename_i x' r' h1 h2
      obtain rfl := Option.some.inj e
      simp [lnames, L.names, updL_names h2]
    · cases e
  | .b32 _ _ :: _, _, _, e => by simp [updL] at e
  | .b16 _ _ :: _, _, _, e => by simp [updL] at e
  | .b8 _ _ :: _, _, _, e => by simp [updL] at e
  | .bool _ :: _, _, _, e => by simp [updL] at e
  | .str _ :: _, _, _, e => by simp [updL] at e
  | .ptr _ _ :: _, _, _, e => by simp [updL] at e
  | .eptr _ _ _ _ :: _, _, _, e => by simp [updL] at e
  | .slc _ _ _ _ :: _, _, _, e => by simp [updL] at e
  | .gmap _ _ :: _, _, _, e => by simp [updL] at e
  | .clo _ _ :: _, _, _, e => by simp [updL] at e
  | .raw _ :: _, _, _, e => by simp [updL] at e
  | .junk :: _, _, _, e => by simp [updL] at e
theorem updL_rel {ρ : Nat → Nat} {s : Bool} {v : BitVec 64} {k : Nat} : ∀ {ls r : List L} {vs : List Value} {j : Nat}, updL s v k j ls = some r → RelLs ρ ls vs →
    RelLs ρ r (if j ≤ k then vs.set (k - j) (.int (k64 s) (vI s v)) else vs)
  | [], r, [], j, e, _ => by simp [updL] at e; subst e; split <;> simp [RelLs]
  | .b64 s' x :: ls, r, u :: vs, j, e, h => by
    simp only [updL] at e
    split at e
    · rename_i x' r' h1 h2
      obtain rfl := Option.some.inj e
      have hs : s = s' ∧ x = x' := by cases s <;> cases s' <;> simp_all [same]
      obtain ⟨rfl, rfl⟩ := hs
      have ih := updL_rel h2 h.2
      rcases Nat.lt_trichotomy k j with hk | hk | hk
      · have e1 : ¬ j ≤ k := by omega
        have e2 : ¬ k = j := by omega
        have e3 : ¬ j + 1 ≤ k := by omega
        simp only [e3, if_false] at ih
        simp only [e1, e2, if_false]
        exact ⟨h.1, ih⟩
      · subst hk
        have e3 : ¬ k + 1 ≤ k := by omega
        simp only [e3, if_false] at ih
        simp only [Nat.le_refl, if_true, Nat.sub_self, List.set_cons_zero]
        exact ⟨fun _ => rfl, ih⟩
      · have e1 : j ≤ k := by omega
        have e2 : ¬ k = j := by omega
        have e3 : j + 1 ≤ k := by omega
        have e4 : k - j = (k - (j + 1)) + 1 := by omega
        simp only [e3, if_true] at ih
        simp only [e1, e2, if_true, if_false]
        rw [e4, List.set_cons_succ]
        exact ⟨h.1, ih⟩
    · cases e
  | [], _, _ :: _, _, _, h => h.elim
  | _ :: _, _, [], _, _, h => h.elim
  | .b32 _ _ :: _, _, _ :: _, _, e, _ => by simp [updL] at e
  | .b16 _ _ :: _, _, _ :: _, _, e, _ => by simp [updL] at e
  | .b8 _ _ :: _, _, _ :: _, _, e, _ => by simp [updL] at e
  | .bool _ :: _, _, _ :: _, _, e, _ => by simp [updL] at e
  | .str _ :: _, _, _ :: _, _, e, _ => by simp [updL] at e
  | .ptr _ _ :: _, _, _ :: _, _, e, _ => by simp [updL] at e
  | .eptr _ _ _ _ :: _, _, _ :: _, _, e, _ => by simp [updL] at e
  | .slc _ _ _ _ :: _, _, _ :: _, _, e, _ => by simp [updL] at e
  | .gmap _ _ :: _, _, _ :: _, _, e, _ => by simp [updL] at e
  | .clo _ _ :: _, _, _ :: _, _, e, _ => by simp [updL] at e
  | .raw _ :: _, _, _ :: _, _, e, _ => by simp [updL] at e
  | .junk :: _, _, _ :: _, _, e, _ => by simp [updL] at e
theorem capVals_congr {ρ ρ' : Nat → Nat} : ∀ {caps : List (Nat × Nat)}, (∀ m ∈ capN caps, ρ' m = ρ m) → capVals ρ' caps = capVals ρ caps
  | [], _ => rfl
  | (i, o) :: r, h => by
    simp only [capVals]
    rw [h i (by simp [capN]), capVals_congr fun m hm => h m (by simp [capN, hm])]
theorem inCaps_spec {d : Nat} : ∀ {caps : List (Nat × Nat)}, inCaps d caps = false → d ∉ capN caps
  | [], _ => by simp [capN]
  | (i, o) :: r, h => by
    simp only [inCaps] at h
    split at h
    · cases h
    · rename_i hne
      have h1 := Nat.ne_of_beq_eq_false hne
      have h2 := inCaps_spec h
      simp only [capN, List.mem_cons, not_or]
      exact ⟨fun e => h1 e.symm, h2⟩
theorem relL_agree {ρ ρ' : Nat → Nat} {l : L} {v : Value} (h : RelL ρ l v) (he : ∀ m ∈ l.names, ρ' m = ρ m) : RelL ρ' l v := by
  intro hl
  rw [h hl]
  cases l with
  | ptr i o => simp [gL, he i (by simp [L.names])]
  | eptr i o n k => simp [gL, he i (by simp [L.names])]
  | slc i o n c => simp [gL, he i (by simp [L.names])]
  | clo f caps => simp only [gL]; rw [capVals_congr fun m hm => he m (by simpa [L.names] using hm)]
  | _ => rfl
theorem relLs_agree {ρ ρ' : Nat → Nat} : ∀ {ls : List L} {vs : List Value}, RelLs ρ ls vs → (∀ m ∈ lnames ls, ρ' m = ρ m) → RelLs ρ' ls vs
  | [], [], _, _ => trivial
  | l :: ls, v :: vs, h, he => ⟨relL_agree h.1 fun m hm => he m (by simp [lnames, hm]), relLs_agree h.2 fun m hm => he m (by simp [lnames, hm])⟩
  | [], _ :: _, h, _ => h.elim
  | _ :: _, [], h, _ => h.elim
theorem relVs_agree {ρ ρ' : Nat → Nat} : ∀ {ls : List (Bool × List L)} {vs : List Value}, RelVs ρ ls vs → (∀ m ∈ vnames ls, ρ' m = ρ m) → RelVs ρ' ls vs
  | [], [], _, _ => trivial
  | (true, ls) :: r, v :: vs, ⟨⟨cs, e, h1⟩, h2⟩, he => ⟨⟨cs, e, relLs_agree h1 fun m hm => he m (by simp [vnames, hm])⟩, relVs_agree h2 fun m hm => he m (by simp [vnames, hm])⟩
  | (false, [l]) :: r, v :: vs, ⟨h1, h2⟩, he => ⟨relL_agree h1 fun m hm => he m (by simp [vnames, lnames, hm]), relVs_agree h2 fun m hm => he m (by simp [vnames, hm])⟩
  | [], _ :: _, h, _ => h.elim
  | (true, _) :: _, [], h, _ => h.elim
  | (false, []) :: _, [], h, _ => h.elim
  | (false, []) :: _, _ :: _, h, _ => h.elim
  | (false, _ :: _ :: _) :: _, [], h, _ => h.elim
  | (false, _ :: _ :: _) :: _, _ :: _, h, _ => h.elim
  | (false, [_]) :: _, [], h, _ => h.elim
theorem relA_agree {ρ ρ' : Nat → Nat} {v : AV} {u : Value} (h : RelA ρ v u) (he : ∀ m ∈ v.names, ρ' m = ρ m) : RelA ρ' v u := by
  cases v with
  | one l => exact relL_agree h he
  | agg ls => obtain ⟨cs, e, h⟩ := h; exact ⟨cs, e, relLs_agree h he⟩
  | tup vs => obtain ⟨cs, e, h⟩ := h; exact ⟨cs, e, relVs_agree h he⟩
theorem relB_agree {ρ ρ' : Nat → Nat} {b : Blk} {o : Option Obj} (h : RelB ρ b o) (he : ∀ m ∈ b.names, ρ' m = ρ m) : RelB ρ' b o := by
  cases b with
  | cells T ls => obtain ⟨cs, e, h⟩ := h; exact ⟨cs, e, relLs_agree h he⟩
  | ro T ls => obtain ⟨cs, fr, e, h⟩ := h; exact ⟨cs, fr, e, relLs_agree h he⟩
theorem relAs_append {ρ : Nat → Nat} : ∀ {xs ys : List AV} {us vs : List Value}, RelAs ρ xs us → RelAs ρ ys vs → RelAs ρ (xs ++ ys) (us ++ vs)
  | [], _, [], _, _, h => h
  | _ :: _, _, _ :: _, _, h, h' => ⟨h.1, relAs_append h.2 h'⟩
  | [], _, _ :: _, _, h, _ => h.elim
  | _ :: _, _, [], _, h, _ => h.elim
theorem capVs_rel (ρ : Nat → Nat) : ∀ caps : List (Nat × Nat), RelAs ρ (capVs caps) (capVals ρ caps)
  | [] => trivial
  | (i, o) :: r => ⟨fun _ => rfl, capVs_rel ρ r⟩
theorem capVs_names : ∀ {caps : List (Nat × Nat)} {v : AV} {m : Nat}, v ∈ capVs caps → m ∈ v.names → m ∈ capN caps
  | [], _, _, h, _ => by simp [capVs] at h
  | (i, o) :: r, v, m, h, hm => by
    simp only [capVs, List.mem_cons] at h
    rcases h with rfl | h
    · simp only [AV.names, L.names, List.mem_singleton] at hm; subst hm; simp [capN]
    · simp [capN, capVs_names h hm]
end Go.El
