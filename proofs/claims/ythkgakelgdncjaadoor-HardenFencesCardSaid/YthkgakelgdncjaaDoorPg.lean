/-
  One step of the evaluator is one of the model's, in every world that is as the evaluator bears it; what a region's operations come to in the order of the text they come to in every order that may be. Conditions: as typed.
-/
import Derived.Test.YthkgakelgdncjaaDoorPf
namespace Go.Ep
open Go.RowKit
set_option linter.unusedVariables false
set_option linter.unusedSimpArgs false

theorem req_ok {P : Program} {ρ : Nat → Loc} {t : List AV} {h : Nat → Option Blk} {a : Act} {w : World} (C : Ctx ρ t h a w) {o : Oper} {c : Cond} {r : Req}
    (e : req P o.op t = some (c, r)) (hc : c.holds) : ReqOK P ρ h a w o r := by
  obtain ⟨dst, op, ty, pos, after, gu⟩ := o
  cases op
  case move x => simp only [req, Option.some.injEq, Prod.mk.injEq] at e; obtain ⟨-, rfl⟩ := e; exact ok_move C
  case assign x => simp only [req, Option.some.injEq, Prod.mk.injEq] at e; obtain ⟨-, rfl⟩ := e; exact ok_assign C
  case pick c x y =>
    simp only [req] at e
    split at e
    · rename_i b hb
      simp only [Option.some.injEq, Prod.mk.injEq] at e; obtain ⟨-, rfl⟩ := e; exact ok_pick C hb
    · cases e
  case alloc T =>
    simp only [req] at e
    split at e
    · rename_i i hi
      split at e
      · rename_i z hz
        split at e
        · rename_i ls hl
          simp only [Option.some.injEq, Prod.mk.injEq] at e; obtain ⟨-, rfl⟩ := e; exact ok_alloc hi hz hl
        · cases e
      · cases e
    · cases e
  case box T x =>
    simp only [req] at e
    split at e
    · rename_i ls hl
      simp only [Option.some.injEq, Prod.mk.injEq] at e; obtain ⟨-, rfl⟩ := e; exact ok_box C hl
    · cases e
  case nilCheck x => exact ok_nilCheck C e
  case makeMap T rs => exact ok_makeMap e
  case mapUpdate T x k v => exact ok_mapUpdate C e
  case build T ps => exact ok_build C e
  case load T x => exact ok_load C e hc
  case store T x y => exact ok_store C e hc
  case fieldAddr T x f => exact ok_fieldAddr C e
  case field T x f => exact ok_field C e
  case indexAddr T x i => exact ok_indexAddr C e hc
  case buildSlice T n ps => exact ok_buildSlice C e
  case index T x i => exact ok_index C e hc
  case slice T x lo hi mx => exact ok_slice C e hc
  case lookup T x i ok => exact ok_lookup C e
  case makeSlice T l c' => exact ok_makeSlice C e hc
  case extract x k => exact ok_extract C e
  case binOp op T x y yT => exact ok_binOp C e hc
  case unOp op T x => exact ok_unOp C e
  case convert s d x => exact ok_convert C e
  case call cl => exact ok_call C e hc
  case makeFunc fn fst cap => exact ok_makeFunc C e
  all_goals simp [req] at e

/-- What the evaluator bears, the blocks as a function. -/
structure AS where
  t : List AV
  h : Nat → Option Blk
def upd (h : Nat → Option Blk) (i : Nat) (b : Blk) : Nat → Option Blk := fun j => if j = i then some b else h j
def AS.put (s : AS) (dst : Option Nat) (v : AV) : AS := match dst with
  | some d => ⟨s.t.set d v, s.h⟩
  | none => s

/-- How many blocks there were when the call began; the names from which on this function makes blocks; the blocks that stay, and which ones they were. -/
structure Bs where
  b : Nat
  nm : Nat
  ρ0 : Nat → Loc
  dom : Nat → Prop
  w1 : World
  far : Nat → Prop
/-- Blocks that the call was not handed stay as they were when it began. -/
structure FarOK (bs : Bs) (ρ : Nat → Loc) (h : Nat → Option Blk) (w : World) : Prop where
  grown : bs.w1.heap.size ≤ w.heap.size
  keeps : ∀ k, k < bs.w1.heap.size → bs.far k → w.heap[k]? = bs.w1.heap[k]?
  apart : ∀ i c, h i = some c → c.own = true → (ρ i).b < bs.w1.heap.size → ¬ bs.far (ρ i).b
theorem FarOK.to {bs : Bs} {ρ ρ' : Nat → Loc} {h h' : Nat → Option Blk} {w w' : World} (f : FarOK bs ρ h w) (hg : w.heap.size ≤ w'.heap.size) (hk : ∀ k, k < bs.w1.heap.size → bs.far k → w'.heap[k]? = w.heap[k]?)
    (ha : ∀ i c, h' i = some c → c.own = true → bs.w1.heap.size ≤ (ρ' i).b ∨ ∃ j d, h j = some d ∧ d.own = true ∧ (ρ' i).b = (ρ j).b) : FarOK bs ρ' h' w' :=
  ⟨Nat.le_trans f.grown hg, fun k h1 h2 => (hk k h1 h2).trans (f.keeps k h1 h2), fun i c h1 h2 h3 => by
    rcases ha i c h1 h2 with h4 | ⟨j, d, h4, h5, h6⟩
    · omega
    · rw [h6] at h3 ⊢; exact f.apart j d h4 h5 h3⟩
theorem nameOf_le (nm d : Nat) : nm ≤ nameOf nm d := by
  unfold nameOf; split <;> omega
/-- Memory is as the evaluator bears it. -/
structure RelH (b : Nat) (w0 : World) (ρ : Nat → Loc) (h : Nat → Option Blk) (w : World) : Prop where
  heap : ∀ i b, h i = some b → RelB ρ (ρ i) b w.heap[(ρ i).b]?
  namesH : ∀ i b, h i = some b → ∀ m ∈ b.names, h m ≠ none
  low : ∀ i c, h i = some c → (c.own = true → b ≤ (ρ i).b) ∧ (c.own = false → (ρ i).b < b)
  inj : ∀ i j c d, h i = some c → h j = some d → c.own = true → (ρ i).b = (ρ j).b → i = j
  below : Below b w0 w
  base : b ≤ w.heap.size
/-- The model's state is as the evaluator bears it; 'base': how many blocks there were when the call began, 'w0': the world then. -/
structure RelS (bs : Bs) (w0 : World) (ρ : Nat → Loc) (s : AS) (a : Act) (w : World) : Prop where
  defers : a.defers = []
  size : a.tmps.size = s.t.length
  ctx : Ctx ρ s.t s.h a w
  low : ∀ i c, s.h i = some c → (c.own = true → bs.b ≤ (ρ i).b) ∧ (c.own = false → (ρ i).b < bs.b)
  inj : ∀ i j c d, s.h i = some c → s.h j = some d → c.own = true → (ρ i).b = (ρ j).b → i = j
  below : Below bs.b w0 w
  base : bs.b ≤ w.heap.size
  frame : ∀ m, bs.dom m → m < bs.nm ∧ s.h m ≠ none ∧ ρ m = bs.ρ0 m
  far : FarOK bs ρ s.h w

theorem getT_set : ∀ (t : List AV) (d : Nat) (v : AV) (n : Nat), getT (t.set d v) n = if n = d ∧ d < t.length then v else getT t n
  | [], d, v, n => by simp [getT]
  | x :: t, 0, v, 0 => by simp [getT]
  | x :: t, 0, v, n + 1 => by simp [getT]
  | x :: t, d + 1, v, 0 => by simp [getT]
  | x :: t, d + 1, v, n + 1 => by
    have := getT_set t d v n
    simp only [List.set_cons_succ, getT, this, List.length_cons, Nat.add_right_cancel_iff, Nat.add_lt_add_iff_right]
theorem putA_getD (a : Act) (d : Nat) (u : Value) (n : Nat) : (a.put (some d) u).tmps.getD n undef = if n = d ∧ d < a.tmps.size then u else a.tmps.getD n undef := by
  simp only [Act.put, Array.getD_eq_getD_getElem?, Array.getElem?_setIfInBounds]
  by_cases h : d = n
  · subst h
    by_cases h2 : d < a.tmps.size
    · simp [h2]
    · simp [h2]
  · have h' : ¬ n = d := fun e => h e.symm
    simp [h, h']

section
variable {P : Program} {base : Bs} {w0 : World} {ρ : Nat → Loc} {s : AS} {a : Act} {w : World}

theorem RelS.put (R : RelS base w0 ρ s a w) (dst : Option Nat) {v : AV} {u : Value} (hv : RelA ρ v u) (hn : ∀ m ∈ v.names, s.h m ≠ none) : RelS base w0 ρ (s.put dst v) (a.put dst u) w := by
  cases dst with
  | none => exact R
  | some d =>
    refine ⟨R.defers, by simp [AS.put, Act.put, R.size], ⟨fun n => ?_, R.ctx.heap, fun n => ?_, R.ctx.namesH⟩, R.low, R.inj, R.below, R.base, R.frame, R.far⟩
    · rw [putA_getD]
      simp only [AS.put, getT_set, R.size]
      split
      · exact hv
      · exact R.ctx.tmps n
    · simp only [AS.put, getT_set]
      split
      · exact hn
      · exact R.ctx.names n
theorem upd_agree {d : Nat} {x : Loc} {l : List Nat} (hd : d ∉ l) : ∀ m ∈ l, (fun j => if j = d then x else ρ j) m = ρ m := fun m hm => by
  have : m ≠ d := fun e => hd (e ▸ hm)
  simp [this]
theorem relA_upd {v : AV} {u : Value} {d : Nat} {x : Loc} (h : RelA ρ v u) (hd : d ∉ v.names) : RelA (fun j => if j = d then x else ρ j) v u := relA_agree h (upd_agree hd)
theorem relB_upd {b : Blk} {q : Loc} {o : Option Obj} {d : Nat} {x : Loc} (h : RelB ρ q b o) (hd : d ∉ b.names) : RelB (fun j => if j = d then x else ρ j) q b o := relB_agree h (upd_agree hd)
theorem relB_some {b : Blk} {q : Loc} {o : Option Obj} (h : RelB ρ q b o) : o ≠ none := by
  cases b with
  | cells T ls => obtain ⟨cs, e, -⟩ := h; rw [e]; simp
  | ro T ls => obtain ⟨cs, fr, e, -⟩ := h; rw [e]; simp
  | row T z n f => obtain ⟨cs, e, -⟩ := h; rw [e]; simp
  | imap es => obtain ⟨cs, fr, e, -⟩ := h; rw [e]; simp
  | romap es => obtain ⟨cs, fr, e, -⟩ := h; rw [e]; simp
theorem RelS.lt (R : RelS base w0 ρ s a w) {i : Nat} (hi : s.h i ≠ none) : (ρ i).b < w.heap.size := by
  cases hb : s.h i with
  | none => exact absurd hb hi
  | some b =>
    have := relB_some (R.ctx.heap i b hb)
    cases ho : w.heap[(ρ i).b]? with
    | none => exact absurd ho this
    | some o => exact (Array.getElem?_eq_some_iff.1 ho).1

theorem RelS.new (R : RelS base w0 ρ s a w) {e d : Nat} {b : Blk} {ob : Obj} (nv : NewV) (hnm : base.nm ≤ d) (hd : s.h d = none) (hlt : e < s.t.length) (hb : RelB ρ ⟨w.heap.size, 0, nv.cap⟩ b (some ob)) (hown : b.own = true) (hn : ∀ m ∈ b.names, s.h m ≠ none) :
    RelS base w0 (fun j => if j = d then ⟨w.heap.size, 0, nv.cap⟩ else ρ j) ⟨s.t.set e (.one (nv.at d)), upd s.h d b⟩ (a.put (some e) (nv.val w.heap.size)) (w.alloc ob) := by
  have hdn : ∀ {l : List Nat}, (∀ m ∈ l, s.h m ≠ none) → d ∉ l := fun hl hm => hl d hm hd
  have hsome : ∀ m, s.h m ≠ none → upd s.h d b m ≠ none := fun m hm => by
    unfold upd; split
    · simp
    · exact hm
  refine ⟨R.defers, by simp [Act.put, R.size], ⟨fun n => ?_, fun i b' hi => ?_, fun n m hm => ?_, fun i b' hi m hm => ?_⟩, fun i c hi => ?_, fun i j c c' hi hj ho ee => ?_, R.below.alloc R.base _, ?_, fun m hm => ?_, R.far.to (by show w.heap.size ≤ (w.heap.push ob).size; simp) (fun k h1 h2 => Below.heap_alloc _ _ _ (Nat.lt_of_lt_of_le h1 R.far.grown)) fun i c h1 h2 => ?_⟩
  · rw [putA_getD, getT_set, R.size]
    split
    · intro _
      cases nv <;> simp [gL, NewV.at, NewV.val, NewV.cap]
    · exact relA_upd (R.ctx.tmps n) (hdn (R.ctx.names n))
  · simp only [upd] at hi
    by_cases hid : i = d
    · rw [if_pos hid] at hi
      obtain rfl := Option.some.inj hi
      rw [if_pos hid]
      have : (w.alloc ob).heap[w.heap.size]? = some ob := by show (w.heap.push ob)[w.heap.size]? = _; simp
      rw [this]
      exact relB_upd hb (hdn hn)
    · rw [if_neg hid] at hi
      rw [if_neg hid, Below.heap_alloc _ _ _ (R.lt (by rw [hi]; simp))]
      exact relB_upd (R.ctx.heap i b' hi) (hdn (R.ctx.namesH i b' hi))
  · rw [getT_set] at hm
    split at hm
    · have hm' : m = d := by cases nv <;> simpa [AV.names, L.names, NewV.at] using hm
      subst hm'
      simp [upd]
    · exact hsome _ (R.ctx.names n m hm)
  · simp only [upd] at hi
    split at hi
    · obtain rfl := Option.some.inj hi
      exact hsome _ (hn m hm)
    · exact hsome _ (R.ctx.namesH i b' hi m hm)
  · by_cases h1 : i = d
    · rw [if_pos h1]
      have hc : c = b := by simp [upd, h1] at hi; exact hi.symm
      subst hc
      exact ⟨fun _ => R.base, fun e => by rw [hown] at e; cases e⟩
    · rw [if_neg h1]
      exact R.low i c (by simpa [upd, h1] using hi)
  · by_cases h1 : i = d <;> by_cases h2 : j = d
    · rw [h1, h2]
    · rw [if_pos h1, if_neg h2] at ee
      dsimp only at ee
      have := R.lt (i := j) (by have : s.h j = some c' := by simpa [upd, h2] using hj
                                rw [this]; simp)
      omega
    · rw [if_neg h1, if_pos h2] at ee
      dsimp only at ee
      have := R.lt (i := i) (by have : s.h i = some c := by simpa [upd, h1] using hi
                                rw [this]; simp)
      omega
    · rw [if_neg h1, if_neg h2] at ee
      exact R.inj i j c c' (by simpa [upd, h1] using hi) (by simpa [upd, h2] using hj) ho ee
  · have := R.base
    show base.b ≤ (w.heap.push ob).size
    simp; omega
  · obtain ⟨h1, h2, h3⟩ := R.frame m hm
    have hmd : m ≠ d := by omega
    exact ⟨h1, hsome _ h2, by simp [hmd, h3]⟩
  · dsimp only at h1 ⊢
    unfold upd at h1
    by_cases e : i = d
    · rw [if_pos e]; exact .inl R.far.grown
    · rw [if_neg e] at h1 ⊢; exact .inr ⟨i, c, h1, h2, rfl⟩
theorem RelS.write (R : RelS base w0 ρ s a w) {i : Nat} {b0 b' : Blk} {w' : World} (hi0 : s.h i = some b0) (ho0 : b0.own = true) (ho' : b'.own = true) (htu : Turned w w' (ρ i).b) (hb : RelB ρ (ρ i) b' w'.heap[(ρ i).b]?) (hn : ∀ m ∈ b'.names, s.h m ≠ none) :
    RelS base w0 ρ ⟨s.t, upd s.h i b'⟩ a w' := by
  have hi : s.h i ≠ none := by rw [hi0]; simp
  have hfind : ∀ m c, upd s.h i b' m = some c → ∃ c0, s.h m = some c0 ∧ c0.own = c.own := fun m c hm => by
    unfold upd at hm; split at hm
    · rename_i e; subst e; obtain rfl := Option.some.inj hm; exact ⟨b0, hi0, by rw [ho0, ho']⟩
    · exact ⟨c, hm, rfl⟩
  have hsome : ∀ m, s.h m ≠ none → upd s.h i b' m ≠ none := fun m hm => by
    unfold upd; split
    · simp
    · exact hm
  have hback : ∀ m, upd s.h i b' m ≠ none → s.h m ≠ none := fun m hm => by
    unfold upd at hm; split at hm
    · rename_i e; rw [e]; exact hi
    · exact hm
  have hother : ∀ k, k ≠ (ρ i).b → w'.heap[k]? = w.heap[k]? := htu.other
  refine ⟨R.defers, R.size, ⟨R.ctx.tmps, fun j b hj => ?_, fun n m hm => hsome _ (R.ctx.names n m hm), fun j b hj m hm => ?_⟩, fun j c hj => by obtain ⟨c0, h1, h2⟩ := hfind j c hj; rw [← h2]; exact R.low j c0 h1, fun j k c d hj hk ho e => by obtain ⟨c0, h1, h2⟩ := hfind j c hj; obtain ⟨d0, h3, _⟩ := hfind k d hk; exact R.inj j k c0 d0 h1 h3 (by rw [h2]; exact ho) e, ?_, ?_, fun m hm => ⟨(R.frame m hm).1, hsome _ (R.frame m hm).2.1, (R.frame m hm).2.2⟩, R.far.to (by rw [htu.size]; exact Nat.le_refl _) (fun k h1 h2 => hother k fun e => by subst e; exact R.far.apart i b0 hi0 ho0 h1 h2) fun m c h1 h2 => by obtain ⟨c0, h3, h4⟩ := hfind m c h1; exact .inr ⟨m, c0, h3, h4.trans h2, rfl⟩⟩
  · simp only [upd] at hj
    split at hj
    · rename_i e
      obtain rfl := Option.some.inj hj
      rw [e]; exact hb
    · rename_i hne
      rw [hother _ (fun e => hne (R.inj i j b0 b hi0 hj ho0 e.symm).symm)]
      exact R.ctx.heap j b hj
  · simp only [upd] at hj
    split at hj
    · obtain rfl := Option.some.inj hj
      exact hsome _ (hn m hm)
    · exact hsome _ (R.ctx.namesH j b hj m hm)
  · refine R.below.trans ⟨htu.os, htu.tape, htu.output, by rw [htu.size]; exact Nat.le_refl _, fun k hk => hother k ?_⟩
    have := (R.low i b0 hi0).1 ho0
    omega
  · rw [htu.size]; exact R.base
/-- A call that makes memory, or a draw. -/
theorem RelS.later (R : RelS base w0 ρ s a w) {w' : World} (hb : Below w.heap.size w w') : RelS base w0 ρ s a w' :=
  ⟨R.defers, R.size, ⟨R.ctx.tmps, fun i b hi => by rw [hb.block _ (R.lt (by rw [hi]; simp))]; exact R.ctx.heap i b hi, R.ctx.names, R.ctx.namesH⟩, R.low, R.inj,
    R.below.trans (hb.mono R.base), Nat.le_trans R.base hb.size, R.frame, R.far.to hb.size (fun k h1 _ => hb.block k (Nat.lt_of_lt_of_le h1 R.far.grown)) fun i c h1 h2 => .inr ⟨i, c, h1, h2, rfl⟩⟩
/-- A block that is borne from now on by a name of this function's own. -/
theorem RelS.adopt {ρ : Nat → Loc} {s : AS} {a : Act} {w w' : World} (R : RelS base w0 ρ s a w) {i : Nat} (hd : s.h i = none) (hnm : base.nm ≤ i) {q : Loc} {b : Blk}
    (hkeep : ∀ j c, s.h j = some c → w'.heap[(ρ j).b]? = w.heap[(ρ j).b]? ∧ (ρ j).b ≠ q.b) (hbel : Below base.b w0 w') (hbase : base.b ≤ w'.heap.size)
    (hb : RelB ρ q b w'.heap[q.b]?) (hown : b.own = true) (hlow : base.b ≤ q.b) (hn : b.names = []) (hgr : w.heap.size ≤ w'.heap.size) (hfk : ∀ k, k < base.w1.heap.size → base.far k → w'.heap[k]? = w.heap[k]?) (hfq : q.b < base.w1.heap.size → ¬ base.far q.b) :
    RelS base w0 (fun j => if j = i then q else ρ j) ⟨s.t, upd s.h i b⟩ a w' := by
  have hdn : ∀ {l : List Nat}, (∀ m ∈ l, s.h m ≠ none) → i ∉ l := fun hl hm => hl i hm hd
  have hsome : ∀ m, s.h m ≠ none → upd s.h i b m ≠ none := fun m hm => by
    unfold upd; split
    · simp
    · exact hm
  refine ⟨R.defers, R.size, ⟨fun n => relA_upd (R.ctx.tmps n) (hdn (R.ctx.names n)), fun j c hj => ?_, fun n m hm => hsome _ (R.ctx.names n m hm), fun j c hj m hm => ?_⟩, fun j c hj => ?_, fun j k c d hj hk ho e => ?_, hbel, hbase, fun m hm => ?_, ⟨Nat.le_trans R.far.grown hgr, fun k h1 h2 => (hfk k h1 h2).trans (R.far.keeps k h1 h2), fun j c h1 h2 h3 => ?_⟩⟩
  · have hj : upd s.h i b j = some c := hj
    unfold upd at hj
    split at hj
    · rename_i e
      obtain rfl := Option.some.inj hj
      subst e
      rw [if_pos rfl]
      exact relB_upd hb (by rw [hn]; simp)
    · rename_i e
      rw [if_neg e, (hkeep j c hj).1]
      exact relB_upd (R.ctx.heap j c hj) (hdn (R.ctx.namesH j c hj))
  · have hj : upd s.h i b j = some c := hj
    unfold upd at hj
    split at hj
    · obtain rfl := Option.some.inj hj
      rw [hn] at hm; simp at hm
    · exact hsome _ (R.ctx.namesH j c hj m hm)
  · have hj : upd s.h i b j = some c := hj
    unfold upd at hj
    split at hj
    · rename_i e
      obtain rfl := Option.some.inj hj
      rw [if_pos e]
      exact ⟨fun _ => hlow, fun e => by rw [hown] at e; cases e⟩
    · rename_i e
      rw [if_neg e]
      exact R.low j c hj
  · have hj : upd s.h i b j = some c := hj
    have hk : upd s.h i b k = some d := hk
    unfold upd at hj hk
    by_cases h1 : j = i <;> by_cases h2 : k = i
    · rw [h1, h2]
    · rw [if_neg h2] at hk
      rw [if_pos h1, if_neg h2] at e
      exact absurd e.symm (hkeep k d hk).2
    · rw [if_neg h1] at hj
      rw [if_neg h1, if_pos h2] at e
      exact absurd e (hkeep j c hj).2
    · rw [if_neg h1] at hj
      rw [if_neg h2] at hk
      rw [if_neg h1, if_neg h2] at e
      exact R.inj j k c d hj hk ho e
  · obtain ⟨h1, h2, h3⟩ := R.frame m hm
    have hmi : m ≠ i := by omega
    exact ⟨h1, hsome _ h2, by rw [if_neg hmi]; exact h3⟩
  · have h1 : upd s.h i b j = some c := h1
    unfold upd at h1
    by_cases e : j = i
    · rw [if_pos e] at h3 ⊢; exact hfq h3
    · rw [if_neg e] at h1 h3 ⊢; exact R.far.apart j c h1 h2 h3
theorem RelS.toH (R : RelS base w0 ρ s a w) : RelH base.b w0 ρ s.h w := ⟨R.ctx.heap, R.ctx.namesH, R.low, R.inj, R.below, R.base⟩
/-- Behind a call that was gone through in its caller's place. -/
theorem RelS.back (R : RelS base w0 ρ s a w) {ρ' : Nat → Loc} {h' : Nat → Option Blk} {w' : World} (H : RelH base.b w0 ρ' h' w') (hk : ∀ m, s.h m ≠ none → h' m ≠ none ∧ ρ' m = ρ m)
    (hgr : w.heap.size ≤ w'.heap.size) (hfk : ∀ k, k < w.heap.size → (∀ m c, s.h m = some c → c.own = true → (ρ m).b ≠ k) → w'.heap[k]? = w.heap[k]?) (hnew : ∀ m c, h' m = some c → c.own = true → s.h m = none → w.heap.size ≤ (ρ' m).b) :
    RelS base w0 ρ' ⟨s.t, h'⟩ a w' :=
  ⟨R.defers, R.size, ⟨fun n => relA_agree (R.ctx.tmps n) fun m hm => (hk m (R.ctx.names n m hm)).2, H.heap, fun n m hm => (hk m (R.ctx.names n m hm)).1, H.namesH⟩, H.low, H.inj, H.below, H.base,
    fun m hm => ⟨(R.frame m hm).1, (hk m (R.frame m hm).2.1).1, (hk m (R.frame m hm).2.1).2.trans (R.frame m hm).2.2⟩,
    R.far.to hgr (fun k h1 h2 => hfk k (Nat.lt_of_lt_of_le h1 R.far.grown) fun m c h3 h4 e => by subst e; exact R.far.apart m c h3 h4 h1 h2) fun m c h1 h2 => by
      cases hm : s.h m with
      | none => exact .inl (Nat.le_trans R.far.grown (hnew m c h1 h2 hm))
      | some d =>
        have e := (hk m (by rw [hm]; simp)).2
        refine .inr ⟨m, d, hm, ?_, by rw [e]⟩
        have h3 := (H.low m c h1).1 h2
        cases hd : d.own with
        | true => rfl
        | false => have := (R.low m d hm).2 hd; rw [e] at h3; omega⟩
end

/-- What goes through calls in their callers' places is sound. -/
def InlOK (P : Program) (G : World → Prop) (i : FuncId → Nat → List AV → List (Nat × Blk) → (AV → List (Nat × Blk) → Prop) → Prop) : Prop :=
  ∀ f tp args h K, i f tp args h K → (∀ m, look h m ≠ none → m < tp) → (∀ v ∈ args, ∀ m ∈ v.names, look h m ≠ none) →
    (∃ fn, P.funcs[f]? = some fn ∧ (fn.name == "runtime.NumGoroutine") = false ∧ fn.body.isNone = false) ∧
    ∀ (b : Nat) (w0 : World) (ρ : Nat → Loc) (us : List Value) (w : World), G w0 → b = w0.heap.size → RelAs ρ args us → RelH b w0 ρ (look h) w →
      Calls P f us.toArray w (fun e w' => ∃ v h' u ρ', K v h' ∧ e = .returned u ∧ RelA ρ' v u ∧ (∀ m ∈ v.names, look h' m ≠ none) ∧ RelH b w0 ρ' (look h') w' ∧
        (∀ m, look h m ≠ none → look h' m ≠ none ∧ ρ' m = ρ m) ∧ w.heap.size ≤ w'.heap.size ∧ (∀ k, k < w.heap.size → (∀ m c, look h m = some c → c.own = true → (ρ m).b ≠ k) → w'.heap[k]? = w.heap[k]?) ∧
        ∀ m c, look h' m = some c → c.own = true → look h m = none → w.heap.size ≤ (ρ' m).b)
theorem InlOK.none (P : Program) (G : World → Prop) : InlOK P G (fun _ _ _ _ _ => Stuck "call") := fun _ _ _ _ _ h => by cases h
/-- Blocks stand in memory as they are borne. -/
def RelBs (ρ : Nat → Loc) (bs : List (Nat × Blk)) (w : World) : Prop := ∀ p ∈ bs, RelB ρ (ρ p.1) p.2 w.heap[(ρ p.1).b]?
theorem blks_mem {h : Nat → Option Blk} : ∀ {ns : List Nat} {p : Nat × Blk}, p ∈ blks h ns → p.1 ∈ ns ∧ h p.1 = some p.2
  | [], p, hp => by simp [blks] at hp
  | i :: r, p, hp => by
    simp only [blks] at hp
    split at hp
    · rename_i b hb
      rcases List.mem_cons.1 hp with rfl | hp
      · exact ⟨by simp, hb⟩
      · exact ⟨List.mem_cons_of_mem _ (blks_mem hp).1, (blks_mem hp).2⟩
    · exact ⟨List.mem_cons_of_mem _ (blks_mem hp).1, (blks_mem hp).2⟩
theorem blks_congr {h h' : Nat → Option Blk} : ∀ {ns : List Nat}, (∀ i ∈ ns, h i = h' i) → blks h ns = blks h' ns
  | [], _ => rfl
  | i :: r, hh => by
    simp only [blks]
    rw [hh i (by simp), blks_congr fun j hj => hh j (by simp [hj])]
theorem anames_mem {m : Nat} : ∀ {vs : List AV}, m ∈ anames vs ↔ ∃ v ∈ vs, m ∈ v.names
  | [] => by simp [anames]
  | v :: vs => by simp [anames, anames_mem (vs := vs)]
/-- Functions that make one block, and answer where it is. -/
def MkOK (P : Program) (G : World → Prop) (mk : FuncId → List AV → List (Nat × Blk) → Option (Cond × Blk × NewV)) : Prop := ∀ f args bs c b nv, mk f args bs = some (c, b, nv) → c.holds → b.own = true ∧ b.names = [] ∧
  (∃ fn, P.funcs[f]? = some fn ∧ (fn.name == "runtime.NumGoroutine") = false ∧ fn.body.isNone = false) ∧
    ∀ us ρ, RelAs ρ args us → ∀ w, G w → RelBs ρ bs w → (∀ p ∈ bs, (ρ p.1).b < w.heap.size) → Calls P f us.toArray w (fun e w' => ∃ u q, e = .returned u ∧ RelL (fun _ => q) (nv.at 0) u ∧ RelB ρ q b w'.heap[q.b]? ∧ w.heap.size ≤ q.b ∧ Below w.heap.size w w')
theorem MkOK.none (P : Program) (G : World → Prop) : MkOK P G (fun _ _ _ => none) := fun _ _ _ _ _ _ h => by cases h
theorem nv_at {ρ : Nat → Loc} {nv : NewV} {q : Loc} {u : Value} {d : Nat} (h : RelL (fun _ => q) (nv.at 0) u) (hd : ρ d = q) : RelL ρ (nv.at d) u := by
  intro _
  have := h (by cases nv <;> simp [NewV.at])
  rw [this]
  cases nv <;> simp [NewV.at, gL, hd]
/-- What each function of the table answers, in every world of which G holds. -/
structure CSound (P : Program) (G : World → Prop) (C : Table) : Prop where
  stable : ∀ w w', G w → Below w.heap.size w w' → G w'
  globs : ∀ T g off v, C.glob T g off = some v → v.names = [] ∧ ∀ w, G w → ∃ u, (loadVar T ⟨g, off, none⟩).run P w = .ok u w ∧ ∀ ρ, RelA ρ v u
  looks : ∀ T ok g b key c v, C.look T ok g b key = some (c, v) → c.holds → v.names = [] ∧ ∀ w, G w → ∀ ρ k, RelA ρ key k → ∃ u, (Instr.lookup T (.map (some b)) k ok).run P w = .ok u w ∧ RelA ρ v u
  calls : ∀ f args bs c v, C.fn f args bs = some (c, v) → c.holds → v.names = [] ∧
    (((∃ fn, P.funcs[f]? = some fn ∧ (fn.name == "runtime.NumGoroutine") = false ∧ fn.body.isNone = false) ∧
      ∀ us ρ, RelAs ρ args us → ∀ w, G w → RelBs ρ bs w → (∀ p ∈ bs, (ρ p.1).b < w.heap.size) → Calls P f us.toArray w (fun e w' => ∃ u, e = .returned u ∧ RelA ρ v u ∧ Below w.heap.size w w')) ∨
    (∀ us ρ, RelAs ρ args us → ∀ w, G w → RelBs ρ bs w → ∃ u w', (callFunc f us.toArray).run P w = .ok (.value u) w' ∧ RelA ρ v u ∧ Below w.heap.size w w'))
  inl : InlOK P G C.inl
  mkr : MkOK P G C.mkr

theorem CSound.inl' {P : Program} {G : World → Prop} {C : Table} (h : CSound P G C) {i : FuncId → Nat → List AV → List (Nat × Blk) → (AV → List (Nat × Blk) → Prop) → Prop} (hi : InlOK P G i) (ap : Ap) (nm tp : Nat) (im mks : List Nat) :
    CSound P G ⟨C.fn, C.glob, C.look, i, ap, nm, tp, im, C.mkr, mks⟩ := ⟨h.stable, h.globs, h.looks, h.calls, hi, h.mkr⟩
/-- What an operation's own slot bears behind it, and what it has written. -/
def AS.eff (s : AS) (dst : Option Nat) (v : AV) (hw : Option (Nat × Blk)) : AS := ⟨(s.put dst v).t, match hw with
  | none => s.h
  | some (i, b) => upd s.h i b⟩
def YieldsR (C : Table) (dst : Option Nat) (fp : FP) (s : AS) (dv : AV) (hw : Option (Nat × Blk)) : Req → Prop
  | .val v => fp = (false, []) ∧ hw = none ∧ dv = v
  | .rd i f => fp = (false, [i]) ∧ hw = none ∧ ∃ b c, s.h i = some b ∧ f b = some (c, dv) ∧ c.holds
  | .wr i f => fp = (true, [i]) ∧ dst = none ∧ ∃ b c b', s.h i = some b ∧ f b = some (c, b') ∧ c.holds ∧ hw = some (i, b')
  | .new b nv => ∃ d, dst = some d ∧ fp = (true, [nameOf C.nm d]) ∧ s.h (nameOf C.nm d) = none ∧ d < s.t.length ∧ dv = .one (nv.at (nameOf C.nm d)) ∧ hw = some (nameOf C.nm d, b)
  | .call f args => (fp = (false, anames args) ∧ hw = none ∧ ∃ c, C.fn f args (blks s.h (anames args)) = some (c, dv) ∧ c.holds) ∨
    (∃ d c b nv, dst = some d ∧ fp = (true, nameOf C.nm d :: anames args) ∧ C.mkr f args (blks s.h (anames args)) = some (c, b, nv) ∧ c.holds ∧ s.h (nameOf C.nm d) = none ∧ d < s.t.length ∧ dv = .one (nv.at (nameOf C.nm d)) ∧ hw = some (nameOf C.nm d, b))
  | .glob T g off => fp = (false, []) ∧ hw = none ∧ C.glob T g off = some dv
  | .look T ok g b key => fp = (false, []) ∧ hw = none ∧ ∃ c, C.look T ok g b key = some (c, dv) ∧ c.holds
  | .pick b x y => fp = (false, []) ∧ hw = none ∧ dv = if b then x else y
  | .app _ _ _ _ _ => False
def wantA (all : List Oper) (o : Oper) (t : List AV) : Option Bool := match o.guard with
  | none => some true
  | some (j, want) => match guardTmp all j with
    | none => none
    | some d => match getT t d with
      | .one (.bool b) => some (b == want)
      | .one (.raw v) => match isBoolV v with
        | false => some false
        | true => none
      | _ => none
def Yields (P : Program) (C : Table) (all : List Oper) (o : Oper) (fp : FP) (s : AS) (dv : AV) (hw : Option (Nat × Blk)) : Prop :=
  match wantA all o s.t with
  | none => False
  | some true => ∃ c r, req P o.op s.t = some (c, r) ∧ c.holds ∧ YieldsR C o.dst fp s dv hw r
  | some false => fp = (false, []) ∧ hw = none ∧ dv = noV
def Step (P : Program) (C : Table) (all : List Oper) (o : Oper) (fp : FP) (s s' : AS) : Prop := ∃ dv hw, Yields P C all o fp s dv hw ∧ s' = s.eff o.dst dv hw
theorem eff_none (s : AS) (dst : Option Nat) (v : AV) : s.eff dst v none = s.put dst v := by cases dst <;> rfl

section
variable {P : Program} {G : World → Prop} {C : Table} {base : Bs} {w0 : World} {ρ : Nat → Loc} {s s' : AS} {a : Act} {w : World}

theorem wanted_of {ops : Array Oper} {o : Oper} {b : Bool} (R : RelS base w0 ρ s a w) (hw : wantA ops.toList o s.t = some b) : Region.wanted o (yielded ops a.tmps) = b := by
  unfold wantA at hw
  unfold Region.wanted
  cases hg : o.guard with
  | none => rw [hg] at hw; simpa using hw
  | some g =>
    obtain ⟨j, want⟩ := g
    rw [hg] at hw
    dsimp only at hw ⊢
    split at hw
    · cases hw
    · rename_i d hd
      split at hw
      · rename_i b' hb'
        have hr := R.ctx.tmps d
        rw [hb'] at hr
        have hv := hr (by simp)
        have hd' : (ops[j]?).bind (·.dst) = some d := by
          unfold guardTmp at hd
          rw [nth_eq] at hd
          cases ho : ops[j]? with
          | none => simp [ho] at hd
          | some o' => simpa [ho] using hd
        have ht : a.tmps[d]? = some (.bool b') := by
          rw [Array.getD_eq_getD_getElem?] at hv
          cases hx : a.tmps[d]? with
          | none => rw [hx] at hv; simp [gL, undef] at hv
          | some x => rw [hx] at hv; simpa [gL] using hv
        have : yielded ops a.tmps j = some b' := by
          unfold yielded
          rw [hd']
          simp [ht]
        rw [this]
        obtain rfl := Option.some.inj hw
        cases b' <;> cases want <;> rfl
      · rename_i v hv'
        have hr := R.ctx.tmps d
        rw [hv'] at hr
        have hv := hr (by simp)
        simp only [gL] at hv
        split at hw
        · rename_i hnb
          obtain rfl := Option.some.inj hw
          have hd' : (ops[j]?).bind (·.dst) = some d := by
            unfold guardTmp at hd
            rw [nth_eq] at hd
            cases ho : ops[j]? with
            | none => simp [ho] at hd
            | some o' => simpa [ho] using hd
          have : yielded ops a.tmps j = none := by
            unfold yielded
            rw [hd']
            rw [Array.getD_eq_getD_getElem?] at hv
            cases hx : a.tmps[d]? with
            | none => simp [hx]
            | some x =>
              rw [hx] at hv
              simp only [Option.getD_some] at hv
              subst hv
              cases x <;> simp_all [isBoolV]
          rw [this]
          rfl
        · cases hw
      · cases hw
/-- **One step.** -/
theorem sim_step {ops : Array Oper} {o : Oper} {fp : FP} (hC : CSound P G C) (hG : G w0) (hb0 : base.b = w0.heap.size) (hnm : base.nm = C.nm) (hst : Step P C ops.toList o fp s s') (R : RelS base w0 ρ s a w)
    {Q : Exit → Act → World → Prop} {K : Act → World → Prop} (hK : ∀ ρ' a' w', RelS base w0 ρ' s' a' w' → K a' w') :
    if Region.wanted o (yielded ops a.tmps) then o.wp P a w K Q else K (a.put o.dst undef) w := by
  obtain ⟨dv, hw, hst, hs'⟩ := hst
  unfold Yields at hst
  split at hst
  · exact hst.elim
  · rename_i hw'
    rw [wanted_of R hw']
    simp only [if_true]
    obtain ⟨c, r, hr, hc, hd⟩ := hst
    have hq := req_ok R.ctx hr hc
    unfold Oper.wp
    cases r with
    | val v =>
      obtain ⟨u, hrun, hrel, hn⟩ := hq
      obtain ⟨-, rfl, rfl⟩ := hd
      rw [eff_none] at hs'; subst hs'
      rw [hrun]
      exact hK _ _ _ (R.put _ hrel hn)
    | rd i k =>
      obtain ⟨-, rfl, b, c', hb, hk, hcc⟩ := hd
      rw [eff_none] at hs'; subst hs'
      obtain ⟨u, hrun, hrel, hn⟩ := hq.2 b hb c' dv hk hcc
      rw [hrun]
      exact hK _ _ _ (R.put _ hrel hn)
    | wr i k =>
      obtain ⟨-, hdst, b, c', b', hb, hk, hcc, rfl⟩ := hd
      rw [hdst] at hs'
      subst hs'
      obtain ⟨w', hrun, htu, hrel, ⟨ho0, ho'⟩, hn⟩ := hq.2 b hb c' b' hk hcc
      rw [hrun]
      rw [Oper.upon_skip, hdst]
      exact hK _ _ _ (R.write hb ho0 ho' htu hrel hn)
    | new b nv =>
      obtain ⟨d, hdst, -, hd0, hlt, rfl, rfl⟩ := hd
      rw [hdst] at hs'
      subst hs'
      obtain ⟨ob, hrun, hrel, hown, hn⟩ := hq
      rw [hrun]
      rw [Oper.upon_value, hdst]
      exact hK _ _ _ (R.new nv (hnm ▸ nameOf_le _ _) hd0 hlt hrel hown hn)
    | call f args =>
     rcases hd with hd | hd
     · obtain ⟨-, rfl, c', hcv, hc'⟩ := hd
       rw [eff_none] at hs'; subst hs'
       obtain ⟨us, hargs, hrun, -⟩ := hq
       obtain ⟨hvn, hcall⟩ := hC.calls f args _ c' dv hcv hc'
       have hGw : G w := hC.stable w0 w hG (hb0 ▸ R.below)
       have hbs : RelBs ρ (blks s.h (anames args)) w := fun p hp => R.ctx.heap _ _ (blks_mem hp).2
       have hbl : ∀ p ∈ blks s.h (anames args), (ρ p.1).b < w.heap.size := fun p hp => R.lt (by rw [(blks_mem hp).2]; simp)
       rcases hcall with ⟨⟨fn, hf, hname, hbody⟩, hcall⟩ | hcall
       · have hn' : fn.name ≠ "runtime.NumGoroutine" := by simpa using hname
         have hb' : fn.body ≠ none := by intro e; simp [e] at hbody
         have h2 : (callFunc f us.toArray).run P w = .ok (.enter f us.toArray) w := by
           simp [callFunc, hf, hn', hb']
         rw [hrun, h2, Oper.upon_enter]
         refine (hcall us ρ hargs w hGw hbs hbl).mono ?_
         rintro e w' ⟨u, rfl, hu, hbel⟩
         exact hK _ _ _ ((R.later hbel).put _ hu (by rw [hvn]; simp))
       · obtain ⟨u, w', h2, hu, hbel⟩ := hcall us ρ hargs w hGw hbs
         rw [hrun, h2, Oper.upon_value]
         exact hK _ _ _ ((R.later hbel).put _ hu (by rw [hvn]; simp))
     · obtain ⟨d, c', b, nv, hdst, -, hcv, hc', hd0, hlt, rfl, rfl⟩ := hd
       rw [hdst] at hs'
       subst hs'
       obtain ⟨us, hargs, hrun, -⟩ := hq
       obtain ⟨hown, hbn, ⟨fn, hf, hname, hbody⟩, hcall⟩ := hC.mkr f args _ c' b nv hcv hc'
       have hGw : G w := hC.stable w0 w hG (hb0 ▸ R.below)
       have hbs : RelBs ρ (blks s.h (anames args)) w := fun p hp => R.ctx.heap _ _ (blks_mem hp).2
       have hbl : ∀ p ∈ blks s.h (anames args), (ρ p.1).b < w.heap.size := fun p hp => R.lt (by rw [(blks_mem hp).2]; simp)
       have hn' : fn.name ≠ "runtime.NumGoroutine" := by simpa using hname
       have hb' : fn.body ≠ none := by intro e; simp [e] at hbody
       have h2 : (callFunc f us.toArray).run P w = .ok (.enter f us.toArray) w := by
         simp [callFunc, hf, hn', hb']
       rw [hrun, h2, Oper.upon_enter]
       refine (hcall us ρ hargs w hGw hbs hbl).mono ?_
       rintro e w' ⟨u, q, rfl, hu, hB, hq, hbel⟩
       have R' := RelS.adopt (w' := w') R (i := nameOf C.nm d) (q := q) (b := b) hd0 (hnm ▸ nameOf_le _ _) (fun j c hj => ⟨hbel.block _ (R.lt (by rw [hj]; simp)), by
         have := R.lt (i := j) (by rw [hj]; simp)
         omega⟩) (R.below.trans (hbel.mono R.base)) (Nat.le_trans R.base hbel.size) hB hown (Nat.le_trans R.base hq) hbn hbel.size (fun k h1 _ => hbel.block k (Nat.lt_of_lt_of_le h1 R.far.grown)) (fun h1 => by have := R.far.grown; omega)
       have := R'.put (some d) (v := .one (nv.at (nameOf C.nm d))) (u := u) (nv_at hu (if_pos rfl)) (fun m hm => by
         obtain rfl : m = nameOf C.nm d := by cases nv <;> simpa [AV.names, L.names, NewV.at] using hm
         simp [upd])
       rw [hdst]
       exact hK _ _ _ this
    | glob T g off =>
      obtain ⟨-, rfl, hv⟩ := hd
      rw [eff_none] at hs'; subst hs'
      have hGw : G w := hC.stable w0 w hG (hb0 ▸ R.below)
      obtain ⟨hvn, hl⟩ := hC.globs T g off dv hv
      obtain ⟨u, hu, hrel⟩ := hl w hGw
      rw [hq u hu]
      exact hK _ _ _ (R.put _ (hrel ρ) (by rw [hvn]; simp))
    | look T ok g b key =>
      obtain ⟨-, rfl, c', hv, hc'⟩ := hd
      rw [eff_none] at hs'; subst hs'
      have hGw : G w := hC.stable w0 w hG (hb0 ▸ R.below)
      obtain ⟨hvn, hl⟩ := hC.looks T ok g b key c' dv hv hc'
      obtain ⟨k, hk, hrun⟩ := hq
      obtain ⟨u, hu, hrel⟩ := hl w hGw ρ k hk
      rw [hrun u hu]
      exact hK _ _ _ (R.put _ hrel (by rw [hvn]; simp))
    | pick b x y =>
      obtain ⟨-, rfl, rfl⟩ := hd
      rw [eff_none] at hs'; subst hs'
      obtain ⟨u, hrun, hrel, hn⟩ := hq
      rw [hrun]
      exact hK _ _ _ (R.put _ hrel hn)
    | app _ _ _ _ _ => exact hd.elim
  · rename_i hw'
    rw [wanted_of R hw']
    simp only [Bool.false_eq_true, if_false]
    obtain ⟨-, rfl, rfl⟩ := hst
    rw [eff_none] at hs'; subst hs'
    exact hK _ _ _ (R.put _ (fun _ => rfl) (by simp [AV.names, L.names]))
end

/-! ### Every order -/
theorem req_congr (P : Program) {t t' : List AV} (o : Op) (hx : ∀ x ∈ o.operands, ev t x = ev t' x) : req P o t = req P o t' := by
  have hs : ∀ xs : List Operand, (∀ x ∈ xs, ev t x = ev t' x) → evs t xs = evs t' xs := fun xs => by
    induction xs with
    | nil => intro _; rfl
    | cons x xs ih => intro h; simp only [evs]; rw [h x (by simp), ih fun y hy => h y (by simp [hy])]
  have hp : ∀ ps : List (Nat × Operand), (∀ p ∈ ps, ev t p.2 = ev t' p.2) → evp t ps = evp t' ps := fun ps => by
    induction ps with
    | nil => intro _; rfl
    | cons p ps ih => intro h; obtain ⟨i, x⟩ := p; simp only [evp]; rw [h (i, x) (by simp), ih fun y hy => h y (by simp [hy])]
  cases o <;> simp only [req]
  case move x => rw [hx x (by simp [Op.operands])]
  case assign x => rw [hx x (by simp [Op.operands])]
  case pick c x y => rw [hx c (by simp [Op.operands]), hx x (by simp [Op.operands]), hx y (by simp [Op.operands])]
  case box T x => rw [hx x (by simp [Op.operands])]
  case nilCheck x => rw [hx x (by simp [Op.operands])]
  case buildSlice T n ps => rw [hp ps.toList fun p hpm => hx p.2 (by simp [Op.operands]; exact ⟨p.1, by simpa using hpm⟩)]
  case build T ps => rw [hp ps.toList fun p hpm => hx p.2 (by simp [Op.operands]; exact ⟨p.1, by simpa using hpm⟩)]
  case load T x => rw [hx x (by simp [Op.operands])]
  case store T x y => rw [hx x (by simp [Op.operands]), hx y (by simp [Op.operands])]
  case fieldAddr T x f => rw [hx x (by simp [Op.operands])]
  case field T x f => rw [hx x (by simp [Op.operands])]
  case indexAddr T x i => rw [hx x (by simp [Op.operands]), hx i (by simp [Op.operands])]
  case index T x i => rw [hx x (by simp [Op.operands]), hx i (by simp [Op.operands])]
  case lookup T x i ok => rw [hx x (by simp [Op.operands]), hx i (by simp [Op.operands])]
  case makeSlice T l c => rw [hx l (by simp [Op.operands]), hx c (by simp [Op.operands])]
  case mapUpdate T x k v => rw [hx x (by simp [Op.operands]), hx k (by simp [Op.operands]), hx v (by simp [Op.operands])]
  case makeFunc fn fst cap =>
    have hc : ∀ xs : List Operand, (∀ x ∈ xs, ev t x = ev t' x) → capsOf t xs = capsOf t' xs := fun xs => by
      induction xs with
      | nil => intro _; rfl
      | cons x xs ih => intro h; simp only [capsOf]; rw [h x (by simp), ih fun y hy => h y (by simp [hy])]
    rw [hc cap.toList fun x hxm => hx x (by simp only [Op.operands, Array.mem_append]; exact .inr (by simpa using hxm))]
  case slice T x lo hi mx =>
    have hbnd : ∀ (y : Option Operand) (d : Nat), (∀ z, y = some z → z ∈ (Op.slice T x lo hi mx).operands) → boundK t y d = boundK t' y d := fun y d hy => by
      cases y with
      | none => rfl
      | some z => simp only [boundK]; rw [hx z (hy z rfl)]
    have e1 : boundK t lo = boundK t' lo := funext fun d => hbnd lo d fun z hz => by subst hz; simp [Op.operands]
    have e2 : boundK t hi = boundK t' hi := funext fun d => hbnd hi d fun z hz => by subst hz; simp [Op.operands]
    have e3 : ∀ m, mx = some m → boundK t (some m) = boundK t' (some m) := fun m hm => funext fun d => hbnd (some m) d fun z hz => by cases hz; subst hm; simp [Op.operands]
    cases mx with
    | none => dsimp only; rw [hx x (by simp [Op.operands]), e1, e2]
    | some m => dsimp only; rw [hx x (by simp [Op.operands]), e2, e3 m rfl]
  case extract x k => rw [hx x (by simp [Op.operands])]
  case binOp op T x y yT => rw [hx x (by simp [Op.operands]), hx y (by simp [Op.operands])]
  case unOp op T x => rw [hx x (by simp [Op.operands])]
  case convert s d x => rw [hx x (by simp [Op.operands])]
  case call cl =>
    rw [hs cl.args.toList fun x hxm => hx x (by simp [Op.operands, Call.operands]; exact .inr (by simpa using hxm))]
    have hcal : ∀ n, cl.callee = .value (.tmp n) → getT t n = getT t' n := fun n hn => hx (.tmp n) (by simp [Op.operands, Call.operands, hn])
    generalize cl.callee = ca at hcal
    cases ca with
    | value f => cases f with
      | tmp n => simp only [hcal n rfl]
      | _ => rfl
    | builtin b => cases b <;> rfl
    | invoke r m => rfl

section
variable {P : Program} {C : Table} {ops : Array Oper}

theorem getT_put (s : AS) (dst : Option Nat) (v : AV) (n : Nat) (h : dst ≠ some n) : getT (s.put dst v).t n = getT s.t n := by
  cases dst with
  | none => rfl
  | some d =>
    simp only [AS.put, getT_set]
    rw [if_neg]
    rintro ⟨rfl, _⟩
    exact h rfl
theorem len_put (s : AS) (dst : Option Nat) (v : AV) : (s.put dst v).t.length = s.t.length := by cases dst <;> simp [AS.put]
theorem put_comm (s : AS) (d e : Option Nat) (v u : AV) (h : ∀ x, d = some x → e ≠ some x) : ((s.put d v).put e u).t = ((s.put e u).put d v).t := by
  cases d with
  | none => rfl
  | some d =>
    cases e with
    | none => rfl
    | some e =>
      have hne : d ≠ e := fun he => h d rfl (by rw [he])
      simp only [AS.put]
      exact List.set_comm _ _ hne
/-- What is written is told. -/
theorem Yields.wrote {o : Oper} {fp : FP} {s : AS} {dv : AV} {i : Nat} {b : Blk} (h : Yields P C ops.toList o fp s dv (some (i, b))) : fp.1 = true ∧ ∃ r, fp.2 = i :: r := by
  unfold Yields at h
  split at h
  · exact h.elim
  · obtain ⟨c, r, _, _, h⟩ := h
    cases r with
    | val v => obtain ⟨_, h, _⟩ := h; cases h
    | rd i k => obtain ⟨_, h, _⟩ := h; cases h
    | wr i k => obtain ⟨h1, _, _, _, _, _, _, _, h⟩ := h; cases h; subst h1; exact ⟨rfl, _, rfl⟩
    | new b nv => obtain ⟨d, _, h1, _, _, _, h⟩ := h; cases h; subst h1; exact ⟨rfl, _, rfl⟩
    | call f args =>
      rcases h with h | h
      · obtain ⟨_, h, _⟩ := h; cases h
      · obtain ⟨d, c', b', nv, _, h1, _, _, _, _, _, h⟩ := h; cases h; subst h1; exact ⟨rfl, _, rfl⟩
    | glob T g off => obtain ⟨_, h, _⟩ := h; cases h
    | look T ok g b key => obtain ⟨_, h, _⟩ := h; cases h
    | pick b x y => obtain ⟨_, h, _⟩ := h; cases h
    | app _ _ _ _ _ => exact h.elim
  · obtain ⟨_, h, _⟩ := h; cases h
theorem Yields.congr {o : Oper} {fp : FP} {s s' : AS} {dv : AV} {hw : Option (Nat × Blk)} (h : Yields P C ops.toList o fp s dv hw) (ht : ∀ d ∈ o.looksAt ops, getT s.t d = getT s'.t d)
    (hh : ∀ i ∈ fp.2, s.h i = s'.h i) (hl : s.t.length = s'.t.length) : Yields P C ops.toList o fp s' dv hw := by
  have hw' : wantA ops.toList o s'.t = wantA ops.toList o s.t := by
    unfold wantA
    cases hg : o.guard with
    | none => rfl
    | some g =>
      obtain ⟨j, want⟩ := g
      dsimp only
      cases hgt : guardTmp ops.toList j with
      | none => rfl
      | some d =>
        dsimp only
        rw [ht d]
        unfold Oper.looksAt
        refine List.mem_append_right _ ?_
        rw [hg]
        unfold guardTmp at hgt
        rw [nth_eq] at hgt
        cases ho : ops[j]? with
        | none => simp [ho] at hgt
        | some o' => simp [ho] at hgt; simp [ho, hgt]
  have hr : req P o.op s'.t = req P o.op s.t := by
    refine req_congr P o.op fun x hx => ?_
    cases x with
    | tmp d =>
      simp only [ev]
      rw [ht d]
      unfold Oper.looksAt
      exact List.mem_append_left _ (List.mem_filterMap.2 ⟨.tmp d, by simpa using hx, rfl⟩)
    | _ => rfl
  unfold Yields at h ⊢
  rw [hw', hr]
  split
  · rename_i e; rw [e] at h; exact h
  · rename_i e
    rw [e] at h
    obtain ⟨c, r, h1, h2, h3⟩ := h
    refine ⟨c, r, h1, h2, ?_⟩
    cases r with
    | val v => exact h3
    | rd i k => obtain ⟨h4, h5, b, c', h6, h7⟩ := h3; exact ⟨h4, h5, b, c', by rw [← hh i (by rw [h4]; simp)]; exact h6, h7⟩
    | wr i k => obtain ⟨h4, h5, b, c', b', h6, h7⟩ := h3; exact ⟨h4, h5, b, c', b', by rw [← hh i (by rw [h4]; simp)]; exact h6, h7⟩
    | new b nv => obtain ⟨d, h4, h5, h6, h7, h8⟩ := h3; exact ⟨d, h4, h5, by rw [← hh (nameOf C.nm d) (by rw [h5]; simp)]; exact h6, by rw [← hl]; exact h7, h8⟩
    | call f args =>
      rcases h3 with h3 | h3
      · obtain ⟨h4, h5, c', h6, h7⟩ := h3; exact .inl ⟨h4, h5, c', by rw [← blks_congr fun i hi => hh i (by rw [h4]; exact hi)]; exact h6, h7⟩
      · obtain ⟨d, c', b', nv, h4, h5, h6, h7, h8, h9, h10⟩ := h3
        exact .inr ⟨d, c', b', nv, h4, h5, by rw [← blks_congr fun i hi => hh i (by rw [h5]; simp [hi])]; exact h6, h7, by rw [← hh (nameOf C.nm d) (by rw [h5]; simp)]; exact h8, by rw [← hl]; exact h9, h10⟩
    | glob T g off => exact h3
    | look T ok g b key => exact h3
    | pick b x y => exact h3
    | app _ _ _ _ _ => exact h3.elim
  · rename_i e; rw [e] at h; exact h
theorem clear1_spec {a : FP} {ys : List Nat} {x : Nat} (h : clear1 a ys = true) (ha : a.1 = true ∧ ∃ r, a.2 = x :: r) : ∀ y ∈ ys, x ≠ y := by
  obtain ⟨a1, a2⟩ := a
  obtain ⟨h1, r, h2⟩ := ha
  simp only at h1 h2
  subst h1 h2
  intro y hy e
  subst e
  have := List.all_eq_true.1 h x hy
  simp at this
theorem compat_spec {a b : FP} {x : Nat} (h : compat a b = true) (ha : a.1 = true ∧ ∃ r, a.2 = x :: r) : ∀ y ∈ b.2, x ≠ y := by
  obtain ⟨a1, a2⟩ := a
  obtain ⟨b1, b2⟩ := b
  obtain rfl : a1 = true := ha.1
  have key : clear1 (true, a2) b2 = true := by
    cases b1 <;> simp only [compat, Bool.and_eq_true] at h <;> exact h.1
  exact clear1_spec key ha
theorem compat_spec' {a b : FP} {x : Nat} (h : compat a b = true) (hb : b.1 = true ∧ ∃ r, b.2 = x :: r) : ∀ y ∈ a.2, x ≠ y := by
  obtain ⟨a1, a2⟩ := a
  obtain ⟨b1, b2⟩ := b
  obtain rfl : b1 = true := hb.1
  have key : clear1 (true, b2) a2 = true := by
    cases a1 <;> simp only [compat, Bool.and_eq_true] at h <;> exact h.2
  exact clear1_spec key hb
theorem Yields.heap {o : Oper} {fp fp' : FP} {s : AS} {dv : AV} {hw : Option (Nat × Blk)} {dst : Option Nat} (h : Yields P C ops.toList o fp s dv hw) (hc : compat fp fp' = true ∨ compat fp' fp = true) :
    ∀ i ∈ fp'.2, (s.eff dst dv hw).h i = s.h i := by
  intro i hi
  cases hw with
  | none => rfl
  | some p =>
    obtain ⟨k, b⟩ := p
    have hf := h.wrote
    show upd s.h k b i = s.h i
    unfold upd
    rw [if_neg]
    rcases hc with hc | hc
    · exact fun e => compat_spec hc hf i hi e.symm
    · exact fun e => compat_spec' hc hf i hi e.symm
/-- **Two operations that are apart may be taken in the other order.** -/
theorem Step.comm {oi oj : Oper} {fi fj : FP} {s s1 s2 : AS} (hap : oi.apart ops oj = true) (h1 : Step P C ops.toList oi fi s s1) (h2 : Step P C ops.toList oj fj s1 s2)
    (hc : compat fi fj = true ∨ compat fj fi = true) : ∃ s1', Step P C ops.toList oj fj s s1' ∧ Step P C ops.toList oi fi s1' s2 := by
  obtain ⟨a1, a2, a3⟩ := Oper.apart_spec hap
  obtain ⟨vi, hwi, yi, rfl⟩ := h1
  obtain ⟨vj, hwj, yj, rfl⟩ := h2
  have yj' : Yields P C ops.toList oj fj s vj hwj := by
    refine yj.congr (fun d hd => ?_) (yi.heap hc) (len_put _ _ _)
    exact getT_put _ _ _ _ fun e => a1 d e hd
  have yi' : Yields P C ops.toList oi fi (s.eff oj.dst vj hwj) vi hwi := by
    refine yi.congr (fun d hd => ?_) (fun i hi => (yj'.heap hc.symm i hi).symm) (len_put _ _ _).symm
    exact (getT_put _ _ _ _ fun e => a3 d e hd).symm
  refine ⟨_, ⟨vj, hwj, yj', rfl⟩, vi, hwi, yi', ?_⟩
  have e1 : ((s.eff oi.dst vi hwi).eff oj.dst vj hwj).t = ((s.eff oj.dst vj hwj).eff oi.dst vi hwi).t := by
    have e := put_comm s oi.dst oj.dst vi vj a2
    cases hoi : oi.dst <;> cases hoj : oj.dst <;> first | rfl | simpa [AS.eff, AS.put, hoi, hoj] using e
  have e2 : ((s.eff oi.dst vi hwi).eff oj.dst vj hwj).h = ((s.eff oj.dst vj hwj).eff oi.dst vi hwi).h := by
    cases hwi with
    | none => cases hwj <;> rfl
    | some p =>
      cases hwj with
      | none => rfl
      | some q =>
        obtain ⟨k, b⟩ := p
        obtain ⟨k', b'⟩ := q
        have f1 := yi.wrote
        have f2 := yj.wrote
        have hne : k ≠ k' := by
          rcases hc with hc | hc
          · exact compat_spec hc f1 k' (by obtain ⟨_, r, e⟩ := f2; rw [e]; simp)
          · exact compat_spec' hc f1 k' (by obtain ⟨_, r, e⟩ := f2; rw [e]; simp)
        funext x
        show upd (upd s.h k b) k' b' x = upd (upd s.h k' b') k b x
        unfold upd
        by_cases h3 : x = k <;> by_cases h4 : x = k'
        · exact absurd (h3.symm.trans h4) hne
        · simp [h3, hne]
        · simp [h4, Ne.symm hne]
        · simp [h3, h4]
  generalize (s.eff oi.dst vi hwi).eff oj.dst vj hwj = A at e1 e2
  generalize (s.eff oj.dst vj hwj).eff oi.dst vi hwi = B at e1 e2
  cases A; cases B
  simp only at e1 e2
  rw [e1, e2]

/-- Whatever order is picked from here on. FT: what each operation looks at in memory. -/
def AnyA (P : Program) (C : Table) (ops : Array Oper) (FT : Nat → FP) (K : AS → Prop) : Nat → Array Bool → AS → Prop
  | 0, listed, s => Region.ready .any ops listed = [] ∧ K s
  | fuel + 1, listed, s => (Region.ready .any ops listed = [] → K s) ∧
    ∀ i ∈ Region.ready .any ops listed, ∀ o, ops[i]? = some o → ∃ s', Step P C ops.toList o (FT i) s s' ∧ AnyA P C ops FT K fuel (listed.setIfInBounds i true) s'
theorem any_sound {FT : Nat → FP} {K : AS → Prop} {G : World → Prop} {base : Bs} {w0 : World} {Q : Exit → Act → World → Prop} (hC : CSound P G C) (hG : G w0) (hb0 : base.b = w0.heap.size) (hnm : base.nm = C.nm)
    (hK : ∀ s ρ a w, K s → RelS base w0 ρ s a w → Q .normal a w) : ∀ (fuel : Nat) (listed : Array Bool) (s : AS) (ρ : Nat → Loc) (a : Act) (w : World), AnyA P C ops FT K fuel listed s →
    RelS base w0 ρ s a w → wpAny P .any ops Q fuel listed a w
  | 0, _, s, ρ, a, w, h, R => ⟨h.1, hK s ρ a w h.2 R⟩
  | fuel + 1, listed, s, ρ, a, w, h, R => ⟨fun e => hK s ρ a w (h.1 e) R, fun i hi => by
    unfold wpOp
    split
    · rename_i ho
      exfalso
      obtain ⟨_, o, ho', _⟩ := mem_ready.1 hi
      rw [ho] at ho'; cases ho'
    · rename_i o ho
      obtain ⟨s', hst, hany⟩ := h.2 i hi o ho
      have := sim_step (Q := Q) (K := wpAny P .any ops Q fuel (listed.setIfInBounds i true)) hC hG hb0 hnm hst R (fun ρ' a' w' R' => any_sound hC hG hb0 hnm hK fuel _ s' ρ' a' w' hany R')
      split
      · rename_i hw; rw [if_pos hw] at this; exact .inl this
      · rename_i hw; rw [if_neg hw] at this; exact this⟩
/-- An operation that waits for another one, at once or by others. -/
inductive Dep (ops : Array Oper) (k : Nat) : Nat → Prop
  | one {j : Nat} {oj : Oper} {e : Edge} : ops[j]? = some oj → e ∈ oj.after → Region.binds .any e = true → e.on = k → Dep ops k j
  | more {j : Nat} {oj : Oper} {e : Edge} : ops[j]? = some oj → e ∈ oj.after → Region.binds .any e = true → Dep ops k e.on → Dep ops k j
/-- What is listed waits for nothing that is not. -/
def ClosedL (ops : Array Oper) (listed : Array Bool) : Prop := ∀ j oj, ops[j]? = some oj → listed.getD j true = true → ∀ e ∈ oj.after, Region.binds .any e = true → listed.getD e.on false = true
theorem getD_tt {l : Array Bool} {i : Nat} (h : l.getD i false = true) : l.getD i true = true := by
  rcases Nat.lt_or_ge i l.size with h' | h'
  · simp [h'] at h ⊢; exact h
  · simp [Array.getElem?_eq_none h'] at h
theorem dep_un {listed : Array Bool} (hc : ClosedL ops listed) {i : Nat} (hi : listed.getD i true = false) : ∀ {j : Nat}, Dep ops i j → listed.getD j true = false := by
  intro j h
  induction h with
  | one hj he hb hon =>
    cases hl : listed.getD _ true with
    | false => rfl
    | true =>
      have := hc _ _ hj hl _ he hb
      rw [hon] at this
      rw [getD_tt this] at hi; cases hi
  | more hj he hb _ ih =>
    cases hl : listed.getD _ true with
    | false => rfl
    | true =>
      have := hc _ _ hj hl _ he hb
      rw [getD_tt this] at ih; cases ih
theorem ready_dep {listed : Array Bool} (hc : ClosedL ops listed) {i j : Nat} (hi : listed.getD i true = false) (hj : j ∈ Region.ready .any ops listed) : ¬ Dep ops i j := fun h => by
  obtain ⟨hu, oj, hoj, hall⟩ := mem_ready.1 hj
  cases h with
  | one hj' he hb hon =>
    obtain rfl := Option.some.inj (hj'.symm.trans hoj)
    have := hall _ he hb
    rw [hon] at this
    rw [getD_tt this] at hi; cases hi
  | more hj' he hb hd =>
    obtain rfl := Option.some.inj (hj'.symm.trans hoj)
    have h1 := hall _ he hb
    have h2 := dep_un hc hi hd
    rw [getD_tt h1] at h2; cases h2
theorem ClosedL.set {listed : Array Bool} (hc : ClosedL ops listed) {j : Nat} (hj : j ∈ Region.ready .any ops listed) : ClosedL ops (listed.setIfInBounds j true) := by
  obtain ⟨hu, oj, hoj, hall⟩ := mem_ready.1 hj
  intro m om hm hl e he hb
  by_cases h : j = m
  · subst h
    obtain rfl := Option.some.inj (hm.symm.trans hoj)
    exact getD_set_true (hall e he hb)
  · rw [getD_set_ne true h] at hl
    exact getD_set_true (hc m om hm hl e he hb)
theorem ClosedL.start : ClosedL ops (Array.replicate ops.size false) := fun j oj hj hl => by
  have : j < ops.size := (Array.getElem?_eq_some_iff.1 hj).1
  simp [this] at hl
/-- **An operation that may come up now may be taken first**, if every other one that has not come up yet either waits for it or is apart from it, in its slots and in memory. -/
theorem any_first {FT : Nat → FP} {K : AS → Prop} {i : Nat} {oi : Oper} (hi : ops[i]? = some oi) :
    ∀ (fuel : Nat) (listed : Array Bool) (s s1 : AS), ClosedL ops listed →
      (∀ j oj, ops[j]? = some oj → j ≠ i → listed.getD j true = false → ¬ Dep ops i j → oi.apart ops oj = true ∧ (compat (FT i) (FT j) = true ∨ compat (FT j) (FT i) = true)) →
      i ∈ Region.ready .any ops listed → Step P C ops.toList oi (FT i) s s1 →
      AnyA P C ops FT K fuel (listed.setIfInBounds i true) s1 → AnyA P C ops FT K (fuel + 1) listed s := by
  intro fuel
  induction fuel with
  | zero =>
    intro listed s s1 hcl _ hr hy H
    refine ⟨fun h => (by rw [h] at hr; cases hr), fun j hj oj hoj => ?_⟩
    by_cases hji : j = i
    · subst hji
      obtain rfl : oj = oi := Option.some.inj (hoj.symm.trans hi)
      exact ⟨s1, hy, H⟩
    · have := ready_mono hj hji
      rw [H.1] at this
      cases this
  | succ fuel ih =>
    intro listed s s1 hcl hfree hr hy H
    refine ⟨fun h => (by rw [h] at hr; cases hr), fun j hj oj hoj => ?_⟩
    by_cases hji : j = i
    · subst hji
      obtain rfl : oj = oi := Option.some.inj (hoj.symm.trans hi)
      exact ⟨s1, hy, H⟩
    · obtain ⟨s2, h1, h2⟩ := H.2 j (ready_mono hj hji) oj hoj
      obtain ⟨hjun, oj', hoj', hall⟩ := mem_ready.1 hj
      obtain rfl : oj = oj' := Option.some.inj (hoj.symm.trans hoj')
      have hnot : ¬ Dep ops i j := ready_dep hcl (mem_ready.1 hr).1 hj
      have hap := hfree j oj hoj hji hjun hnot
      obtain ⟨s1', h3, h4⟩ := hy.comm hap.1 h1 hap.2
      have hfree' : ∀ k ok, ops[k]? = some ok → k ≠ i → (listed.setIfInBounds j true).getD k true = false →
          ¬ Dep ops i k → oi.apart ops ok = true ∧ (compat (FT i) (FT k) = true ∨ compat (FT k) (FT i) = true) := fun k ok hk hki hun hno => by
        refine hfree k ok hk hki ?_ hno
        by_cases hjk : j = k
        · subst hjk; exact hjun
        · rw [getD_set_ne true hjk] at hun; exact hun
      refine ⟨s1', h3, ih (listed.setIfInBounds j true) s1' s2 (hcl.set hj) hfree' (ready_mono hr (Ne.symm hji)) h4 ?_⟩
      rw [Array.setIfInBounds_comm _ _ hji]
      exact h2
/-- The operations one behind the other, with what each looked at. -/
def LexRun (P : Program) (C : Table) (all : List Oper) : List Oper → List FP → AS → AS → Prop
  | [], [], s, s' => s' = s
  | o :: r, fp :: fps, s, s' => ∃ s1, Step P C all o fp s s1 ∧ LexRun P C all r fps s1 s'
  | _, _, _, _ => False
theorem edgeTo_spec {k : Nat} : ∀ {es : List Edge}, edgeTo k es = true → ∃ e ∈ es, Region.binds .any e = true ∧ e.on = k
  | [], h => by simp [edgeTo] at h
  | e :: es, h => by
    simp only [edgeTo] at h
    split at h
    · rename_i h1 h2
      exact ⟨e, by simp, h1, by simpa using h2⟩
    · obtain ⟨e', h1, h2⟩ := edgeTo_spec h
      exact ⟨e', by simp [h1], h2⟩
theorem okAgainst_spec {k : Nat} {fp : FP} : ∀ {r : List Oper} {fps : List FP}, okAgainst k fp r fps = true → ∀ (j : Nat) (o : Oper) (fp' : FP), r[j]? = some o → fps[j]? = some fp' →
    compat fp fp' = true ∨ ∃ e ∈ o.after, Region.binds .any e = true ∧ e.on = k
  | [], fps, _, j, o, fp', h, _ => by simp at h
  | o :: r, [], _, j, o', fp', _, h => by simp at h
  | o :: r, fp1 :: fps, hk, 0, o', fp', h1, h2 => by
    simp at h1 h2
    subst h1 h2
    simp only [okAgainst] at hk
    split at hk
    · rename_i h; exact .inl h
    · split at hk
      · rename_i h
        obtain ⟨e, h1, h2⟩ := edgeTo_spec h
        exact .inr ⟨e, by simpa using h1, h2⟩
      · cases hk
  | o :: r, fp1 :: fps, hk, j + 1, o', fp', h1, h2 => by
    simp only [List.getElem?_cons_succ] at h1 h2
    simp only [okAgainst] at hk
    split at hk
    · exact okAgainst_spec hk j o' fp' h1 h2
    · split at hk
      · exact okAgainst_spec hk j o' fp' h1 h2
      · cases hk
theorem edgeIn_spec {ds : List Nat} : ∀ {es : List Edge}, edgeIn ds es = true → ∃ e ∈ es, Region.binds .any e = true ∧ e.on ∈ ds
  | [], h => by simp [edgeIn] at h
  | e :: es, h => by
    simp only [edgeIn] at h
    split at h
    · rename_i h1 h2
      obtain ⟨d, hd, he⟩ := List.any_eq_true.1 h2
      have : e.on = d := by simpa using he
      exact ⟨e, by simp, h1, by rw [this]; exact hd⟩
    · obtain ⟨e', h1, h2⟩ := edgeIn_spec h
      exact ⟨e', by simp [h1], h2⟩
theorem okAgainst2_spec {ops : Array Oper} {k : Nat} {fp : FP} : ∀ {r : List Oper} {fps : List FP} {ds : List Nat} {m : Nat}, okAgainst2 ds m fp r fps = true → (∀ d ∈ ds, d = k ∨ Dep ops k d) → (∀ j, j < r.length → r[j]? = ops[m + j]?) →
    ∀ (j : Nat) (o : Oper) (fp' : FP), r[j]? = some o → fps[j]? = some fp' → compat fp fp' = true ∨ Dep ops k (m + j)
  | [], fps, _, _, _, _, _, j, o, fp', h, _ => by simp at h
  | o :: r, [], _, _, _, _, _, j, o', fp', _, h => by simp at h
  | o :: r, fp1 :: fps, ds, m, hk, hds, hops, j, o', fp', h1, h2 => by
    have hm : ops[m]? = some o := by have := hops 0 (by simp); simpa using this.symm
    have hops' : ∀ j, j < r.length → r[j]? = ops[m + 1 + j]? := fun j hj => by
      have := hops (j + 1) (by simp; omega)
      simpa [Nat.add_assoc, Nat.add_comm 1 j] using this
    simp only [okAgainst2] at hk
    split at hk
    · rename_i he
      obtain ⟨e, he1, hb, hon⟩ := edgeIn_spec he
      have hd : Dep ops k m := by
        rcases hds _ hon with h | h
        · exact .one hm (by simpa using he1) hb h
        · exact .more hm (by simpa using he1) hb h
      cases j with
      | zero => exact .inr (by simpa using hd)
      | succ j =>
        simp only [List.getElem?_cons_succ] at h1 h2
        have := okAgainst2_spec hk (fun d hd' => by
          rcases List.mem_cons.1 hd' with rfl | h
          · exact .inr hd
          · exact hds d h) hops' j o' fp' h1 h2
        rwa [show m + 1 + j = m + (j + 1) by omega] at this
    · split at hk
      · rename_i hcp
        cases j with
        | zero =>
          simp at h2
          subst h2
          exact .inl hcp
        | succ j =>
          simp only [List.getElem?_cons_succ] at h1 h2
          have := okAgainst2_spec hk hds hops' j o' fp' h1 h2
          rwa [show m + 1 + j = m + (j + 1) by omega] at this
      · cases hk
theorem okFrom_cons {ops : Array Oper} {k : Nat} {o : Oper} {r : List Oper} {fp : FP} {fps : List FP} (hops : ∀ j, j < r.length → r[j]? = ops[k + 1 + j]?) (h : okFrom k (o :: r) (fp :: fps) = true) :
    okFrom (k + 1) r fps = true ∧ ∀ (j : Nat) (o' : Oper) (fp' : FP), r[j]? = some o' → fps[j]? = some fp' → compat fp fp' = true ∨ Dep ops k (k + 1 + j) := by
  simp only [okFrom] at h
  split at h
  · rename_i b
    refine ⟨h, fun j o' fp' _ _ => .inl ?_⟩
    obtain ⟨b', l⟩ := fp'
    cases b <;> cases b' <;> cases l <;> simp [compat, clear1]
  · split at h
    · rename_i ha
      refine ⟨h, fun j o' fp' h1 h2 => ?_⟩
      rcases okAgainst_spec ha j o' fp' h1 h2 with h3 | ⟨e, he, hb, hon⟩
      · exact .inl h3
      · have hj : j < r.length := (List.getElem?_eq_some_iff.1 h1).1
        exact .inr (.one ((hops j hj).symm.trans h1) he hb hon)
    · cases h
  · split at h
    · rename_i ha
      exact ⟨h, fun j o' fp' h1 h2 => okAgainst2_spec ha (fun d hd => .inl (by simpa using hd)) hops j o' fp' h1 h2⟩
    · cases h
theorem any_lex {FT : Nat → FP} {K : AS → Prop} : ∀ (l : List Oper) (fps : List FP) (k : Nat) (listed : Array Bool) (s s' : AS), (∀ j, l[j]? = ops[k + j]?) → (∀ j, j < l.length → fps[j]? = some (FT (k + j))) →
    (∀ j, k ≤ j → j < ops.size → listed.getD j true = false) → (∀ j, j < k → listed.getD j true = true) → ClosedL ops listed →
    Region.lexFrom .any ops l.length k listed = true → okFrom k l fps = true → LexRun P C ops.toList l fps s s' → K s' → AnyA P C ops FT K l.length listed s
  | [], [], k, listed, s, s', _, _, _, _, _, hB, _, h, hK => ⟨by simpa [Region.lexFrom] using hB, by obtain rfl : s' = s := h; exact hK⟩
  | o :: l, fp :: fps, k, listed, s, s', hl, hf, hun, hdone, hcl, hB, hok, h, hK => by
    have h0 : ops[k]? = some o := by simpa using (hl 0).symm
    have hfp : fp = FT k := by have := hf 0 (by simp); simpa using this
    subst hfp
    simp only [List.length_cons, Region.lexFrom, Bool.and_eq_true] at hB
    obtain ⟨⟨hr, hfree⟩, hB'⟩ := hB
    obtain ⟨s1, hst, hrest⟩ := h
    obtain ⟨hok', hpair⟩ := okFrom_cons (ops := ops) (fun j _ => by have := hl (j + 1); simpa [Nat.add_assoc, Nat.add_comm 1 j] using this) hok
    have hks : k < ops.size := (Array.getElem?_eq_some_iff.1 h0).1
    refine any_first h0 l.length listed s s1 hcl (fun j oj hj hne hunj hno => ?_) (by simpa using hr) hst ?_
    · refine ⟨Region.free_spec h0 hfree j oj hj hne hunj (fun e he hb heq => hno (.one hj he hb heq)), ?_⟩
      have hjk : k < j := by
        rcases Nat.lt_trichotomy j k with h | h | h
        · rw [hdone j h] at hunj; cases hunj
        · exact absurd h hne
        · exact h
      have e1 : l[j - (k + 1)]? = some oj := by
        have := hl (j - (k + 1) + 1)
        simp only [List.getElem?_cons_succ] at this
        rw [this, show k + (j - (k + 1) + 1) = j by omega]
        exact hj
      have hlt : j - (k + 1) < l.length := (List.getElem?_eq_some_iff.1 e1).1
      have e2 : fps[j - (k + 1)]? = some (FT j) := by
        have := hf (j - (k + 1) + 1) (by simp; omega)
        simp only [List.getElem?_cons_succ] at this
        rw [this, show k + (j - (k + 1) + 1) = j by omega]
      rcases hpair _ _ _ e1 e2 with h | h
      · exact .inl h
      · rw [show k + 1 + (j - (k + 1)) = j by omega] at h
        exact absurd h hno
    · refine any_lex l fps (k + 1) _ s1 s' (fun j => by have := hl (j + 1); simpa [Nat.add_assoc, Nat.add_comm 1 j] using this)
        (fun j hj => by have := hf (j + 1) (by simp; omega); simpa [Nat.add_assoc, Nat.add_comm 1 j] using this) (fun j hj hjs => ?_) (fun j hj => ?_) (hcl.set (by simpa using hr)) hB' hok' hrest hK
      · rw [getD_set_ne true (by omega)]; exact hun j (by omega) hjs
      · by_cases e : j = k
        · subst e
          have hin := (mem_ready.1 (show j ∈ Region.ready .any ops listed by simpa using hr)).1
          rcases Nat.lt_or_ge j listed.size with h' | h'
          · simp [h']
          · simp [Array.getElem?_eq_none h'] at hin
        · rw [getD_set_ne true (fun h => e h.symm)]; exact hdone j (by omega)
  | [], _ :: _, _, _, _, _, _, _, _, _, _, _, _, h, _ => h.elim
  | _ :: _, [], _, _, _, _, _, _, _, _, _, _, _, h, _ => h.elim
end
end Go.Ep
