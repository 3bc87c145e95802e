/-
  Regions that draw their order: a head that only reads, a call behind all of it, and behind the call operations that only read, in whatever order. Conditions: as typed.
-/
import Derived.StillTail
import Derived.Deep.AppendSrc
import Derived.Maps.AppendAt
namespace Go
set_option linter.unusedVariables false
set_option linter.unusedSimpArgs false
section
variable {P : Program} {ops ops' : Array Oper} {md : Region.Mode} {w : World} {n : Nat}

/-- What is listed, of all operations, and of those up to the call. -/
structure Two (n : Nat) (ops : Array Oper) (l l' : Array Bool) : Prop where
  size : l.size = ops.size
  size' : l'.size = n + 1
  same : ∀ i, i ≤ n → ∀ d, l'.getD i d = l.getD i d
  tail : ∀ t, n ≤ t → l.getD t false = false

theorem getD_lt {l : Array Bool} {i : Nat} (d : Bool) (h : i < l.size) : l.getD i d = l[i] := by simp [h]
theorem getD_ge {l : Array Bool} {i : Nat} (d : Bool) (h : l.size ≤ i) : l.getD i d = d := by simp [Array.getElem?_eq_none h]

theorem Two.set {l l' : Array Bool} (h : Two n ops l l') {i : Nat} (hi : i < n) : Two n ops (l.setIfInBounds i true) (l'.setIfInBounds i true) := by
  refine ⟨by simp [h.size], by simp [h.size'], fun j hj d => ?_, fun t ht => by rw [getD_set_ne false (by omega)]; exact h.tail t ht⟩
  by_cases hij : i = j
  · subst hij
    have h1 := h.same i hj true
    have h0 := h.same i hj false
    have hl' : i < l'.size := by rw [h.size']; omega
    have hl : i < l.size := by
      rcases Nat.lt_or_ge i l.size with hlt | hge
      · exact hlt
      · rw [getD_ge _ hge, getD_lt _ hl'] at h1 h0
        rw [h1] at h0; cases h0
    simp [hl, hl']
  · rw [getD_set_ne d hij, getD_set_ne d hij]; exact h.same j hj d

theorem ready_two {l l' : Array Bool} (h : Two n ops l l') (hops : ∀ j, j ≤ n → ops'[j]? = ops[j]?) (hno : ∀ j, n < j → ops'[j]? = none)
    (hB : ∀ t ot, n < t → ops[t]? = some ot → ∃ e ∈ ot.after, Region.binds md e = true ∧ n ≤ e.on) (j : Nat) : j ∈ Region.ready md ops l ↔ j ∈ Region.ready md ops' l' := by
  rw [mem_ready, mem_ready]
  constructor
  · rintro ⟨hu, o, ho, hall⟩
    have hj : j ≤ n := by
      rcases Nat.lt_or_ge n j with hlt | hge
      · obtain ⟨e, he, hb, hon⟩ := hB j o hlt ho
        have := hall e he hb
        rw [h.tail _ hon] at this
        cases this
      · exact hge
    refine ⟨by rw [h.same j hj]; exact hu, o, by rw [hops j hj]; exact ho, fun e he hb => ?_⟩
    have h1 := hall e he hb
    have : e.on ≤ n := by
      rcases Nat.lt_or_ge n e.on with hlt | hge
      · rw [h.tail _ (by omega)] at h1; cases h1
      · exact hge
    rw [h.same _ this]; exact h1
  · rintro ⟨hu, o, ho, hall⟩
    have hj : j ≤ n := by
      rcases Nat.lt_or_ge n j with hlt | hge
      · rw [hno j hlt] at ho; cases ho
      · exact hge
    refine ⟨by rw [← h.same j hj]; exact hu, o, by rw [← hops j hj]; exact ho, fun e he hb => ?_⟩
    have h1 := hall e he hb
    have : e.on ≤ n := by
      rcases Nat.lt_or_ge n e.on with hlt | hge
      · rw [getD_ge _ (by rw [h.size']; omega)] at h1; cases h1
      · exact hge
    rw [← h.same _ this]; exact h1

theorem stOp_two {i : Nat} (hops : ∀ j, j ≤ n → ops'[j]? = ops[j]?) (hi : i < n) (hg : ∀ i o j b, i < n → ops[i]? = some o → o.guard = some (j, b) → j ≤ n) {K : Act → Prop} {a : Act} (h : stOp P ops' w i K a) : stOp P ops w i K a := by
  unfold stOp at *
  rw [hops i (by omega)] at h
  cases ho : ops[i]? with
  | none => rw [ho] at h; exact h
  | some o =>
    rw [ho] at h
    dsimp only at h ⊢
    have hw : Region.wanted o (yielded ops a.tmps) = Region.wanted o (yielded ops' a.tmps) := by
      unfold Region.wanted
      cases hgd : o.guard with
      | none => rfl
      | some jb =>
        obtain ⟨j, b⟩ := jb
        have := hg i o j b hi ho hgd
        simp only [yielded, hops j this]
    rw [hw]; exact h

theorem wpStill_two (hops : ∀ j, j ≤ n → ops'[j]? = ops[j]?) (hg : ∀ i o j b, i < n → ops[i]? = some o → o.guard = some (j, b) → j ≤ n) {Lq : Act → Prop} : ∀ (l : List Oper) (k : Nat) (a : Act), (∀ j, j < l.length → l[j]? = ops[k + j]?) → k + l.length ≤ n →
    wpStill P ops w Lq l a → wpStill P ops' w Lq l a
  | [], _, _, _, _, h => h
  | o :: l, k, a, hl, hk, h => by
    have h0 : ops[k]? = some o := by simpa using (hl 0 (by simp)).symm
    simp only [List.length_cons] at hk
    have hw : Region.wanted o (yielded ops a.tmps) = Region.wanted o (yielded ops' a.tmps) := by
      unfold Region.wanted
      cases hgd : o.guard with
      | none => rfl
      | some jb =>
        obtain ⟨j, b⟩ := jb
        have := hg k o j b (by omega) h0 hgd
        simp only [yielded, hops j this]
    have ih : ∀ a', wpStill P ops w Lq l a' → wpStill P ops' w Lq l a' := fun a' => wpStill_two hops hg l (k + 1) a' (fun j hj => by have := hl (j + 1) (by simp; omega); simpa [Nat.add_assoc, Nat.add_comm 1 j] using this) (by omega)
    unfold wpStill at h ⊢
    rw [← hw]
    split
    · rename_i hwt; rw [if_pos hwt] at h; exact Oper.still_mono ih h
    · rename_i hwt; rw [if_neg hwt] at h; exact ih _ h

theorem wpAnyL_two (hops : ∀ j, j ≤ n → ops'[j]? = ops[j]?) (hno : ∀ j, n < j → ops'[j]? = none)
    (hB : ∀ t ot, n < t → ops[t]? = some ot → ∃ e ∈ ot.after, Region.binds md e = true ∧ n ≤ e.on) (hg : ∀ i o j b, i < n → ops[i]? = some o → o.guard = some (j, b) → j ≤ n)
    {L L2 : Array Bool → Act → Prop} (hL : ∀ l l' a, Two n ops l l' → L l' a → L2 l a) : ∀ (f : Nat) (l l' : Array Bool) (a : Act), Two n ops l l' → wpAnyL P md ops' w n L f l' a → wpAnyL P md ops w n L2 f l a
  | 0, l, l', a, h, hw => hL l l' a h hw
  | f + 1, l, l', a, h, hw => by
    refine ⟨fun h0 => hw.1 ?_, fun i hi => ?_⟩
    · rw [List.eq_nil_iff_forall_not_mem] at h0 ⊢
      exact fun j hj => h0 j ((ready_two h hops hno hB j).2 hj)
    · obtain ⟨hin, hst⟩ := hw.2 i ((ready_two h hops hno hB i).1 hi)
      exact ⟨hin, stOp_mono (fun a' h' => wpAnyL_two hops hno hB hg hL f _ _ a' (h.set hin) h') (stOp_two hops hin hg hst)⟩

/-- The head is all listed, the tail not. -/
def doneTo (n m : Nat) : Array Bool := (List.replicate n true ++ List.replicate (m - n) false).toArray

theorem all_done (hops : ∀ j, j ≤ n → ops'[j]? = ops[j]?) (hn : n < ops.size) (hD : ∀ i o, i < n → ops[i]? = some o → ∀ e ∈ o.after, Region.binds md e = true → e.on < i) {l l' : Array Bool} (h : Two n ops l l') (hr : Region.ready md ops' l' = [n]) :
    ∀ i, i < n → l.getD i false = true := by
  intro i
  induction i using Nat.strongRecOn with
  | _ i ih =>
    intro hi
    cases hl : l.getD i false with
    | true => rfl
    | false =>
      exfalso
      have hi' : i < ops.size := by omega
      have hmem : i ∈ Region.ready md ops' l' := by
        rw [mem_ready]
        refine ⟨?_, ops[i], ?_, fun e he hb => ?_⟩
        · rw [h.same i (by omega)]; exact getD_in (by rw [h.size]; omega) hl
        · rw [hops i (by omega)]; simp [hi']
        · have := hD i ops[i] hi (by simp [hi']) e he hb
          rw [h.same _ (by omega)]
          exact ih _ this (by omega)
      rw [hr] at hmem
      have : i = n := by simpa using hmem
      omega
theorem done_eq (hn : n < ops.size) {l l' : Array Bool} (h : Two n ops l l') (hall : ∀ i, i < n → l.getD i false = true) : l.setIfInBounds n true = doneTo (n + 1) ops.size := by
  apply Array.ext
  · simp [doneTo, h.size]; omega
  · intro i h1 h2
    have hi : i < l.size := by simpa using h1
    rw [Array.getElem_setIfInBounds hi]
    simp only [doneTo, List.getElem_toArray]
    by_cases hin : n = i
    · subst hin; rw [if_pos rfl, List.getElem_append_left (by simp)]; simp
    · rw [if_neg hin]
      rcases Nat.lt_or_ge i n with hlt | hge
      · rw [List.getElem_append_left (by simp; omega)]
        have := hall i hlt
        rw [getD_lt _ hi] at this
        simpa using this
      · rw [List.getElem_append_right (by simp; omega)]
        have := h.tail i hge
        rw [getD_lt _ hi] at this
        simpa using this

theorem doneTo_un {m s j : Nat} (h1 : m ≤ j) (h2 : j < s) : (doneTo m s).getD j true = false := by
  rw [getD_lt _ (by simp [doneTo]; omega)]
  simp only [doneTo, List.getElem_toArray]
  rw [List.getElem_append_right (by simpa using h1)]
  simp
theorem doneTo_do {m s j : Nat} (d : Bool) (h : j < m) : (doneTo m s).getD j d = true := by
  rw [getD_lt _ (by simp [doneTo]; omega)]
  simp only [doneTo, List.getElem_toArray]
  rw [List.getElem_append_left (by simpa using h)]
  simp
/-- A drawn region of a head, a call and a tail, as a check. -/
def Region.midB (md : Region.Mode) (ops : Array Oper) (n : Nat) : Bool :=
  let ops' := (ops.toList.take (n + 1)).toArray
  Region.lexTailB md ops' n && Region.noSelect ops && decide (n < ops.size) &&
  ((List.range ops.size).all fun t => decide (t ≤ n) || match ops[t]? with
    | some o => o.after.any fun e => Region.binds md e && decide (n ≤ e.on)
    | none => false) &&
  ((List.range (n + 1)).all fun i => match ops[i]? with
    | some o => (o.after.all fun e => !Region.binds md e || decide (e.on < i)) && (match o.guard with
      | some (j, _) => decide (j ≤ n)
      | none => true)
    | none => false) &&
  Region.lexFrom md ops (ops.size - (n + 1)) (n + 1) (doneTo (n + 1) ops.size)

theorem midB_closed (h : Region.midB .any ops n = true) : ∀ j oj, ops[j]? = some oj → (doneTo (n + 1) ops.size).getD j true = true → ∀ e ∈ oj.after, Region.binds .any e = true → (doneTo (n + 1) ops.size).getD e.on false = true := fun j oj hj hl e he hb => by
  simp only [Region.midB, Bool.and_eq_true] at h
  have hjs : j < ops.size := (Array.getElem?_eq_some_iff.1 hj).1
  have hjn : j < n + 1 := by
    rcases Nat.lt_or_ge j (n + 1) with h' | h'
    · exact h'
    · rw [doneTo_un h' hjs] at hl; cases hl
  have := List.all_eq_true.1 h.1.2 j (List.mem_range.2 hjn)
  rw [hj] at this
  simp only [Bool.and_eq_true] at this
  have h5 := Array.all_eq_true'.1 this.1 e he
  simp only [hb, Bool.not_true, Bool.false_or, decide_eq_true_eq] at h5
  exact doneTo_do _ (by omega)
theorem wp_region_midA {id : Nat} {Q : Exit → Act → World → Prop} {a : Act} {w : World} {l : List Oper} (n : Nat) (hm : P.follows .mixedOrders = true) (hB : Region.midB .any l.toArray n = true)
    (h : wpStill P l.toArray { w with drawn := w.drawn + 1 } (fun a' => wpOp P l.toArray Q n (fun a2 w2 => wpAny P .any l.toArray Q (l.toArray.size - (n + 1)) (doneTo (n + 1) l.toArray.size) a2 w2) a' { w with drawn := w.drawn + 1 }) (l.take n) a) : (Code.region id l.toArray true).wp P Q a w := by
  simp only [Region.midB, Bool.and_eq_true, decide_eq_true_eq] at hB
  obtain ⟨⟨⟨⟨⟨h1, hsel⟩, hn⟩, h2⟩, h3⟩, h4⟩ := hB
  have hn' : n < l.length := by simpa using hn
  simp only [Region.lexTailB, Bool.and_eq_true, decide_eq_true_eq] at h1
  obtain ⟨⟨⟨⟨hsel', hnn⟩, hs⟩, hc⟩, hlex⟩ := h1
  have hsz : (l.take (n + 1)).toArray.size = n + 1 := by simp; omega
  have hops : ∀ j, j ≤ n → (l.take (n + 1)).toArray[j]? = l.toArray[j]? := fun j hj => by simp [List.getElem?_take, show j < n + 1 by omega]
  have hno : ∀ j, n < j → (l.take (n + 1)).toArray[j]? = none := fun j hj => by simp [List.getElem?_take, show ¬ j < n + 1 by omega]
  have hBt : ∀ t ot, n < t → l.toArray[t]? = some ot → ∃ e ∈ ot.after, Region.binds .any e = true ∧ n ≤ e.on := fun t ot ht hot => by
    have htl : t < l.toArray.size := (Array.getElem?_eq_some_iff.1 hot).1
    have := List.all_eq_true.1 h2 t (List.mem_range.2 htl)
    rw [hot] at this
    simp only [Bool.or_eq_true, decide_eq_true_eq] at this
    rcases this with h | h
    · omega
    · obtain ⟨e, he, hb⟩ := Array.any_eq_true'.1 h
      simp only [Bool.and_eq_true, decide_eq_true_eq] at hb
      exact ⟨e, he, hb.1, hb.2⟩
  have h3' : ∀ i o, i < n → l.toArray[i]? = some o → (∀ e ∈ o.after, Region.binds .any e = true → e.on < i) ∧ ∀ j b, o.guard = some (j, b) → j ≤ n := fun i o hi ho => by
    have := List.all_eq_true.1 h3 i (List.mem_range.2 (by omega))
    rw [ho] at this
    simp only [Bool.and_eq_true] at this
    refine ⟨fun e he hb => ?_, fun j b hg => ?_⟩
    · have h5 := Array.all_eq_true'.1 this.1 e he
      simp only [hb, Bool.not_true, Bool.false_or, decide_eq_true_eq] at h5
      exact h5
    · have h5 := this.2
      rw [hg] at h5
      simpa using h5
  have hg : ∀ i o j b, i < n → l.toArray[i]? = some o → o.guard = some (j, b) → j ≤ n := fun i o j b hi ho => (h3' i o hi ho).2 j b
  have htl : (l.take n).length = n := by simp; omega
  have inv0 : HeadInv .any (l.take (n + 1)).toArray n (Array.replicate (l.take (n + 1)).toArray.size false) :=
    ⟨by simp, fun j oj _ hl => (by rw [getD_replicate_false] at hl; cases hl), fun t _ ht => getD_in (by simpa using ht) (getD_replicate_false _ _)⟩
  have hst := wpStill_two (ops' := (l.take (n + 1)).toArray) hops hg (l.take n) 0 a (fun j hj => by rw [htl] at hj; simp [hj]) (by rw [htl]; omega) h
  have H := wpAnyL_lex (md := .any) (g := (l.take (n + 1)).toArray.size - n) hsel' hs hc hnn (l.take n) 0 _ a (fun j hj => by
    have hj' : j < n := by rw [htl] at hj; exact hj
    simp [List.getElem?_take, hj', show j < n + 1 by omega]) (by simpa using htl) inv0 (by rw [htl]; exact hlex) hst
  have two0 : Two n l.toArray (Array.replicate l.toArray.size false) (Array.replicate (l.take (n + 1)).toArray.size false) := by
    refine ⟨by simp, by simp; omega, fun i hi d => ?_, fun t _ => getD_replicate_false _ _⟩
    rw [getD_lt _ (by simp; omega), getD_lt _ (by simp; omega)]; simp
  have H2 := wpAnyL_two (L2 := fun lt a' => ∃ lt', Two n l.toArray lt lt' ∧ Region.ready .any (l.take (n + 1)).toArray lt' = [n] ∧ wpOp P l.toArray Q n (fun a2 w2 => wpAny P .any l.toArray Q (l.toArray.size - (n + 1)) (doneTo (n + 1) l.toArray.size) a2 w2) a' { w with drawn := w.drawn + 1 }) hops hno hBt hg (fun lt lt' a' ht hL => by
    refine ⟨lt', ht, ?_, hL.2⟩
    have h5 := hL.1
    rw [hsz, show n + 1 - n = 1 by omega] at h5
    simp only [Region.seqB, Bool.and_eq_true, decide_eq_true_eq] at h5
    exact h5.1) _ _ _ a two0 H
  rw [htl] at H2
  refine wp_region_any hm ?_
  have := wpAny_of_head (Q' := Q) (g := (l.toArray.size - (n + 1)) + 1) (fun lt a' hL => by
    obtain ⟨lt', ht, hr, hop⟩ := hL
    have hall := all_done hops hn (fun i o hi ho => (h3' i o hi ho).1) ht hr
    have hmem : n ∈ Region.ready .any l.toArray lt := (ready_two ht hops hno hBt n).2 (by rw [hr]; simp)
    refine ⟨fun h0 => absurd (h0 ▸ hmem) (by simp), fun i hi => ?_⟩
    have hin : i = n := by have := (ready_two ht hops hno hBt i).1 hi; rw [hr] at this; simpa using this
    subst hin
    refine wpOp_mono (fun a2 w2 hst2 => ?_) hop
    rw [done_eq hn ht hall]
    exact hst2) _ _ _ H2
  rw [show n + (l.toArray.size - (n + 1) + 1) = l.toArray.size by omega] at this
  exact this
theorem wp_region_mid {id : Nat} {Q : Exit → Act → World → Prop} {a : Act} {w : World} {l : List Oper} (n : Nat) (hm : P.follows .mixedOrders = true) (hB : Region.midB .any l.toArray n = true)
    (h : wpStill P l.toArray { w with drawn := w.drawn + 1 } (fun a' => wpOp P l.toArray Q n (fun a2 w2 => wpStill P l.toArray w2 (fun a3 => Q .normal a3 w2) (l.drop (n + 1)) a2) a' { w with drawn := w.drawn + 1 }) (l.take n) a) : (Code.region id l.toArray true).wp P Q a w := by
  simp only [Region.midB, Bool.and_eq_true, decide_eq_true_eq] at hB
  obtain ⟨⟨⟨⟨⟨h1, hsel⟩, hn⟩, h2⟩, h3⟩, h4⟩ := hB
  have hn' : n < l.length := by simpa using hn
  simp only [Region.lexTailB, Bool.and_eq_true, decide_eq_true_eq] at h1
  obtain ⟨⟨⟨⟨hsel', hnn⟩, hs⟩, hc⟩, hlex⟩ := h1
  have hsz : (l.take (n + 1)).toArray.size = n + 1 := by simp; omega
  have hops : ∀ j, j ≤ n → (l.take (n + 1)).toArray[j]? = l.toArray[j]? := fun j hj => by simp [List.getElem?_take, show j < n + 1 by omega]
  have hno : ∀ j, n < j → (l.take (n + 1)).toArray[j]? = none := fun j hj => by simp [List.getElem?_take, show ¬ j < n + 1 by omega]
  have hBt : ∀ t ot, n < t → l.toArray[t]? = some ot → ∃ e ∈ ot.after, Region.binds .any e = true ∧ n ≤ e.on := fun t ot ht hot => by
    have htl : t < l.toArray.size := (Array.getElem?_eq_some_iff.1 hot).1
    have := List.all_eq_true.1 h2 t (List.mem_range.2 htl)
    rw [hot] at this
    simp only [Bool.or_eq_true, decide_eq_true_eq] at this
    rcases this with h | h
    · omega
    · obtain ⟨e, he, hb⟩ := Array.any_eq_true'.1 h
      simp only [Bool.and_eq_true, decide_eq_true_eq] at hb
      exact ⟨e, he, hb.1, hb.2⟩
  have h3' : ∀ i o, i < n → l.toArray[i]? = some o → (∀ e ∈ o.after, Region.binds .any e = true → e.on < i) ∧ ∀ j b, o.guard = some (j, b) → j ≤ n := fun i o hi ho => by
    have := List.all_eq_true.1 h3 i (List.mem_range.2 (by omega))
    rw [ho] at this
    simp only [Bool.and_eq_true] at this
    refine ⟨fun e he hb => ?_, fun j b hg => ?_⟩
    · have h5 := Array.all_eq_true'.1 this.1 e he
      simp only [hb, Bool.not_true, Bool.false_or, decide_eq_true_eq] at h5
      exact h5
    · have h5 := this.2
      rw [hg] at h5
      simpa using h5
  have hg : ∀ i o j b, i < n → l.toArray[i]? = some o → o.guard = some (j, b) → j ≤ n := fun i o j b hi ho => (h3' i o hi ho).2 j b
  have htl : (l.take n).length = n := by simp; omega
  have inv0 : HeadInv .any (l.take (n + 1)).toArray n (Array.replicate (l.take (n + 1)).toArray.size false) :=
    ⟨by simp, fun j oj _ hl => (by rw [getD_replicate_false] at hl; cases hl), fun t _ ht => getD_in (by simpa using ht) (getD_replicate_false _ _)⟩
  have hst := wpStill_two (ops' := (l.take (n + 1)).toArray) hops hg (l.take n) 0 a (fun j hj => by rw [htl] at hj; simp [hj]) (by rw [htl]; omega) h
  have H := wpAnyL_lex (md := .any) (g := (l.take (n + 1)).toArray.size - n) hsel' hs hc hnn (l.take n) 0 _ a (fun j hj => by
    have hj' : j < n := by rw [htl] at hj; exact hj
    simp [List.getElem?_take, hj', show j < n + 1 by omega]) (by simpa using htl) inv0 (by rw [htl]; exact hlex) hst
  have two0 : Two n l.toArray (Array.replicate l.toArray.size false) (Array.replicate (l.take (n + 1)).toArray.size false) := by
    refine ⟨by simp, by simp; omega, fun i hi d => ?_, fun t _ => getD_replicate_false _ _⟩
    rw [getD_lt _ (by simp; omega), getD_lt _ (by simp; omega)]; simp
  have H2 := wpAnyL_two (L2 := fun lt a' => ∃ lt', Two n l.toArray lt lt' ∧ Region.ready .any (l.take (n + 1)).toArray lt' = [n] ∧ wpOp P l.toArray Q n (fun a2 w2 => wpStill P l.toArray w2 (fun a3 => Q .normal a3 w2) (l.drop (n + 1)) a2) a' { w with drawn := w.drawn + 1 }) hops hno hBt hg (fun lt lt' a' ht hL => by
    refine ⟨lt', ht, ?_, hL.2⟩
    have h5 := hL.1
    rw [hsz, show n + 1 - n = 1 by omega] at h5
    simp only [Region.seqB, Bool.and_eq_true, decide_eq_true_eq] at h5
    exact h5.1) _ _ _ a two0 H
  rw [htl] at H2
  refine wp_region_any hm ?_
  have := wpAny_of_head (Q' := Q) (g := (l.toArray.size - (n + 1)) + 1) (fun lt a' hL => by
    obtain ⟨lt', ht, hr, hop⟩ := hL
    have hall := all_done hops hn (fun i o hi ho => (h3' i o hi ho).1) ht hr
    have hmem : n ∈ Region.ready .any l.toArray lt := (ready_two ht hops hno hBt n).2 (by rw [hr]; simp)
    refine ⟨fun h0 => absurd (h0 ▸ hmem) (by simp), fun i hi => ?_⟩
    have hin : i = n := by have := (ready_two ht hops hno hBt i).1 hi; rw [hr] at this; simpa using this
    subst hin
    refine wpOp_mono (fun a2 w2 hst2 => ?_) hop
    rw [done_eq hn ht hall]
    refine wpAny_of_still (Q := fun a3 => Q .normal a3 w2) (fun _ h => h) _ _ _ ?_
    have := wpAnyS_lex (md := .any) hsel (l.drop (i + 1)) (i + 1) (doneTo (i + 1) l.toArray.size) a2 (fun j => by simp [List.getElem?_drop]) (by simpa using h4) hst2
    simpa using this) _ _ _ H2
  rw [show n + (l.toArray.size - (n + 1) + 1) = l.toArray.size by omega] at this
  exact this
theorem wpStill_mono' {Q1 Q2 : Act → Prop} (h : ∀ a, Q1 a → Q2 a) : ∀ (l : List Oper) (a : Act), wpStill P ops w Q1 l a → wpStill P ops w Q2 l a
  | [], a, h' => h a h'
  | o :: l, a, h' => by
    unfold wpStill at h' ⊢
    split
    · rename_i hw; rw [if_pos hw] at h'; exact Oper.still_mono (fun a' => wpStill_mono' h l a') h'
    · rename_i hw; rw [if_neg hw] at h'; exact wpStill_mono' h l _ h'
/-- Is it a tail that takes two results apart and keeps one in memory? -/
def takesO (o : Oper) : Bool := match o.op with
  | .extract _ _ => true
  | _ => false
def keepsO (o : Oper) : Bool := match o.op with
  | .store _ _ _ | .alloc _ => true
  | _ => false
def midT : List Oper → Bool
  | o :: r => match o.op with
    | .extract _ _ => r.any keepsO
    | .move _ => match r with
      | o2 :: r2 => takesO o2 && r2.any takesO && r2.any keepsO
      | [] => false
    | _ => false
  | [] => false
/-- Operations that touch no memory. -/
def quietO (o : Oper) : Bool := match o.op with
  | .extract _ _ | .assign _ | .move _ => true
  | _ => false
theorem quiet_still {o : Oper} (h : quietO o = true) {a : Act} {w : World} {K : Act → World → Prop} {Q : Exit → Act → World → Prop} (hp : ∀ c a w, ¬ Q (.panic c) a w) (hw : o.wp P a w K Q) : o.still P a w (fun a' => K a' w) := by
  unfold Oper.wp at hw
  unfold Oper.still
  unfold quietO at h
  split at h
  · rename_i x k ho
    simp only [execOp, ho] at hw ⊢
    unfold Instr.extract at hw ⊢
    split at hw
    · split at hw
      · simpa [Oper.upon, Oper.stillUpon] using hw
      · simp [Oper.upon, stuck] at hw
    · simp [Oper.upon, stuck] at hw
  · rename_i x ho
    simp only [execOp, ho] at hw ⊢
    simpa [Oper.upon, Oper.stillUpon] using hw
  · rename_i x ho
    simp only [execOp, ho] at hw ⊢
    simpa [Oper.upon, Oper.stillUpon] using hw
  · cases h
theorem list_quiet {Q : Exit → Act → World → Prop} (hp : ∀ c a w, ¬ Q (.panic c) a w) (hl : ¬ LetsOut Q) : ∀ (r : List Oper) (a : Act) (w : World), r.all quietO = true → wpList P ops Q r a w → wpStill P ops w (fun a3 => Q .normal a3 w) r a
  | [], _, _, _, h => h
  | o :: r, a, w, hq, h => by
    simp only [List.all_cons, Bool.and_eq_true] at hq
    unfold wpList at h
    unfold wpStill
    split
    · rename_i hw
      rw [if_pos hw] at h
      rcases h with h | h
      · exact Oper.still_mono (fun a' h' => list_quiet hp hl r a' w hq.2 h') (quiet_still hq.1 hp h)
      · exact absurd h.2 hl
    · rename_i hw
      rw [if_neg hw] at h
      exact list_quiet hp hl r _ w hq.2 h
/-- The tail is forced, or touches no memory. -/
def Region.tailB (ops : Array Oper) (n : Nat) : Bool := Region.lexTailB .any ops n || (Region.midB .any ops n && (ops.toList.drop (n + 1)).all quietO)
theorem wp_region_tail {id : Nat} {Q : Exit → Act → World → Prop} (hp : ∀ c a w, ¬ Q (.panic c) a w) (hlo : ¬ LetsOut Q) {a : Act} {w : World} {l : List Oper} (n : Nat) (hm : P.follows .mixedOrders = true) (hB : Region.tailB l.toArray n = true)
    (h : wpStill P l.toArray { w with drawn := w.drawn + 1 } (fun a' => wpList P l.toArray Q (l.drop n) a' { w with drawn := w.drawn + 1 }) (l.take n) a) : (Code.region id l.toArray true).wp P Q a w := by
  simp only [Region.tailB, Bool.or_eq_true, Bool.and_eq_true] at hB
  rcases hB with hB | ⟨hB, hq⟩
  · exact wp_region_still_tail n hm hB h
  · refine wp_region_mid n hm hB (wpStill_mono' (fun a' h' => ?_) _ _ h)
    have hn : n < l.length := by
      simp only [Region.midB, Bool.and_eq_true, decide_eq_true_eq] at hB
      simpa using hB.1.1.1.2
    have hd : l.drop n = l[n] :: l.drop (n + 1) := List.drop_eq_getElem_cons hn
    rw [hd] at h'
    have hw : wpOp P l.toArray Q n (wpList P l.toArray Q (l.drop (n + 1))) a' { w with drawn := w.drawn + 1 } := by
      unfold wpOp
      simp only [List.getElem?_toArray, List.getElem?_eq_getElem hn]
      exact h'
    exact wpOp_mono (fun a2 w2 h2 => list_quiet hp hlo _ a2 w2 (by simpa using hq) h2) hw
end

section
variable {P : Program} (w : World)
/-- Append to a row that the call made itself (or to nil), of whatever source. -/
theorem run_append_own_src (base : Nat) (t tx ty e : TypeId) (i : TypeInfo) (z : Value) (size bytes : Nat) (ht : P.underlying t = some (.slice e)) (hi : P.info? e = some i) (hz : i.zero = some z)
    (hsize : i.size = size) (hby : i.bytes = bytes) (hzs : z.cells.size = size) (hsz : 0 < size)
    (v : Value) (n : Nat) (xs : List Value) (hown : w.ownsRow base e size v n xs)
    (x : Value) (m : Nat) (news : List Value) (hs : Src P size tx x m news w)
    (h63 : n + m ≤ maxLen) (hbytes : (n + m) * bytes ≤ 140737488355328) (hbase : base ≤ w.heap.size) :
    ∃ v' w', (Builtin.append_ #[t, tx] ty #[v, x]).run P w = .ok v' w' ∧ w'.ownsRow base e size v' (n + m) (xs ++ news) ∧ w.grownBy w' v.ownBlock ∧
      (v' = .slice none 0 0 ↔ v = .slice none 0 0 ∧ m = 0) ∧ (v'.ownBlock = v.ownBlock ∨ v'.ownBlock = some w.heap.size) := by
  subst hsize
  subst hby
  have hl := hs.newsLen
  have hsmall : n + m ≤ 9223372036854775807 := by simp only [maxLen] at h63; omega
  have hlen : (xs ++ news).length = (n + m) * i.size := by rw [List.length_append, hown.1, hl, Nat.add_mul]
  have grown : ∀ (old : Nat), old < n + m → ∀ (row : Option Nat),
      (w.drew.alloc (.cells ((xs ++ news).toArray ++ Builtin.zeroCells z.cells (grownCap w (n + m) old e - (n + m))) e)).ownsRow base e i.size
        (.slice (some ⟨w.heap.size, 0, none⟩) (n + m) (grownCap w (n + m) old e)) (n + m) (xs ++ news) ∧
      w.grownBy (w.drew.alloc (.cells ((xs ++ news).toArray ++ Builtin.zeroCells z.cells (grownCap w (n + m) old e - (n + m))) e)) row := by
    intro old ho row
    have hge := grownCap_ge w (n + m) old e
    have hcm : grownCap w (n + m) old e ≤ maxLen := grownCap_le_maxLen w (n + m) old e h63
    refine ⟨⟨hlen, .inr ⟨w.heap.size, _, _, rfl, hbase, heap_alloc_new w.drew _, hge, hcm, ?_, ?_⟩⟩, ⟨rfl, rfl, rfl, by simp, fun k hk _ => heap_alloc_old w.drew _ k hk⟩⟩
    · simp only [Array.size_append, List.size_toArray, size_zeroCells, hzs, hlen, ← Nat.add_mul]
      congr 1
      omega
    · simp only [Array.toList_append]
      rw [← hlen]
      exact List.take_left
  rcases hown.2 with ⟨rfl, rfl⟩ | ⟨g, cap, cur, rfl, hbg, hg, hnc, hcm, hcs, htake⟩
  · have hx : xs = [] := List.eq_nil_of_length_eq_zero (by simpa using hown.1)
    subst hx
    by_cases hm : m = 0
    · subst hm
      have hn : news = [] := List.eq_nil_of_length_eq_zero (by simpa using hl)
      subst hn
      refine ⟨.slice none 0 0, w, ?_, World.ownsRow_nil w base e i.size, ⟨rfl, rfl, rfl, Nat.le_refl _, fun _ _ _ => rfl⟩, by simp, Or.inl rfl⟩
      rcases hs.kind with ⟨e', hk⟩ | hk <;> simp [Builtin.append_, run_underlying ht, run_underlying hk, sizeOf, typeInfo, hi, hs.len, hs.cells, storeCells]
    · have hr := run_append_grow_src (P := P) w t tx ty e i z ht hi hz none 0 0 [] (run_firstCells_none w.drew i.size 0 0 0) x m news hs (by omega) (by omega) (growslice_fits (by omega) hbytes)
      have hgr := grown 0 (by omega) (Value.ownBlock (.slice none 0 0))
      exact ⟨_, _, hr, hgr.1, hgr.2, by simp [hm], Or.inr rfl⟩
  · by_cases hroom : n + m ≤ cap
    · have hfit : n * i.size + news.length ≤ cur.size := by rw [hl, hcs, ← Nat.add_mul]; exact Nat.mul_le_mul_right _ hroom
      have hst := run_storeCells_at P g (n * i.size) e news 0 cur w hg (by simpa using hfit) hs.one
      simp only [Nat.add_zero] at hst
      have hr : (Builtin.append_ #[t, tx] ty #[.slice (some ⟨g, 0, none⟩) n cap, x]).run P w =
          .ok (.slice (some ⟨g, 0, none⟩) (n + m) cap) (w.setRow g (cur.toList.take (n * i.size) ++ news ++ cur.toList.drop (n * i.size + news.length)).toArray) := by
        rcases hs.kind with ⟨e', hk⟩ | hk <;> simp [Builtin.append_, run_underlying ht, run_underlying hk, sizeOf, typeInfo, hi, hs.len, hroom, hs.cells, Addr.add_lit, hst]
      refine ⟨_, _, hr, ⟨hlen, .inr ⟨g, cap, _, rfl, hbg, setRow_heap w g cur _ e _ hg, hroom, hcm, ?_, ?_⟩⟩, ⟨rfl, rfl, rfl, by simp, fun k _ hk => setRow_other w g k _ (fun e => hk (by simp [Value.ownBlock, e]))⟩, by simp, Or.inl rfl⟩
      · simp only [List.size_toArray, List.length_append, List.length_take, List.length_drop, Array.length_toList]
        omega
      · rw [htake, ← hlen]
        exact List.take_left
    · have holds : ∀ j u, xs[j]? = some u → w.cell? ((⟨g, 0, none⟩ : Addr).add j) = some u := hown.cells (g := g) rfl
      have hr := run_append_grow_src (P := P) w t tx ty e i z ht hi hz (some ⟨g, 0, none⟩) n cap xs (run_firstCells_some w.drew i.size n ⟨g, 0, none⟩ n cap xs hown.1 (by simpa using holds)) x m news hs (by omega) (by omega) (growslice_fits (by omega) hbytes)
      have hgr := grown cap (by omega) (Value.ownBlock (.slice (some ⟨g, 0, none⟩) n cap))
      exact ⟨_, _, hr, hgr.1, hgr.2, by simp, Or.inr rfl⟩
end
end Go
