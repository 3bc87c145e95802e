/-
  The evaluator is sound: what it leaves to be shown of a function's body shows a contract of the function. Conditions: as typed.
-/
import Derived.Test.YthkgakelgdncjaaDoorPh
import Derived.LoopN
namespace Go.Ep
open Go.RowKit
set_option linter.unusedVariables false
set_option linter.unusedSimpArgs false

section
variable {P : Program} {C : Table} {G : World → Prop} {base : Bs} {w0 : World}

/-- **The operations of a region, in the order of the text**; calls may be gone through in their callers' places. -/
theorem allLt_spec {b : Nat} : ∀ {l : List (Nat × Blk)}, allLt b l = true → ∀ m, look l m ≠ none → m < b
  | [], _, m, h => by simp [look] at h
  | (i, c) :: r, e, m, h => by
    simp only [allLt] at e
    split at e
    · rename_i hi
      have hi' : i < b := by simpa using hi
      rw [look_eq_beq] at h
      split at h
      · rename_i he; subst he; exact hi'
      · exact allLt_spec e m h
    · cases e
theorem purge_relL {ρ : Nat → Loc} {d : Nat} {l : L} {v : Value} (h : RelL ρ l v) : RelL ρ (l.purge d) v := by
  cases l <;> simp only [L.purge] <;> first | exact h | (split <;> first | exact fun hn => absurd rfl hn | exact h)
theorem purge_seg {d : Nat} {l : L} : isSeg (l.purge d) = isSeg l := by
  cases l <;> simp only [L.purge] <;> first | rfl | (split <;> rfl)
theorem purge_relLs {ρ : Nat → Loc} {d : Nat} : ∀ {ls : List L} {vs : List Value}, RelLs ρ ls vs → RelLs ρ (purgeLs d ls) vs
  | [], _, h => h
  | l :: ls, vs, ⟨us, ws, e, h1, h2⟩ => by
    refine ⟨us, ws, e, ?_, purge_relLs h2⟩
    cases hs : isSeg l with
    | true => cases l <;> simp [isSeg] at hs; exact h1
    | false =>
      obtain ⟨v, h3, h4⟩ := (relI_one hs).1 h1
      exact (relI_one (by rw [purge_seg, hs])).2 ⟨v, h3, purge_relL h4⟩
theorem purge_relVs {ρ : Nat → Loc} {d : Nat} : ∀ {ls : List (Bool × List L)} {vs : List Value}, RelVs ρ ls vs → RelVs ρ (purgeVs d ls) vs
  | [], [], _ => trivial
  | (true, _) :: _, _ :: _, ⟨⟨cs, e, h1⟩, h2⟩ => ⟨⟨cs, e, purge_relLs h1⟩, purge_relVs h2⟩
  | (false, [_]) :: _, _ :: _, ⟨h1, h2⟩ => ⟨purge_relL h1, purge_relVs h2⟩
  | [], _ :: _, h => h.elim
  | (true, _) :: _, [], h => h.elim
  | (false, []) :: _, [], h => h.elim
  | (false, []) :: _, _ :: _, h => h.elim
  | (false, _ :: _ :: _) :: _, [], h => h.elim
  | (false, _ :: _ :: _) :: _, _ :: _, h => h.elim
  | (false, [_]) :: _, [], h => h.elim
theorem purge_relA {ρ : Nat → Loc} {d : Nat} {v : AV} {u : Value} (h : RelA ρ v u) : RelA ρ (v.purge d) u := by
  cases v with
  | one l => exact purge_relL h
  | agg ls => obtain ⟨cs, e, h⟩ := h; exact ⟨cs, e, purge_relLs h⟩
  | tup vs => obtain ⟨cs, e, h⟩ := h; exact ⟨cs, e, purge_relVs h⟩
theorem purge_namesL {d m : Nat} {l : L} (h : m ∈ (l.purge d).names) : m ∈ l.names ∧ m ≠ d := by
  cases l with
  | ptr i o =>
    simp only [L.purge] at h
    split at h
    · simp [L.names] at h
    · rename_i hne
      simp only [L.names, List.mem_singleton] at h ⊢
      subst h
      exact ⟨rfl, Nat.ne_of_beq_eq_false hne⟩
  | eptr i o n k =>
    simp only [L.purge] at h
    split at h
    · simp [L.names] at h
    · rename_i hne
      simp only [L.names, List.mem_singleton] at h ⊢
      subst h
      exact ⟨rfl, Nat.ne_of_beq_eq_false hne⟩
  | slc i o n c =>
    simp only [L.purge] at h
    split at h
    · simp [L.names] at h
    · rename_i hne
      simp only [L.names, List.mem_singleton] at h ⊢
      subst h
      exact ⟨rfl, Nat.ne_of_beq_eq_false hne⟩
  | rptr i o z k p =>
    simp only [L.purge] at h
    split at h
    · simp [L.names] at h
    · rename_i hne
      simp only [L.names, List.mem_singleton] at h ⊢
      subst h
      exact ⟨rfl, Nat.ne_of_beq_eq_false hne⟩
  | rsl i n =>
    simp only [L.purge] at h
    split at h
    · simp [L.names] at h
    · rename_i hne
      simp only [L.names, List.mem_singleton] at h ⊢
      subst h
      exact ⟨rfl, Nat.ne_of_beq_eq_false hne⟩
  | rsc i z k n =>
    simp only [L.purge] at h
    split at h
    · simp [L.names] at h
    · rename_i hne
      simp only [L.names, List.mem_singleton] at h ⊢
      subst h
      exact ⟨rfl, Nat.ne_of_beq_eq_false hne⟩
  | imap i =>
    simp only [L.purge] at h
    split at h
    · simp [L.names] at h
    · rename_i hne
      simp only [L.names, List.mem_singleton] at h ⊢
      subst h
      exact ⟨rfl, Nat.ne_of_beq_eq_false hne⟩
  | clo f caps =>
    simp only [L.purge] at h
    split at h
    · simp [L.names] at h
    · rename_i hne
      have h' : m ∈ capN caps := by simpa [L.names] using h
      refine ⟨by simpa [L.names] using h', fun e => ?_⟩
      subst e
      exact inCaps_spec hne h'
  | _ => simp [L.purge, L.names] at h
theorem purge_namesLs {d m : Nat} : ∀ {ls : List L}, m ∈ lnames (purgeLs d ls) → m ∈ lnames ls ∧ m ≠ d
  | [], h => by simp [purgeLs, lnames] at h
  | l :: ls, h => by
    simp only [purgeLs, lnames, List.mem_append] at h ⊢
    rcases h with h | h
    · exact ⟨.inl (purge_namesL h).1, (purge_namesL h).2⟩
    · exact ⟨.inr (purge_namesLs h).1, (purge_namesLs h).2⟩
theorem purge_namesVs {d m : Nat} : ∀ {ls : List (Bool × List L)}, m ∈ vnames (purgeVs d ls) → m ∈ vnames ls ∧ m ≠ d
  | [], h => by simp [purgeVs, vnames] at h
  | (b, l) :: ls, h => by
    simp only [purgeVs, vnames, List.mem_append] at h ⊢
    rcases h with h | h
    · exact ⟨.inl (purge_namesLs h).1, (purge_namesLs h).2⟩
    · exact ⟨.inr (purge_namesVs h).1, (purge_namesVs h).2⟩
theorem purge_namesA {d m : Nat} {v : AV} (h : m ∈ (v.purge d).names) : m ∈ v.names ∧ m ≠ d := by
  cases v with
  | one l => exact purge_namesL h
  | agg ls => exact purge_namesLs h
  | tup vs => exact purge_namesVs h
theorem getT_map (d : Nat) : ∀ (t : List AV) (n : Nat), getT (t.map (AV.purge d)) n = (getT t n).purge d
  | [], _ => rfl
  | _ :: _, 0 => rfl
  | _ :: t, n + 1 => getT_map d t n
theorem RelS.purge {ρ : Nat → Loc} {s : AS} {a : Act} {w : World} (R : RelS base w0 ρ s a w) (d : Nat) (hnd : base.nm ≤ d) {h : Nat → Option Blk} (hh : ∀ i, h i = if i = d then none else (s.h i).map (Blk.purge d)) :
    RelS base w0 ρ ⟨s.t.map (AV.purge d), h⟩ a w := by
  have hback : ∀ i, h i ≠ none → s.h i ≠ none := fun i hi => by
    rw [hh] at hi
    split at hi
    · exact absurd rfl hi
    · intro e; rw [e] at hi; exact hi rfl
  have hfind : ∀ i c, h i = some c → ∃ c0, s.h i = some c0 ∧ c0.own = c.own := fun i c hi => by
    rw [hh] at hi
    split at hi
    · cases hi
    · obtain ⟨c0, h1, rfl⟩ := Option.map_eq_some_iff.1 hi
      exact ⟨c0, h1, by cases c0 <;> rfl⟩
  have hto : ∀ i, s.h i ≠ none → i ≠ d → h i ≠ none := fun i hi hd => by
    rw [hh, if_neg hd]
    cases hs : s.h i with
    | none => exact absurd hs hi
    | some b => simp
  refine ⟨R.defers, by simpa using R.size, ⟨fun n => ?_, fun i b hb => ?_, fun n m hm => ?_, fun i b hb m hm => ?_⟩, fun i c hi => by obtain ⟨c0, h1, h2⟩ := hfind i c hi; rw [← h2]; exact R.low i c0 h1, fun i j c d hi hj ho e => by obtain ⟨c0, h1, h2⟩ := hfind i c hi; obtain ⟨d0, h3, _⟩ := hfind j d hj; exact R.inj i j c0 d0 h1 h3 (by rw [h2]; exact ho) e, R.below, R.base,
    fun m hm => ⟨(R.frame m hm).1, hto m (R.frame m hm).2.1 (fun e => by have := (R.frame m hm).1; omega), (R.frame m hm).2.2⟩, R.far.to (Nat.le_refl _) (fun _ _ _ => rfl) fun i c h1 h2 => by obtain ⟨c0, h3, h4⟩ := hfind i c h1; exact .inr ⟨i, c0, h3, h4.trans h2, rfl⟩⟩
  · rw [getT_map]; exact purge_relA (R.ctx.tmps n)
  · have hb : h i = some b := hb
    rw [hh] at hb
    split at hb
    · cases hb
    · obtain ⟨b0, hb0, rfl⟩ := Option.map_eq_some_iff.1 hb
      have := R.ctx.heap i b0 hb0
      cases b0 with
      | cells T ls => obtain ⟨cs, e, h0, h1⟩ := this; exact ⟨cs, e, h0, purge_relLs h1⟩
      | ro T ls => obtain ⟨cs, fr, e, us, ws, h0, h1⟩ := this; exact ⟨cs, fr, e, us, ws, h0, purge_relLs h1⟩
      | row T z n f => exact this
      | imap es => exact this
      | romap es => exact this
  · rw [getT_map] at hm
    obtain ⟨h1, h2⟩ := purge_namesA hm
    exact hto m (R.ctx.names n m h1) h2
  · have hb : h i = some b := hb
    rw [hh] at hb
    split at hb
    · cases hb
    · obtain ⟨b0, hb0, rfl⟩ := Option.map_eq_some_iff.1 hb
      cases b0 with
      | cells T ls =>
        obtain ⟨h1, h2⟩ := purge_namesLs (show m ∈ lnames (purgeLs d ls) from hm)
        exact hto m (R.ctx.namesH i _ hb0 m h1) h2
      | ro T ls =>
        obtain ⟨h1, h2⟩ := purge_namesLs (show m ∈ lnames (purgeLs d ls) from hm)
        exact hto m (R.ctx.namesH i _ hb0 m h1) h2
      | row T z n f => simp [Blk.purge, Blk.names] at hm
      | imap es => simp [Blk.purge, Blk.names] at hm
      | romap es => simp [Blk.purge, Blk.names] at hm
theorem SegV.join {z n m : Nat} {f g : Nat → List PL} {us vs : List Value} (h : SegV z n f us) (h' : SegV z m g vs) (hf : ∀ j, (f j).length = z) (hg : ∀ j, (g j).length = z) : SegV z (n + m) (joinF n f g) (us ++ vs) := by
  refine ⟨by simp [h.1, h'.1, Nat.mul_add], fun k hk => ⟨by rw [joinF, mergeP_len, hf], fun j hj => ?_⟩⟩
  rw [joinF, mergeP_get _ _ _ _ _ (by rw [hf, hg]; omega)]
  by_cases hkn : k < n
  · have hb := mul_lt_of (z := z) hkn
    rw [if_neg fun e => by omega, List.getElem?_append_left (by rw [h.1]; omega)]
    exact (h.2 k hkn).2 j hj
  · have e1 : z * k + j - us.length = z * (k - n) + j := by
      have : z * k = z * n + z * (k - n) := by rw [← Nat.mul_add]; congr 1; omega
      rw [h.1]; omega
    have hle : us.length ≤ z * k + j := by
      have : z * n ≤ z * k := Nat.mul_le_mul_left z (by omega)
      rw [h.1]; omega
    rw [if_pos ⟨by omega, by omega, by rw [hg]; omega⟩, List.getElem?_append_right hle, e1, Nat.sub_zero]
    exact (h'.2 (k - n) (by omega)).2 j hj
theorem SegV.joinI {z n m : Nat} {f g : Nat → List PL} {us vs : List Value} (h : SegV z n f us) (h' : SegV z m g vs) : SegV z (n + m) (Go.Ep.joinI n f g) (us ++ vs) := by
  refine ⟨by simp [h.1, h'.1, Nat.mul_add], fun k hk => ?_⟩
  unfold Go.Ep.joinI
  by_cases hkn : k < n
  · have e : Nat.blt k n = true := by simpa using hkn
    rw [e]
    dsimp only
    obtain ⟨h1, h2⟩ := h.2 k hkn
    refine ⟨h1, fun j hj => ?_⟩
    have hb := mul_lt_of (z := z) hkn
    rw [List.getElem?_append_left (by rw [h.1]; omega)]
    exact h2 j hj
  · have e : Nat.blt k n = false := by
      cases hx : Nat.blt k n with
      | false => rfl
      | true => exact absurd (by simpa using hx) hkn
    rw [e]
    dsimp only
    obtain ⟨h1, h2⟩ := h'.2 (k - n) (by omega)
    refine ⟨h1, fun j hj => ?_⟩
    have e1 : z * k + j - us.length = z * (k - n) + j := by
      have : z * k = z * n + z * (k - n) := by rw [← Nat.mul_add]; congr 1; omega
      rw [h.1]; omega
    have hle : us.length ≤ z * k + j := by
      have : z * n ≤ z * k := Nat.mul_le_mul_left z (by omega)
      rw [h.1]; omega
    rw [List.getElem?_append_right hle, e1]
    exact h2 j hj
/-- What append comes to. -/
theorem app_some {ρ : Nat → Loc} {s : AS} {a : Act} {w : World} (R : RelS base w0 ρ s a w) {T e : TypeId} {inf : TypeInfo} {zv : Value} {ty : TypeId} (hT : P.underlying T = some (.slice e)) (hi : P.info? e = some inf) (hz : inf.zero = some zv)
    (hzs : zv.cells.size = inf.size) (h0 : 0 < inf.size) (hby : inf.bytes ≤ 4096) {i n m : Nat} {f g : Nat → List PL} (hsm : n + m < 65536) (hb : s.h i = some (.row e inf.size n f)) (hnm : base.nm ≤ i)
    {F : Nat → List PL} (hF : ∀ us vs, SegV inf.size n f us → SegV inf.size m g vs → SegV inf.size (n + m) F (us ++ vs)) {tx : TypeId} {vx : Value} {news : List Value} (hs : _root_.Go.Src P inf.size tx vx m news w)
    (hseg : SegV inf.size m g news) {h' : Nat → Option Blk} (hh : ∀ j, h' j = if j = i then none else (s.h j).map (Blk.purge i)) :
    ∃ v' w' ρ', (Builtin.append_ #[T, tx] ty #[.slice (some ⟨(ρ i).b, (ρ i).o, none⟩) n (ρ i).c, vx]).run P w = .ok v' w' ∧
      RelS base w0 ρ' ⟨s.t.map (AV.purge i), upd h' i (.row e inf.size (n + m) F)⟩ a w' ∧ RelL ρ' (.rsl i (n + m)) v' := by
  obtain ⟨cs, hw, ho, hcs, hnc, hcm, hsf⟩ := R.ctx.heap i _ hb
  have hlow := (R.low i _ hb).1 rfl
  rw [ho]
  have hnz : n * inf.size = inf.size * n := Nat.mul_comm _ _
  have hle : inf.size * n ≤ inf.size * (ρ i).c := Nat.mul_le_mul_left _ hnc
  have hown : w.ownsRow base.b e inf.size (.slice (some ⟨(ρ i).b, 0, none⟩) n (ρ i).c) n (cs.toList.take (n * inf.size)) :=
    ⟨by simp; omega, .inr ⟨(ρ i).b, (ρ i).c, cs, rfl, hlow, hw, hnc, hcm, by rw [hcs, Nat.mul_comm], rfl⟩⟩
  have hbytes : (n + m) * inf.bytes ≤ 140737488355328 := Nat.le_trans (Nat.mul_le_mul (Nat.le_of_lt hsm) hby) (by omega)
  obtain ⟨v', w', hrun, hown', hgr, hnil, hat⟩ := run_append_own_src (P := P) w base.b T tx ty e inf zv inf.size inf.bytes hT hi hz rfl rfl hzs h0 _ n _ hown vx m news hs (by simp only [maxLen]; omega) hbytes R.base
  rcases hown'.2 with ⟨e1, e2⟩ | ⟨g', cap', cur', hv', hg', hw', hnc', hcm', hcs', htake⟩
  · have := (hnil.1 e1).1; cases this
  have hP := R.purge i hnm hh
  have hd : h' i = none := by rw [hh, if_pos rfl]
  have hback : ∀ j c, h' j = some c → ∃ c0, s.h j = some c0 ∧ c0.own = c.own ∧ j ≠ i := fun j c hj => by
    rw [hh] at hj
    split at hj
    · cases hj
    · rename_i hji
      obtain ⟨c0, h1, rfl⟩ := Option.map_eq_some_iff.1 hj
      exact ⟨c0, h1, by cases c0 <;> rfl, hji⟩
  have hne : ∀ j c, h' j = some c → (ρ j).b ≠ (ρ i).b := fun j c hj e => by
    obtain ⟨c0, h1, _, hji⟩ := hback j c hj
    exact hji (R.inj i j _ _ hb h1 rfl e.symm).symm
  have hlt : ∀ j c, h' j = some c → (ρ j).b < w.heap.size := fun j c hj => by
    obtain ⟨c0, h1, _, _⟩ := hback j c hj
    exact R.lt (by rw [h1]; simp)
  have hob : v'.ownBlock = some g' := by rw [hv']; rfl
  refine ⟨v', w', _, hrun, hP.adopt (q := ⟨g', 0, cap'⟩) hd hnm (fun j c hj => ⟨hgr.block _ (hlt j c hj) (fun e => hne j c hj (by simpa [Value.ownBlock] using e)), ?_⟩) ?_ (Nat.le_trans R.base hgr.size) ?_ rfl hg' rfl hgr.size (fun k h1 h2 => hgr.block k (Nat.lt_of_lt_of_le h1 R.far.grown) (fun e => ?_)) (fun h1 h2 => ?_), ?_⟩
  · rcases hat with e | e
    · rw [hob] at e
      have : g' = (ρ i).b := by simpa [Value.ownBlock] using e
      rw [this]; exact hne j c hj
    · rw [hob] at e
      have : g' = w.heap.size := by simpa using e
      have h3 := hlt j c hj
      show (ρ j).b ≠ g'
      omega
  · refine R.below.trans ⟨hgr.os, hgr.tape, hgr.output, hgr.size, fun k hk => hgr.block k (by have := R.base; omega) (fun e => ?_)⟩
    have : k = (ρ i).b := by simpa [Value.ownBlock] using e
    omega
  · refine ⟨cur', hw', rfl, by rw [hcs', Nat.mul_comm], hnc', hcm', ?_⟩
    rw [Nat.mul_comm, htake, hnz]
    exact hF _ _ hsf hseg
  · have e' : (ρ i).b = k := by simpa [Value.ownBlock] using e.symm
    rw [← e'] at h1 h2
    exact R.far.apart i _ hb rfl h1 h2
  · rcases hat with e | e
    · rw [hob] at e
      have : g' = (ρ i).b := by simpa [Value.ownBlock] using e
      rw [this] at h1 h2
      exact R.far.apart i _ hb rfl h1 h2
    · rw [hob] at e
      have : g' = w.heap.size := by simpa using e
      have h3 := R.far.grown
      have h1 : g' < base.w1.heap.size := h1
      omega
  · intro _
    rw [hv']; simp [gL]
theorem app_none {ρ : Nat → Loc} {s : AS} {a : Act} {w : World} (R : RelS base w0 ρ s a w) {T e : TypeId} {inf : TypeInfo} {zv : Value} {ty : TypeId} (hT : P.underlying T = some (.slice e)) (hi : P.info? e = some inf) (hz : inf.zero = some zv)
    (hzs : zv.cells.size = inf.size) (h0 : 0 < inf.size) (hby : inf.bytes ≤ 4096) {i m : Nat} {g : Nat → List PL} (hsm : m < 65536) (hnm : base.nm ≤ i)
    {tx : TypeId} {vx : Value} {news : List Value} (hs : _root_.Go.Src P inf.size tx vx m news w)
    (hseg : SegV inf.size m g news) {h' : Nat → Option Blk} (hh : ∀ j, h' j = if j = i then none else (s.h j).map (Blk.purge i)) (hm : m ≠ 0) :
    ∃ v' w' ρ', (Builtin.append_ #[T, tx] ty #[.slice none 0 0, vx]).run P w = .ok v' w' ∧
      RelS base w0 ρ' ⟨s.t.map (AV.purge i), upd h' i (.row e inf.size m g)⟩ a w' ∧ RelL ρ' (.rsl i m) v' := by
  have hown : w.ownsRow base.b e inf.size (.slice none 0 0) 0 [] := ⟨by simp, .inl ⟨rfl, rfl⟩⟩
  have hbytes : (0 + m) * inf.bytes ≤ 140737488355328 := by
    rw [Nat.zero_add]; exact Nat.le_trans (Nat.mul_le_mul (Nat.le_of_lt hsm) hby) (by omega)
  obtain ⟨v', w', hrun, hown', hgr, hnil, hat⟩ := run_append_own_src (P := P) w base.b T tx ty e inf zv inf.size inf.bytes hT hi hz rfl rfl hzs h0 _ 0 _ hown vx m news hs (by simp only [maxLen]; omega) hbytes R.base
  rcases hown'.2 with ⟨e1, e2⟩ | ⟨g', cap', cur', hv', hg', hw', hnc', hcm', hcs', htake⟩
  · omega
  rw [Nat.zero_add] at hv' hnc' htake
  have hP := R.purge i hnm hh
  have hd : h' i = none := by rw [hh, if_pos rfl]
  have hlt : ∀ j c, h' j = some c → (ρ j).b < w.heap.size := fun j c hj => hP.lt (by show h' j ≠ none; rw [hj]; simp)
  have hob : v'.ownBlock = some g' := by rw [hv']; rfl
  have hgs : g' = w.heap.size := by
    rcases hat with e | e
    · rw [hob] at e; simp [Value.ownBlock] at e
    · rw [hob] at e; simpa using e
  refine ⟨v', w', _, hrun, hP.adopt (q := ⟨g', 0, cap'⟩) hd hnm (fun j c hj => ⟨hgr.block _ (hlt j c hj) (by simp [Value.ownBlock]), ?_⟩) ?_ (Nat.le_trans R.base hgr.size) ?_ rfl hg' rfl hgr.size (fun k h1 _ => hgr.block k (Nat.lt_of_lt_of_le h1 R.far.grown) (by simp [Value.ownBlock])) (fun h1 _ => ?_), ?_⟩
  · have h3 := hlt j c hj
    show (ρ j).b ≠ g'
    omega
  · exact R.below.trans ⟨hgr.os, hgr.tape, hgr.output, hgr.size, fun k hk => hgr.block k (by have := R.base; omega) (by simp [Value.ownBlock])⟩
  · refine ⟨cur', hw', rfl, by rw [hcs', Nat.mul_comm], hnc', hcm', ?_⟩
    rw [Nat.mul_comm, htake, List.nil_append]
    exact hseg
  · have h3 := R.far.grown
    have h1 : g' < base.w1.heap.size := h1
    omega
  · intro _
    rw [hv']; simp [gL]
theorem app_zero {w : World} {T tx e : TypeId} {inf : TypeInfo} {ty : TypeId} (hT : P.underlying T = some (.slice e)) (hi : P.info? e = some inf) {vx : Value} {news : List Value} (hs : _root_.Go.Src P inf.size tx vx 0 news w) :
    (Builtin.append_ #[T, tx] ty #[.slice none 0 0, vx]).run P w = .ok (.slice none 0 0) w := by
  obtain rfl : news = [] := List.eq_nil_of_length_eq_zero (by simpa using hs.newsLen)
  rcases hs.kind with ⟨e', hk⟩ | hk <;> simp [Builtin.append_, run_underlying hT, run_underlying hk, sizeOf, typeInfo, hi, hs.len, hs.cells, storeCells]
theorem srcK_eq {x : Src} {h : List (Nat × Blk)} {k : Cond → (Nat → List PL) → Prop} {w : World} {z m : Nat} {tx : TypeId} {vx : Value} (hx : SrcOK P (look h) w z m tx vx x) (hk : srcK x h k) :
    ∃ c g, k c g ∧ (c.holds → (∀ i, i < m → (g i).length = z) → ∃ news, _root_.Go.Src P z tx vx m news w ∧ SegV z m g news) := by
  cases x with
  | here g => exact ⟨.t, g, hk, fun _ _ => hx⟩
  | mem j f =>
    simp only [srcK] at hk
    split at hk
    · rename_i b hb
      split at hk
      · rename_i c g hg
        exact ⟨c, g, hk, fun hc hl => hx.2 b hb c g hg hc hl⟩
      · cases hk
    · cases hk
theorem KnOK.purge {kw : List (Nat × Bool)} {t : List AV} (h : KnOK kw t) (d : Nat) : KnOK kw (t.map (AV.purge d)) := by
  intro n b hn p hp
  rw [getT_map] at hp
  refine h n b hn p ?_
  cases hv : getT t n with
  | one l =>
    rw [hv] at hp
    cases l <;> simp only [AV.purge, L.purge] at hp <;> first | exact hp | (split at hp <;> simp at hp)
  | agg ls => rw [hv] at hp; simp [AV.purge] at hp
  | tup vs => rw [hv] at hp; simp [AV.purge] at hp
theorem inNs_no {i : Nat} : ∀ {l : List Nat}, inNs i l = false → i ∉ l
  | [], _ => by simp
  | j :: r, h => by
    simp only [inNs] at h
    split at h
    · cases h
    · rename_i hne
      have := Nat.ne_of_beq_eq_false hne
      simp only [List.mem_cons, not_or]
      exact ⟨this, inNs_no h⟩
theorem blt_no {a b : Nat} (h : Nat.blt a b = false) : b ≤ a := by
  refine Nat.le_of_not_lt fun hlt => ?_
  have := Nat.ble_eq_true_of_le hlt
  simp [Nat.blt, this] at h
theorem newNs_ge {b : Nat} : ∀ {l : List Nat}, ∀ i ∈ newNs b l, b ≤ i
  | [], i, h => by simp [newNs] at h
  | j :: r, i, h => by
    simp only [newNs] at h
    split at h
    · exact newNs_ge i h
    · rename_i hj
      split at h
      · exact newNs_ge i h
      · rcases List.mem_cons.1 h with rfl | h
        · exact blt_no hj
        · exact newNs_ge i h
theorem newNs_nil {b : Nat} : ∀ {l : List Nat}, newNs b l = [] → ∀ i ∈ l, i < b
  | [], _, i, h => by simp at h
  | j :: r, e, i, h => by
    simp only [newNs] at e
    split at e
    · rename_i hj
      rcases List.mem_cons.1 h with rfl | h
      · simpa using hj
      · exact newNs_nil e i h
    · split at e
      · rename_i hr
        have h0 : ∀ {l : List Nat}, inNs j l = true → j ∈ l := by
          intro l
          induction l with
          | nil => intro h; simp [inNs] at h
          | cons x l ih =>
            intro h
            simp only [inNs] at h
            split at h
            · rename_i hx
              have : j = x := by simpa using hx
              simp [this]
            · exact List.mem_cons_of_mem _ (ih h)
        have := newNs_nil e j (h0 hr)
        rename_i hj _
        have := blt_no hj
        omega
      · cases e
theorem nsLt_spec {b : Nat} : ∀ {l : List Nat}, nsLt b l = true → ∀ i ∈ l, i < b
  | [], _, i, h => by simp at h
  | j :: r, e, i, h => by
    simp only [nsLt] at e
    split at e
    · rename_i hj
      rcases List.mem_cons.1 h with rfl | h
      · simpa using hj
      · exact nsLt_spec e i h
    · cases e
theorem scopeLt_spec {b : Nat} : ∀ {h : List (Nat × Blk)}, scopeLt b h = true → ∀ i c, look h i = some c → ∀ m ∈ c.names, m < b
  | [], _, i, c, e, _, _ => by simp [look] at e
  | (j, d) :: r, e, i, c, hl, m, hm => by
    simp only [scopeLt] at e
    split at e
    · rename_i hv
      rw [look_eq_beq] at hl
      split at hl
      · obtain rfl := Option.some.inj hl; exact nsLt_spec hv m hm
      · exact scopeLt_spec e i c hl m hm
    · cases e
theorem allInN_spec {h : List (Nat × Blk)} : ∀ {l : List Nat}, allInN h l = true → ∀ m ∈ l, look h m ≠ none
  | [], _, m, hm => by simp at hm
  | i :: l, e, m, hm => by
    simp only [allInN] at e
    split at e
    · rename_i b hi
      rcases List.mem_cons.1 hm with rfl | hm
      · rw [hi]; simp
      · exact allInN_spec e m hm
    · cases e
theorem renHK_eq {α : Sort _} (i j : Nat) (hij : i ≠ j) : ∀ (l : List (Nat × Blk)) (k : List (Nat × Blk) → α), look l j = none → ∃ l', renHK i j l k = k l' ∧ ∀ m, look l' m = if m = j then look l i else if m = i then none else look l m
  | [], k, _ => ⟨[], rfl, fun m => by simp [look]⟩
  | (x, b) :: r, k, hj => by
    have e : renHK i j ((x, b) :: r) k = (match Nat.beq x i with
        | true => renHK i j r fun r => k ((j, b) :: r)
        | false => renHK i j r fun r => k ((x, b) :: r)) := rfl
    rw [look_eq_beq] at hj
    split at hj
    · cases hj
    rename_i hxj
    rw [e]
    split
    · rename_i hx
      have hx' : x = i := by simpa using hx
      subst hx'
      obtain ⟨l', h1, h2⟩ := renHK_eq x j hij r (fun r => k ((j, b) :: r)) hj
      refine ⟨_, h1, fun m => ?_⟩
      rw [look_eq_beq, look_eq_beq, look_eq_beq, h2]
      by_cases hm : m = j
      · subst hm; simp
      · by_cases hm2 : m = x
        · subst hm2; simp [hm, Ne.symm hm]
        · simp [hm, hm2, Ne.symm hm, Ne.symm hm2]
    · rename_i hx
      have hx' := Nat.ne_of_beq_eq_false hx
      obtain ⟨l', h1, h2⟩ := renHK_eq i j hij r (fun r => k ((x, b) :: r)) hj
      refine ⟨_, h1, fun m => ?_⟩
      rw [look_eq_beq, look_eq_beq, look_eq_beq, h2]
      by_cases hm : m = j
      · subst hm; simp [hxj, hx']
      · by_cases hm2 : m = i
        · subst hm2; simp [hm, hx']
        · simp [hm, hm2]
theorem ren_relL {ρ : Nat → Loc} {i j : Nat} {l : L} {v : Value} (h : RelL ρ l v) (hj : j ∉ l.names) : RelL (fun m => if m = j then ρ i else ρ m) (l.ren i j) v := by
  have keep : RelL (fun m => if m = j then ρ i else ρ m) l v := relL_agree h fun m hm => if_neg (fun e : m = j => hj (by rw [← e]; exact hm))
  cases l with
  | ptr x o =>
    simp only [L.ren]
    split
    · rename_i hx
      have : x = i := by simpa using hx
      subst this
      intro _; rw [h (by simp)]; simp [gL]
    · exact keep
  | slc x o n c =>
    simp only [L.ren]
    split
    · rename_i hx
      have : x = i := by simpa using hx
      subst this
      intro _; rw [h (by simp)]; simp [gL]
    · exact keep
  | rsl x n =>
    simp only [L.ren]
    split
    · rename_i hx
      have : x = i := by simpa using hx
      subst this
      intro _; rw [h (by simp)]; simp [gL]
    · exact keep
  | rsc x z k n =>
    simp only [L.ren]
    split
    · rename_i hx
      have : x = i := by simpa using hx
      subst this
      intro _; rw [h (by simp)]; simp [gL]
    · exact keep
  | imap x =>
    simp only [L.ren]
    split
    · rename_i hx
      have : x = i := by simpa using hx
      subst this
      intro _; rw [h (by simp)]; simp [gL]
    · exact keep
  | _ => exact keep
theorem ren_seg {i j : Nat} {l : L} : isSeg (l.ren i j) = isSeg l := by
  cases l <;> simp only [L.ren] <;> first | rfl | (split <;> rfl)
theorem ren_relLs {ρ : Nat → Loc} {i j : Nat} : ∀ {ls : List L} {vs : List Value}, RelLs ρ ls vs → j ∉ lnames ls → RelLs (fun m => if m = j then ρ i else ρ m) (renLs i j ls) vs
  | [], _, h, _ => h
  | l :: ls, vs, ⟨us, ws, e, h1, h2⟩, hj => by
    simp only [lnames, List.mem_append, not_or] at hj
    refine ⟨us, ws, e, ?_, ren_relLs h2 hj.2⟩
    cases hs : isSeg l with
    | true => cases l <;> simp [isSeg] at hs; exact h1
    | false =>
      obtain ⟨v, h3, h4⟩ := (relI_one hs).1 h1
      exact (relI_one (by rw [ren_seg, hs])).2 ⟨v, h3, ren_relL h4 hj.1⟩
theorem ren_relVs {ρ : Nat → Loc} {i j : Nat} : ∀ {ls : List (Bool × List L)} {vs : List Value}, RelVs ρ ls vs → j ∉ vnames ls → RelVs (fun m => if m = j then ρ i else ρ m) (renVs i j ls) vs
  | [], [], _, _ => trivial
  | (true, _) :: _, _ :: _, ⟨⟨cs, e, h1⟩, h2⟩, hj => by
    simp only [vnames, List.mem_append, not_or] at hj
    exact ⟨⟨cs, e, ren_relLs h1 hj.1⟩, ren_relVs h2 hj.2⟩
  | (false, [_]) :: _, _ :: _, ⟨h1, h2⟩, hj => by
    simp only [vnames, lnames, List.append_nil, List.mem_append, not_or] at hj
    exact ⟨ren_relL h1 hj.1, ren_relVs h2 hj.2⟩
  | [], _ :: _, h, _ => h.elim
  | (true, _) :: _, [], h, _ => h.elim
  | (false, []) :: _, [], h, _ => h.elim
  | (false, []) :: _, _ :: _, h, _ => h.elim
  | (false, _ :: _ :: _) :: _, [], h, _ => h.elim
  | (false, _ :: _ :: _) :: _, _ :: _, h, _ => h.elim
  | (false, [_]) :: _, [], h, _ => h.elim
theorem ren_relA {ρ : Nat → Loc} {i j : Nat} {v : AV} {u : Value} (h : RelA ρ v u) (hj : j ∉ v.names) : RelA (fun m => if m = j then ρ i else ρ m) (v.ren i j) u := by
  cases v with
  | one l => exact ren_relL h hj
  | agg ls => obtain ⟨cs, e, h⟩ := h; exact ⟨cs, e, ren_relLs h hj⟩
  | tup vs => obtain ⟨cs, e, h⟩ := h; exact ⟨cs, e, ren_relVs h hj⟩
/-- A block is borne by another name from now on. -/
theorem RelS.ren {ρ : Nat → Loc} {t : List AV} {h : Nat → Option Blk} {a : Act} {w : World} (R : RelS base w0 ρ ⟨t, h⟩ a w) {i j : Nat} (hij : i ≠ j) (hj : h j = none) (hnj : base.nm ≤ j) (hni : base.nm ≤ i)
    (ht : ∀ n, i ∉ (getT t n).names) (hb : ∀ m b, h m = some b → i ∉ b.names) {h' : Nat → Option Blk} (hh : ∀ m, h' m = if m = j then h i else if m = i then none else h m) :
    RelS base w0 (fun m => if m = j then ρ i else ρ m) ⟨t, h'⟩ a w := by
  have hjn : ∀ {l : List Nat}, (∀ m ∈ l, h m ≠ none) → j ∉ l := fun hl hm => hl j hm hj
  have hag : ∀ {l : List Nat}, (∀ m ∈ l, h m ≠ none) → ∀ m ∈ l, (fun m => if m = j then ρ i else ρ m) m = ρ m := fun hl m hm => if_neg (fun e : m = j => hjn hl (by rw [← e]; exact hm))
  have hto : ∀ m, m ≠ i → h m ≠ none → h' m ≠ none := fun m hm hs => by
    have hmj : m ≠ j := fun e => hs (e ▸ hj)
    rw [hh, if_neg hmj, if_neg hm]; exact hs
  have old : ∀ m b, h' m = some b → ∃ m0, h m0 = some b ∧ (if m = j then ρ i else ρ m) = ρ m0 ∧ ((m = j ∧ m0 = i) ∨ (m ≠ j ∧ m0 = m ∧ m ≠ i)) := fun m b hm => by
    rw [hh] at hm
    split at hm
    · rename_i e
      exact ⟨i, hm, if_pos e, .inl ⟨e, rfl⟩⟩
    · rename_i e
      split at hm
      · cases hm
      · rename_i e2
        exact ⟨m, hm, if_neg e, .inr ⟨e, rfl, e2⟩⟩
  refine ⟨R.defers, R.size, ⟨fun n => relA_agree (R.ctx.tmps n) (hag (R.ctx.names n)), fun m b hm => ?_, fun n m hm => hto m (fun e => ht n (e ▸ hm)) (R.ctx.names n m hm), fun m b hm x hx => ?_⟩, fun m c hm => ?_, fun m n c d hm hn ho e => ?_, R.below, R.base, fun m hm => ?_, R.far.to (Nat.le_refl _) (fun _ _ _ => rfl) fun m c h1 h2 => by obtain ⟨m0, h3, h4, _⟩ := old m c h1; exact .inr ⟨m0, c, h3, h2, congrArg Loc.b h4⟩⟩
  · obtain ⟨m0, h1, h2, _⟩ := old m b hm
    show RelB _ (if m = j then ρ i else ρ m) b w.heap[(if m = j then ρ i else ρ m).b]?
    rw [h2]
    exact relB_agree (R.ctx.heap m0 b h1) (hag (R.ctx.namesH m0 b h1))
  · obtain ⟨m0, h1, _, _⟩ := old m b hm
    exact hto x (fun e => hb m0 b h1 (e ▸ hx)) (R.ctx.namesH m0 b h1 x hx)
  · obtain ⟨m0, h1, h2, _⟩ := old m c hm
    show (c.own = true → base.b ≤ (if m = j then ρ i else ρ m).b) ∧ (c.own = false → (if m = j then ρ i else ρ m).b < base.b)
    rw [h2]; exact R.low m0 c h1
  · obtain ⟨m0, h1, h2, h3⟩ := old m c hm
    obtain ⟨n0, h4, h5, h6⟩ := old n d hn
    replace e : (if m = j then ρ i else ρ m).b = (if n = j then ρ i else ρ n).b := e
    rw [h2, h5] at e
    have := R.inj m0 n0 c d h1 h4 ho e
    rcases h3 with ⟨a1, a2⟩ | ⟨a1, a2, a3⟩ <;> rcases h6 with ⟨b1, b2⟩ | ⟨b1, b2, b3⟩
    · rw [a1, b1]
    · exact absurd (by rw [← b2, ← this, a2]) b3
    · exact absurd (by rw [← a2, this, b2]) a3
    · rw [← a2, this, b2]
  · obtain ⟨h1, h2, h3⟩ := R.frame m hm
    have hmj : m ≠ j := by omega
    have hmi : m ≠ i := by omega
    exact ⟨h1, hto m hmi h2, (if_neg hmj).trans h3⟩
theorem purge_namesLt {d b m : Nat} {c : Blk} (h : m ∈ (c.purge d).names) : m ∈ c.names := by
  cases c with
  | cells T ls => exact (purge_namesLs (show m ∈ lnames (purgeLs d ls) from h)).1
  | ro T ls => exact (purge_namesLs (show m ∈ lnames (purgeLs d ls) from h)).1
  | _ => exact h
theorem renK_eq {tp : Nat} (hnt : base.nm ≤ tp) {u : Value} {a : Act} {w : World} {kw : List (Nat × Bool)} : ∀ (l : List Nat) (d : Nat) (v : AV) (t : List AV) (h : List (Nat × Blk)) (k : AV → List AV → List (Nat × Blk) → Prop) (ρ : Nat → Loc),
    renK base.nm tp l d v t h k → (∀ i ∈ l, tp ≤ i) → RelS base w0 ρ ⟨t, look h⟩ a w → (∀ n, ∀ m ∈ (getT t n).names, m < tp) → (∀ m b, look h m = some b → ∀ x ∈ b.names, x < tp) → RelA ρ v u → KnOK kw t →
    ∃ v' t' h' ρ', k v' t' h' ∧ RelS base w0 ρ' ⟨t', look h'⟩ a w ∧ RelA ρ' v' u ∧ KnOK kw t'
  | [], d, v, t, h, k, ρ, hr, _, R, _, _, hv, hk => ⟨v, t, h, ρ, hr, R, hv, hk⟩
  | i :: l, d, v, t, h, k, ρ, hr, hge, R, ht, hb, hv, hk => by
    have e : renK base.nm tp (i :: l) d v t h k = (withName base.nm d fun j => match Nat.blt j tp, inNs j v.names with
      | true, false => purgeTK j t fun t => purgeHK j h fun h => renHK i j h fun h => forceA (v.ren i j) fun v => renK base.nm tp l (d + 1) v t h k
      | _, _ => Stuck "out") := rfl
    rw [e, withName_eq] at hr
    split at hr
    · rename_i hlt hin
      have hlt' : nameOf base.nm d < tp := by simpa using hlt
      have hi := hge i (by simp)
      rw [purgeTK_eq] at hr
      obtain ⟨h1, e1, e2⟩ := purgeHK_eq (nameOf base.nm d) h fun h => renHK i (nameOf base.nm d) h fun h => forceA (v.ren i (nameOf base.nm d)) fun v => renK base.nm tp l (d + 1) v (t.map (AV.purge (nameOf base.nm d))) h k
      rw [e1] at hr
      have R1 := R.purge (nameOf base.nm d) (nameOf_le _ _) e2
      have hj : look h1 (nameOf base.nm d) = none := by rw [e2, if_pos rfl]
      obtain ⟨h2, e3, e4⟩ := renHK_eq i (nameOf base.nm d) (by omega) h1 (fun h => forceA (v.ren i (nameOf base.nm d)) fun v => renK base.nm tp l (d + 1) v (t.map (AV.purge (nameOf base.nm d))) h k) hj
      rw [e3, forceA_eq] at hr
      have ht1 : ∀ n, ∀ m ∈ (getT (t.map (AV.purge (nameOf base.nm d))) n).names, m < tp := fun n m hm => by
        rw [getT_map] at hm
        exact ht n m (purge_namesA hm).1
      have hb1 : ∀ m b, look h1 m = some b → ∀ x ∈ b.names, x < tp := fun m b hm x hx => by
        rw [e2] at hm
        split at hm
        · cases hm
        · obtain ⟨b0, h5, rfl⟩ := Option.map_eq_some_iff.1 hm
          exact hb m b0 h5 x (purge_namesLt (b := 0) hx)
      have R2 := RelS.ren R1 (i := i) (j := nameOf base.nm d) (by omega) hj (nameOf_le _ _) (by omega) (fun n hm => by have := ht1 n i hm; omega) (fun m b hm hx => by have := hb1 m b hm i hx; omega) e4
      refine renK_eq hnt l (d + 1) _ _ h2 k _ hr (fun x hx => hge x (by simp [hx])) R2 ht1 (fun m b hm => ?_) (ren_relA hv (inNs_no hin)) (hk.purge _)
      rw [e4] at hm
      split at hm
      · exact hb1 i b hm
      · split at hm
        · cases hm
        · exact hb1 m b hm
    · cases hr
theorem outK_eq (hnm : base.nm = C.nm) {dst : Option Nat} {v : AV} {t : List AV} {h : List (Nat × Blk)} {k : AV → List AV → List (Nat × Blk) → Prop} {u : Value} {a : Act} {w : World} {ρ : Nat → Loc} {kw : List (Nat × Bool)}
    (ho : outK C dst v t h k) (R : RelS base w0 ρ ⟨t, look h⟩ a w) (ht : ∀ n, ∀ m ∈ (getT t n).names, m < C.tp) (hv : RelA ρ v u) (hn : ∀ m ∈ v.names, look h m ≠ none) (hk : KnOK kw t) :
    ∃ v' t' h' ρ', k v' t' h' ∧ RelS base w0 ρ' ⟨t', look h'⟩ a w ∧ RelA ρ' v' u ∧ (∀ m ∈ v'.names, look h' m ≠ none) ∧ KnOK kw t' := by
  unfold outK at ho
  split at ho
  · exact ⟨v, t, h, ρ, ho, R, hv, hn, hk⟩
  · rename_i i r hnew
    split at ho
    · cases ho
    · rename_i d hd
      split at ho
      · rename_i hs hle
        have hle' : base.nm ≤ C.tp := by rw [hnm]; simpa using hle
        rw [← hnm] at ho
        obtain ⟨v', t', h', ρ', h1, h2, h3, h4⟩ := renK_eq hle' _ _ _ _ _ _ ρ ho (fun x hx => by rw [← hnew] at hx; exact newNs_ge x hx) R ht (scopeLt_spec hs) hv hk
        split at h1
        · rename_i ha _
          exact ⟨v', t', h', ρ', h1, h2, h3, allInN_spec ha, h4⟩
        · cases h1
      · cases ho
theorem runOps_wp (hC : CSound P G C) (hG : G w0) (hb0 : base.b = w0.heap.size) (hnm : base.nm = C.nm) {ops : Array Oper} {Q : Exit → Act → World → Prop} :
    ∀ (r : List Oper) (kw : List (Nat × Bool)) (s : S) (k : List FP → S → Prop) (ρ : Nat → Loc) (a : Act) (w : World), KnOK kw s.t → runOps P C ops.toList r kw s k →
    RelS base w0 ρ s.abs a w → (∀ fps s' ρ a w, k fps s' → RelS base w0 ρ s'.abs a w → Q .normal a w) → wpList P ops Q r a w
  | [], kw, s, k, ρ, a, w, _, h, R, hQ => hQ [] s ρ a w h R
  | o :: r, kw, s, k, ρ, a, w, hk, h, R, hQ => by
    have step : ∀ {kw' : List (Nat × Bool)} {fp : FP} {s1 : S}, Step P C ops.toList o fp s.abs s1.abs → KnOK kw' s1.t → runOps P C ops.toList r kw' s1 (fun fps => k (fp :: fps)) → wpList P ops Q (o :: r) a w := by
      intro kw' fp s1 hst hk' h
      have := sim_step (Q := Q) (K := wpList P ops Q r) hC hG hb0 hnm hst R (fun ρ' a' w' R' => runOps_wp hC hG hb0 hnm r kw' s1 _ ρ' a' w' hk' h R' fun fps s' ρ a w h R => hQ (fp :: fps) s' ρ a w h R)
      unfold wpList
      split
      · rename_i hw; rw [if_pos hw] at this; exact .inl this
      · rename_i hw; rw [if_neg hw] at this; exact this
    obtain ⟨kw', hk', ⟨hw, h⟩ | ⟨hw, h⟩⟩ := runOps_split hk h
    · by_cases hap : ∃ c b e z m x, req P o.op s.t = some (c, .app b e z m x)
      · obtain ⟨c, bs, e, z, m, x, hr⟩ := hap
        unfold opK at h
        rw [hr] at h
        obtain ⟨hc, h⟩ := withC_eq h
        simp only [doK] at h
        split at h
        · cases h
        · split at h
          · cases h
          rename_i d hdst
          obtain ⟨T, tx, inf, zv, ty, vs, vx, hT, hi, hz, hsz, hzs, h0, hby, hsm, hrun, hvs, hsrc⟩ := req_ok R.ctx hr hc
          subst hsz
          obtain ⟨c', g, hk0, hg⟩ := srcK_eq hsrc h
          clear h
          obtain ⟨hc', h⟩ := withC_eq hk0
          clear hk0
          replace hg := hg hc'
          have go : ∀ {v' : Value} {w' : World} {ρ' : Nat → Loc} {s0 s1 : S} {l : AV} {fp : FP}, (Builtin.append_ #[T, tx] ty #[vs, vx]).run P w = .ok v' w' → s1.abs = s0.abs.put (some d) l → RelS base w0 ρ' s0.abs a w' → RelA ρ' l v' → (∀ n ∈ l.names, look s0.h n ≠ none) →
              KnOK kw' s0.t → runOps P C ops.toList r (kmove kw' o.op o.dst) s1 (fun fps => k (fp :: fps)) → wpList P ops Q (o :: r) a w := by
            intro v' w' ρ' s0 s1 l fp hrun' e1 R0 hrel hnm' hkn h
            unfold wpList
            rw [wanted_of R hw]
            simp only [if_true]
            refine .inl ?_
            unfold Oper.wp
            rw [hrun v' w' hrun', Oper.upon_value, hdst]
            have R' : RelS base w0 ρ' s1.abs (a.put (some d) v') w' := by
              rw [e1]
              exact R0.put (some d) hrel hnm'
            refine runOps_wp hC hG hb0 hnm r (kmove kw' o.op o.dst) s1 _ ρ' _ w' ?_ h R' fun fps s' ρ a w h R => hQ (_ :: fps) s' ρ a w h R
            have e2 : s1.t = (s0.abs.put (some d) l).t := by rw [← e1]; rfl
            rw [e2, hdst]
            refine kmove_other hkn (fun x e => ?_) (fun x e => ?_) (fun c x y e => ?_)
            · rw [e] at hr; simp [req] at hr
            · rw [e] at hr; simp [req] at hr
            · rw [e] at hr; simp only [req] at hr; split at hr <;> simp at hr
          cases bs with
          | some p =>
            obtain ⟨i, n⟩ := p
            dsimp only at h hvs hsm
            split at h
            · rename_i hle
              have hle' : base.nm ≤ i := by rw [hnm]; simpa using hle
              split at h
              · rename_i T' z' n' f hb
                split at h
                · rename_i hTe hzz
                  have hTe' : T' = e := by simpa using hTe
                  have hzz' : z' = inf.size := by simpa using hzz
                  subst hTe'
                  subst hzz'
                  have hx := withC_eq h
                  clear h
                  obtain ⟨hcond, h⟩ := hx
                  obtain ⟨rfl, hgl⟩ : n = n' ∧ ∀ j, j < m → (g j).length = inf.size := hcond
                  rw [purgeTK_eq] at h
                  obtain ⟨l', h1, h2⟩ := purgeHK_eq i s.h fun h => putK ⟨s.t.map (AV.purge i), (i, .row T' inf.size (n + m) (joinI n f g)) :: h⟩ (some d) (.one (.rsl i (n + m))) fun s => runOps P C ops.toList r (kmove kw' o.op o.dst) s fun fps => k ((true, [i]) :: fps)
                  replace h : purgeHK i s.h (fun h => putK ⟨s.t.map (AV.purge i), (i, .row T' inf.size (n + m) (joinI n f g)) :: h⟩ (some d) (.one (.rsl i (n + m))) fun s => runOps P C ops.toList r (kmove kw' o.op o.dst) s fun fps => k ((true, [i]) :: fps)) := by
                    exact h
                  rw [h1] at h
                  obtain ⟨s1, e1, h⟩ := putK_eq h
                  obtain ⟨news, hsr, hseg⟩ := hg hgl
                  obtain ⟨rfl, -⟩ := hvs
                  obtain ⟨v', w', ρ', hr1, hR1, hrel⟩ := app_some (P := P) R hT hi hz hzs h0 hby (ty := ty) hsm hb hle' (fun us vs h h' => h.joinI h') hsr hseg (h' := look l') h2
                  refine go (s0 := ⟨s.t.map (AV.purge i), (i, .row T' inf.size (n + m) (joinI n f g)) :: l'⟩) (l := .one (.rsl i (n + m))) hr1 e1 (by rw [show (S.abs ⟨s.t.map (AV.purge i), (i, .row T' inf.size (n + m) (joinI n f g)) :: l'⟩) = ⟨s.abs.t.map (AV.purge i), upd (look l') i (.row T' inf.size (n + m) (joinI n f g))⟩ by simp [S.abs, look_cons]]; exact hR1) hrel (by simp [AV.names, L.names, look_eq_beq]) (hk'.purge i) h
                · cases h
              · cases h
            · cases h
          | none =>
            dsimp only at h hvs hsm
            have hx := withC_eq h
            clear h
            obtain ⟨hgl, h⟩ := hx
            replace hgl : ∀ j, j < m → (g j).length = inf.size := hgl
            obtain ⟨news, hsr, hseg⟩ := hg hgl
            have hvs : vs = .slice none 0 0 := hvs
            subst hvs
            by_cases hm0 : m = 0
            · subst hm0
              replace h : putK s (some d) (.one (.raw (.slice none 0 0))) (fun s => runOps P C ops.toList r (kmove kw' o.op o.dst) s fun fps => k ((true, []) :: fps)) := h
              obtain ⟨s1, e1, h⟩ := putK_eq h
              exact go (s0 := s) (l := .one (.raw (.slice none 0 0))) (app_zero hT hi hsr) e1 R (fun _ => rfl) (by simp [AV.names, L.names]) hk' h
            · rw [show Nat.beq m 0 = false by cases hx : Nat.beq m 0 with | true => exact absurd (by simpa using hx) hm0 | false => rfl] at h
              dsimp only at h
              rw [withName_eq, purgeTK_eq] at h
              obtain ⟨l', h1, h2⟩ := purgeHK_eq (nameOf C.nm d) s.h fun h => putK ⟨s.t.map (AV.purge (nameOf C.nm d)), (nameOf C.nm d, .row e inf.size m g) :: h⟩ (some d) (.one (.rsl (nameOf C.nm d) m)) fun s => runOps P C ops.toList r (kmove kw' o.op o.dst) s fun fps => k ((true, [nameOf C.nm d]) :: fps)
              replace h : purgeHK (nameOf C.nm d) s.h (fun h => putK ⟨s.t.map (AV.purge (nameOf C.nm d)), (nameOf C.nm d, .row e inf.size m g) :: h⟩ (some d) (.one (.rsl (nameOf C.nm d) m)) fun s => runOps P C ops.toList r (kmove kw' o.op o.dst) s fun fps => k ((true, [nameOf C.nm d]) :: fps)) := by
                exact h
              rw [h1] at h
              obtain ⟨s1, e1, h⟩ := putK_eq h
              have hnm' : base.nm ≤ nameOf C.nm d := by rw [hnm]; exact nameOf_le _ _
              obtain ⟨v', w', ρ', hr1, hR1, hrel⟩ := app_none (P := P) R hT hi hz hzs h0 hby (ty := ty) (by simpa using hsm) hnm' hsr hseg (h' := look l') h2 hm0
              refine go (s0 := ⟨s.t.map (AV.purge (nameOf C.nm d)), (nameOf C.nm d, .row e inf.size m g) :: l'⟩) (l := .one (.rsl (nameOf C.nm d) m)) hr1 e1 (by rw [show (S.abs ⟨s.t.map (AV.purge (nameOf C.nm d)), (nameOf C.nm d, .row e inf.size m g) :: l'⟩) = ⟨s.abs.t.map (AV.purge (nameOf C.nm d)), upd (look l') (nameOf C.nm d) (.row e inf.size m g)⟩ by simp [S.abs, look_cons]]; exact hR1) hrel (by simp [AV.names, L.names, look_eq_beq]) (hk'.purge _) h
        · split at h
          · cases h
          rename_i d hdst
          obtain ⟨T, tx, inf, zv, ty, vs, vx, hT, hi, hz, hsz, hzs, h0, hby, hsm, hrun, hvs, hsrc⟩ := req_ok R.ctx hr hc
          subst hsz
          obtain ⟨c', g, hk0, hg⟩ := srcK_eq hsrc h
          clear h
          obtain ⟨hc', h⟩ := withC_eq hk0
          clear hk0
          replace hg := hg hc'
          have go : ∀ {v' : Value} {w' : World} {ρ' : Nat → Loc} {s0 s1 : S} {l : AV} {fp : FP}, (Builtin.append_ #[T, tx] ty #[vs, vx]).run P w = .ok v' w' → s1.abs = s0.abs.put (some d) l → RelS base w0 ρ' s0.abs a w' → RelA ρ' l v' → (∀ n ∈ l.names, look s0.h n ≠ none) →
              KnOK kw' s0.t → runOps P C ops.toList r (kmove kw' o.op o.dst) s1 (fun fps => k (fp :: fps)) → wpList P ops Q (o :: r) a w := by
            intro v' w' ρ' s0 s1 l fp hrun' e1 R0 hrel hnm' hkn h
            unfold wpList
            rw [wanted_of R hw]
            simp only [if_true]
            refine .inl ?_
            unfold Oper.wp
            rw [hrun v' w' hrun', Oper.upon_value, hdst]
            have R' : RelS base w0 ρ' s1.abs (a.put (some d) v') w' := by
              rw [e1]
              exact R0.put (some d) hrel hnm'
            refine runOps_wp hC hG hb0 hnm r (kmove kw' o.op o.dst) s1 _ ρ' _ w' ?_ h R' fun fps s' ρ a w h R => hQ (_ :: fps) s' ρ a w h R
            have e2 : s1.t = (s0.abs.put (some d) l).t := by rw [← e1]; rfl
            rw [e2, hdst]
            refine kmove_other hkn (fun x e => ?_) (fun x e => ?_) (fun c x y e => ?_)
            · rw [e] at hr; simp [req] at hr
            · rw [e] at hr; simp [req] at hr
            · rw [e] at hr; simp only [req] at hr; split at hr <;> simp at hr
          cases bs with
          | some p =>
            obtain ⟨i, n⟩ := p
            dsimp only at h hvs hsm
            split at h
            · rename_i hle
              have hle' : base.nm ≤ i := by rw [hnm]; simpa using hle
              split at h
              · rename_i T' z' n' f hb
                split at h
                · rename_i hTe hzz
                  have hTe' : T' = e := by simpa using hTe
                  have hzz' : z' = inf.size := by simpa using hzz
                  subst hTe'
                  subst hzz'
                  have hx := withC_eq h
                  clear h
                  obtain ⟨hcond, h⟩ := hx
                  obtain ⟨rfl, hf, hgl⟩ : n = n' ∧ (∀ j, (f j).length = inf.size) ∧ ∀ j, (g j).length = inf.size := hcond
                  rw [purgeTK_eq] at h
                  obtain ⟨l', h1, h2⟩ := purgeHK_eq i s.h fun h => putK ⟨s.t.map (AV.purge i), (i, .row T' inf.size (n + m) (joinF n f g)) :: h⟩ (some d) (.one (.rsl i (n + m))) fun s => runOps P C ops.toList r (kmove kw' o.op o.dst) s fun fps => k ((true, [i]) :: fps)
                  replace h : purgeHK i s.h (fun h => putK ⟨s.t.map (AV.purge i), (i, .row T' inf.size (n + m) (joinF n f g)) :: h⟩ (some d) (.one (.rsl i (n + m))) fun s => runOps P C ops.toList r (kmove kw' o.op o.dst) s fun fps => k ((true, [i]) :: fps)) := by
                    exact h
                  rw [h1] at h
                  obtain ⟨s1, e1, h⟩ := putK_eq h
                  obtain ⟨news, hsr, hseg⟩ := hg fun i _ => hgl i
                  obtain ⟨rfl, -⟩ := hvs
                  obtain ⟨v', w', ρ', hr1, hR1, hrel⟩ := app_some (P := P) R hT hi hz hzs h0 hby (ty := ty) hsm hb hle' (fun us vs h h' => h.join h' hf hgl) hsr hseg (h' := look l') h2
                  refine go (s0 := ⟨s.t.map (AV.purge i), (i, .row T' inf.size (n + m) (joinF n f g)) :: l'⟩) (l := .one (.rsl i (n + m))) hr1 e1 (by rw [show (S.abs ⟨s.t.map (AV.purge i), (i, .row T' inf.size (n + m) (joinF n f g)) :: l'⟩) = ⟨s.abs.t.map (AV.purge i), upd (look l') i (.row T' inf.size (n + m) (joinF n f g))⟩ by simp [S.abs, look_cons]]; exact hR1) hrel (by simp [AV.names, L.names, look_eq_beq]) (hk'.purge i) h
                · cases h
              · cases h
            · cases h
          | none =>
            dsimp only at h hvs hsm
            have hx := withC_eq h
            clear h
            obtain ⟨hgl, ⟨hA⟩, ⟨hB⟩⟩ := hx
            replace hgl : ∀ j, (g j).length = inf.size := hgl
            obtain ⟨news, hsr, hseg⟩ := hg fun i _ => hgl i
            have hvs : vs = .slice none 0 0 := hvs
            subst hvs
            by_cases hm0 : m = 0
            · subst hm0
              have h := hA rfl
              obtain ⟨s1, e1, h⟩ := putK_eq h
              exact go (s0 := s) (l := .one (.raw (.slice none 0 0))) (app_zero hT hi hsr) e1 R (fun _ => rfl) (by simp [AV.names, L.names]) hk' h
            · have h := hB (by cases hx : Nat.beq m 0 with | true => exact absurd (by simpa using hx) hm0 | false => rfl)
              rw [withName_eq, purgeTK_eq] at h
              obtain ⟨l', h1, h2⟩ := purgeHK_eq (nameOf C.nm d) s.h fun h => putK ⟨s.t.map (AV.purge (nameOf C.nm d)), (nameOf C.nm d, .row e inf.size m g) :: h⟩ (some d) (.one (.rsl (nameOf C.nm d) m)) fun s => runOps P C ops.toList r (kmove kw' o.op o.dst) s fun fps => k ((true, [nameOf C.nm d]) :: fps)
              replace h : purgeHK (nameOf C.nm d) s.h (fun h => putK ⟨s.t.map (AV.purge (nameOf C.nm d)), (nameOf C.nm d, .row e inf.size m g) :: h⟩ (some d) (.one (.rsl (nameOf C.nm d) m)) fun s => runOps P C ops.toList r (kmove kw' o.op o.dst) s fun fps => k ((true, [nameOf C.nm d]) :: fps)) := by
                exact h
              rw [h1] at h
              obtain ⟨s1, e1, h⟩ := putK_eq h
              have hnm' : base.nm ≤ nameOf C.nm d := by rw [hnm]; exact nameOf_le _ _
              obtain ⟨v', w', ρ', hr1, hR1, hrel⟩ := app_none (P := P) R hT hi hz hzs h0 hby (ty := ty) (by simpa using hsm) hnm' hsr hseg (h' := look l') h2 hm0
              refine go (s0 := ⟨s.t.map (AV.purge (nameOf C.nm d)), (nameOf C.nm d, .row e inf.size m g) :: l'⟩) (l := .one (.rsl (nameOf C.nm d) m)) hr1 e1 (by rw [show (S.abs ⟨s.t.map (AV.purge (nameOf C.nm d)), (nameOf C.nm d, .row e inf.size m g) :: l'⟩) = ⟨s.abs.t.map (AV.purge (nameOf C.nm d)), upd (look l') (nameOf C.nm d) (.row e inf.size m g)⟩ by simp [S.abs, look_cons]]; exact hR1) hrel (by simp [AV.names, L.names, look_eq_beq]) (hk'.purge _) h
      by_cases hin : ∃ c f args, req P o.op s.t = some (c, .call f args) ∧ C.fn f args (blks (look s.h) (anames args)) = none ∧ C.mkr f args (blks (look s.h) (anames args)) = none
      · obtain ⟨c, f, args, hr, hn, hmk⟩ := hin
        unfold opK at h
        rw [hr] at h
        obtain ⟨hc, h⟩ := withC_eq h
        simp only [doK, hn, hmk] at h
        split at h
        · rename_i hlt
          obtain ⟨us, hargs, hrun, hnames⟩ := req_ok R.ctx hr hc
          obtain ⟨⟨fn, hf, hname, hbody⟩, hcall⟩ := hC.inl f C.tp args s.h _ h (allLt_spec hlt) hnames
          have hn' : fn.name ≠ "runtime.NumGoroutine" := by simpa using hname
          have hb' : fn.body ≠ none := by intro e; simp [e] at hbody
          have h2 : (callFunc f us.toArray).run P w = .ok (.enter f us.toArray) w := by
            simp [callFunc, hf, hn', hb']
          have hgo := (hcall base.b w0 ρ us w hG hb0 hargs R.toH)
          unfold wpList
          rw [wanted_of R hw]
          simp only [if_true]
          refine .inl ?_
          unfold Oper.wp
          rw [hrun, h2, Oper.upon_enter]
          refine hgo.mono ?_
          rintro e w' ⟨v, h', u, ρ', hK, rfl, hrel, hvn, H, hkeep, hgr, hfk, hnew⟩
          obtain ⟨v2, t2, h2, ρ2, hK, R2, hrel2, hvn2, hk2⟩ := outK_eq hnm hK (R.back H hkeep hgr hfk hnew) (fun n m hm => allLt_spec hlt m (R.ctx.names n m hm)) hrel hvn hk'
          obtain ⟨s1, e1, hK⟩ := putK_eq hK
          have R' : RelS base w0 ρ2 s1.abs (a.put o.dst u) w' := by
            rw [e1]
            exact R2.put o.dst hrel2 hvn2
          refine runOps_wp hC hG hb0 hnm r (kmove kw' o.op o.dst) s1 _ ρ2 _ w' ?_ hK R' fun fps s' ρ a w h R => hQ (_ :: fps) s' ρ a w h R
          have e2 : s1.t = (AS.put ⟨t2, look h2⟩ o.dst v2).t := by
            have : s1.abs.t = ((S.abs ⟨t2, h2⟩).put o.dst v2).t := by rw [e1]
            cases hd : o.dst <;> simpa [S.abs, AS.put, hd] using this
          rw [e2]
          refine kmove_other (s := ⟨t2, look h2⟩) hk2 (fun x e => ?_) (fun x e => ?_) (fun c x y e => ?_)
          · rw [e] at hr; simp [req] at hr
          · rw [e] at hr; simp [req] at hr
          · rw [e] at hr; simp only [req] at hr; split at hr <;> simp at hr
        · cases h
      · obtain ⟨fp, s1, h1, h2, h3⟩ := opK_eq hw hk' (fun c f args e1 e2 e3 K _ => hin ⟨c, f, args, e1, e2, e3⟩) (fun c b e z m x hr => absurd ⟨c, b, e, z, m, x, hr⟩ hap) h
        exact step h1 h2 h3
    · obtain ⟨fp, s1, h1, h2, h3⟩ := skipK_eq hw hk' h
      exact step h1 h2 h3

def Ex.to : Ex → Exit
  | .normal => .normal
  | .ret => .ret
  | .exit n => .exit n
/-- What holds behind a piece of code. -/
def Post (base : Bs) (w0 : World) (Qa : Ex → S → Prop) : Exit → Act → World → Prop := fun e a w => ∃ x s ρ, e = Ex.to x ∧ Qa x s ∧ RelS base w0 ρ s.abs a w

theorem leT_cons (x : AV) (xs : List AV) (y : AV) (ys : List AV) : leT (x :: xs) (y :: ys) = (match y with
    | .one .junk => leT xs ys
    | y => forceA x fun x => forceA y fun y => Both (x = y) (leT xs ys)) := rfl
theorem leH_cons (h : List (Nat × Blk)) (i : Nat) (b : Blk) (r : List (Nat × Blk)) : leH h ((i, b) :: r) = (match look h i with
    | some c => forceB b fun b => Both (c = b) (leH h r)
    | none => Stuck "leH") := rfl
theorem leT_len : ∀ {t t' : List AV}, leT t t' → t.length = t'.length
  | [], [], _ => rfl
  | x :: t, y :: t', h => by
    rw [leT_cons] at h
    have : leT t t' := by
      split at h
      · exact h
      · rw [forceA_eq, forceA_eq] at h; obtain ⟨_, h⟩ := h; exact h
    simp [leT_len this]
  | [], _ :: _, h => h.elim
  | _ :: _, [], h => h.elim
theorem leT_get : ∀ {t t' : List AV}, leT t t' → ∀ n, getT t' n = .one .junk ∨ getT t n = getT t' n
  | [], [], _, n => .inl rfl
  | x :: t, y :: t', h, n => by
    rw [leT_cons] at h
    cases n with
    | zero =>
      split at h
      · exact .inl rfl
      · rw [forceA_eq, forceA_eq] at h; obtain ⟨h, _⟩ := h; exact .inr h
    | succ n =>
      have : leT t t' := by
        split at h
        · exact h
        · rw [forceA_eq, forceA_eq] at h; obtain ⟨_, h⟩ := h; exact h
      exact leT_get this n
  | [], _ :: _, h, _ => h.elim
  | _ :: _, [], h, _ => h.elim
theorem leH_get {h : List (Nat × Blk)} : ∀ {h' : List (Nat × Blk)}, leH h h' → ∀ i b, look h' i = some b → look h i = some b
  | [], _, i, b, e => by simp [look] at e
  | (j, c) :: r, hl, i, b, e => by
    rw [leH_cons] at hl
    split at hl
    · rename_i c' hc'
      rw [forceB_eq] at hl
      obtain ⟨h1, h2⟩ := hl
      rw [look_eq_beq] at e
      split at e
      · rename_i hj; subst hj; obtain rfl := Option.some.inj e; rw [hc', h1]
      · exact leH_get h2 i b e
    · cases hl
theorem allIn_spec {h : List (Nat × Blk)} : ∀ {l : List Nat}, allIn h l = true → ∀ m ∈ l, look h m ≠ none
  | [], _, m, hm => by simp at hm
  | i :: l, e, m, hm => by
    simp only [allIn] at e
    split at e
    · rename_i hi
      rcases List.mem_cons.1 hm with rfl | hm
      · intro hn; rw [hn] at hi; simp [isSomeB] at hi
      · exact allIn_spec e m hm
    · cases e
theorem scopeT_spec {h : List (Nat × Blk)} : ∀ {t : List AV}, scopeT h t = true → ∀ n, ∀ m ∈ (getT t n).names, look h m ≠ none
  | [], _, n, m, hm => by simp [getT, AV.names, L.names] at hm
  | v :: t, e, n, m, hm => by
    simp only [scopeT] at e
    split at e
    · rename_i hv
      cases n with
      | zero => exact allIn_spec hv m hm
      | succ n => exact scopeT_spec e n m hm
    · cases e
theorem scopeH_spec {h : List (Nat × Blk)} : ∀ {r : List (Nat × Blk)}, scopeH h r = true → ∀ i b, look r i = some b → ∀ m ∈ b.names, look h m ≠ none
  | [], _, i, b, e, _, _ => by simp [look] at e
  | (j, c) :: r, e, i, b, hl, m, hm => by
    simp only [scopeH] at e
    split at e
    · rename_i hv
      rw [look_eq_beq] at hl
      split at hl
      · obtain rfl := Option.some.inj hl; exact allIn_spec hv m hm
      · exact scopeH_spec e i b hl m hm
    · cases e
theorem keepH_spec {nm : Nat} {g : List (Nat × Blk)} : ∀ {l : List (Nat × Blk)}, keepH nm g l = true → ∀ i, i < nm → look l i ≠ none → look g i ≠ none
  | [], _, i, _, h => by simp [look] at h
  | (j, c) :: r, e, i, hi, h => by
    simp only [keepH] at e
    rw [look_eq_beq] at h
    split at e
    · split at e
      · rename_i hs
        split at h
        · rename_i he; subst he
          cases hg : look g j with
          | none => rw [hg] at hs; simp [isSomeB] at hs
          | some b => simp
        · exact keepH_spec e i hi h
      · cases e
    · rename_i hj
      have hj' : ¬ j < nm := by
        intro hlt
        have := Nat.ble_eq_true_of_le hlt
        simp [Nat.blt, this] at hj
      split at h
      · rename_i he; subst he; exact absurd hi hj'
      · exact keepH_spec e i hi h
theorem RelS.le {ρ : Nat → Loc} {s t : S} {a : Act} {w : World} (R : RelS base w0 ρ s.abs a w) (h : Le base.nm s t) : RelS base w0 ρ t.abs a w := by
  have hh : ∀ i, look t.h i ≠ none → look s.h i ≠ none := fun i hi => by
    cases hb : look t.h i with
    | none => exact absurd hb hi
    | some b => rw [leH_get h.heap i b hb]; simp
  refine ⟨R.defers, R.size.trans (leT_len h.tmps), ⟨fun n => ?_, fun i b hb => R.ctx.heap i b (leH_get h.heap i b hb), scopeT_spec h.names, scopeH_spec h.namesH⟩,
    fun i c hi => R.low i c (leH_get h.heap i c hi), fun i j c d hi hj ho e => R.inj i j c d (leH_get h.heap i c hi) (leH_get h.heap j d hj) ho e, R.below, R.base,
    fun m hm => ⟨(R.frame m hm).1, keepH_spec h.keep m (R.frame m hm).1 (R.frame m hm).2.1, (R.frame m hm).2.2⟩, R.far.to (Nat.le_refl _) (fun _ _ _ => rfl) fun i c h1 h2 => .inr ⟨i, c, leH_get h.heap i c h1, h2, rfl⟩⟩
  rcases leT_get h.tmps n with e | e
  · show RelA ρ (getT t.t n) _
    rw [e]; exact fun hn => absurd rfl hn
  · show RelA ρ (getT t.t n) _
    rw [← e]; exact R.ctx.tmps n

theorem purgeAll_eq {mks : List Nat} {ρ : Nat → Loc} {a : Act} {w : World} : ∀ (ops : List Oper) (s : S) (k : S → Prop), purgeAll base.nm mks ops s k → RelS base w0 ρ s.abs a w → ∃ s', k s' ∧ RelS base w0 ρ s'.abs a w
  | [], s, k, h, R => ⟨s, h, R⟩
  | o :: ops, s, k, h, R => by
    have e : purgeAll base.nm mks (o :: ops) s k = (match newNm mks o with
      | none => purgeAll base.nm mks ops s k
      | some d => withName base.nm d fun i => match look s.h i with
        | none => purgeAll base.nm mks ops s k
        | some _ => purgeTK i s.t fun t => purgeHK i s.h fun h => purgeAll base.nm mks ops ⟨t, h⟩ k) := rfl
    rw [e] at h
    split at h
    · exact purgeAll_eq ops s k h R
    · rename_i d hd
      rw [withName_eq] at h
      split at h
      · exact purgeAll_eq ops s k h R
      · rw [purgeTK_eq] at h
        obtain ⟨l', h1, h2⟩ := purgeHK_eq (nameOf base.nm d) s.h fun h => purgeAll base.nm mks ops ⟨s.t.map (AV.purge (nameOf base.nm d)), h⟩ k
        rw [h1] at h
        exact purgeAll_eq ops _ k h (R.purge _ (nameOf_le _ _) h2)
theorem least {p : Nat → Prop} (h : ∃ n, p n) : ∃ n, p n ∧ ∀ m, p m → n ≤ m := by
  obtain ⟨n, hn⟩ := h
  induction n using Nat.strongRecOn with
  | _ n ih =>
    by_cases hm : ∃ m, m < n ∧ p m
    · obtain ⟨m, hlt, hp⟩ := hm; exact ih m hlt hp
    · exact ⟨n, hn, fun m hp => Nat.le_of_not_lt fun hlt => hm ⟨m, hlt, hp⟩⟩

theorem stillF_spec : ∀ {fps : List FP}, stillF fps = true → ∀ fp ∈ fps, fp.1 = false
  | [], _, fp, h => by simp at h
  | (true, _) :: _, h, _, _ => by cases h
  | (false, l) :: r, h, fp, hm => by
    have h : stillF r = true := h
    rcases List.mem_cons.1 hm with rfl | hm
    · rfl
    · exact stillF_spec h fp hm
/-- Operations that leave the world as it is. -/
theorem still_of (hC : CSound P G C) (hG : G w0) (hb0 : base.b = w0.heap.size) (hnm : base.nm = C.nm) {ops : Array Oper} {Lq : Act → Prop} {w : World} :
    ∀ (l : List Oper) (fps : List FP) (s s' : AS) (ρ : Nat → Loc) (a : Act), LexRun P (stillT C) ops.toList l fps s s' → (∀ fp ∈ fps, fp.1 = false) → RelS base w0 ρ s a w → (∀ a', RelS base w0 ρ s' a' w → Lq a') → wpStill P ops w Lq l a
  | [], [], s, s', ρ, a, h, _, R, hq => by obtain rfl : s' = s := h; exact hq a R
  | o :: l, fp :: fps, s, s', ρ, a, ⟨s1, hst, hrest⟩, hf, R, hq => by
    have hfp := hf fp (by simp)
    obtain ⟨dv, hw, hy, hs'⟩ := hst
    have go : ∀ {u : Value} , RelS base w0 ρ s1 (a.put o.dst u) w → wpStill P ops w Lq l (a.put o.dst u) := fun R' => still_of hC hG hb0 hnm l fps s1 s' ρ _ hrest (fun fp h => hf fp (by simp [h])) R' hq
    unfold wpStill
    unfold Yields at hy
    split at hy
    · exact hy.elim
    · rename_i hw'
      rw [wanted_of R hw']
      simp only [if_true]
      obtain ⟨c, r, hr, hc, hd⟩ := hy
      have hq' := req_ok R.ctx hr hc
      unfold Oper.still
      cases r with
      | val v =>
        obtain ⟨u, hrun, hrel, hn⟩ := hq'
        obtain ⟨-, rfl, rfl⟩ := hd
        rw [eff_none] at hs'; subst hs'
        rw [hrun, Oper.stillUpon_value]
        exact go (R.put _ hrel hn)
      | rd i k =>
        obtain ⟨-, rfl, b, c', hb, hk, hcc⟩ := hd
        rw [eff_none] at hs'; subst hs'
        obtain ⟨u, hrun, hrel, hn⟩ := hq'.2 b hb c' dv hk hcc
        rw [hrun, Oper.stillUpon_value]
        exact go (R.put _ hrel hn)
      | wr i k => obtain ⟨rfl, _⟩ := hd; cases hfp
      | new b nv => obtain ⟨d, _, rfl, _⟩ := hd; cases hfp
      | call f args => rcases hd with ⟨_, _, c', e, _⟩ | ⟨_, _, _, _, _, _, e, _⟩ <;> cases e
      | glob T g off =>
        obtain ⟨-, rfl, hv⟩ := hd
        rw [eff_none] at hs'; subst hs'
        have hGw : G w := hC.stable w0 w hG (hb0 ▸ R.below)
        obtain ⟨hvn, hl⟩ := hC.globs T g off dv hv
        obtain ⟨u, hu, hrel⟩ := hl w hGw
        rw [hq' u hu, Oper.stillUpon_value]
        exact go (R.put _ (hrel ρ) (by rw [hvn]; simp))
      | look T ok g b key =>
        obtain ⟨-, rfl, c', hv, hc'⟩ := hd
        rw [eff_none] at hs'; subst hs'
        have hGw : G w := hC.stable w0 w hG (hb0 ▸ R.below)
        obtain ⟨hvn, hl⟩ := hC.looks T ok g b key c' dv hv hc'
        obtain ⟨k, hk, hrun⟩ := hq'
        obtain ⟨u, hu, hrel⟩ := hl w hGw ρ k hk
        rw [hrun u hu, Oper.stillUpon_value]
        exact go (R.put _ hrel (by rw [hvn]; simp))
      | pick b x y =>
        obtain ⟨-, rfl, rfl⟩ := hd
        rw [eff_none] at hs'; subst hs'
        obtain ⟨u, hrun, hrel, hn⟩ := hq'
        rw [hrun, Oper.stillUpon_value]
        exact go (R.put _ hrel hn)
      | app _ _ _ _ _ => exact hd.elim
    · rename_i hw'
      rw [wanted_of R hw']
      simp only [Bool.false_eq_true, if_false]
      obtain ⟨-, rfl, rfl⟩ := hy
      rw [eff_none] at hs'; subst hs'
      exact go (R.put _ (fun _ => rfl) (by simp [AV.names, L.names]))
  | [], _ :: _, _, _, _, _, h, _, _, _ => h.elim
  | _ :: _, [], _, _, _, _, h, _, _, _ => h.elim
theorem region_sound (hC : CSound P G C) (hG : G w0) (hb0 : base.b = w0.heap.size) (hnm : base.nm = C.nm) (hm : P.follows .mixedOrders = true) {id : Nat} {ops : Array Oper} {draw : Bool} {s : S} {Qa : Ex → S → Prop}
    (h : E P C (.region id ops draw) s Qa) {ρ : Nat → Loc} {a : Act} {w : World} (R : RelS base w0 ρ s.abs a w) : (Code.region id ops draw).wp P (Post base w0 Qa) a w := by
    have h : purgeAll C.nm C.mks ops.toList s fun s => match (generalizing := false) draw with
      | false => runOps P C ops.toList ops.toList [] s fun _ s => Qa .normal s
      | true => match (generalizing := false) headOf C.im ops.toList with
        | none => runOps P (noInl C) ops.toList ops.toList [] s fun fps s => match (generalizing := false) okFrom 0 ops.toList fps with
          | true => Both (Ob (Region.lexB .any ops = true)) (Qa .normal s)
          | false => Stuck "order"
        | some n => match (generalizing := false) midT (ops.toList.drop (n + 1)) with
          | false => Both (Ob (Region.tailB ops n = true)) (runOps P (stillT C) ops.toList (ops.toList.take n) [] s fun fps s => match (generalizing := false) stillF fps with
            | true => runOps P C ops.toList (ops.toList.drop n) [] s fun _ s => Qa .normal s
            | false => Stuck "still")
          | true => Both (Ob (Region.midB .any ops n = true)) (runOps P (stillT C) ops.toList (ops.toList.take n) [] s fun fps s => match (generalizing := false) stillF fps with
            | true => runOps P C ops.toList ((ops.toList.drop n).take 1) [] s fun _ s => runOps P (noInl C) ops.toList (ops.toList.drop (n + 1)) [] s fun fps s => match (generalizing := false) okFrom (n + 1) (ops.toList.drop (n + 1)) fps with
              | true => Qa .normal s
              | false => Stuck "order"
            | false => Stuck "still") := h
    rw [← hnm] at h
    obtain ⟨s, h, R⟩ := purgeAll_eq (a := a) (w := w) ops.toList s _ h R
    cases draw with
    | false =>
      exact wp_region_list (runOps_wp hC hG hb0 hnm ops.toList [] s _ ρ a w (KnOK.nil _) h R fun fps s' ρ a w h R' => ⟨.normal, s', ρ, rfl, h, R'⟩)
    | true =>
     cases hhd : headOf C.im ops.toList with
     | some n =>
      rw [hhd] at h
      dsimp only at h
      cases hmt : midT (ops.toList.drop (n + 1)) with
      | true =>
        rw [hmt] at h
        obtain ⟨⟨hB⟩, h⟩ := h
        obtain ⟨fps, s', hrun, hlen, h⟩ := runOps_eq (C := stillT C) (fun _ _ _ _ _ h => by cases h) rfl (ops.toList.take n) [] s _ (KnOK.nil _) h
        split at h
        · rename_i hst
          have hB' : Region.midB .any ops.toList.toArray n = true := by simpa using hB
          have hn : n < ops.toList.length := by
            simp only [Region.midB, Bool.and_eq_true, decide_eq_true_eq] at hB'
            simpa using hB'.1.1.1.2
          have hlx : Region.lexFrom .any ops (ops.size - (n + 1)) (n + 1) (doneTo (n + 1) ops.size) = true := by
            simp only [Region.midB, Bool.and_eq_true] at hB
            exact hB.2
          have hd1 : (ops.toList.drop n).take 1 = [ops.toList[n]] := by rw [List.drop_eq_getElem_cons hn]; rfl
          have hgo := wp_region_midA (P := P) (id := id) (Q := Post base w0 Qa) (a := a) (w := w) (l := ops.toList) n hm hB' (still_of (ops := ops.toList.toArray) hC hG hb0 hnm (ops.toList.take n) fps s.abs s'.abs ρ a (by simpa using hrun) (stillF_spec hst) (R.later ((Below.refl _ _).drew))
            fun a' R' => by
              have h1 := runOps_wp (ops := ops.toList.toArray) (Q := fun e a2 w2 => match e with | .normal => wpAny P .any ops.toList.toArray (Post base w0 Qa) (ops.toList.toArray.size - (n + 1)) (doneTo (n + 1) ops.toList.toArray.size) a2 w2 | e => Post base w0 Qa e a2 w2) hC hG hb0 hnm ((ops.toList.drop n).take 1) [] s' _ ρ a' _ (KnOK.nil _) (by simpa using h) R' (fun _ s2 ρ2 a2 w2 h2 R2 => by
                obtain ⟨fps2, s3, hrun2, hlen2, h3⟩ := runOps_eq (C := noInl C) (fun _ _ _ _ _ h => by cases h) rfl (ops.toList.drop (n + 1)) [] s2 _ (KnOK.nil _) h2
                split at h3
                · rename_i hok
                  have hlen' : fps2.length = ops.size - (n + 1) := by simpa using hlen2
                  have hany := any_lex (P := P) (C := noInl C) (ops := ops) (FT := fun j => (fps2[j - (n + 1)]?).getD (false, [])) (K := fun x => x = s3.abs) (ops.toList.drop (n + 1)) fps2 (n + 1) (doneTo (n + 1) ops.size) s2.abs s3.abs
                    (fun j => by simp [List.getElem?_drop]) (fun j hj => by
                      have hj' : j < fps2.length := by rw [hlen2]; exact hj
                      simp [hj'])
                    (fun j hj hjs => doneTo_un hj hjs) (fun j hj => doneTo_do _ hj) (midB_closed hB) (by simpa using hlx) hok hrun2 rfl
                  have := any_sound (C := noInl C) (hC.inl' (InlOK.none P G) .no C.nm C.tp [] C.mks) hG hb0 hnm (K := fun x => x = s3.abs) (Q := Post base w0 Qa) (fun s1 ρ a w hs R' => ⟨.normal, s3, ρ, rfl, h3, by rw [← hs]; exact R'⟩) _ _ s2.abs ρ2 a2 w2 (by simpa using hany) R2
                  simpa using this
                · cases h3)
              rw [hd1] at h1
              unfold wpOp
              simp only [List.getElem?_toArray, List.getElem?_eq_getElem hn]
              exact h1)
          simpa using hgo
        · cases h
      | false =>
      rw [hmt] at h
      obtain ⟨⟨hB⟩, h⟩ := h
      obtain ⟨fps, s', hrun, hlen, h⟩ := runOps_eq (C := stillT C) (fun _ _ _ _ _ h => by cases h) rfl (ops.toList.take n) [] s _ (KnOK.nil _) h
      split at h
      · rename_i hst
        have hB' : Region.tailB ops.toList.toArray n = true := by simpa using hB
        have hgo := wp_region_tail (P := P) (id := id) (Q := Post base w0 Qa) (fun _ _ _ ⟨x, _, _, e, _⟩ => by cases x <;> cases e) (fun ⟨_, _, x, _, _, e, _⟩ => by cases x <;> cases e) (a := a) (w := w) (l := ops.toList) n hm hB' (still_of (ops := ops.toList.toArray) hC hG hb0 hnm (ops.toList.take n) fps s.abs s'.abs ρ a (by simpa using hrun) (stillF_spec hst) (R.later ((Below.refl _ _).drew))
          fun a' R' => runOps_wp (ops := ops.toList.toArray) hC hG hb0 hnm (ops.toList.drop n) [] s' _ ρ a' _ (KnOK.nil _) (by simpa using h) R' fun fps s' ρ a w h R' => ⟨.normal, s', ρ, rfl, h, R'⟩)
        simpa using hgo
      · cases h
     | none =>
      rw [hhd] at h
      obtain ⟨fps, s', hrun, hlen, h⟩ := runOps_eq (C := noInl C) (fun _ _ _ _ _ h => by cases h) rfl ops.toList [] s _ (KnOK.nil _) h
      split at h
      · rename_i hok
        obtain ⟨⟨hB⟩, h⟩ := h
        simp only [Region.lexB, Bool.and_eq_true] at hB
        have hlen' : fps.length = ops.size := by simpa using hlen
        have hany := any_lex (P := P) (C := noInl C) (ops := ops) (FT := fun j => (fps[j]?).getD (false, [])) (K := fun x => x = s'.abs) ops.toList fps 0 (Array.replicate ops.size false) s.abs s'.abs
          (fun j => by simp) (fun j hj => by
            have hj' : j < fps.length := by simp at hj; omega
            simp [List.getElem?_eq_getElem hj'])
          (fun j _ hj => by simp [hj]) (fun j hj => by omega) ClosedL.start (by simpa using hB.2) hok hrun rfl
        refine wp_region_any hm (any_sound (C := noInl C) (hC.inl' (InlOK.none P G) .no C.nm C.tp [] C.mks) hG hb0 hnm (fun s1 ρ a w hs R' => ⟨.normal, s', ρ, rfl, h, by rw [← hs]; exact R'⟩) _ _ s.abs ρ a _ (by simpa using hany) ?_)
        exact R.later ((Below.refl _ _).drew)
      · cases h
theorem purge_none {mks : List Nat} : ∀ (l : List Oper) (nm : Nat) (s : S) (k : S → Prop), (∀ o ∈ l, newNm mks o = none) → k s → purgeAll nm mks l s k
  | [], _, _, _, _, h => h
  | o :: l, nm, s, k, hn, h => by
    have e : purgeAll nm mks (o :: l) s k = (match newNm mks o with
      | none => purgeAll nm mks l s k
      | some d => withName nm d fun i => match look s.h i with
        | none => purgeAll nm mks l s k
        | some _ => purgeTK i s.t fun t => purgeHK i s.h fun h => purgeAll nm mks l ⟨t, h⟩ k) := rfl
    rw [e, hn o (by simp)]
    exact purge_none l nm s k (fun o ho => hn o (by simp [ho])) h
theorem okDst_spec {mks cs : List Nat} {o : Oper} (h : okDst mks cs o = true) : newNm mks o = none ∧ ∃ d, o.dst = some d ∧ (∀ x y z, o.op ≠ .pick x y z) := by
  unfold okDst at h
  split at h
  · cases h
  · rename_i d hd
    refine ⟨?_, d, hd, ?_⟩
    · unfold newNm newName
      split at h <;> (try split at h) <;> simp_all
    · intro x y z e
      rw [e] at h
      cases h
theorem pureOps_run {cs : List Nat} : ∀ (l : List Oper) (s : S) (k : List FP → S → Prop) (no : Prop), pureOps P C cs l s k no → no ∨ ∃ fps s', k fps s' ∧ s'.h = s.h ∧ s'.t.length = s.t.length ∧
    (∀ n, n ∉ dstsOps l → getT s'.t n = getT s.t n) ∧ (∀ o ∈ l, newNm C.mks o = none) ∧ ∀ (C' : Table), C'.fn = C.fn → ∀ (all : List Oper) (kw : List (Nat × Bool)) (k' : List FP → S → Prop), k' fps s' → runOps P C' all l kw s k'
  | [], s, k, no, h => .inr ⟨[], s, h, rfl, rfl, fun _ _ => rfl, by simp, fun _ _ _ _ _ h => h⟩
  | o :: l, s, k, no, h => by
    have e : pureOps P C cs (o :: l) s k no = (match o.guard with
      | some _ => no
      | none => match okDst C.mks cs o with
        | false => no
        | true => match req P o.op s.t with
          | some (.t, .val v) => putK s o.dst v fun s => pureOps P C cs l s (fun fps => k ((false, []) :: fps)) no
          | some (.t, .rd i f) => match look s.h i with
            | some b => match f b with
              | some (.t, v) => putK s o.dst v fun s => pureOps P C cs l s (fun fps => k ((false, [i]) :: fps)) no
              | _ => no
            | none => no
          | some (.t, .call f args) => match C.fn f args (blks (look s.h) (anames args)) with
            | some (.t, v) => putK s o.dst v fun s => pureOps P C cs l s (fun fps => k ((false, anames args) :: fps)) no
            | _ => no
          | _ => no) := rfl
    rw [e] at h
    split at h
    · exact .inl h
    rename_i hg
    split at h
    · exact .inl h
    rename_i hok
    obtain ⟨hnew, d, hd, hpick⟩ := okDst_spec hok
    have fin : ∀ (fp : FP) (v : AV), pureOps P C cs l ⟨s.t.set d v, s.h⟩ (fun fps => k (fp :: fps)) no →
        (∀ (C' : Table), C'.fn = C.fn → ∀ (kw : List (Nat × Bool)) (kk : FP → S → Prop), kk fp ⟨s.t.set d v, s.h⟩ → opK P C' kw o s kk) →
        no ∨ ∃ fps s', k fps s' ∧ s'.h = s.h ∧ s'.t.length = s.t.length ∧
    (∀ n, n ∉ dstsOps (o :: l) → getT s'.t n = getT s.t n) ∧ (∀ o' ∈ o :: l, newNm C.mks o' = none) ∧ ∀ (C' : Table), C'.fn = C.fn → ∀ (all : List Oper) (kw : List (Nat × Bool)) (k' : List FP → S → Prop), k' fps s' → runOps P C' all (o :: l) kw s k' := by
      intro fp v h hop
      rcases pureOps_run l _ _ no h with h | ⟨fps, s', h1, h2, h3, h4, h5, h6⟩
      · exact .inl h
      refine .inr ⟨fp :: fps, s', h1, h2, by simpa using h3, fun n hn => ?_, ?_, fun C' hC' all kw k' hk' => ?_⟩
      · simp only [dstsOps, hd, List.mem_cons, not_or] at hn
        rw [h4 n hn.2, getT_set, if_neg (fun e => hn.1 e.1)]
      · intro o' ho'
        rcases List.mem_cons.1 ho' with rfl | ho'
        · exact hnew
        · exact h5 o' ho'
      · rw [runOps_cons, hg]
        refine hop C' hC' kw _ ?_
        rw [forceK_eq]
        exact h6 C' hC' all _ _ hk'
    split at h
    · rename_i v hr
      simp only [putK, nxK_eq, hd, forceA_eq, setK_eq] at h
      refine fin _ v h fun C' hC' kw kk hkk => ?_
      unfold opK
      rw [hr]
      simp only [withC, doK, putK, nxK_eq, hd, forceA_eq, setK_eq]
      exact hkk
    · rename_i i f hr
      split at h
      · rename_i b hb
        split at h
        · rename_i v hv
          simp only [putK, nxK_eq, hd, forceA_eq, setK_eq] at h
          refine fin _ v h fun C' hC' kw kk hkk => ?_
          unfold opK
          rw [hr]
          simp only [withC, doK, hb, hv, putK, nxK_eq, hd, forceA_eq, setK_eq]
          exact hkk
        · exact .inl h
      · exact .inl h
    · rename_i f args hr
      split at h
      · rename_i v hv
        simp only [putK, nxK_eq, hd, forceA_eq, setK_eq] at h
        refine fin _ v h fun C' hC' kw kk hkk => ?_
        unfold opK
        rw [hr]
        simp only [withC, doK, hC', hv, forceNs_eq, putK, nxK_eq, hd, forceA_eq, setK_eq]
        exact hkk
      · exact .inl h
    · exact .inl h
theorem junkK_eq : ∀ (ds : List Nat) (t : List AV) (k : List AV → Prop), junkK ds t k → ∃ t', k t' ∧ t'.length = t.length ∧ ∀ n, getT t' n = if n ∈ ds then .one .junk else getT t n
  | [], t, k, h => ⟨t, h, rfl, fun n => by simp⟩
  | d :: ds, t, k, h => by
    have e : junkK (d :: ds) t k = setK t d (.one .junk) fun t => junkK ds t k := rfl
    rw [e, setK_eq] at h
    obtain ⟨t', h1, h2, h3⟩ := junkK_eq ds _ k h
    refine ⟨t', h1, by simpa using h2, fun n => ?_⟩
    rw [h3, getT_set]
    by_cases hn : n ∈ ds
    · simp [hn]
    · by_cases hd : n = d
      · subst hd
        simp only [hn, if_false, List.mem_cons, true_or, if_true]
        by_cases hl : n < t.length
        · simp [hl]
        · have : getT t n = .one .junk := by
            have key : ∀ (t : List AV) (n : Nat), t.length ≤ n → getT t n = .one .junk := by
              intro t
              induction t with
              | nil => intro n _; rfl
              | cons x t ih => intro n hn; cases n with
                | zero => simp at hn
                | succ n => exact ih n (by simpa using hn)
            exact key t n (by omega)
          simp [hl, this]
      · simp [hn, hd]
theorem getT_lt {t : List AV} {n : Nat} {b : Bool} (h : getT t n = .one (.bool b)) : n < t.length := by
  by_cases hl : n < t.length
  · exact hl
  · exfalso
    have key : ∀ (t : List AV) (n : Nat), t.length ≤ n → getT t n = .one .junk := by
      intro t
      induction t with
      | nil => intro n _; rfl
      | cons x t ih => intro n hn; cases n with
        | zero => simp at hn
        | succ n => exact ih n (by simpa using hn)
    rw [key t n (by omega)] at h
    cases h
theorem joinK_eq {ds : List Nat} {c : Nat} {v : Bool} {s : S} {k : S → Prop} (hc : c < s.t.length) (h : joinK ds c v s k) : ∃ s', k s' ∧ s'.h = s.h ∧ s'.t.length = s.t.length ∧ getT s'.t c = .one (.bool v) ∧
    ∀ n, n ≠ c → getT s'.t n = if n ∈ ds then .one .junk else getT s.t n := by
  obtain ⟨t', h1, h2, h3⟩ := junkK_eq ds s.t _ h
  rw [setK_eq] at h1
  refine ⟨_, h1, rfl, by simpa using h2, ?_, fun n hn => ?_⟩
  · rw [getT_set, if_pos ⟨rfl, by omega⟩]
  · rw [getT_set, if_neg (fun e => hn e.1), h3]
theorem RelS.weak {ρ : Nat → Loc} {s t : S} {a : Act} {w : World} (R : RelS base w0 ρ s.abs a w) (hh : t.h = s.h) (hl : t.t.length = s.t.length) (hg : ∀ n, getT t.t n = .one .junk ∨ getT t.t n = getT s.t n) : RelS base w0 ρ t.abs a w := by
  have e : t.abs.h = s.abs.h := by show look t.h = look s.h; rw [hh]
  refine ⟨R.defers, R.size.trans hl.symm, ⟨fun n => ?_, by rw [e]; exact R.ctx.heap, fun n m hm => ?_, by rw [e]; exact R.ctx.namesH⟩, by rw [e]; exact R.low, by rw [e]; exact R.inj, R.below, R.base, by rw [e]; exact R.frame, by rw [e]; exact R.far⟩
  · rcases hg n with h | h
    · show RelA ρ (getT t.t n) _
      rw [h]; exact fun hn => absurd rfl hn
    · show RelA ρ (getT t.t n) _
      rw [h]; exact R.ctx.tmps n
  · rw [e]
    rcases hg n with h | h
    · have hm : m ∈ (getT t.t n).names := hm
      rw [h] at hm; simp [AV.names, L.names] at hm
    · have hm : m ∈ (getT t.t n).names := hm
      rw [h] at hm; exact R.ctx.names n m hm
/-- What a piece of code that only reckons comes to. -/
def Pure (P : Program) (base : Bs) (w0 : World) (x : Code) (s s' : S) : Prop := s'.h = s.h ∧ s'.t.length = s.t.length ∧ (∀ n, n ∉ dstsOf x → getT s'.t n = getT s.t n) ∧
  ∀ ρ a w, RelS base w0 ρ s.abs a w → x.wp P (Post base w0 fun e s1 => e = .normal ∧ s1 = s') a w
theorem join_pure {n : Nat} {p q v : Bool} {s s1 s2 : S} {y : Code} (hp : getT s.t n = .one (.bool p)) (h1 : Pure P base w0 y s s1) (hq : getT s1.t n = .one (.bool q))
    (h2 : s2.h = s.h) (h3 : s2.t.length = s.t.length) (h4 : getT s2.t n = .one (.bool v)) (h5 : ∀ m, m ≠ n → getT s2.t m = if m ∈ dstsOf y then .one .junk else getT s.t m) :
    (v = p → ∀ ρ a w, RelS base w0 ρ s.abs a w → RelS base w0 ρ s2.abs a w) ∧ (v = q → ∀ ρ a w, RelS base w0 ρ s1.abs a w → RelS base w0 ρ s2.abs a w) := by
  constructor
  · rintro rfl ρ a w R
    refine R.weak h2 h3 fun m => ?_
    by_cases hm : m = n
    · subst hm; exact .inr (by rw [h4, hp])
    · rw [h5 m hm]
      split
      · exact .inl rfl
      · exact .inr rfl
  · rintro rfl ρ a w R
    refine R.weak (h2.trans h1.1.symm) (h3.trans h1.2.1.symm) fun m => ?_
    by_cases hm : m = n
    · subst hm; exact .inr (by rw [h4, hq])
    · rw [h5 m hm]
      split
      · exact .inl rfl
      · rename_i hn
        exact .inr (h1.2.2.1 m hn).symm
theorem isSkip_eq {x : Code} (h : isSkip x = true) : x = .skip := by cases x <;> simp [isSkip] at h <;> rfl
theorem join_or {n : Nat} {p : Bool} {s : S} {y : Code} {K : S → Prop} {no : Prop} {cs : List Nat} (hp : getT s.t n = .one (.bool p))
    (ih : pureE P C cs y s (fun s' => match getT s'.t n with | .one (.bool q) => joinK (dstsOf y) n (p || q) s K | _ => no) no →
      no ∨ ∃ s1, (match getT s1.t n with | .one (.bool q) => joinK (dstsOf y) n (p || q) s K | _ => no) ∧ Pure P base w0 y s s1)
    (h : pureE P C cs y s (fun s' => match getT s'.t n with | .one (.bool q) => joinK (dstsOf y) n (p || q) s K | _ => no) no) :
    no ∨ ∃ s2, K s2 ∧ Pure P base w0 (.cond (.tmp n) .skip y) s s2 := by
  rcases ih h with h | ⟨s1, h, h1⟩
  · exact .inl h
  split at h
  · rename_i q hq
    obtain ⟨s2, h2, h3, h4, h5, h6⟩ := joinK_eq (getT_lt hp) h
    obtain ⟨j1, j2⟩ := join_pure hp h1 hq h3 h4 h5 h6
    refine .inr ⟨s2, h2, h3, h4, fun m hm => ?_, fun ρ a w R => ?_⟩
    · have hm' : m ∉ dstsOf y := by simpa [dstsOf] using hm
      by_cases e : m = n
      · subst e
        have := h1.2.2.1 m hm'
        rw [hq, hp] at this
        rw [h5, hp]
        obtain rfl : q = p := by simpa using this
        simp
      · rw [h6 m e, if_neg hm']
    · refine wp_cond_split (ev_bool R.ctx (show ev s.abs.t (.tmp n) = .one (.bool p) from hp)) (fun e => ?_) (fun e => ?_)
      · exact wp_skip ⟨.normal, s2, ρ, rfl, ⟨rfl, rfl⟩, j1 (by simp [e]) ρ a w R⟩
      · refine Code.wp_mono ?_ (h1.2.2.2 ρ a w R)
        rintro e' a' w' ⟨x', s', ρ', rfl, ⟨rfl, rfl⟩, R'⟩
        exact ⟨.normal, s2, ρ', rfl, ⟨rfl, rfl⟩, j2 (by simp [e]) ρ' a' w' R'⟩
  · exact .inl h
theorem join_and {n : Nat} {p : Bool} {s : S} {y : Code} {K : S → Prop} {no : Prop} {cs : List Nat} (hp : getT s.t n = .one (.bool p))
    (ih : pureE P C cs y s (fun s' => match getT s'.t n with | .one (.bool q) => joinK (dstsOf y) n (p && q) s K | _ => no) no →
      no ∨ ∃ s1, (match getT s1.t n with | .one (.bool q) => joinK (dstsOf y) n (p && q) s K | _ => no) ∧ Pure P base w0 y s s1)
    (h : pureE P C cs y s (fun s' => match getT s'.t n with | .one (.bool q) => joinK (dstsOf y) n (p && q) s K | _ => no) no) :
    no ∨ ∃ s2, K s2 ∧ Pure P base w0 (.cond (.tmp n) y .skip) s s2 := by
  rcases ih h with h | ⟨s1, h, h1⟩
  · exact .inl h
  split at h
  · rename_i q hq
    obtain ⟨s2, h2, h3, h4, h5, h6⟩ := joinK_eq (getT_lt hp) h
    obtain ⟨j1, j2⟩ := join_pure hp h1 hq h3 h4 h5 h6
    refine .inr ⟨s2, h2, h3, h4, fun m hm => ?_, fun ρ a w R => ?_⟩
    · have hm' : m ∉ dstsOf y := by simpa [dstsOf] using hm
      by_cases e : m = n
      · subst e
        have := h1.2.2.1 m hm'
        rw [hq, hp] at this
        rw [h5, hp]
        obtain rfl : q = p := by simpa using this
        simp
      · rw [h6 m e, if_neg hm']
    · refine wp_cond_split (ev_bool R.ctx (show ev s.abs.t (.tmp n) = .one (.bool p) from hp)) (fun e => ?_) (fun e => ?_)
      · refine Code.wp_mono ?_ (h1.2.2.2 ρ a w R)
        rintro e' a' w' ⟨x', s', ρ', rfl, ⟨rfl, rfl⟩, R'⟩
        exact ⟨.normal, s2, ρ', rfl, ⟨rfl, rfl⟩, j2 (by simp [e]) ρ' a' w' R'⟩
      · exact wp_skip ⟨.normal, s2, ρ, rfl, ⟨rfl, rfl⟩, j1 (by simp [e]) ρ a w R⟩
  · exact .inl h
/-- **Code that only reckons.** -/
theorem pureE_sound (hC : CSound P G C) (hG : G w0) (hb0 : base.b = w0.heap.size) (hnm : base.nm = C.nm) (hm : P.follows .mixedOrders = true) (cs : List Nat) : ∀ (x : Code) (s : S) (k : S → Prop) (no : Prop), pureE P C cs x s k no →
    no ∨ ∃ s', k s' ∧ Pure P base w0 x s s'
  | .skip, s, k, no, h => .inr ⟨s, h, rfl, rfl, fun _ _ => rfl, fun ρ a w R => wp_skip ⟨.normal, s, ρ, rfl, ⟨rfl, rfl⟩, R⟩⟩
  | .region id ops draw, s, k, no, h => by
    have h : pureOps P C cs ops.toList s (fun fps s => match (generalizing := false) draw with
      | false => k s
      | true => match (generalizing := false) headOf C.im ops.toList with
        | some _ => no
        | none => match (generalizing := false) okFrom 0 ops.toList fps with
          | true => Both (Ob (Region.lexB .any ops = true)) (k s)
          | false => no) no := h
    rcases pureOps_run _ _ _ _ h with h | ⟨fps, s', h1, h2, h3, h4, h5, h6⟩
    · exact .inl h
    cases draw with
    | false =>
      refine .inr ⟨s', h1, h2, h3, h4, fun ρ a w R => region_sound hC hG hb0 hnm hm ?_ R⟩
      show purgeAll C.nm C.mks ops.toList s fun s => runOps P C ops.toList ops.toList [] s fun _ s => _
      exact purge_none _ _ _ _ h5 (h6 C rfl _ _ _ ⟨rfl, rfl⟩)
    | true =>
      dsimp only at h1
      cases hhd : headOf C.im ops.toList with
      | some n => rw [hhd] at h1; exact .inl h1
      | none =>
      rw [hhd] at h1
      dsimp only at h1
      split at h1
      · rename_i hok
        obtain ⟨hB, h1⟩ := h1
        refine .inr ⟨s', h1, h2, h3, h4, fun ρ a w R => region_sound hC hG hb0 hnm hm ?_ R⟩
        show purgeAll C.nm C.mks ops.toList s fun s => match (generalizing := false) headOf C.im ops.toList with
          | none => runOps P (noInl C) ops.toList ops.toList [] s fun fps s => match (generalizing := false) okFrom 0 ops.toList fps with
            | true => Both (Ob (Region.lexB .any ops = true)) (Ex.normal = .normal ∧ s = s')
            | false => Stuck "order"
          | some n => match (generalizing := false) midT (ops.toList.drop (n + 1)) with
            | false => Both (Ob (Region.tailB ops n = true)) (runOps P (stillT C) ops.toList (ops.toList.take n) [] s fun fps s => match (generalizing := false) stillF fps with
              | true => runOps P C ops.toList (ops.toList.drop n) [] s fun _ s => Ex.normal = .normal ∧ s = s'
              | false => Stuck "still")
            | true => Both (Ob (Region.midB .any ops n = true)) (runOps P (stillT C) ops.toList (ops.toList.take n) [] s fun fps s => match (generalizing := false) stillF fps with
              | true => runOps P C ops.toList ((ops.toList.drop n).take 1) [] s fun _ s => runOps P (noInl C) ops.toList (ops.toList.drop (n + 1)) [] s fun fps s => match (generalizing := false) okFrom (n + 1) (ops.toList.drop (n + 1)) fps with
                | true => Ex.normal = .normal ∧ s = s'
                | false => Stuck "order"
              | false => Stuck "still")
        rw [hhd]
        refine purge_none _ _ _ _ h5 (h6 (noInl C) rfl _ _ _ ?_)
        rw [hok]
        exact ⟨hB, rfl, rfl⟩
      · exact .inl h1
  | .seq x y, s, k, no, h => by
    have h : pureE P C cs x s (fun s => pureE P C cs y s k no) no := h
    rcases pureE_sound hC hG hb0 hnm hm cs x s _ no h with h | ⟨s1, h, h1⟩
    · exact .inl h
    rcases pureE_sound hC hG hb0 hnm hm cs y s1 _ no h with h | ⟨s2, h, h2⟩
    · exact .inl h
    refine .inr ⟨s2, h, h2.1.trans h1.1, h2.2.1.trans h1.2.1, fun n hn => ?_, fun ρ a w R => wp_seq (Code.wp_mono ?_ (h1.2.2.2 ρ a w R))⟩
    · simp only [dstsOf, List.mem_append, not_or] at hn
      rw [h2.2.2.1 n hn.2, h1.2.2.1 n hn.1]
    · rintro e a' w' ⟨x', s', ρ', rfl, ⟨rfl, rfl⟩, R'⟩
      exact h2.2.2.2 ρ' a' w' R'
  | .cond c' x y, s, k, no, h => by
    have h : (match (generalizing := false) c' with
      | .tmp n => match (generalizing := false) memN n cs with
        | true => match (generalizing := false) getT s.t n with
          | .one (.bool p) => match (generalizing := false) isSkip x with
            | true => pureE P C cs y s (fun s' => match getT s'.t n with
              | .one (.bool q) => joinK (dstsOf y) n (p || q) s k
              | _ => no) no
            | false => match (generalizing := false) isSkip y with
              | true => pureE P C cs x s (fun s' => match getT s'.t n with
                | .one (.bool q) => joinK (dstsOf x) n (p && q) s k
                | _ => no) no
              | false => no
          | _ => no
        | false => no
      | _ => no) := h
    split at h
    · rename_i n h0
      split at h
      · rename_i hn
        split at h
        · rename_i p hp
          split at h
          · rename_i hx
            obtain rfl := isSkip_eq hx
            exact join_or hp (pureE_sound hC hG hb0 hnm hm cs y s _ no) h
          · split at h
            · rename_i hy
              obtain rfl := isSkip_eq hy
              exact join_and hp (pureE_sound hC hG hb0 hnm hm cs x s _ no) h
            · exact .inl h
        · exact .inl h
      · exact .inl h
    · exact .inl h
  | .block _ _, _, _, _, h => .inl h
  | .loop _, _, _, _, h => .inl h
  | .rangeFunc _ _ _ _, _, _, _, h => .inl h
  | .exit _, _, _, _, h => .inl h
  | .scope _, _, _, _, h => .inl h
  | .label _, _, _, _, h => .inl h
  | .goto _, _, _, _, h => .inl h
  | .ret, _, _, _, h => .inl h
  | .refuse _, _, _, _, h => .inl h
theorem E_sound (hC : CSound P G C) (hG : G w0) (hb0 : base.b = w0.heap.size) (hnm : base.nm = C.nm) (hm : P.follows .mixedOrders = true) : ∀ (c : Code) (s : S) (Qa : Ex → S → Prop), E P C c s Qa → ∀ (ρ : Nat → Loc) (a : Act) (w : World),
    RelS base w0 ρ s.abs a w → c.wp P (Post base w0 Qa) a w
  | .skip, s, Qa, h, ρ, a, w, R => wp_skip ⟨.normal, s, ρ, rfl, h, R⟩
  | .exit n, s, Qa, h, ρ, a, w, R => wp_exit ⟨.exit n, s, ρ, rfl, h, R⟩
  | .ret, s, Qa, h, ρ, a, w, R => wp_ret ⟨.ret, s, ρ, rfl, h, R⟩
  | .region id ops draw, s, Qa, h, ρ, a, w, R => by
    exact region_sound hC hG hb0 hnm hm h R
  | .seq x y, s, Qa, h, ρ, a, w, R => by
    have h : E P C x s fun e s => match (generalizing := false) e with
      | .normal => E P C y s Qa
      | .ret => Qa .ret s
      | .exit n => Qa (.exit n) s := h
    refine wp_seq (Code.wp_mono ?_ (E_sound hC hG hb0 hnm hm x s _ h ρ a w R))
    rintro e a' w' ⟨x', s', ρ', rfl, hq, R'⟩
    cases x' with
    | normal => exact E_sound hC hG hb0 hnm hm y s' Qa hq ρ' a' w' R'
    | ret => exact ⟨.ret, s', ρ', rfl, hq, R'⟩
    | exit n => exact ⟨.exit n, s', ρ', rfl, hq, R'⟩
  | .cond c x y, s, Qa, h, ρ, a, w, R => by
    have h : (match (generalizing := false) ev s.t c with
      | .one (.bool p) => match (generalizing := false) isClo C.app with
       | true => Both (Given (p = true) (E P C x s Qa)) (Given (p = false) (E P C y s Qa))
       | false => match (generalizing := false) c with
        | .tmp n => match (generalizing := false) isSkip x with
          | true => pureE P C (n :: condsOf y) y s (fun s' => match getT s'.t n with
            | .one (.bool q) => joinK (dstsOf y) n (p || q) s fun s => Qa .normal s
            | _ => Both (Given (p = true) (E P C x s Qa)) (Given (p = false) (E P C y s Qa))) (Both (Given (p = true) (E P C x s Qa)) (Given (p = false) (E P C y s Qa)))
          | false => match (generalizing := false) isSkip y with
            | true => pureE P C (n :: condsOf x) x s (fun s' => match getT s'.t n with
              | .one (.bool q) => joinK (dstsOf x) n (p && q) s fun s => Qa .normal s
              | _ => Both (Given (p = true) (E P C x s Qa)) (Given (p = false) (E P C y s Qa))) (Both (Given (p = true) (E P C x s Qa)) (Given (p = false) (E P C y s Qa)))
            | false => Both (Given (p = true) (E P C x s Qa)) (Given (p = false) (E P C y s Qa))
        | _ => Both (Given (p = true) (E P C x s Qa)) (Given (p = false) (E P C y s Qa))
      | _ => Stuck "cond") := h
    split at h
    · rename_i b hb
      have old : Both (Given (b = true) (E P C x s Qa)) (Given (b = false) (E P C y s Qa)) → (Code.cond c x y).wp P (Post base w0 Qa) a w := by
        rintro ⟨⟨h1⟩, ⟨h2⟩⟩
        exact wp_cond_split (ev_bool R.ctx hb) (fun e => E_sound hC hG hb0 hnm hm x s Qa (h1 e) ρ a w R) (fun e => E_sound hC hG hb0 hnm hm y s Qa (h2 e) ρ a w R)
      have new : ∀ {s2 : S}, Qa .normal s2 → Pure P base w0 (.cond c x y) s s2 → (Code.cond c x y).wp P (Post base w0 Qa) a w := by
        intro s2 hq hp
        refine Code.wp_mono ?_ (hp.2.2.2 ρ a w R)
        rintro e a' w' ⟨x', s', ρ', rfl, ⟨rfl, rfl⟩, R'⟩
        exact ⟨.normal, _, ρ', rfl, hq, R'⟩
      split at h
      · exact old h
      split at h
      · rename_i n h0
        split at h
        · rename_i hx
          obtain rfl := isSkip_eq hx
          rcases join_or (show getT s.t n = .one (.bool b) from hb) (pureE_sound hC hG hb0 hnm hm _ y s _ _) h with h | ⟨s2, h1, h2⟩
          · exact old h
          · exact new h1 h2
        · split at h
          · rename_i hy
            obtain rfl := isSkip_eq hy
            rcases join_and (show getT s.t n = .one (.bool b) from hb) (pureE_sound hC hG hb0 hnm hm _ x s _ _) h with h | ⟨s2, h1, h2⟩
            · exact old h
            · exact new h1 h2
          · exact old h
      · exact old h
    · cases h
  | .block n x, s, Qa, h, ρ, a, w, R => by
    have h : E P C x s fun e s => match (generalizing := false) e with
      | .normal => Qa .normal s
      | .ret => Qa .ret s
      | .exit m => match (generalizing := false) Nat.beq m n with
        | true => Qa .normal s
        | false => Qa (.exit m) s := h
    refine wp_block (Code.wp_mono ?_ (E_sound hC hG hb0 hnm hm x s _ h ρ a w R))
    rintro e a' w' ⟨x', s', ρ', rfl, hq, R'⟩
    cases x' with
    | normal => exact ⟨.normal, s', ρ', rfl, hq, R'⟩
    | ret => exact ⟨.ret, s', ρ', rfl, hq, R'⟩
    | exit m =>
      dsimp only at hq
      show if m = n then _ else _
      split at hq
      · rename_i he; rw [if_pos (by simpa using he)]; exact ⟨.normal, s', ρ', rfl, hq, R'⟩
      · rename_i he; rw [if_neg (Nat.ne_of_beq_eq_false he)]; exact ⟨.exit m, s', ρ', rfl, hq, R'⟩
  | .loop x, s, Qa, h, ρ, a, w, R => by
    have h : LoopP C.nm (E P C x) s Qa := h
    rw [← hnm] at h
    rcases h with ⟨κ, ok, sh, m, ⟨k0, hk0, hle0⟩, hround⟩ | ⟨n, hn⟩
    rotate_left
    · refine wp_loop_rounds n ?_
      have key : ∀ (n : Nat) (s : S) (ρ : Nat → Loc) (a : Act) (w : World), timesP (E P C x) Qa n s → RelS base w0 ρ s.abs a w → Code.rounds P x (Post base w0 Qa) n a w := by
        intro n
        induction n with
        | zero => intro s ρ a w h _; cases (h : Stuck "times")
        | succ n ih =>
          intro s ρ a w h R
          rw [rounds_succ]
          have h : E P C x s fun e s => match (generalizing := false) e with
            | .normal => timesP (E P C x) Qa n s
            | .ret => Qa .ret s
            | .exit m => Qa (.exit m) s := h
          refine Code.wp_mono ?_ (E_sound hC hG hb0 hnm hm x s _ h ρ a w R)
          rintro e a' w' ⟨x', s', ρ', rfl, hq, R'⟩
          cases x' with
          | normal => exact ih s' ρ' a' w' hq R'
          | ret => exact ⟨.ret, s', ρ', rfl, hq, R'⟩
          | exit m => exact ⟨.exit m, s', ρ', rfl, hq, R'⟩
      exact key n s ρ a w hn R
    let p : Act → World → Nat → Prop := fun a w n => ∃ k ρ, ok k ∧ m k = n ∧ RelS base w0 ρ (sh k).abs a w
    have hex : ∀ a w, (∃ k ρ, ok k ∧ RelS base w0 ρ (sh k).abs a w) → ∃ n, p a w n := fun a w ⟨k, ρ, h1, h2⟩ => ⟨m k, k, ρ, h1, rfl, h2⟩
    classical
    let μ : Act → World → Nat := fun a w => if h : ∃ n, p a w n then Classical.choose (least h) else 0
    have hμ : ∀ a w (h : ∃ n, p a w n), p a w (μ a w) ∧ ∀ n, p a w n → μ a w ≤ n := fun a w h => by
      have := Classical.choose_spec (least h)
      simp only [μ, dif_pos h]
      exact this
    refine wp_loop (fun a w => ∃ k ρ, ok k ∧ RelS base w0 ρ (sh k).abs a w) μ ⟨k0, ρ, hk0, R.le hle0⟩ ?_
    intro a w hI
    obtain ⟨k, ρ, hk, hmk, R'⟩ := (hμ a w (hex a w hI)).1
    refine Code.wp_mono ?_ (E_sound hC hG hb0 hnm hm x (sh k) _ (hround k hk) ρ a w R')
    rintro e a' w' ⟨x', s', ρ', rfl, hq, R''⟩
    cases x' with
    | normal =>
      obtain ⟨k', hk', hlt, hle⟩ := hq
      have hin : ∃ k ρ, ok k ∧ RelS base w0 ρ (sh k).abs a' w' := ⟨k', ρ', hk', R''.le hle⟩
      refine ⟨hin, ?_⟩
      have := (hμ a' w' (hex a' w' hin)).2 (m k') ⟨k', ρ', hk', rfl, R''.le hle⟩
      omega
    | ret => exact ⟨.ret, s', ρ', rfl, hq, R''⟩
    | exit n => exact ⟨.exit n, s', ρ', rfl, hq, R''⟩
  | .rangeFunc _ _ _ _, _, _, h, _, _, _, _ => by cases (h : Stuck "code")
  | .scope _, _, _, h, _, _, _, _ => by cases (h : Stuck "code")
  | .label _, _, _, h, _, _, _, _ => by cases (h : Stuck "code")
  | .goto _, _, _, h, _, _, _, _ => by cases (h : Stuck "code")
  | .refuse _, _, _, h, _, _, _, _ => by cases (h : Stuck "code")

theorem junks_len : ∀ n, (junks n).length = n
  | 0 => rfl
  | n + 1 => by simp [junks, junks_len n]
theorem start_len : ∀ (n : Nat) (l : List AV), l.length ≤ n → (start n l).length = n
  | n, [], _ => by cases n <;> simp [start, junks_len]
  | 0, _ :: _, h => by simp at h
  | n + 1, x :: l, h => by simp [start, start_len n l (by simpa using h)]
theorem getT_junks : ∀ (k n : Nat), getT (junks k) n = .one .junk
  | 0, _ => rfl
  | _ + 1, 0 => rfl
  | k + 1, n + 1 => getT_junks k n
theorem start_rel {ρ : Nat → Loc} : ∀ (k : Nat) (l : List AV) (us : List Value), l.length ≤ k → RelAs ρ l us → ∀ n (v : Value), (us[n]? = some v ∨ us.length ≤ n) → RelA ρ (getT (start k l) n) v
  | k, [], us, _, h, n, v, _ => by
    have : getT (start k []) n = .one .junk := by cases k <;> exact getT_junks _ _
    rw [this]; exact fun hn => absurd rfl hn
  | 0, _ :: _, _, hl, _, _, _, _ => by simp at hl
  | k + 1, x :: l, u :: us, hl, h, 0, v, hv => by
    rcases hv with hv | hv
    · simp at hv; subst hv; exact h.1
    · simp at hv
  | k + 1, x :: l, u :: us, hl, h, n + 1, v, hv => by
    exact start_rel k l us (by simpa using hl) h.2 n v (by simpa using hv)
  | _, _ :: _, [], _, h, _, _, _ => h.elim
theorem start_names (k : Nat) (l : List AV) (hl : ∀ v ∈ l, v.names = []) : ∀ n, (getT (start k l) n).names = [] := by
  induction l generalizing k with
  | nil =>
    intro n
    have : getT (start k []) n = .one .junk := by cases k <;> exact getT_junks _ _
    rw [this]; rfl
  | cons x l ih =>
    intro n
    cases k with
    | zero =>
      have : ∀ (r : List AV) (n : Nat), (∀ v ∈ r, v.names = []) → (getT r n).names = [] := by
        intro r
        induction r with
        | nil => intro n _; rfl
        | cons y r ihr => intro n hr; cases n with
          | zero => exact hr y (by simp)
          | succ n => exact ihr n fun v hv => hr v (by simp [hv])
      exact this (x :: l) n hl
    | succ k =>
      cases n with
      | zero => exact hl x (by simp)
      | succ n => exact ih k (fun v hv => hl v (by simp [hv])) n
theorem start_mem : ∀ (k : Nat) (l : List AV) (n : Nat), getT (start k l) n = .one .junk ∨ getT (start k l) n ∈ l
  | k, [], n => by
    have : getT (start k []) n = .one .junk := by cases k <;> exact getT_junks _ _
    exact .inl this
  | 0, x :: l, n => by
    have : ∀ (r : List AV) (n : Nat), getT r n = .one .junk ∨ getT r n ∈ r := by
      intro r
      induction r with
      | nil => intro n; exact .inl rfl
      | cons y r ih => intro n; cases n with
        | zero => exact .inr (by simp [getT])
        | succ n => rcases ih n with h | h
                    · exact .inl h
                    · exact .inr (by simp only [getT]; exact List.mem_cons_of_mem _ h)
    exact this (x :: l) n
  | k + 1, x :: l, 0 => .inr (by simp [start, getT])
  | k + 1, x :: l, n + 1 => by
    rcases start_mem k l n with h | h
    · exact .inl h
    · exact .inr (by simp only [start, getT]; exact List.mem_cons_of_mem _ h)
theorem relAs_len {ρ : Nat → Loc} : ∀ {l : List AV} {us : List Value}, RelAs ρ l us → l.length = us.length
  | [], [], _ => rfl
  | _ :: _, _ :: _, h => by simp [relAs_len h.2]
  | [], _ :: _, h => h.elim
  | _ :: _, [], h => h.elim

def resM (tmps : Array Value) : ResultVar → Sem Value
  | .tmp t => pure (tmps.getD t undef)
  | .cell ad t => do loadVar t (← asAddr (tmps.getD ad undef))
theorem results_eq (fn : Func) (tmps : Array Value) : results fn tmps = (do let vs ← fn.results.mapM (resM tmps); pure (if h : vs.size = 1 then vs[0] else .tuple vs)) := rfl
/-- Results. -/
theorem res_run {ρ : Nat → Loc} {s : S} {a : Act} {w : World} (R : RelS base w0 ρ s.abs a w) : ∀ (rs : List ResultVar) (r : List (Bool × List L)), resLs P s rs = some r →
    ∃ us, (rs.mapM (resM a.tmps)).run P w = .ok us w ∧ RelVs ρ r us
  | [], r, e => by
    simp [resLs] at e; subst e
    exact ⟨[], rfl, trivial⟩
  | .tmp t :: rs, r, e => by
    simp only [resLs] at e
    split at e
    · rename_i r' hr
      obtain ⟨us, h1, h2⟩ := res_run R rs r' hr
      have ht := R.ctx.tmps t
      refine ⟨a.tmps.getD t undef :: us, by simp [List.mapM_cons, resM, h1, -Array.getD_eq_getD_getElem?], ?_⟩
      split at e
      · rename_i l hl
        obtain rfl := Option.some.inj e
        rw [show getT s.abs.t t = .one l from hl] at ht
        exact ⟨ht, h2⟩
      · rename_i ls hl
        obtain rfl := Option.some.inj e
        rw [show getT s.abs.t t = .agg ls from hl] at ht
        exact ⟨ht, h2⟩
      · cases e
    · cases e
  | .cell ad T :: rs, r, e => by
    simp only [resLs] at e
    split at e
    · rename_i r' hr
      obtain ⟨us, h1, h2⟩ := res_run R rs r' hr
      split at e
      · rename_i i off hp
        have hptr := R.ctx.tmps ad
        rw [show getT s.abs.t ad = .one (.ptr i off) from hp] at hptr
        have hev := hptr (by simp)
        simp only [gL] at hev
        have has : asAddr (a.tmps.getD ad undef) = pure ⟨(ρ i).b, (ρ i).o + off, none⟩ := by rw [hev]; rfl
        split at e
        · rename_i bk hb
          split at e
          · rename_i inf hi
            split at e
            · rename_i hA
              split at e
              · rename_i ls hls
                obtain ⟨T', cs, fr, us', ws', hc, hd, hrel, -⟩ := rd_get R.ctx (show s.abs.h i = some bk from hb) hls
                split at e
                · rename_i r1 ht
                  obtain rfl := Option.some.inj e
                  have ⟨h3, h4⟩ := relLs_take _ ht (relLs_drop off hrel)
                  obtain ⟨u, hu, hur⟩ := load_agg (P := P) hc hi hA hd h3 h4
                  refine ⟨u :: us, ?_, hur, h2⟩
                  simp [List.mapM_cons, resM, h1, has, hu, -Array.getD_eq_getD_getElem?]
                · cases e
              · cases e
            · rename_i hA
              split at e
              · rename_i ls hls
                obtain ⟨T', cs, fr, us', ws', hc, hd, hrel, -⟩ := rd_get R.ctx (show s.abs.h i = some bk from hb) hls
                split at e
                · rename_i l ht
                  obtain rfl := Option.some.inj e
                  obtain ⟨v, hv, hl, -⟩ := relLs_head (relLs_drop off hrel) ht
                  refine ⟨v :: us, ?_, hl, h2⟩
                  simp [List.mapM_cons, resM, h1, has, load_cell (P := P) hc hA hd hv, -Array.getD_eq_getD_getElem?]
                · cases e
              · cases e
            · cases e
          · cases e
        · cases e
      · cases e
    · cases e
theorem relVs_nil {ρ : Nat → Loc} {p : Bool × List L} {r : List (Bool × List L)} (h : RelVs ρ (p :: r) []) : False := by
  obtain ⟨b, l⟩ := p
  cases b
  · match l, h with
    | [], h => exact h.elim
    | [_], h => exact h.elim
    | _ :: _ :: _, h => exact h.elim
  · exact h.elim
theorem resV_rel {ρ : Nat → Loc} {r : List (Bool × List L)} {us : List Value} (h : RelVs ρ r us) : RelA ρ (resV r) (if h : us.toArray.size = 1 then us.toArray[0] else .tuple us.toArray) := by
  match r, us, h with
  | [], [], _ => exact ⟨_, rfl, trivial⟩
  | [(true, ls)], [u], ⟨⟨cs, e, h1⟩, _⟩ => exact ⟨cs, e, h1⟩
  | [(false, [l])], [u], ⟨h1, _⟩ => exact h1
  | (true, ls) :: p :: r, u :: v :: us, h =>
    simp only [resV]
    rw [dif_neg (by simp)]
    exact ⟨_, rfl, h⟩
  | (false, [l]) :: p :: r, u :: v :: us, h =>
    simp only [resV]
    rw [dif_neg (by simp)]
    exact ⟨_, rfl, h⟩
  | (true, ls) :: p :: r, [u], h => exact (relVs_nil h.2).elim
  | (false, [l]) :: p :: r, [u], h => exact (relVs_nil h.2).elim
  | [(true, ls)], u :: v :: us, h => exact h.2.elim
  | [(false, [l])], u :: v :: us, h => exact h.2.elim

/-- **What the evaluator leaves to be shown of a function shows its contract.** -/
theorem F_sound (hC : CSound P G C) (hm : P.follows .mixedOrders = true) {f : FuncId} {fn : Func} (hf : P.funcs[f]? = some fn) {args : List AV} {K : AV → Prop} (h : F P C fn args K)
    (hn : ∀ v ∈ args, v.names = []) {us : List Value} {ρ : Nat → Loc} (hargs : RelAs ρ args us) {w : World} (hG : G w) :
    Calls P f us.toArray w (fun e w' => ∃ v u ρ', K v ∧ e = .returned u ∧ RelA ρ' v u ∧ Below w.heap.size w w') := by
  unfold F at h
  split at h
  · rename_i c hc
    split at h
    · cases h
    · rename_i hle
      rw [startR_eq] at h
      have hle' : args.length ≤ fn.ntmps := by simpa using hle
      have hlen := relAs_len hargs
      have R0 : RelS ⟨w.heap.size, 0, ρ, fun _ => False, w, fun _ => True⟩ w ρ (S.abs ⟨start fn.ntmps args, []⟩) { tmps := us.toArray ++ Array.replicate (fn.ntmps - us.toArray.size) undef, defers := [] } w := by
        refine ⟨rfl, ?_, ⟨fun n => ?_, fun i b e => by simp [S.abs, look] at e, fun n m hm => ?_, fun i b e => by simp [S.abs, look] at e⟩, fun i c hi => by simp [S.abs, look] at hi,
          fun i j c d hi => by simp [S.abs, look] at hi, Below.refl _ _, Nat.le_refl _, fun _ h => h.elim, ⟨Nat.le_refl _, fun _ _ _ => rfl, fun i c hi => by simp [S.abs, look] at hi⟩⟩
        · simp [S.abs, start_len _ _ hle']; omega
        · refine start_rel fn.ntmps args us hle' hargs n _ ?_
          by_cases hlt : n < us.length
          · refine .inl ?_
            simp [Array.getElem?_append, hlt]
          · exact .inr (by omega)
        · have := start_names fn.ntmps args hn n
          simp [S.abs, this] at hm
      refine calls_of_wp hf hc (Code.wp_mono ?_ (E_sound (C := setNm C 0 fn.ntmps) (hC.inl' hC.inl C.app 0 fn.ntmps C.im C.mks) hG rfl rfl hm c _ _ h ρ _ w R0))
      rintro e a' w' ⟨x, s', ρ', rfl, hq, R⟩
      have fin : ∀ {q : Prop}, (match resLs P s' fn.results.toList with | some r => forceA (resV r) fun v => Ob (K v) | none => Stuck "res") →
          (∀ u, (results fn a'.tmps).run P w' = .ok u w' → (∃ v u' ρ', K v ∧ Ending.returned u = .returned u' ∧ RelA ρ' v u' ∧ Below w.heap.size w w') → q) → q := by
        intro q hq hk
        split at hq
        · rename_i r hr
          rw [forceA_eq] at hq
          obtain ⟨hK⟩ := hq
          obtain ⟨us', h1, h2⟩ := res_run R _ _ hr
          refine hk _ ?_ ⟨resV r, _, ρ', hK, rfl, resV_rel h2, R.below⟩
          rw [results_eq, Array.mapM_eq_mapM_toList]
          simp [h1, -Array.getD_eq_getD_getElem?]
        · cases hq
      cases x with
      | normal => exact fin hq fun u h1 h2 => ⟨R.defers, u, h1, h2⟩
      | ret => exact fin hq fun u h1 h2 => ⟨R.defers, u, h1, h2⟩
      | exit n => cases hq
  · cases h
theorem cutHK_eq {α : Sort _} (b : Nat) : ∀ (l : List (Nat × Blk)) (k : List (Nat × Blk) → α), ∃ l', cutHK b l k = k l' ∧ ∀ i, look l' i = if i < b then look l i else none
  | [], k => ⟨[], rfl, fun i => by simp [look]⟩
  | (j, c) :: r, k => by
    have e : cutHK b ((j, c) :: r) k = (match Nat.blt j b with
        | true => cutHK b r fun r => k ((j, c) :: r)
        | false => cutHK b r k) := rfl
    rw [e]
    split
    · rename_i hj
      have hj' : j < b := by simpa using hj
      obtain ⟨l', h1, h2⟩ := cutHK_eq b r fun r => k ((j, c) :: r)
      refine ⟨_, h1, fun i => ?_⟩
      rw [look_eq_beq, look_eq_beq, h2]
      by_cases hi : j = i
      · subst hi; simp [hj']
      · simp [hi]
    · rename_i hj
      have hj' : ¬ j < b := by
        intro hlt
        have := Nat.ble_eq_true_of_le hlt
        simp [Nat.blt, this] at hj
      obtain ⟨l', h1, h2⟩ := cutHK_eq b r k
      refine ⟨l', h1, fun i => ?_⟩
      rw [h2, look_eq_beq]
      by_cases hi : j = i
      · subst hi; simp [hj']
      · simp [hi]
theorem outsK_eq {h : List (Nat × Blk)} : ∀ (l : List Nat) (g : List (Nat × Blk)) (k : List (Nat × Blk) → Prop), outsK h l g k →
    ∃ g', k g' ∧ (∀ i b, look g' i = some b → (look h i = some b ∧ b.names = []) ∨ look g i = some b) ∧ ∀ i, look g i ≠ none → look g' i ≠ none
  | [], g, k, hk => ⟨g, hk, fun i b h => .inr h, fun i h => h⟩
  | i :: l, g, k, hk => by
    have e : outsK h (i :: l) g k = (match look h i with
      | some b => match b.names with
        | [] => forceB b fun b => outsK h l ((i, b) :: g) k
        | _ => Stuck "out"
      | none => Stuck "out") := rfl
    rw [e] at hk
    split at hk
    · rename_i b hb
      split at hk
      · rename_i hn
        rw [forceB_eq] at hk
        obtain ⟨g', h1, h2, h3⟩ := outsK_eq l ((i, b) :: g) k hk
        refine ⟨g', h1, fun x c hx => ?_, fun x hx => h3 x ?_⟩
        · rcases h2 x c hx with h4 | h4
          · exact .inl h4
          · rw [look_eq_beq] at h4
            split at h4
            · rename_i e; subst e; obtain rfl := Option.some.inj h4; exact .inl ⟨hb, hn⟩
            · exact .inr h4
        · rw [look_eq_beq]
          split
          · simp
          · exact hx
      · cases hk
    · cases hk
/-- A function's body, gone through in its caller's place. -/
theorem FI_sound (hC : CSound P G C) (hm : P.follows .mixedOrders = true) {f : FuncId} {fn : Func} (hf : P.funcs[f]? = some fn) {tp : Nat} {args : List AV} {h : List (Nat × Blk)} {K : AV → List (Nat × Blk) → Prop}
    (hF : FI P C fn tp args h K) (hlt : ∀ m, look h m ≠ none → m < tp) (hn : ∀ v ∈ args, ∀ m ∈ v.names, look h m ≠ none) (b : Nat) (w0 : World) (ρ : Nat → Loc) (us : List Value) (w : World) (hG : G w0)
    (hb : b = w0.heap.size) (hargs : RelAs ρ args us) (H : RelH b w0 ρ (look h) w) :
    Calls P f us.toArray w (fun e w' => ∃ v h' u ρ', K v h' ∧ e = .returned u ∧ RelA ρ' v u ∧ (∀ m ∈ v.names, look h' m ≠ none) ∧ RelH b w0 ρ' (look h') w' ∧
        (∀ m, look h m ≠ none → look h' m ≠ none ∧ ρ' m = ρ m) ∧ w.heap.size ≤ w'.heap.size ∧ (∀ k, k < w.heap.size → (∀ m c, look h m = some c → c.own = true → (ρ m).b ≠ k) → w'.heap[k]? = w.heap[k]?) ∧
        ∀ m c, look h' m = some c → c.own = true → look h m = none → w.heap.size ≤ (ρ' m).b) := by
  unfold FI at hF
  split at hF
  · rename_i c hc
    split at hF
    · cases hF
    · rename_i hle
      rw [startR_eq] at hF
      have hle' : args.length ≤ fn.ntmps := by simpa using hle
      have hlen := relAs_len hargs
      have R0 : RelS ⟨b, tp, ρ, fun m => look h m ≠ none, w, fun k => ∀ m c, look h m = some c → c.own = true → (ρ m).b ≠ k⟩ w0 ρ (S.abs ⟨start fn.ntmps args, h⟩) { tmps := us.toArray ++ Array.replicate (fn.ntmps - us.toArray.size) undef, defers := [] } w := by
        refine ⟨rfl, ?_, ⟨fun n => ?_, H.heap, fun n m hm => ?_, H.namesH⟩, H.low, H.inj, H.below, H.base, fun m hm => ⟨hlt m hm, hm, rfl⟩, ⟨Nat.le_refl _, fun _ _ _ => rfl, fun i c h1 h2 _ h3 => h3 i c h1 h2 rfl⟩⟩
        · simp [S.abs, start_len _ _ hle']; omega
        · refine start_rel fn.ntmps args us hle' hargs n _ ?_
          by_cases hlt : n < us.length
          · refine .inl ?_
            simp [Array.getElem?_append, hlt]
          · exact .inr (by omega)
        · rcases start_mem fn.ntmps args n with e | e
          · simp [S.abs, e, AV.names, L.names] at hm
          · exact hn _ e m hm
      refine calls_of_wp hf hc (Code.wp_mono ?_ (E_sound (C := setNm C tp (tp + fn.ntmps)) (hC.inl' hC.inl C.app tp (tp + fn.ntmps) C.im C.mks) hG hb rfl hm c _ _ hF ρ _ w R0))
      rintro e a' w' ⟨x, s', ρ', rfl, hq, R⟩
      have fin : ∀ {q : Prop}, (match resLs P s' fn.results.toList with
          | some r => forceA (resV r) fun v => cutHK tp s'.h fun h => outsK s'.h (newNs tp v.names) h fun h' => match allIn h' v.names, scopeH h h with
            | true, true => K v h'
            | _, _ => Stuck "out"
          | none => Stuck "res") →
          (∀ u, (results fn a'.tmps).run P w' = .ok u w' → (∃ v h' u' ρ', K v h' ∧ Ending.returned u = .returned u' ∧ RelA ρ' v u' ∧ (∀ m ∈ v.names, look h' m ≠ none) ∧ RelH b w0 ρ' (look h') w' ∧
            (∀ m, look h m ≠ none → look h' m ≠ none ∧ ρ' m = ρ m) ∧ w.heap.size ≤ w'.heap.size ∧ (∀ k, k < w.heap.size → (∀ m c, look h m = some c → c.own = true → (ρ m).b ≠ k) → w'.heap[k]? = w.heap[k]?) ∧
        ∀ m c, look h' m = some c → c.own = true → look h m = none → w.heap.size ≤ (ρ' m).b) → q) → q := by
        intro q hq hk
        split at hq
        · rename_i r hr
          rw [forceA_eq] at hq
          obtain ⟨h1', e1, e2⟩ := cutHK_eq tp s'.h fun h => outsK s'.h (newNs tp (resV r).names) h fun h' => match allIn h' (resV r).names, scopeH h h with
            | true, true => K (resV r) h'
            | _, _ => Stuck "out"
          rw [e1] at hq
          obtain ⟨h', hq, e3⟩ := outsK_eq (newNs tp (resV r).names) h1' _ hq
          split at hq
          · rename_i ha hs
            obtain ⟨us', h1, h2⟩ := res_run R _ _ hr
            have hsub1 : ∀ i b, look h1' i = some b → look s'.h i = some b := fun i b hi => by
              rw [e2] at hi
              split at hi
              · exact hi
              · cases hi
            have hsub : ∀ i b, look h' i = some b → look s'.h i = some b := fun i b hi => by
              rcases e3.1 i b hi with ⟨h3, _⟩ | h3
              · exact h3
              · exact hsub1 i b h3
            have hsome : ∀ i, look h' i ≠ none → look s'.h i ≠ none := fun i hi => by
              cases hb : look h' i with
              | none => exact absurd hb hi
              | some c => rw [hsub i c hb]; simp
            refine hk _ ?_ ⟨resV r, h', _, ρ', hq, rfl, resV_rel h2, allIn_spec ha, ⟨fun i c hi => R.ctx.heap i c (hsub i c hi), fun i c hi m hm => ?_, fun i c hi => R.low i c (hsub i c hi),
              fun i j c d hi hj ho e => R.inj i j c d (hsub i c hi) (hsub j d hj) ho e, R.below, R.base⟩, fun m hm => ?_, R.far.grown, R.far.keeps, fun m c h1 h2 h3 => ?_⟩
            · rw [results_eq, Array.mapM_eq_mapM_toList]
              simp [h1, -Array.getD_eq_getD_getElem?]
            · rcases e3.1 i c hi with ⟨_, h3⟩ | h3
              · rw [h3] at hm; simp at hm
              · exact e3.2 m (scopeH_spec hs i c h3 m hm)
            · obtain ⟨h3, h4, h5⟩ := R.frame m hm
              refine ⟨e3.2 m ?_, h5⟩
              rw [e2, if_pos h3]
              exact h4
            · refine Nat.le_of_not_lt fun hlt => R.far.apart m c (hsub m c h1) h2 hlt fun m' c' h4 h5 e => ?_
              obtain ⟨_, h6, h7⟩ := R.frame m' (by show look h m' ≠ none; rw [h4]; simp)
              cases h8 : look s'.h m' with
              | none => exact h6 h8
              | some d =>
                have h9 := R.inj m m' c d (hsub m c h1) h8 h2 (by rw [h7]; exact e.symm)
                rw [h9, h4] at h3; cases h3
          · cases hq
        · cases hq
      cases x with
      | normal => exact fin hq fun u h1 h2 => ⟨R.defers, u, h1, h2⟩
      | ret => exact fin hq fun u h1 h2 => ⟨R.defers, u, h1, h2⟩
      | exit n => cases hq
  · cases hF
/-- Functions that may be gone through in their callers' places. -/
def FsOK (P : Program) (fs : List (Nat × Func)) : Prop := ∀ f fn, findF fs f = some fn → P.funcs[f]? = some fn ∧ (fn.name == "runtime.NumGoroutine") = false ∧ fn.body.isNone = false
theorem FsOK.nil : FsOK P [] := fun _ _ h => by simp [findF] at h
theorem FsOK.cons {f : Nat} {fn : Func} {r : List (Nat × Func)} (hf : P.funcs[f]? = some fn) (hn : (fn.name == "runtime.NumGoroutine") = false) (hb : fn.body.isNone = false) (h : FsOK P r) : FsOK P ((f, fn) :: r) := fun g gn hg => by
  simp only [findF] at hg
  split at hg
  · rename_i he
    have he' : f = g := by simpa using he
    subst he'
    obtain rfl := Option.some.inj hg
    exact ⟨hf, hn, hb⟩
  · exact h g gn hg
theorem inlN_sound (hC : CSound P G C) (hm : P.follows .mixedOrders = true) {fs : List (Nat × Func)} (hfs : FsOK P fs) : ∀ n, InlOK P G (inlN P C fs n)
  | 0 => fun _ _ _ _ _ h => by cases (h : Stuck "deep")
  | n + 1 => fun f tp args h K hF hlt hn => by
    have hF : (match (generalizing := false) findF fs f with
      | some fn => FI P (withInl C (inlN P C fs n)) fn tp args h K
      | none => Stuck "call") := hF
    split at hF
    · rename_i fn hfn
      obtain ⟨h1, h2, h3⟩ := hfs f fn hfn
      exact ⟨⟨fn, h1, h2, h3⟩, fun b w0 ρ us w hG hb hargs H => FI_sound (C := withInl C (inlN P C fs n)) (hC.inl' (inlN_sound hC hm hfs n) C.app C.nm C.tp C.im C.mks) hm h1 hF hlt hn b w0 ρ us w hG hb hargs H⟩
    · cases hF
end
end Go.Ep
