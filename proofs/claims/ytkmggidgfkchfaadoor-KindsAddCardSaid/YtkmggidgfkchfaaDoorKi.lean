/-
  The evaluator is sound: what it leaves to be shown of a function's body shows a contract of the function. Conditions: as typed.
-/
import Derived.Test.YtkmggidgfkchfaaDoorKh
import Derived.LoopN
namespace Go.Ev
open Go.RowKit

section
variable {P : Program} {C : Table} {G : World → Prop} {base : Nat} {w0 : World}

theorem lex_list {ops : Array Oper} {Q : Exit → Act → World → Prop} (hC : CSound P G C) (hG : G w0) (hb0 : base = w0.heap.size) : ∀ (l : List Oper) (fps : List FP) (s s' : AS) (ρ : Nat → Nat) (a : Act) (w : World),
    LexRun P C ops.toList l fps s s' → RelS base w0 ρ s a w → (∀ ρ a w, RelS base w0 ρ s' a w → Q .normal a w) → wpList P ops Q l a w
  | [], [], s, s', ρ, a, w, h, R, hQ => by obtain rfl : s' = s := h; exact hQ ρ a w R
  | o :: l, fp :: fps, s, s', ρ, a, w, h, R, hQ => by
    obtain ⟨s1, hst, hrest⟩ := h
    have := sim_step (Q := Q) (K := wpList P ops Q l) hC hG hb0 hst R (fun ρ' a' w' R' => lex_list hC hG hb0 l fps s1 s' ρ' a' w' hrest R' hQ)
    unfold wpList
    split
    · rename_i hw; rw [if_pos hw] at this; exact .inl this
    · rename_i hw; rw [if_neg hw] at this; exact this
  | [], _ :: _, _, _, _, _, _, h, _, _ => h.elim
  | _ :: _, [], _, _, _, _, _, h, _, _ => h.elim

def Ex.to : Ex → Exit
  | .normal => .normal
  | .ret => .ret
  | .exit n => .exit n
/-- What holds behind a piece of code. -/
def Post (base : Nat) (w0 : World) (Qa : Ex → S → Prop) : Exit → Act → World → Prop := fun e a w => ∃ x s ρ, e = Ex.to x ∧ Qa x s ∧ RelS base w0 ρ s.abs a w

theorem leT_cons (x : AV) (xs : List AV) (y : AV) (ys : List AV) : leT (x :: xs) (y :: ys) = (match y with
    | .one .junk => leT xs ys
    | y => forceA x fun x => forceA y fun y => Both (x = y) (leT xs ys)) := rfl
theorem leH_cons (h : List (Nat × Blk)) (i : Nat) (b : Blk) (r : List (Nat × Blk)) : leH h ((i, b) :: r) = (match look h i with
    | some c => forceB b fun b => Both (c = b) (leH h r)
    | none => Stuck "leH") := rfl
theorem leT_len : ∀ {t t' : List AV}, leT t t' → t.length = t'.length
  | [], [], _ => rfl
  | x :: t, y :: t', h => by
    rw [leT_cons] at h
    have : leT t t' := by
      split at h
      · exact h
      · rw [forceA_eq, forceA_eq] at h; obtain ⟨_, h⟩ := h; exact h
    simp [leT_len this]
  | [], _ :: _, h => h.elim
  | _ :: _, [], h => h.elim
theorem leT_get : ∀ {t t' : List AV}, leT t t' → ∀ n, getT t' n = .one .junk ∨ getT t n = getT t' n
  | [], [], _, n => .inl rfl
  | x :: t, y :: t', h, n => by
    rw [leT_cons] at h
    cases n with
    | zero =>
      split at h
      · exact .inl rfl
      · rw [forceA_eq, forceA_eq] at h; obtain ⟨h, _⟩ := h; exact .inr h
    | succ n =>
      have : leT t t' := by
        split at h
        · exact h
        · rw [forceA_eq, forceA_eq] at h; obtain ⟨_, h⟩ := h; exact h
      exact leT_get this n
  | [], _ :: _, h, _ => h.elim
  | _ :: _, [], h, _ => h.elim
theorem leH_get {h : List (Nat × Blk)} : ∀ {h' : List (Nat × Blk)}, leH h h' → ∀ i b, look h' i = some b → look h i = some b
  | [], _, i, b, e => by simp [look] at e
  | (j, c) :: r, hl, i, b, e => by
    rw [leH_cons] at hl
    split at hl
    · rename_i c' hc'
      rw [forceB_eq] at hl
      obtain ⟨h1, h2⟩ := hl
      rw [look_eq_beq] at e
      split at e
      · rename_i hj; subst hj; obtain rfl := Option.some.inj e; rw [hc', h1]
      · exact leH_get h2 i b e
    · cases hl
theorem allIn_spec {h : List (Nat × Blk)} : ∀ {l : List Nat}, allIn h l = true → ∀ m ∈ l, look h m ≠ none
  | [], _, m, hm => by simp at hm
  | i :: l, e, m, hm => by
    simp only [allIn] at e
    split at e
    · rename_i hi
      rcases List.mem_cons.1 hm with rfl | hm
      · intro hn; rw [hn] at hi; simp [isSomeB] at hi
      · exact allIn_spec e m hm
    · cases e
theorem scopeT_spec {h : List (Nat × Blk)} : ∀ {t : List AV}, scopeT h t = true → ∀ n, ∀ m ∈ (getT t n).names, look h m ≠ none
  | [], _, n, m, hm => by simp [getT, AV.names, L.names] at hm
  | v :: t, e, n, m, hm => by
    simp only [scopeT] at e
    split at e
    · rename_i hv
      cases n with
      | zero => exact allIn_spec hv m hm
      | succ n => exact scopeT_spec e n m hm
    · cases e
theorem scopeH_spec {h : List (Nat × Blk)} : ∀ {r : List (Nat × Blk)}, scopeH h r = true → ∀ i b, look r i = some b → ∀ m ∈ b.names, look h m ≠ none
  | [], _, i, b, e, _, _ => by simp [look] at e
  | (j, c) :: r, e, i, b, hl, m, hm => by
    simp only [scopeH] at e
    split at e
    · rename_i hv
      rw [look_eq_beq] at hl
      split at hl
      · obtain rfl := Option.some.inj hl; exact allIn_spec hv m hm
      · exact scopeH_spec e i b hl m hm
    · cases e
theorem RelS.le {ρ : Nat → Nat} {s t : S} {a : Act} {w : World} (R : RelS base w0 ρ s.abs a w) (h : Le s t) : RelS base w0 ρ t.abs a w := by
  have hh : ∀ i, look t.h i ≠ none → look s.h i ≠ none := fun i hi => by
    cases hb : look t.h i with
    | none => exact absurd hb hi
    | some b => rw [leH_get h.heap i b hb]; simp
  refine ⟨R.defers, R.size.trans (leT_len h.tmps), ⟨fun n => ?_, fun i b hb => R.ctx.heap i b (leH_get h.heap i b hb), scopeT_spec h.names, scopeH_spec h.namesH⟩,
    fun i hi => R.low i (hh i hi), fun i j hi hj e => R.inj i j (hh i hi) (hh j hj) e, R.below, R.base⟩
  rcases leT_get h.tmps n with e | e
  · show RelA ρ (getT t.t n) _
    rw [e]; exact fun hn => absurd rfl hn
  · show RelA ρ (getT t.t n) _
    rw [← e]; exact R.ctx.tmps n

theorem purge_relL {ρ : Nat → Nat} {d : Nat} {l : L} {v : Value} (h : RelL ρ l v) : RelL ρ (l.purge d) v := by
  cases l <;> simp only [L.purge] <;> first | exact h | (split <;> first | exact fun hn => absurd rfl hn | exact h)
theorem purge_relLs {ρ : Nat → Nat} {d : Nat} : ∀ {ls : List L} {vs : List Value}, RelLs ρ ls vs → RelLs ρ (purgeLs d ls) vs
  | [], [], _ => trivial
  | _ :: _, _ :: _, h => ⟨purge_relL h.1, purge_relLs h.2⟩
  | [], _ :: _, h => h.elim
  | _ :: _, [], h => h.elim
theorem purge_relVs {ρ : Nat → Nat} {d : Nat} : ∀ {ls : List (Bool × List L)} {vs : List Value}, RelVs ρ ls vs → RelVs ρ (purgeVs d ls) vs
  | [], [], _ => trivial
  | (true, _) :: _, _ :: _, ⟨⟨cs, e, h1⟩, h2⟩ => ⟨⟨cs, e, purge_relLs h1⟩, purge_relVs h2⟩
  | (false, [_]) :: _, _ :: _, ⟨h1, h2⟩ => ⟨purge_relL h1, purge_relVs h2⟩
  | [], _ :: _, h => h.elim
  | (true, _) :: _, [], h => h.elim
  | (false, []) :: _, [], h => h.elim
  | (false, []) :: _, _ :: _, h => h.elim
  | (false, _ :: _ :: _) :: _, [], h => h.elim
  | (false, _ :: _ :: _) :: _, _ :: _, h => h.elim
  | (false, [_]) :: _, [], h => h.elim
theorem purge_relA {ρ : Nat → Nat} {d : Nat} {v : AV} {u : Value} (h : RelA ρ v u) : RelA ρ (v.purge d) u := by
  cases v with
  | one l => exact purge_relL h
  | agg ls => obtain ⟨cs, e, h⟩ := h; exact ⟨cs, e, purge_relLs h⟩
  | tup vs => obtain ⟨cs, e, h⟩ := h; exact ⟨cs, e, purge_relVs h⟩
theorem purge_namesL {d m : Nat} {l : L} (h : m ∈ (l.purge d).names) : m ∈ l.names ∧ m ≠ d := by
  cases l with
  | ptr i o =>
    simp only [L.purge] at h
    split at h
    · simp [L.names] at h
    · rename_i hne
      simp only [L.names, List.mem_singleton] at h ⊢
      subst h
      exact ⟨rfl, Nat.ne_of_beq_eq_false hne⟩
  | slc i o n c =>
    simp only [L.purge] at h
    split at h
    · simp [L.names] at h
    · rename_i hne
      simp only [L.names, List.mem_singleton] at h ⊢
      subst h
      exact ⟨rfl, Nat.ne_of_beq_eq_false hne⟩
  | _ => simp [L.purge, L.names] at h
theorem purge_namesLs {d m : Nat} : ∀ {ls : List L}, m ∈ lnames (purgeLs d ls) → m ∈ lnames ls ∧ m ≠ d
  | [], h => by simp [purgeLs, lnames] at h
  | l :: ls, h => by
    simp only [purgeLs, lnames, List.mem_append] at h ⊢
    rcases h with h | h
    · exact ⟨.inl (purge_namesL h).1, (purge_namesL h).2⟩
    · exact ⟨.inr (purge_namesLs h).1, (purge_namesLs h).2⟩
theorem purge_namesVs {d m : Nat} : ∀ {ls : List (Bool × List L)}, m ∈ vnames (purgeVs d ls) → m ∈ vnames ls ∧ m ≠ d
  | [], h => by simp [purgeVs, vnames] at h
  | (b, l) :: ls, h => by
    simp only [purgeVs, vnames, List.mem_append] at h ⊢
    rcases h with h | h
    · exact ⟨.inl (purge_namesLs h).1, (purge_namesLs h).2⟩
    · exact ⟨.inr (purge_namesVs h).1, (purge_namesVs h).2⟩
theorem purge_namesA {d m : Nat} {v : AV} (h : m ∈ (v.purge d).names) : m ∈ v.names ∧ m ≠ d := by
  cases v with
  | one l => exact purge_namesL h
  | agg ls => exact purge_namesLs h
  | tup vs => exact purge_namesVs h
theorem getT_map (d : Nat) : ∀ (t : List AV) (n : Nat), getT (t.map (AV.purge d)) n = (getT t n).purge d
  | [], _ => rfl
  | _ :: _, 0 => rfl
  | _ :: t, n + 1 => getT_map d t n
theorem RelS.purge {ρ : Nat → Nat} {s : AS} {a : Act} {w : World} (R : RelS base w0 ρ s a w) (d : Nat) {h : Nat → Option Blk} (hh : ∀ i, h i = if i = d then none else (s.h i).map (Blk.purge d)) :
    RelS base w0 ρ ⟨s.t.map (AV.purge d), h⟩ a w := by
  have hback : ∀ i, h i ≠ none → s.h i ≠ none := fun i hi => by
    rw [hh] at hi
    split at hi
    · exact absurd rfl hi
    · intro e; rw [e] at hi; exact hi rfl
  have hto : ∀ i, s.h i ≠ none → i ≠ d → h i ≠ none := fun i hi hd => by
    rw [hh, if_neg hd]
    cases hs : s.h i with
    | none => exact absurd hs hi
    | some b => simp
  refine ⟨R.defers, by simpa using R.size, ⟨fun n => ?_, fun i b hb => ?_, fun n m hm => ?_, fun i b hb m hm => ?_⟩, fun i hi => R.low i (hback i hi), fun i j hi hj e => R.inj i j (hback i hi) (hback j hj) e, R.below, R.base⟩
  · rw [getT_map]; exact purge_relA (R.ctx.tmps n)
  · have hb : h i = some b := hb
    rw [hh] at hb
    split at hb
    · cases hb
    · obtain ⟨b0, hb0, rfl⟩ := Option.map_eq_some_iff.1 hb
      have := R.ctx.heap i b0 hb0
      obtain ⟨T, ls⟩ := b0
      obtain ⟨cs, e, h1⟩ := this
      exact ⟨cs, e, purge_relLs h1⟩
  · rw [getT_map] at hm
    obtain ⟨h1, h2⟩ := purge_namesA hm
    exact hto m (R.ctx.names n m h1) h2
  · have hb : h i = some b := hb
    rw [hh] at hb
    split at hb
    · cases hb
    · obtain ⟨b0, hb0, rfl⟩ := Option.map_eq_some_iff.1 hb
      obtain ⟨T, ls⟩ := b0
      obtain ⟨h1, h2⟩ := purge_namesLs (show m ∈ lnames (purgeLs d ls) from hm)
      exact hto m (R.ctx.namesH i _ hb0 m h1) h2
theorem purgeAll_eq {ρ : Nat → Nat} {a : Act} {w : World} : ∀ (ops : List Oper) (s : S) (k : S → Prop), purgeAll ops s k → RelS base w0 ρ s.abs a w → ∃ s', k s' ∧ RelS base w0 ρ s'.abs a w
  | [], s, k, h, R => ⟨s, h, R⟩
  | o :: ops, s, k, h, R => by
    have e : purgeAll (o :: ops) s k = (match newName o with
      | none => purgeAll ops s k
      | some d => match look s.h d with
        | none => purgeAll ops s k
        | some _ => purgeTK d s.t fun t => purgeHK d s.h fun h => purgeAll ops ⟨t, h⟩ k) := rfl
    rw [e] at h
    split at h
    · exact purgeAll_eq ops s k h R
    · rename_i d hd
      split at h
      · exact purgeAll_eq ops s k h R
      · rw [purgeTK_eq] at h
        obtain ⟨l', h1, h2⟩ := purgeHK_eq d s.h fun h => purgeAll ops ⟨s.t.map (AV.purge d), h⟩ k
        rw [h1] at h
        exact purgeAll_eq ops _ k h (R.purge d h2)
theorem least {p : Nat → Prop} (h : ∃ n, p n) : ∃ n, p n ∧ ∀ m, p m → n ≤ m := by
  obtain ⟨n, hn⟩ := h
  induction n using Nat.strongRecOn with
  | _ n ih =>
    by_cases hm : ∃ m, m < n ∧ p m
    · obtain ⟨m, hlt, hp⟩ := hm; exact ih m hlt hp
    · exact ⟨n, hn, fun m hp => Nat.le_of_not_lt fun hlt => hm ⟨m, hlt, hp⟩⟩

theorem E_sound (hC : CSound P G C) (hG : G w0) (hb0 : base = w0.heap.size) (hm : P.follows .mixedOrders = true) : ∀ (c : Code) (s : S) (Qa : Ex → S → Prop), E P C c s Qa → ∀ (ρ : Nat → Nat) (a : Act) (w : World),
    RelS base w0 ρ s.abs a w → c.wp P (Post base w0 Qa) a w
  | .skip, s, Qa, h, ρ, a, w, R => wp_skip ⟨.normal, s, ρ, rfl, h, R⟩
  | .exit n, s, Qa, h, ρ, a, w, R => wp_exit ⟨.exit n, s, ρ, rfl, h, R⟩
  | .ret, s, Qa, h, ρ, a, w, R => wp_ret ⟨.ret, s, ρ, rfl, h, R⟩
  | .region id ops draw, s, Qa, h, ρ, a, w, R => by
    have h : purgeAll ops.toList s fun s => runOps P C ops.toList ops.toList [] s fun fps s => match (generalizing := false) draw with
      | false => Qa .normal s
      | true => match (generalizing := false) okFrom 0 ops.toList fps with
        | true => Both (Ob (Region.lexB .any ops = true)) (Qa .normal s)
        | false => Stuck "order" := h
    obtain ⟨s, h, R⟩ := purgeAll_eq (a := a) (w := w) ops.toList s _ h R
    obtain ⟨fps, s', hrun, hlen, h⟩ := runOps_eq ops.toList [] s _ (KnOK.nil _) h
    cases draw with
    | false =>
      exact wp_region_list (lex_list hC hG hb0 _ _ _ _ ρ a w hrun R fun ρ a w R' => ⟨.normal, s', ρ, rfl, h, R'⟩)
    | true =>
      dsimp only at h
      split at h
      · rename_i hok
        obtain ⟨⟨hB⟩, h⟩ := h
        simp only [Region.lexB, Bool.and_eq_true] at hB
        have hlen' : fps.length = ops.size := by simpa using hlen
        have hany := any_lex (P := P) (C := C) (ops := ops) (FT := fun j => (fps[j]?).getD (false, [])) (K := fun x => x = s'.abs) ops.toList fps 0 (Array.replicate ops.size false) s.abs s'.abs
          (fun j => by simp) (fun j hj => by
            have hj' : j < fps.length := by simp at hj; omega
            simp [List.getElem?_eq_getElem hj'])
          (fun j _ hj => by simp [hj]) (fun j hj => by omega) (by simpa using hB.2) hok hrun rfl
        refine wp_region_any hm (any_sound hC hG hb0 (fun s1 ρ a w hs R' => ⟨.normal, s', ρ, rfl, h, by rw [← hs]; exact R'⟩) _ _ s.abs ρ a _ (by simpa using hany) ?_)
        exact R.later ((Below.refl _ _).drew)
      · cases h
  | .seq x y, s, Qa, h, ρ, a, w, R => by
    have h : E P C x s fun e s => match (generalizing := false) e with
      | .normal => E P C y s Qa
      | .ret => Qa .ret s
      | .exit n => Qa (.exit n) s := h
    refine wp_seq (Code.wp_mono ?_ (E_sound hC hG hb0 hm x s _ h ρ a w R))
    rintro e a' w' ⟨x', s', ρ', rfl, hq, R'⟩
    cases x' with
    | normal => exact E_sound hC hG hb0 hm y s' Qa hq ρ' a' w' R'
    | ret => exact ⟨.ret, s', ρ', rfl, hq, R'⟩
    | exit n => exact ⟨.exit n, s', ρ', rfl, hq, R'⟩
  | .cond c x y, s, Qa, h, ρ, a, w, R => by
    have h : (match (generalizing := false) ev s.t c with
      | .one (.bool p) => Both (Given (p = true) (E P C x s Qa)) (Given (p = false) (E P C y s Qa))
      | _ => Stuck "cond") := h
    split at h
    · rename_i b hb
      obtain ⟨⟨h1⟩, ⟨h2⟩⟩ := h
      exact wp_cond_split (ev_bool R.ctx hb) (fun e => E_sound hC hG hb0 hm x s Qa (h1 e) ρ a w R) (fun e => E_sound hC hG hb0 hm y s Qa (h2 e) ρ a w R)
    · cases h
  | .block n x, s, Qa, h, ρ, a, w, R => by
    have h : E P C x s fun e s => match (generalizing := false) e with
      | .normal => Qa .normal s
      | .ret => Qa .ret s
      | .exit m => match (generalizing := false) Nat.beq m n with
        | true => Qa .normal s
        | false => Qa (.exit m) s := h
    refine wp_block (Code.wp_mono ?_ (E_sound hC hG hb0 hm x s _ h ρ a w R))
    rintro e a' w' ⟨x', s', ρ', rfl, hq, R'⟩
    cases x' with
    | normal => exact ⟨.normal, s', ρ', rfl, hq, R'⟩
    | ret => exact ⟨.ret, s', ρ', rfl, hq, R'⟩
    | exit m =>
      dsimp only at hq
      show if m = n then _ else _
      split at hq
      · rename_i he; rw [if_pos (by simpa using he)]; exact ⟨.normal, s', ρ', rfl, hq, R'⟩
      · rename_i he; rw [if_neg (Nat.ne_of_beq_eq_false he)]; exact ⟨.exit m, s', ρ', rfl, hq, R'⟩
  | .loop x, s, Qa, h, ρ, a, w, R => by
    have h : LoopP (E P C x) s Qa := h
    rcases h with ⟨κ, ok, sh, m, ⟨k0, hk0, hle0⟩, hround⟩ | ⟨n, hn⟩
    rotate_left
    · refine wp_loop_rounds n ?_
      have key : ∀ (n : Nat) (s : S) (ρ : Nat → Nat) (a : Act) (w : World), timesP (E P C x) Qa n s → RelS base w0 ρ s.abs a w → Code.rounds P x (Post base w0 Qa) n a w := by
        intro n
        induction n with
        | zero => intro s ρ a w h _; cases (h : Stuck "times")
        | succ n ih =>
          intro s ρ a w h R
          rw [rounds_succ]
          have h : E P C x s fun e s => match (generalizing := false) e with
            | .normal => timesP (E P C x) Qa n s
            | .ret => Qa .ret s
            | .exit m => Qa (.exit m) s := h
          refine Code.wp_mono ?_ (E_sound hC hG hb0 hm x s _ h ρ a w R)
          rintro e a' w' ⟨x', s', ρ', rfl, hq, R'⟩
          cases x' with
          | normal => exact ih s' ρ' a' w' hq R'
          | ret => exact ⟨.ret, s', ρ', rfl, hq, R'⟩
          | exit m => exact ⟨.exit m, s', ρ', rfl, hq, R'⟩
      exact key n s ρ a w hn R
    let p : Act → World → Nat → Prop := fun a w n => ∃ k ρ, ok k ∧ m k = n ∧ RelS base w0 ρ (sh k).abs a w
    have hex : ∀ a w, (∃ k ρ, ok k ∧ RelS base w0 ρ (sh k).abs a w) → ∃ n, p a w n := fun a w ⟨k, ρ, h1, h2⟩ => ⟨m k, k, ρ, h1, rfl, h2⟩
    classical
    let μ : Act → World → Nat := fun a w => if h : ∃ n, p a w n then Classical.choose (least h) else 0
    have hμ : ∀ a w (h : ∃ n, p a w n), p a w (μ a w) ∧ ∀ n, p a w n → μ a w ≤ n := fun a w h => by
      have := Classical.choose_spec (least h)
      simp only [μ, dif_pos h]
      exact this
    refine wp_loop (fun a w => ∃ k ρ, ok k ∧ RelS base w0 ρ (sh k).abs a w) μ ⟨k0, ρ, hk0, R.le hle0⟩ ?_
    intro a w hI
    obtain ⟨k, ρ, hk, hmk, R'⟩ := (hμ a w (hex a w hI)).1
    refine Code.wp_mono ?_ (E_sound hC hG hb0 hm x (sh k) _ (hround k hk) ρ a w R')
    rintro e a' w' ⟨x', s', ρ', rfl, hq, R''⟩
    cases x' with
    | normal =>
      obtain ⟨k', hk', hlt, hle⟩ := hq
      have hin : ∃ k ρ, ok k ∧ RelS base w0 ρ (sh k).abs a' w' := ⟨k', ρ', hk', R''.le hle⟩
      refine ⟨hin, ?_⟩
      have := (hμ a' w' (hex a' w' hin)).2 (m k') ⟨k', ρ', hk', rfl, R''.le hle⟩
      omega
    | ret => exact ⟨.ret, s', ρ', rfl, hq, R''⟩
    | exit n => exact ⟨.exit n, s', ρ', rfl, hq, R''⟩
  | .rangeFunc _ _ _ _, _, _, h, _, _, _, _ => by cases (h : Stuck "code")
  | .scope _, _, _, h, _, _, _, _ => by cases (h : Stuck "code")
  | .label _, _, _, h, _, _, _, _ => by cases (h : Stuck "code")
  | .goto _, _, _, h, _, _, _, _ => by cases (h : Stuck "code")
  | .refuse _, _, _, h, _, _, _, _ => by cases (h : Stuck "code")

theorem junks_len : ∀ n, (junks n).length = n
  | 0 => rfl
  | n + 1 => by simp [junks, junks_len n]
theorem start_len : ∀ (n : Nat) (l : List AV), l.length ≤ n → (start n l).length = n
  | n, [], _ => by cases n <;> simp [start, junks_len]
  | 0, _ :: _, h => by simp at h
  | n + 1, x :: l, h => by simp [start, start_len n l (by simpa using h)]
theorem getT_junks : ∀ (k n : Nat), getT (junks k) n = .one .junk
  | 0, _ => rfl
  | _ + 1, 0 => rfl
  | k + 1, n + 1 => getT_junks k n
theorem start_rel {ρ : Nat → Nat} : ∀ (k : Nat) (l : List AV) (us : List Value), l.length ≤ k → RelAs ρ l us → ∀ n (v : Value), (us[n]? = some v ∨ us.length ≤ n) → RelA ρ (getT (start k l) n) v
  | k, [], us, _, h, n, v, _ => by
    have : getT (start k []) n = .one .junk := by cases k <;> exact getT_junks _ _
    rw [this]; exact fun hn => absurd rfl hn
  | 0, _ :: _, _, hl, _, _, _, _ => by simp at hl
  | k + 1, x :: l, u :: us, hl, h, 0, v, hv => by
    rcases hv with hv | hv
    · simp at hv; subst hv; exact h.1
    · simp at hv
  | k + 1, x :: l, u :: us, hl, h, n + 1, v, hv => by
    exact start_rel k l us (by simpa using hl) h.2 n v (by simpa using hv)
  | _, _ :: _, [], _, h, _, _, _ => h.elim
theorem start_names (k : Nat) (l : List AV) (hl : ∀ v ∈ l, v.names = []) : ∀ n, (getT (start k l) n).names = [] := by
  induction l generalizing k with
  | nil =>
    intro n
    have : getT (start k []) n = .one .junk := by cases k <;> exact getT_junks _ _
    rw [this]; rfl
  | cons x l ih =>
    intro n
    cases k with
    | zero =>
      have : ∀ (r : List AV) (n : Nat), (∀ v ∈ r, v.names = []) → (getT r n).names = [] := by
        intro r
        induction r with
        | nil => intro n _; rfl
        | cons y r ihr => intro n hr; cases n with
          | zero => exact hr y (by simp)
          | succ n => exact ihr n fun v hv => hr v (by simp [hv])
      exact this (x :: l) n hl
    | succ k =>
      cases n with
      | zero => exact hl x (by simp)
      | succ n => exact ih k (fun v hv => hl v (by simp [hv])) n
theorem relAs_len {ρ : Nat → Nat} : ∀ {l : List AV} {us : List Value}, RelAs ρ l us → l.length = us.length
  | [], [], _ => rfl
  | _ :: _, _ :: _, h => by simp [relAs_len h.2]
  | [], _ :: _, h => h.elim
  | _ :: _, [], h => h.elim

def resM (tmps : Array Value) : ResultVar → Sem Value
  | .tmp t => pure (tmps.getD t undef)
  | .cell ad t => do loadVar t (← asAddr (tmps.getD ad undef))
theorem results_eq (fn : Func) (tmps : Array Value) : results fn tmps = (do let vs ← fn.results.mapM (resM tmps); pure (if h : vs.size = 1 then vs[0] else .tuple vs)) := rfl
/-- Results. -/
theorem res_run {ρ : Nat → Nat} {s : S} {a : Act} {w : World} (R : RelS base w0 ρ s.abs a w) : ∀ (rs : List ResultVar) (r : List (Bool × List L)), resLs P s rs = some r →
    ∃ us, (rs.mapM (resM a.tmps)).run P w = .ok us w ∧ RelVs ρ r us
  | [], r, e => by
    simp [resLs] at e; subst e
    exact ⟨[], rfl, trivial⟩
  | .tmp t :: rs, r, e => by
    simp only [resLs] at e
    split at e
    · rename_i r' hr
      obtain ⟨us, h1, h2⟩ := res_run R rs r' hr
      have ht := R.ctx.tmps t
      refine ⟨a.tmps.getD t undef :: us, by simp [List.mapM_cons, resM, h1, -Array.getD_eq_getD_getElem?], ?_⟩
      split at e
      · rename_i l hl
        obtain rfl := Option.some.inj e
        rw [show getT s.abs.t t = .one l from hl] at ht
        exact ⟨ht, h2⟩
      · rename_i ls hl
        obtain rfl := Option.some.inj e
        rw [show getT s.abs.t t = .agg ls from hl] at ht
        exact ⟨ht, h2⟩
      · cases e
    · cases e
  | .cell ad T :: rs, r, e => by
    simp only [resLs] at e
    split at e
    · rename_i r' hr
      obtain ⟨us, h1, h2⟩ := res_run R rs r' hr
      split at e
      · rename_i i off hp
        have hptr := R.ctx.tmps ad
        rw [show getT s.abs.t ad = .one (.ptr i off) from hp] at hptr
        have hev := hptr (by simp)
        simp only [gL] at hev
        have has : asAddr (a.tmps.getD ad undef) = pure ⟨ρ i, off, none⟩ := by rw [hev]; rfl
        split at e
        · rename_i T' ls hb
          obtain ⟨cs, hc, hrel⟩ := R.ctx.heap i _ (show s.abs.h i = some (.cells T' ls) from hb)
          split at e
          · rename_i inf hi
            split at e
            · rename_i hA
              split at e
              · rename_i r1 ht
                obtain rfl := Option.some.inj e
                have ⟨h3, h4⟩ := relLs_take _ ht (relLs_drop off hrel)
                refine ⟨.agg ((cs.toList.drop off).take inf.size).toArray :: us, ?_, ⟨_, rfl, by simpa using h3⟩, h2⟩
                simp [List.mapM_cons, resM, h1, has, load_part hc hi hA off (by simpa using h4), -Array.getD_eq_getD_getElem?]
              · cases e
            · rename_i hA
              split at e
              · rename_i l r1 ht
                obtain rfl := Option.some.inj e
                obtain ⟨v, hv, hl⟩ := relLs_head (relLs_drop off hrel) ht
                refine ⟨v :: us, ?_, hl, h2⟩
                simp [List.mapM_cons, resM, h1, has, load_one hc hA off hv, -Array.getD_eq_getD_getElem?]
              · cases e
            · cases e
          · cases e
        · cases e
      · cases e
    · cases e
theorem relVs_nil {ρ : Nat → Nat} {p : Bool × List L} {r : List (Bool × List L)} (h : RelVs ρ (p :: r) []) : False := by
  obtain ⟨b, l⟩ := p
  cases b
  · match l, h with
    | [], h => exact h.elim
    | [_], h => exact h.elim
    | _ :: _ :: _, h => exact h.elim
  · exact h.elim
theorem resV_rel {ρ : Nat → Nat} {r : List (Bool × List L)} {us : List Value} (h : RelVs ρ r us) : RelA ρ (resV r) (if h : us.toArray.size = 1 then us.toArray[0] else .tuple us.toArray) := by
  match r, us, h with
  | [], [], _ => exact ⟨_, rfl, trivial⟩
  | [(true, ls)], [u], ⟨⟨cs, e, h1⟩, _⟩ => exact ⟨cs, e, h1⟩
  | [(false, [l])], [u], ⟨h1, _⟩ => exact h1
  | (true, ls) :: p :: r, u :: v :: us, h =>
    simp only [resV]
    rw [dif_neg (by simp)]
    exact ⟨_, rfl, h⟩
  | (false, [l]) :: p :: r, u :: v :: us, h =>
    simp only [resV]
    rw [dif_neg (by simp)]
    exact ⟨_, rfl, h⟩
  | (true, ls) :: p :: r, [u], h => exact (relVs_nil h.2).elim
  | (false, [l]) :: p :: r, [u], h => exact (relVs_nil h.2).elim
  | [(true, ls)], u :: v :: us, h => exact h.2.elim
  | [(false, [l])], u :: v :: us, h => exact h.2.elim

/-- **What the evaluator leaves to be shown of a function shows its contract.** -/
theorem F_sound (hC : CSound P G C) (hm : P.follows .mixedOrders = true) {f : FuncId} {fn : Func} (hf : P.funcs[f]? = some fn) {args : List AV} {K : AV → Prop} (h : F P C fn args K)
    (hn : ∀ v ∈ args, v.names = []) {us : List Value} {ρ : Nat → Nat} (hargs : RelAs ρ args us) {w : World} (hG : G w) :
    Calls P f us.toArray w (fun e w' => ∃ v u ρ', K v ∧ e = .returned u ∧ RelA ρ' v u ∧ Below w.heap.size w w') := by
  unfold F at h
  split at h
  · rename_i c hc
    split at h
    · cases h
    · rename_i hle
      have hle' : args.length ≤ fn.ntmps := by simpa using hle
      have hlen := relAs_len hargs
      have R0 : RelS w.heap.size w ρ (S.abs ⟨start fn.ntmps args, []⟩) { tmps := us.toArray ++ Array.replicate (fn.ntmps - us.toArray.size) undef, defers := [] } w := by
        refine ⟨rfl, ?_, ⟨fun n => ?_, fun i b e => by simp [S.abs, look] at e, fun n m hm => ?_, fun i b e => by simp [S.abs, look] at e⟩, fun i hi => by simp [S.abs, look] at hi,
          fun i j hi => by simp [S.abs, look] at hi, Below.refl _ _, Nat.le_refl _⟩
        · simp [S.abs, start_len _ _ hle']; omega
        · refine start_rel fn.ntmps args us hle' hargs n _ ?_
          by_cases hlt : n < us.length
          · refine .inl ?_
            simp [Array.getElem?_append, hlt]
          · exact .inr (by omega)
        · have := start_names fn.ntmps args hn n
          simp [S.abs, this] at hm
      refine calls_of_wp hf hc (Code.wp_mono ?_ (E_sound hC hG rfl hm c _ _ h ρ _ w R0))
      rintro e a' w' ⟨x, s', ρ', rfl, hq, R⟩
      have fin : ∀ {q : Prop}, (match resLs P s' fn.results.toList with | some r => forceA (resV r) fun v => Ob (K v) | none => Stuck "res") →
          (∀ u, (results fn a'.tmps).run P w' = .ok u w' → (∃ v u' ρ', K v ∧ Ending.returned u = .returned u' ∧ RelA ρ' v u' ∧ Below w.heap.size w w') → q) → q := by
        intro q hq hk
        split at hq
        · rename_i r hr
          rw [forceA_eq] at hq
          obtain ⟨hK⟩ := hq
          obtain ⟨us', h1, h2⟩ := res_run R _ _ hr
          refine hk _ ?_ ⟨resV r, _, ρ', hK, rfl, resV_rel h2, R.below⟩
          rw [results_eq, Array.mapM_eq_mapM_toList]
          simp [h1, -Array.getD_eq_getD_getElem?]
        · cases hq
      cases x with
      | normal => exact fin hq fun u h1 h2 => ⟨R.defers, u, h1, h2⟩
      | ret => exact fin hq fun u h1 h2 => ⟨R.defers, u, h1, h2⟩
      | exit n => cases hq
  · cases h
end
end Go.Ev
