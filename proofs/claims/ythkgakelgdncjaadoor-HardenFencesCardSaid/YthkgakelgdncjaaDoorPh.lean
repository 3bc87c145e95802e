/-
  The evaluator is sound: what it leaves to be shown of a function's body shows a contract of the function. Conditions: as typed.
-/
import Derived.Test.YthkgakelgdncjaaDoorPg
namespace Go.Ep
open Go.RowKit
set_option linter.unusedVariables false
set_option linter.unusedSimpArgs false

def S.abs (s : S) : AS := ⟨s.t, look s.h⟩

theorem withName_eq {α : Sort _} (nm d : Nat) (k : Nat → α) : withName nm d k = k (nameOf nm d) := by cases nm <;> rfl
theorem setK_eq {α : Sort _} (l : List AV) : ∀ (n : Nat) (v : AV) (k : List AV → α), setK l n v k = k (l.set n v) := by
  induction l with
  | nil => intro n v k; rfl
  | cons x l ih =>
    intro n v k
    cases n with
    | zero => rfl
    | succ n => exact ih n v fun ys => k (x :: ys)
theorem forceL_eq {α : Sort _} (l : L) (k : L → α) : forceL l k = k l := by cases l <;> rfl
theorem forceLs_eq {α : Sort _} (l : List L) : ∀ (k : List L → α), forceLs l k = k l := by
  induction l with
  | nil => intro k; rfl
  | cons x l ih =>
    intro k
    show forceL x (fun x => forceLs l fun ls => k (x :: ls)) = _
    rw [forceL_eq]; exact ih _
theorem forceVs_eq {α : Sort _} (l : List (Bool × List L)) : ∀ (k : List (Bool × List L) → α), forceVs l k = k l := by
  induction l with
  | nil => intro k; rfl
  | cons p l ih =>
    intro k
    obtain ⟨b, x⟩ := p
    cases b
    · show forceLs x (fun x => forceVs l fun ls => k ((false, x) :: ls)) = _
      rw [forceLs_eq]; exact ih _
    · show forceLs x (fun x => forceVs l fun ls => k ((true, x) :: ls)) = _
      rw [forceLs_eq]; exact ih _
theorem forceK_eq {α : Sort _} (l : List (Nat × Bool)) : ∀ (k : List (Nat × Bool) → α), forceK l k = k l := by
  induction l with
  | nil => intro k; rfl
  | cons p l ih =>
    intro k
    obtain ⟨j, b⟩ := p
    cases b
    · exact ih fun r => k ((j, false) :: r)
    · exact ih fun r => k ((j, true) :: r)
theorem forceA_eq {α : Sort _} (v : AV) (k : AV → α) : forceA v k = k v := by
  cases v
  · simp [forceA, forceL_eq]
  · simp [forceA, forceLs_eq]
  · simp [forceA, forceVs_eq]
theorem forceB_eq {α : Sort _} (b : Blk) (k : Blk → α) : forceB b k = k b := by cases b <;> simp [forceB, forceLs_eq]
theorem look_eq_beq {r : List (Nat × Blk)} {j i : Nat} {b : Blk} : look ((j, b) :: r) i = if j = i then some b else look r i := by
  simp only [look]
  split
  · rename_i h; rw [if_pos (by simpa using h)]
  · rename_i h; rw [if_neg (Nat.ne_of_beq_eq_false h)]
theorem setB_cons {α : Sort _} (j : Nat) (b : Blk) (r : List (Nat × Blk)) (i : Nat) (b' : Blk) (k : List (Nat × Blk) → α) : setB ((j, b) :: r) i b' k = (match Nat.beq j i with
    | true => k ((j, b') :: r)
    | false => setB r i b' fun r => k ((j, b) :: r)) := rfl
theorem setB_eq {α : Sort _} : ∀ (l : List (Nat × Blk)) (i : Nat) (b' : Blk) (k : List (Nat × Blk) → α) , look l i ≠ none → ∃ l', setB l i b' k = k l' ∧ look l' = upd (look l) i b'
  | [], i, b', k, h => absurd rfl h
  | (j, b) :: r, i, b', k, h => by
    rw [setB_cons]
    split
    · rename_i he
      have he' : j = i := by simpa using he
      subst he'
      refine ⟨_, rfl, ?_⟩
      funext x
      simp only [look_eq_beq, upd]
      by_cases hx : x = j
      · simp [hx]
      · simp [hx, Ne.symm hx]
    · rename_i he
      have he' := Nat.ne_of_beq_eq_false he
      rw [look_eq_beq, if_neg he'] at h
      obtain ⟨l', h1, h2⟩ := setB_eq r i b' (fun r => k ((j, b) :: r)) h
      refine ⟨_, h1, ?_⟩
      funext x
      rw [look_eq_beq, h2]
      simp only [upd, look_eq_beq]
      by_cases hx : x = i
      · subst hx; simp [he']
      · simp [hx]
theorem look_cons (l : List (Nat × Blk)) (d : Nat) (b : Blk) : look ((d, b) :: l) = upd (look l) d b := by
  funext x
  rw [look_eq_beq]
  unfold upd
  by_cases h : x = d
  · simp [h]
  · simp [h, Ne.symm h]

theorem purgeTK_eq {α : Sort _} (d : Nat) (l : List AV) : ∀ (k : List AV → α), purgeTK d l k = k (l.map (AV.purge d)) := by
  induction l with
  | nil => intro k; rfl
  | cons x l ih =>
    intro k
    show forceA (x.purge d) (fun x => purgeTK d l fun xs => k (x :: xs)) = _
    rw [forceA_eq]; exact ih _
theorem purgeHK_eq {α : Sort _} (d : Nat) : ∀ (l : List (Nat × Blk)) (k : List (Nat × Blk) → α), ∃ l', purgeHK d l k = k l' ∧ ∀ i, look l' i = if i = d then none else (look l i).map (Blk.purge d)
  | [], k => ⟨[], rfl, fun i => by simp [look]⟩
  | (j, b) :: r, k => by
    have e : purgeHK d ((j, b) :: r) k = (match Nat.beq j d with
        | true => purgeHK d r k
        | false => forceB (b.purge d) fun b => purgeHK d r fun r => k ((j, b) :: r)) := rfl
    rw [e]
    split
    · rename_i hj
      have hj' : j = d := by simpa using hj
      subst hj'
      obtain ⟨l', h1, h2⟩ := purgeHK_eq j r k
      refine ⟨l', h1, fun i => ?_⟩
      rw [h2, look_eq_beq]
      by_cases hi : i = j
      · simp [hi]
      · simp [hi, Ne.symm hi]
    · rename_i hj
      have hj' := Nat.ne_of_beq_eq_false hj
      rw [forceB_eq]
      obtain ⟨l', h1, h2⟩ := purgeHK_eq d r fun r => k ((j, b.purge d) :: r)
      refine ⟨_, h1, fun i => ?_⟩
      rw [look_eq_beq, look_eq_beq, h2]
      by_cases hi : j = i
      · subst hi; simp [hj']
      · simp [hi]
/-- What is known of bools is so. -/
def KnOK (kw : List (Nat × Bool)) (t : List AV) : Prop := ∀ d b, kn kw d = some b → ∀ p, getT t d = .one (.bool p) → p = b
theorem kn_cons {j d : Nat} {b : Bool} {r : List (Nat × Bool)} : kn ((j, b) :: r) d = if j = d then some b else kn r d := by
  simp only [kn]
  split
  · rename_i h; rw [if_pos (by simpa using h)]
  · rename_i h; rw [if_neg (Nat.ne_of_beq_eq_false h)]
theorem kn_del : ∀ (kw : List (Nat × Bool)) (x d : Nat), kn (kdel kw x) d = if x = d then none else kn kw d
  | [], x, d => by simp [kdel, kn]
  | (j, b) :: r, x, d => by
    simp only [kdel]
    split
    · rename_i h
      have h' : j = x := by simpa using h
      rw [kn_del r x d, kn_cons]
      by_cases hx : x = d
      · simp [hx]
      · simp [hx, h']
    · rename_i h
      have h' := Nat.ne_of_beq_eq_false h
      rw [kn_cons, kn_cons, kn_del r x d]
      by_cases hx : x = d
      · subst hx; simp [h']
      · simp [hx]
theorem KnOK.nil (t : List AV) : KnOK [] t := fun d b h => by simp [kn] at h
theorem KnOK.cons {kw : List (Nat × Bool)} {t : List AV} (h : KnOK kw t) {d : Nat} {b : Bool} (hd : getT t d = .one (.bool b)) : KnOK ((d, b) :: kw) t := by
  intro d' b' h1 p hp
  rw [kn_cons] at h1
  split at h1
  · rename_i e
    subst e
    obtain rfl := Option.some.inj h1
    rw [hd] at hp
    simpa using hp.symm
  · exact h d' b' h1 p hp
/-- A slot is written, of which nothing is known then. -/
theorem KnOK.put {kw : List (Nat × Bool)} {s : AS} (h : KnOK kw s.t) (dst : Option Nat) (v : AV) : KnOK (kdelO kw dst) (s.put dst v).t := by
  cases dst with
  | none => exact h
  | some d =>
    intro d' b' h1 p hp
    simp only [kdelO, kn_del] at h1
    split at h1
    · cases h1
    · rename_i hne
      rw [getT_put s (some d) v d' (by simpa using hne)] at hp
      exact h d' b' h1 p hp
theorem knOp_ok {kw : List (Nat × Bool)} {t : List AV} (h : KnOK kw t) {x : Operand} {b : Bool} (hx : knOp kw x = some b) : ∀ p, ev t x = .one (.bool p) → p = b := by
  cases x with
  | tmp n => exact h n b hx
  | const v =>
    cases v <;> simp [knOp] at hx
    subst hx
    intro p hp
    simpa [ev, ofV, ofLeaf] using hp.symm
  | _ => simp [knOp] at hx
theorem KnOK.both {kw : List (Nat × Bool)} {s : AS} (h : KnOK kw s.t) {d : Nat} {v : AV} {b : Bool} (hv : ∀ p, v = .one (.bool p) → p = b) : KnOK ((d, b) :: kdel kw d) (s.put (some d) v).t := by
  intro d' b' h1 p hp
  rw [kn_cons] at h1
  split at h1
  · rename_i e
    subst e
    obtain rfl := Option.some.inj h1
    simp only [AS.put, getT_set] at hp
    split at hp
    · exact hv p hp
    · rename_i hlt
      have : ∀ (t : List AV) (n : Nat), t.length ≤ n → getT t n = .one .junk := by
        intro t
        induction t with
        | nil => intro n _; rfl
        | cons x t ih => intro n hn; cases n with
          | zero => simp at hn
          | succ n => exact ih n (by simpa using hn)
      rw [this _ _ (by simp at hlt; exact hlt)] at hp
      simp at hp
  · exact h.put (some d) v d' b' h1 p hp

section
variable {P : Program} {C : Table} {ops : List Oper}

theorem putK_eq {s : S} {dst : Option Nat} {v : AV} {k : S → Prop} (h : putK s dst v k) : ∃ s1, s1.abs = s.abs.put dst v ∧ k s1 := by
  cases dst with
  | none => exact ⟨s, rfl, h⟩
  | some d =>
    simp only [putK, nxK_eq, forceA_eq, setK_eq] at h
    exact ⟨_, rfl, h⟩
theorem withC_eq {c : Cond} {q : Prop} (h : withC c q) : c.holds ∧ q := by
  cases c with
  | t => exact ⟨trivial, h⟩
  | p x i => obtain ⟨⟨h1⟩, h2⟩ := h; exact ⟨h1, h2⟩
/-- What is known behind an operation whose value is v. -/
theorem kmove_ok {kw : List (Nat × Bool)} {o : Op} {s : AS} {dst : Option Nat} {v : AV} (h : KnOK kw s.t)
    (hv : ∀ x, (o = .move x ∨ o = .assign x) → v = ev s.t x)
    (hp : ∀ c x y, o = .pick c x y → ∃ b, ev s.t c = .one (.bool b) ∧ v = if b then ev s.t x else ev s.t y) : KnOK (kmove kw o dst) (s.put dst v).t := by
  cases dst with
  | none => exact h
  | some d =>
    have hdel : KnOK (kdel kw d) (s.put (some d) v).t := h.put (some d) v
    have key : ∀ q : Option Bool, (∀ b, q = some b → ∀ p, v = .one (.bool p) → p = b) →
        KnOK (match q with | some true => (d, true) :: kdel kw d | some false => (d, false) :: kdel kw d | none => kdel kw d) (s.put (some d) v).t := by
      intro q hq
      match q, hq with
      | none, _ => exact hdel
      | some true, hq => exact h.both (hq true rfl)
      | some false, hq => exact h.both (hq false rfl)
    unfold kmove
    dsimp only
    apply key
    intro b hb p hpv
    cases o with
    | move x => rw [hv x (.inl rfl)] at hpv; exact knOp_ok h hb p hpv
    | assign x => rw [hv x (.inr rfl)] at hpv; exact knOp_ok h hb p hpv
    | pick c x y =>
      obtain ⟨b', hc, hvv⟩ := hp c x y rfl
      cases c with
      | tmp c =>
        dsimp only at hb
        split at hb
        · rename_i hk
          obtain rfl := h c true hk b' hc
          rw [hvv] at hpv
          exact knOp_ok h hb p (by simpa using hpv)
        · rename_i hk
          obtain rfl := h c false hk b' hc
          rw [hvv] at hpv
          exact knOp_ok h hb p (by simpa using hpv)
        · cases hb
      | _ => simp at hb
    | _ => simp at hb
theorem kmove_other {kw : List (Nat × Bool)} {o : Op} {s : AS} {dst : Option Nat} {v : AV} (h : KnOK kw s.t) (h1 : ∀ x, o ≠ .move x) (h2 : ∀ x, o ≠ .assign x) (h3 : ∀ c x y, o ≠ .pick c x y) :
    KnOK (kmove kw o dst) (s.put dst v).t :=
  kmove_ok h (fun x hx => by rcases hx with hx | hx; exact absurd hx (h1 x); exact absurd hx (h2 x)) (fun c x y e => absurd e (h3 c x y))

theorem opK_eq {kw : List (Nat × Bool)} {o : Oper} {s : S} {k : FP → S → Prop} (hw : wantA ops o s.t = some true) (hk : KnOK kw s.t) (hni : ∀ c f args, req P o.op s.t = some (c, .call f args) → C.fn f args (blks (look s.h) (anames args)) = none → C.mkr f args (blks (look s.h) (anames args)) = none → ∀ K, ¬ C.inl f C.tp args s.h K)
    (hna : ∀ c b e z m x, req P o.op s.t = some (c, .app b e z m x) → C.app = .no) (h : opK P C kw o s k) :
    ∃ fp s1, Step P C ops o fp s.abs s1.abs ∧ KnOK (kmove kw o.op o.dst) s1.t ∧ k fp s1 := by
  unfold opK at h
  split at h
  · rename_i c r hr
    obtain ⟨hc, h⟩ := withC_eq h
    have mk : ∀ {fp : FP} {dv : AV} {hwr : Option (Nat × Blk)}, YieldsR C o.dst fp s.abs dv hwr r → Yields P C ops o fp s.abs dv hwr := fun hy => by
      unfold Yields
      rw [show wantA ops o s.abs.t = some true from hw]
      exact ⟨c, r, hr, hc, hy⟩
    -- what the value is, if it was moved or picked
    have hmv : ∀ x, (o.op = .move x ∨ o.op = .assign x) → r = .val (ev s.t x) := fun x hx => by
      rcases hx with hx | hx <;> rw [hx] at hr <;> simp [req] at hr <;> exact hr.2.symm
    have hpk : ∀ c x y, o.op = .pick c x y → ∃ b, ev s.t c = .one (.bool b) ∧ r = .pick b (ev s.t x) (ev s.t y) := fun c x y hx => by
      rw [hx] at hr
      simp only [req] at hr
      split at hr
      · rename_i b hb
        simp only [Option.some.injEq, Prod.mk.injEq] at hr
        exact ⟨b, hb, hr.2.symm⟩
      · cases hr
    cases r with
    | val v =>
      obtain ⟨s1, e, h⟩ := putK_eq h
      refine ⟨_, s1, ⟨v, none, mk ⟨rfl, rfl, rfl⟩, by rw [eff_none]; exact e⟩, ?_, h⟩
      rw [show s1.t = (s.abs.put o.dst v).t by rw [← e]; rfl]
      exact kmove_ok hk (fun x hx => by have := hmv x hx; simp at this; exact this) (fun c x y e => by obtain ⟨b, _, hb⟩ := hpk c x y e; simp at hb)
    | rd i f =>
      simp only [doK] at h
      split at h
      · rename_i b hb
        split at h
        · rename_i c' v hv
          obtain ⟨hc', h⟩ := withC_eq h
          obtain ⟨s1, e, h⟩ := putK_eq h
          refine ⟨_, s1, ⟨v, none, mk ⟨rfl, rfl, b, c', hb, hv, hc'⟩, by rw [eff_none]; exact e⟩, ?_, h⟩
          rw [show s1.t = (s.abs.put o.dst v).t by rw [← e]; rfl]
          exact kmove_ok hk (fun x hx => by have := hmv x hx; simp at this) (fun c x y e => by obtain ⟨b, _, hb⟩ := hpk c x y e; simp at hb)
        · cases h
      · cases h
    | wr i f =>
      simp only [doK] at h
      split at h
      · cases h
      · rename_i hdst
        split at h
        · rename_i b hb
          split at h
          · rename_i c' b' hb'
            obtain ⟨hc', h⟩ := withC_eq h
            rw [forceB_eq] at h
            obtain ⟨l', h1, h2⟩ := setB_eq s.h i b' (fun h => k (true, [i]) ⟨s.t, h⟩) (by rw [hb]; simp)
            rw [h1] at h
            refine ⟨_, ⟨s.t, l'⟩, ⟨.one .junk, some (i, b'), mk ⟨rfl, hdst, b, c', b', hb, hb', hc', rfl⟩, ?_⟩, ?_, h⟩
            · rw [hdst]; simp only [S.abs, AS.eff, AS.put, h2]
            · rw [hdst]; exact hk
          · cases h
        · cases h
    | new b nv =>
      simp only [doK] at h
      split at h
      · rename_i d hdst
        rw [withName_eq] at h
        split at h
        · rename_i hd0
          split at h
          · rename_i hlt
            rw [forceB_eq, forceL_eq, setK_eq] at h
            refine ⟨_, ⟨s.t.set d (.one (nv.at (nameOf C.nm d))), (nameOf C.nm d, b) :: s.h⟩, ⟨.one (nv.at (nameOf C.nm d)), some (nameOf C.nm d, b), mk ⟨d, hdst, rfl, hd0, by simpa [S.abs] using hlt, rfl, rfl⟩, ?_⟩, ?_, h⟩
            · rw [hdst]; simp only [S.abs, AS.eff, AS.put, look_cons]
            · have e : s.t.set d (.one (nv.at (nameOf C.nm d))) = (s.abs.put o.dst (.one (nv.at (nameOf C.nm d)))).t := by rw [hdst]; rfl
              rw [e]
              exact kmove_ok hk (fun x hx => by have := hmv x hx; simp at this) (fun c x y e => by obtain ⟨b, _, hb⟩ := hpk c x y e; simp at hb)
          · cases h
        · cases h
      · cases h
    | call f args =>
      simp only [doK] at h
      split at h
      · rename_i c' v hv
        obtain ⟨hc', h⟩ := withC_eq h
        rw [forceNs_eq] at h
        obtain ⟨s1, e, h⟩ := putK_eq h
        refine ⟨_, s1, ⟨v, none, mk (.inl ⟨rfl, rfl, c', hv, hc'⟩), by rw [eff_none]; exact e⟩, ?_, h⟩
        rw [show s1.t = (s.abs.put o.dst v).t by rw [← e]; rfl]
        exact kmove_ok hk (fun x hx => by have := hmv x hx; simp at this) (fun c x y e => by obtain ⟨b, _, hb⟩ := hpk c x y e; simp at hb)
      · rename_i hv
        split at h
        · rename_i c' b nv hm
          obtain ⟨hc', h⟩ := withC_eq h
          split at h
          · rename_i d hdst
            rw [withName_eq] at h
            split at h
            · rename_i hd0
              split at h
              · rename_i hlt
                rw [forceNs_eq, forceB_eq, forceL_eq, setK_eq] at h
                refine ⟨_, ⟨s.t.set d (.one (nv.at (nameOf C.nm d))), (nameOf C.nm d, b) :: s.h⟩, ⟨.one (nv.at (nameOf C.nm d)), some (nameOf C.nm d, b), mk (.inr ⟨d, c', b, nv, hdst, rfl, hm, hc', hd0, by simpa [S.abs] using hlt, rfl, rfl⟩), ?_⟩, ?_, h⟩
                · rw [hdst]; simp only [S.abs, AS.eff, AS.put, look_cons]
                · have e : s.t.set d (.one (nv.at (nameOf C.nm d))) = (s.abs.put o.dst (.one (nv.at (nameOf C.nm d)))).t := by rw [hdst]; rfl
                  rw [e]
                  exact kmove_ok hk (fun x hx => by have := hmv x hx; simp at this) (fun c x y e => by obtain ⟨b, _, hb⟩ := hpk c x y e; simp at hb)
              · cases h
            · cases h
          · cases h
        · rename_i hm
          split at h
          · exact absurd h (hni c f args hr hv hm _)
          · cases h
    | glob T g off =>
      simp only [doK] at h
      split at h
      · rename_i v hv
        obtain ⟨s1, e, h⟩ := putK_eq h
        refine ⟨_, s1, ⟨v, none, mk ⟨rfl, rfl, hv⟩, by rw [eff_none]; exact e⟩, ?_, h⟩
        rw [show s1.t = (s.abs.put o.dst v).t by rw [← e]; rfl]
        exact kmove_ok hk (fun x hx => by have := hmv x hx; simp at this) (fun c x y e => by obtain ⟨b, _, hb⟩ := hpk c x y e; simp at hb)
      · cases h
    | look T ok g b key =>
      simp only [doK] at h
      split at h
      · rename_i c' v hv
        obtain ⟨hc', h⟩ := withC_eq h
        obtain ⟨s1, e, h⟩ := putK_eq h
        refine ⟨_, s1, ⟨v, none, mk ⟨rfl, rfl, c', hv, hc'⟩, by rw [eff_none]; exact e⟩, ?_, h⟩
        rw [show s1.t = (s.abs.put o.dst v).t by rw [← e]; rfl]
        exact kmove_ok hk (fun x hx => by have := hmv x hx; simp at this) (fun c x y e => by obtain ⟨b, _, hb⟩ := hpk c x y e; simp at hb)
      · cases h
    | app base e z m x =>
      simp only [doK, hna c base e z m x hr] at h
      cases h
    | pick b x y =>
      have fin : ∀ (s1 : S) (v : AV), v = (if b then x else y) → s1.abs = s.abs.put o.dst v → KnOK (kmove kw o.op o.dst) s1.t := by
        intro s1 v hv e
        rw [show s1.t = (s.abs.put o.dst v).t by rw [← e]; rfl]
        exact kmove_ok hk (fun x' hx => by have := hmv x' hx; simp at this)
          (fun c x' y' e => by obtain ⟨b', h1, hb⟩ := hpk c x' y' e; simp at hb; obtain ⟨rfl, rfl, rfl⟩ := hb; exact ⟨b, h1, hv⟩)
      have step : ∀ (s1 : S) (v : AV), v = (if b then x else y) → s1.abs = s.abs.put o.dst v → Step P C ops o (false, []) s.abs s1.abs := fun s1 v hv e =>
        ⟨v, none, mk ⟨rfl, rfl, hv⟩, by rw [eff_none]; exact e⟩
      have known : ∀ q, (pickOf o.op).bind (kn kw) = some q → b = q := by
        intro q hq
        cases ho : o.op with
        | pick c x' y' =>
          rw [ho] at hq
          cases c with
          | tmp c =>
            obtain ⟨b', h1, hb⟩ := hpk _ _ _ ho
            simp at hb
            obtain ⟨rfl, -, -⟩ := hb
            exact hk c q (by simpa [pickOf] using hq) b h1
          | _ => simp [pickOf] at hq
        | _ => rw [ho] at hq; simp [pickOf] at hq
      simp only [doK] at h
      split at h
      · rename_i hq
        have hb := known true hq
        obtain ⟨s1, e, h⟩ := putK_eq h
        exact ⟨_, s1, step s1 x (by simp [hb]) e, fin s1 x (by simp [hb]) e, h⟩
      · rename_i hq
        have hb := known false hq
        obtain ⟨s1, e, h⟩ := putK_eq h
        exact ⟨_, s1, step s1 y (by simp [hb]) e, fin s1 y (by simp [hb]) e, h⟩
      · obtain ⟨⟨h1⟩, ⟨h2⟩⟩ := h
        cases hb : b with
        | true =>
          obtain ⟨s1, e, h⟩ := putK_eq (h1 hb)
          exact ⟨_, s1, step s1 x (by simp [hb]) e, fin s1 x (by simp [hb]) e, h⟩
        | false =>
          obtain ⟨s1, e, h⟩ := putK_eq (h2 hb)
          exact ⟨_, s1, step s1 y (by simp [hb]) e, fin s1 y (by simp [hb]) e, h⟩
  · cases h
theorem skipK_eq {kw : List (Nat × Bool)} {o : Oper} {s : S} {k : FP → S → Prop} (hw : wantA ops o s.t = some false) (hk : KnOK kw s.t) (h : skipK o s k) :
    ∃ fp s1, Step P C ops o fp s.abs s1.abs ∧ KnOK (kdelO kw o.dst) s1.t ∧ k fp s1 := by
  obtain ⟨s1, e, h⟩ := putK_eq h
  refine ⟨_, s1, ⟨noV, none, ?_, by rw [eff_none]; exact e⟩, ?_, h⟩
  · unfold Yields
    rw [show wantA ops o s.abs.t = some false from hw]
    exact ⟨rfl, rfl, rfl⟩
  · rw [show s1.t = (s.abs.put o.dst noV).t by rw [← e]; rfl]
    exact KnOK.put (s := s.abs) hk _ _
theorem runOps_cons (all : List Oper) (o : Oper) (r : List Oper) (kw : List (Nat × Bool)) (s : S) (k : List FP → S → Prop) : runOps P C all (o :: r) kw s k = (match o.guard with
      | none => opK P C kw o s fun fp s => forceK (kmove kw o.op o.dst) fun kw => runOps P C all r kw s fun fps => k (fp :: fps)
      | some (j, want) => match guardTmp all j with
        | none => Stuck "guard"
        | some d => match getT s.t d with
          | .one (.bool b) => match kn kw d with
            | some true => match want with
              | true => opK P C kw o s fun fp s => forceK (kmove kw o.op o.dst) fun kw => runOps P C all r kw s fun fps => k (fp :: fps)
              | false => skipK o s fun fp s => forceK (kdelO kw o.dst) fun kw => runOps P C all r kw s fun fps => k (fp :: fps)
            | some false => match want with
              | false => opK P C kw o s fun fp s => forceK (kmove kw o.op o.dst) fun kw => runOps P C all r kw s fun fps => k (fp :: fps)
              | true => skipK o s fun fp s => forceK (kdelO kw o.dst) fun kw => runOps P C all r kw s fun fps => k (fp :: fps)
            | none => match want with
              | true => Both
                (Given (b = true) (opK P C ((d, true) :: kw) o s fun fp s => forceK (kmove ((d, true) :: kw) o.op o.dst) fun kw => runOps P C all r kw s fun fps => k (fp :: fps)))
                (Given (b = false) (skipK o s fun fp s => forceK (kdelO ((d, false) :: kw) o.dst) fun kw => runOps P C all r kw s fun fps => k (fp :: fps)))
              | false => Both
                (Given (b = true) (skipK o s fun fp s => forceK (kdelO ((d, true) :: kw) o.dst) fun kw => runOps P C all r kw s fun fps => k (fp :: fps)))
                (Given (b = false) (opK P C ((d, false) :: kw) o s fun fp s => forceK (kmove ((d, false) :: kw) o.op o.dst) fun kw => runOps P C all r kw s fun fps => k (fp :: fps)))
          | .one (.raw v) => match isBoolV v with
            | false => skipK o s fun fp s => forceK (kdelO kw o.dst) fun kw => runOps P C all r kw s fun fps => k (fp :: fps)
            | true => Stuck "guard"
          | _ => Stuck "guard") := rfl
/-- Whether an operation is wanted, and what is known then. -/
theorem runOps_split {o : Oper} {r : List Oper} {kw : List (Nat × Bool)} {s : S} {k : List FP → S → Prop} (hk : KnOK kw s.t) (h : runOps P C ops (o :: r) kw s k) :
    ∃ kw', KnOK kw' s.t ∧ ((wantA ops o s.t = some true ∧ opK P C kw' o s (fun fp s => runOps P C ops r (kmove kw' o.op o.dst) s fun fps => k (fp :: fps))) ∨
      (wantA ops o s.t = some false ∧ skipK o s (fun fp s => runOps P C ops r (kdelO kw' o.dst) s fun fps => k (fp :: fps)))) := by
    have yes : ∀ {kw' : List (Nat × Bool)}, KnOK kw' s.t → wantA ops o s.t = some true → opK P C kw' o s (fun fp s => runOps P C ops r (kmove kw' o.op o.dst) s fun fps => k (fp :: fps)) →
        ∃ kw', KnOK kw' s.t ∧ ((wantA ops o s.t = some true ∧ opK P C kw' o s (fun fp s => runOps P C ops r (kmove kw' o.op o.dst) s fun fps => k (fp :: fps))) ∨
      (wantA ops o s.t = some false ∧ skipK o s (fun fp s => runOps P C ops r (kdelO kw' o.dst) s fun fps => k (fp :: fps)))) := fun {kw'} hk' hw h => ⟨kw', hk', .inl ⟨hw, h⟩⟩
    have no : ∀ {kw' : List (Nat × Bool)}, KnOK kw' s.t → wantA ops o s.t = some false → skipK o s (fun fp s => runOps P C ops r (kdelO kw' o.dst) s fun fps => k (fp :: fps)) →
        ∃ kw', KnOK kw' s.t ∧ ((wantA ops o s.t = some true ∧ opK P C kw' o s (fun fp s => runOps P C ops r (kmove kw' o.op o.dst) s fun fps => k (fp :: fps))) ∨
      (wantA ops o s.t = some false ∧ skipK o s (fun fp s => runOps P C ops r (kdelO kw' o.dst) s fun fps => k (fp :: fps)))) := fun {kw'} hk' hw h => ⟨kw', hk', .inr ⟨hw, h⟩⟩
    rw [runOps_cons] at h
    simp only [forceK_eq] at h
    cases hg : o.guard with
    | none =>
      rw [hg] at h
      exact yes hk (by simp [wantA, hg]) h
    | some g =>
      obtain ⟨j, want⟩ := g
      rw [hg] at h
      dsimp only at h
      cases hgt : guardTmp ops j with
      | none => rw [hgt] at h; cases h
      | some d =>
        rw [hgt] at h
        dsimp only at h
        split at h
        · rename_i b hb
          have hwant : wantA ops o s.t = some (b == want) := by simp [wantA, hg, hgt, hb]
          split at h
          · rename_i hkn
            obtain rfl := hk d true hkn b hb
            cases want
            · exact no hk hwant h
            · exact yes hk hwant h
          · rename_i hkn
            obtain rfl := hk d false hkn b hb
            cases want
            · exact yes hk hwant h
            · exact no hk hwant h
          · cases want
            · obtain ⟨⟨h1⟩, ⟨h2⟩⟩ := h
              cases b
              · exact yes (hk.cons hb) hwant (h2 rfl)
              · exact no (hk.cons hb) hwant (h1 rfl)
            · obtain ⟨⟨h1⟩, ⟨h2⟩⟩ := h
              cases b
              · exact no (hk.cons hb) hwant (h2 rfl)
              · exact yes (hk.cons hb) hwant (h1 rfl)
        · rename_i v hv
          split at h
          · rename_i hnb
            exact no hk (by simp [wantA, hg, hgt, hv, hnb]) h
          · cases h
        · cases h
theorem runOps_eq (hno : ∀ f tp args h K, ¬ C.inl f tp args h K) (hna : C.app = .no) : ∀ (r : List Oper) (kw : List (Nat × Bool)) (s : S) (k : List FP → S → Prop), KnOK kw s.t → runOps P C ops r kw s k →
    ∃ fps s', LexRun P C ops r fps s.abs s'.abs ∧ fps.length = r.length ∧ k fps s'
  | [], kw, s, k, _, h => ⟨[], s, rfl, rfl, h⟩
  | o :: r, kw, s, k, hk, h => by
    have tail : ∀ {kw' : List (Nat × Bool)} {fp : FP} {s1 : S}, Step P C ops o fp s.abs s1.abs → KnOK kw' s1.t → runOps P C ops r kw' s1 (fun fps => k (fp :: fps)) →
        ∃ fps s', LexRun P C ops (o :: r) fps s.abs s'.abs ∧ fps.length = (o :: r).length ∧ k fps s' := fun {kw' fp s1} hst hk' h => by
      obtain ⟨fps, s', h1, h2, h3⟩ := runOps_eq hno hna r kw' s1 _ hk' h
      exact ⟨fp :: fps, s', ⟨s1.abs, hst, h1⟩, by simp [h2], h3⟩
    obtain ⟨kw', hk', ⟨hw, h⟩ | ⟨hw, h⟩⟩ := runOps_split hk h
    · obtain ⟨fp, s1, h1, h2, h3⟩ := opK_eq hw hk' (fun _ f args _ _ _ K => hno f _ args _ K) (fun _ _ _ _ _ _ _ => hna) h
      exact tail h1 h2 h3
    · obtain ⟨fp, s1, h1, h2, h3⟩ := skipK_eq hw hk' h
      exact tail h1 h2 h3
end
end Go.Ep
