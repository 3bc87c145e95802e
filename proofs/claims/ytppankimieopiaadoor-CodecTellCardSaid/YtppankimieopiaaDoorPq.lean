/-
  Closed runs: code, functions, and what a table of functions that are reckoned answers. Conditions: as typed.
-/
import Derived.Test.YtppankimieopiaaDoorPp
namespace Go.Ep
open Go.RowKit
set_option linter.unusedVariables false
set_option linter.unusedSimpArgs false
variable {β : Type}

def posE (ops : Array Oper) : String := match ops.toList with
  | o :: _ => o.pos
  | [] => "tail"
def purgeS (mks : List Nat) (nm : Nat) : List Oper → S → S
  | [], s => s
  | o :: ops, s => match newNm mks o with
    | none => purgeS mks nm ops s
    | some d => match look s.h (nameOf nm d) with
      | none => purgeS mks nm ops s
      | some _ => purgeS mks nm ops ⟨s.t.map (AV.purge (nameOf nm d)), purgeL (nameOf nm d) s.h⟩
theorem purgeAll_cons' {α : Sort _} (mks : List Nat) (nm : Nat) (o : Oper) (ops : List Oper) (s : S) (k : S → α) : purgeAll nm mks (o :: ops) s k = (match newNm mks o with
      | none => purgeAll nm mks ops s k
      | some d => withName nm d fun i => match look s.h i with
        | none => purgeAll nm mks ops s k
        | some _ => purgeTK i s.t fun t => purgeHK i s.h fun h => purgeAll nm mks ops ⟨t, h⟩ k) := rfl
theorem purgeAll_S {α : Sort _} (mks : List Nat) (nm : Nat) : ∀ (ops : List Oper) (s : S) (k : S → α), purgeAll nm mks ops s k = k (purgeS mks nm ops s)
  | [], s, k => rfl
  | o :: ops, s, k => by
    rw [purgeAll_cons', purgeS]
    cases newNm mks o with
    | none => exact purgeAll_S mks nm ops s k
    | some d =>
      dsimp only
      rw [withName_eq]
      cases look s.h (nameOf nm d) with
      | none => exact purgeAll_S mks nm ops s k
      | some b =>
        dsimp only
        rw [purgeTK_eq, purgeHK_L]
        exact purgeAll_S mks nm ops _ k
noncomputable def timesZ (body : S → (Ex → S → Z β) → Z β) (Q : Ex → S → Z β) (n : Nat) : S → Z β :=
  Nat.rec (motive := fun _ => S → Z β) (fun _ => .error "times")
    (fun _ ih s => body s fun e s => match e with
      | .normal => ih s
      | .ret => Q .ret s
      | .exit m => Q (.exit m) s) n
noncomputable def EZ (P : Program) (C : ZT) (inl : Inl β) (fuel : Nat) (c : Code) : S → (Ex → S → Z β) → Z β :=
  Code.rec (motive := fun _ => S → (Ex → S → Z β) → Z β)
    (fun s Q => Q .normal s)
    (fun _ ops draw s Q => purgeAll C.nm C.mks ops.toList s fun s => match draw with
      | false => runOpsZ P C inl .clo ops.toList ops.toList [] s fun _ s => Q .normal s
      | true => match headOf C.im ops.toList with
        | none => runOpsZ P C.no (fun f _ _ _ _ => .error (callE f)) .no ops.toList ops.toList [] s fun fps s => match okFrom 0 ops.toList fps with
          | true => match Region.lexB .any ops with
            | true => Q .normal s
            | false => .error "lex"
          | false => .error "order"
        | some n => match midT (ops.toList.drop (n + 1)) with
         | false => match Region.tailB ops n with
          | true => runOpsZ P C.still (fun f _ _ _ _ => .error (callE f)) .no ops.toList (ops.toList.take n) [] s fun fps s => match stillF fps with
            | true => runOpsZ P C inl .clo ops.toList (ops.toList.drop n) [] s fun _ s => Q .normal s
            | false => .error "still"
          | false => .error (posE ops)
         | true => match Region.midB .any ops n with
          | true => runOpsZ P C.still (fun f _ _ _ _ => .error (callE f)) .no ops.toList (ops.toList.take n) [] s fun fps s => match stillF fps with
            | true => runOpsZ P C inl .clo ops.toList ((ops.toList.drop n).take 1) [] s fun _ s => runOpsZ P C.no (fun f _ _ _ _ => .error (callE f)) .no ops.toList (ops.toList.drop (n + 1)) [] s fun fps s => match okFrom (n + 1) (ops.toList.drop (n + 1)) fps with
              | true => Q .normal s
              | false => .error "order2"
            | false => .error "still2"
          | false => .error (posE ops))
    (fun _ _ iha ihb s Q => iha s fun e s => match e with
      | .normal => ihb s Q
      | .ret => Q .ret s
      | .exit n => Q (.exit n) s)
    (fun c _ _ iha ihb s Q => match ev s.t c with
      | .one (.bool p) => match p with
        | true => iha s Q
        | false => ihb s Q
      | _ => .error "cond")
    (fun n _ ih s Q => ih s fun e s => match e with
      | .normal => Q .normal s
      | .ret => Q .ret s
      | .exit m => match Nat.beq m n with
        | true => Q .normal s
        | false => Q (.exit m) s)
    (fun _ ih s Q => timesZ ih Q fuel s)
    (fun _ _ _ _ _ _ _ _ => .error "code")
    (fun n s Q => Q (.exit n) s)
    (fun _ _ _ _ => .error "code")
    (fun _ _ _ => .error "code")
    (fun _ _ _ => .error "code")
    (fun s Q => Q .ret s)
    (fun _ _ _ => .error "code") c
theorem timesZ_of {body : S → (Ex → S → Z β) → Z β} {bodyP : S → (Ex → S → Prop) → Prop} {r : β} (hb : ∀ s Q QP, (∀ e s, Q e s = .ok r → QP e s) → body s Q = .ok r → bodyP s QP)
    {Q : Ex → S → Z β} {QP : Ex → S → Prop} (hQ : ∀ e s, Q e s = .ok r → QP e s) : ∀ (n : Nat) (s : S), timesZ body Q n s = .ok r → timesP bodyP QP n s
  | 0, s, e => by cases (show (Except.error "times" : Z β) = .ok r from e)
  | n + 1, s, e => hb s _ _ (fun x s' hx => by
      cases x with
      | normal => exact timesZ_of hb hQ n s' hx
      | ret => exact hQ _ _ hx
      | exit m => exact hQ _ _ hx) e
theorem E_cond_clo {P : Program} {C : ZT} {i : InlP} {c : Operand} {x y : Code} {s : S} {Q : Ex → S → Prop} {p : Bool} (hp : ev s.t c = .one (.bool p))
    (h : Both (Given (p = true) (E P (C.tab i .clo) x s Q)) (Given (p = false) (E P (C.tab i .clo) y s Q))) : E P (C.tab i .clo) (.cond c x y) s Q := by
  show (match (generalizing := false) ev s.t c with
      | .one (.bool p) => Both (Given (p = true) (E P (C.tab i .clo) x s Q)) (Given (p = false) (E P (C.tab i .clo) y s Q))
      | _ => Stuck "cond")
  rw [hp]
  exact h
theorem EZ_of {P : Program} {C : ZT} {inl : Inl β} {i : InlP} {fuel : Nat} {r : β} (hI : InlZ inl i r) : ∀ (c : Code) (s : S) (Q : Ex → S → Z β) (QP : Ex → S → Prop), (∀ e s, Q e s = .ok r → QP e s) → EZ P C inl fuel c s Q = .ok r → E P (C.tab i .clo) c s QP
  | .skip, s, Q, QP, hQ, e => hQ _ _ e
  | .exit n, s, Q, QP, hQ, e => hQ _ _ e
  | .ret, s, Q, QP, hQ, e => hQ _ _ e
  | .region id ops draw, s, Q, QP, hQ, e => by
    have e : (purgeAll C.nm C.mks ops.toList s fun s => match draw with
      | false => runOpsZ P C inl .clo ops.toList ops.toList [] s fun _ s => Q .normal s
      | true => match headOf C.im ops.toList with
        | none => runOpsZ P C.no (fun f _ _ _ _ => .error (callE f)) .no ops.toList ops.toList [] s fun fps s => match okFrom 0 ops.toList fps with
          | true => match Region.lexB .any ops with
            | true => Q .normal s
            | false => .error "lex"
          | false => .error "order"
        | some n => match midT (ops.toList.drop (n + 1)) with
         | false => match Region.tailB ops n with
          | true => runOpsZ P C.still (fun f _ _ _ _ => .error (callE f)) .no ops.toList (ops.toList.take n) [] s fun fps s => match stillF fps with
            | true => runOpsZ P C inl .clo ops.toList (ops.toList.drop n) [] s fun _ s => Q .normal s
            | false => .error "still"
          | false => .error (posE ops)
         | true => match Region.midB .any ops n with
          | true => runOpsZ P C.still (fun f _ _ _ _ => .error (callE f)) .no ops.toList (ops.toList.take n) [] s fun fps s => match stillF fps with
            | true => runOpsZ P C inl .clo ops.toList ((ops.toList.drop n).take 1) [] s fun _ s => runOpsZ P C.no (fun f _ _ _ _ => .error (callE f)) .no ops.toList (ops.toList.drop (n + 1)) [] s fun fps s => match okFrom (n + 1) (ops.toList.drop (n + 1)) fps with
              | true => Q .normal s
              | false => .error "order2"
            | false => .error "still2"
          | false => .error (posE ops)) = .ok r := e
    show (purgeAll C.nm C.mks ops.toList s fun s => match draw with
      | false => runOps P (C.tab i .clo) ops.toList ops.toList [] s fun _ s => QP .normal s
      | true => match headOf C.im ops.toList with
        | none => runOps P (noInl (C.tab i .clo)) ops.toList ops.toList [] s fun fps s => match okFrom 0 ops.toList fps with
          | true => Both (Ob (Region.lexB .any ops = true)) (QP .normal s)
          | false => Stuck "order"
        | some n => match midT (ops.toList.drop (n + 1)) with
          | false => Both (Ob (Region.tailB ops n = true)) (runOps P (stillT (C.tab i .clo)) ops.toList (ops.toList.take n) [] s fun fps s => match stillF fps with
            | true => runOps P (C.tab i .clo) ops.toList (ops.toList.drop n) [] s fun _ s => QP .normal s
            | false => Stuck "still")
          | true => Both (Ob (Region.midB .any ops n = true)) (runOps P (stillT (C.tab i .clo)) ops.toList (ops.toList.take n) [] s fun fps s => match stillF fps with
            | true => runOps P (C.tab i .clo) ops.toList ((ops.toList.drop n).take 1) [] s fun _ s => runOps P (noInl (C.tab i .clo)) ops.toList (ops.toList.drop (n + 1)) [] s fun fps s => match okFrom (n + 1) (ops.toList.drop (n + 1)) fps with
              | true => QP .normal s
              | false => Stuck "order"
            | false => Stuck "still"))
    rw [purgeAll_S] at e ⊢
    cases draw with
    | false => exact runOpsZ_of hI (fun _ s e => hQ _ _ e) e
    | true =>
      dsimp only at e ⊢
      cases hhd : headOf C.im ops.toList with
      | none =>
        rw [hhd] at e
        dsimp only at e ⊢
        refine runOpsZ_of (C := C.no) (i := fun _ _ _ _ _ => Stuck "call") (ap := .no) (fun f tp args h k K hk e => by cases e) (fun fps s e => ?_) e
        split at e
        · split at e
          · rename_i hl
            exact ⟨⟨hl⟩, hQ _ _ e⟩
          · cases e
        · cases e
      | some n =>
        rw [hhd] at e
        dsimp only at e ⊢
        cases hmt : midT (ops.toList.drop (n + 1)) with
        | true =>
          rw [hmt] at e
          dsimp only at e ⊢
          split at e
          · rename_i hl
            refine ⟨⟨hl⟩, runOpsZ_of (C := C.still) (i := fun _ _ _ _ _ => Stuck "call") (ap := .no) (fun f tp args h k K hk e => by cases e) (fun fps s e => ?_) e⟩
            split at e
            · refine runOpsZ_of hI (fun _ s e => ?_) e
              refine runOpsZ_of (C := C.no) (i := fun _ _ _ _ _ => Stuck "call") (ap := .no) (fun f tp args h k K hk e => by cases e) (fun fps s e => ?_) e
              split at e
              · exact hQ _ _ e
              · cases e
            · cases e
          · cases e
        | false =>
        rw [hmt] at e
        dsimp only at e ⊢
        split at e
        · rename_i hl
          refine ⟨⟨hl⟩, runOpsZ_of (C := C.still) (i := fun _ _ _ _ _ => Stuck "call") (ap := .no) (fun f tp args h k K hk e => by cases e) (fun fps s e => ?_) e⟩
          split at e
          · exact runOpsZ_of hI (fun _ s e => hQ _ _ e) e
          · cases e
        · cases e
  | .seq x y, s, Q, QP, hQ, e => EZ_of hI x s _ _ (fun x s' hx => by
      cases x with
      | normal => exact EZ_of hI y s' Q QP hQ hx
      | ret => exact hQ _ _ hx
      | exit m => exact hQ _ _ hx) e
  | .cond c x y, s, Q, QP, hQ, e => by
    have e : (match ev s.t c with
      | .one (.bool p) => match p with
        | true => EZ P C inl fuel x s Q
        | false => EZ P C inl fuel y s Q
      | _ => .error "cond") = .ok r := e
    split at e
    · rename_i p hp
      have old : Both (Given (p = true) (E P (C.tab i .clo) x s QP)) (Given (p = false) (E P (C.tab i .clo) y s QP)) := by
        cases p with
        | true => exact ⟨⟨fun _ => EZ_of hI x s Q QP hQ e⟩, ⟨fun h => by cases h⟩⟩
        | false => exact ⟨⟨fun h => by cases h⟩, ⟨fun _ => EZ_of hI y s Q QP hQ e⟩⟩
      exact E_cond_clo hp old
    · cases e
  | .block n x, s, Q, QP, hQ, e => EZ_of hI x s _ _ (fun x s' hx => by
      cases x with
      | normal => exact hQ _ _ hx
      | ret => exact hQ _ _ hx
      | exit m =>
        dsimp only at hx
        show (match Nat.beq m n with | true => QP .normal s' | false => QP (.exit m) s')
        split at hx
        · exact hQ _ _ hx
        · exact hQ _ _ hx) e
  | .loop x, s, Q, QP, hQ, e => LoopP.times fuel (timesZ_of (fun s Q QP hQ e => EZ_of hI x s Q QP hQ e) hQ fuel s e)
  | .rangeFunc _ _ _ _, s, Q, QP, hQ, e => by cases (show (Except.error "code" : Z β) = .ok r from e)
  | .scope _, s, Q, QP, hQ, e => by cases (show (Except.error "code" : Z β) = .ok r from e)
  | .label _, s, Q, QP, hQ, e => by cases (show (Except.error "code" : Z β) = .ok r from e)
  | .goto _, s, Q, QP, hQ, e => by cases (show (Except.error "code" : Z β) = .ok r from e)
  | .refuse _, s, Q, QP, hQ, e => by cases (show (Except.error "code" : Z β) = .ok r from e)
noncomputable def outsZ (h : List (Nat × Blk)) (l : List Nat) : List (Nat × Blk) → (List (Nat × Blk) → Z β) → Z β :=
  List.rec (motive := fun _ => List (Nat × Blk) → (List (Nat × Blk) → Z β) → Z β) (fun g k => k g)
    (fun i _ ih g k => match look h i with
      | some b => match b.names with
        | [] => zB b fun b => ih ((i, b) :: g) k
        | _ => .error "out"
      | none => .error "out") l
theorem outsZ_of {h : List (Nat × Blk)} {r : β} : ∀ {l : List Nat} {g : List (Nat × Blk)} {k : List (Nat × Blk) → Z β} {K : List (Nat × Blk) → Prop}, (∀ g, k g = .ok r → K g) → outsZ h l g k = .ok r → outsK h l g K
  | [], g, k, K, hK, e => hK _ e
  | i :: l, g, k, K, hK, e => by
    have e : (match look h i with
      | some b => match b.names with
        | [] => zB b fun b => outsZ h l ((i, b) :: g) k
        | _ => .error "out"
      | none => .error "out") = .ok r := e
    show (match look h i with
      | some b => match b.names with
        | [] => forceB b fun b => outsK h l ((i, b) :: g) K
        | _ => Stuck "out"
      | none => Stuck "out")
    split at e
    · rename_i b hb
      try rw [hb]
      try dsimp only
      split at e
      · rename_i hn
        try rw [hn]
        try dsimp only
        rw [zB_eq] at e
        rw [forceB_eq]
        exact outsZ_of hK e
      · cases e
    · cases e
noncomputable def FIZ (P : Program) (C : ZT) (inl : Inl β) (fuel : Nat) (f : Func) (tp : Nat) (args : List AV) (h : List (Nat × Blk)) (K : AV → List (Nat × Blk) → Z β) : Z β :=
  match f.body with
  | some c => match Nat.ble args.length f.ntmps with
    | false => .error "args"
    | true => zN (tp + f.ntmps) fun tq => EZ P (C.set tp tq) inl fuel c ⟨start f.ntmps args, h⟩ fun e s => match e with
      | .exit _ => .error "exit"
      | _ => match resLs P s f.results.toList with
        | some r => zA (resV r) fun v => cutHK tp s.h fun h => outsZ s.h (newNs tp v.names) h fun h' => match allIn h' v.names, scopeH h h with
          | true, true => K v h'
          | _, _ => .error "out"
        | none => .error "res"
  | none => .error "body"
theorem FIZ_of {P : Program} {C : ZT} {inl : Inl β} {i : InlP} {fuel : Nat} {r : β} (hI : InlZ inl i r) {f : Func} {tp : Nat} {args : List AV} {h : List (Nat × Blk)} {K : AV → List (Nat × Blk) → Z β} {KP : AV → List (Nat × Blk) → Prop}
    (hK : ∀ v h, K v h = .ok r → KP v h) (e : FIZ P C inl fuel f tp args h K = .ok r) {nm' tp' : Nat} : FI P ⟨C.fn, C.glob, C.look, i, .clo, nm', tp', C.im, C.mkr, C.mks⟩ f tp args h KP := by
  unfold FIZ at e
  unfold FI
  split at e
  · rename_i c hc
    try rw [hc]
    try dsimp only
    split at e
    · cases e
    · rename_i hle
      try rw [hle]
      try dsimp only
      rw [zN_eq] at e
      have fin : ∀ (s : S), (match resLs P s f.results.toList with
        | some r => zA (resV r) fun v => cutHK tp s.h fun h => outsZ s.h (newNs tp v.names) h fun h' => match allIn h' v.names, scopeH h h with
          | true, true => K v h'
          | _, _ => .error "out"
        | none => .error "res") = .ok r → (match resLs P s f.results.toList with
        | some r => forceA (resV r) fun v => cutHK tp s.h fun h => outsK s.h (newNs tp v.names) h fun h' => match allIn h' v.names, scopeH h h with
          | true, true => KP v h'
          | _, _ => Stuck "out"
        | none => Stuck "res") := fun s e => by
        split at e
        · rename_i rs hrs
          try rw [hrs]
          try dsimp only
          rw [zA_eq, cutHK_L] at e
          rw [forceA_eq, cutHK_L]
          refine outsZ_of (fun g hg => ?_) e
          split at hg
          · exact hK _ _ hg
          · cases hg
        · cases e
      rw [startR_eq]
      refine EZ_of (C := C.set tp (tp + f.ntmps)) hI c _ _ _ (fun x s hx => ?_) e
      cases x with
      | normal => exact fin s hx
      | ret => exact fin s hx
      | exit n => cases hx
  · cases e
noncomputable def inlZ (P : Program) (C : ZT) (fuel : Nat) (fs : List (Nat × Func)) (n : Nat) : (β : Type) → Inl β :=
  Nat.rec (motive := fun _ => (β : Type) → Inl β) (fun _ _ _ _ _ _ => .error "deep")
    (fun _ ih β f tp args h K => match findF fs f with
      | some fn => FIZ P C (ih β) fuel fn tp args h K
      | none => .error (callE f)) n
abbrev ZT.inl (C : ZT) (P : Program) (fs : List (Nat × Func)) (n : Nat) : InlP := inlN P (C.tab (fun _ _ _ _ _ => Stuck "call") .clo) fs n
theorem inlZ_of {P : Program} {C : ZT} {fuel : Nat} {fs : List (Nat × Func)} {r : β} : ∀ n, InlZ (inlZ P C fuel fs n β) (C.inl P fs n) r
  | 0 => fun f tp args h k K hk e => by cases (show (Except.error "deep" : Z β) = .ok r from e)
  | n + 1 => fun f tp args h k K hk e => by
    have e : (match findF fs f with
      | some fn => FIZ P C (inlZ P C fuel fs n β) fuel fn tp args h k
      | none => .error (callE f)) = .ok r := e
    show (match findF fs f with
      | some fn => FI P (withInl (C.tab (fun _ _ _ _ _ => Stuck "call") .clo) (C.inl P fs n)) fn tp args h K
      | none => Stuck "call")
    split at e
    · rename_i fn hfn
      try rw [hfn]
      exact FIZ_of (inlZ_of n) hk e
    · cases e
/-- Cells that hold addresses are no longer told. -/
def jkL (l : L) : L := match l.names with
  | [] => l
  | _ => .junk
def jkLs : List L → List L
  | [] => []
  | l :: ls => jkL l :: jkLs ls
theorem jkL_names (l : L) : (jkL l).names = [] := by
  unfold jkL
  split
  · assumption
  · rfl
theorem jkLs_names : ∀ ls : List L, lnames (jkLs ls) = []
  | [] => rfl
  | l :: ls => by simp [jkLs, lnames, jkL_names, jkLs_names ls]
theorem relI_jk {ρ : Nat → Loc} {l : L} {us : List Value} (h : RelI ρ l us) : RelI ρ (jkL l) us := by
  unfold jkL
  split
  · exact h
  · rename_i hn
    have hs : isSeg l = false := by cases l <;> first | rfl | exact absurd rfl hn
    obtain ⟨v, e, -⟩ := (relI_one hs).1 h
    exact ⟨v, e, fun hj => absurd rfl hj⟩
theorem relLs_jk {ρ : Nat → Loc} : ∀ {ls : List L} {us : List Value}, RelLs ρ ls us → RelLs ρ (jkLs ls) us
  | [], us, h => h
  | l :: ls, us, h => by
    obtain ⟨a, b, e, h1, h2⟩ := h
    exact ⟨a, b, e, relI_jk h1, relLs_jk h2⟩
/-- Blocks that are handed on to be read alone. -/
def roB : Blk → Option Blk
  | .cells T ls => some (.ro T (jkLs ls))
  | .ro T ls => some (.ro T (jkLs ls))
  | .row T z n f => some (.ro T [.seg z n f])
  | .imap es => some (.romap es)
  | .romap es => some (.romap es)
def roBs : List (Nat × Blk) → Option (List (Nat × Blk))
  | [] => some []
  | (i, b) :: r => match roB b, roBs r with
    | some b, some r => some ((i, b) :: r)
    | _, _ => none
def maxN : List (Nat × Blk) → Nat
  | [] => 0
  | (i, _) :: r => Nat.max (i + 1) (maxN r)
/-- Functions that make one row and hand it out, reckoned. -/
noncomputable def mkZ (P : Program) (D : VData) (fn : FuncId → List AV → List (Nat × Blk) → Option (Cond × AV)) (im mk : List Nat) (fs : List (Nat × Func)) (fuel n : Nat) (f : FuncId) (args : List AV) (bs : List (Nat × Blk)) : Option (Cond × Blk × NewV) :=
  match inNs f mk with
  | true => match roBs bs with
    | some ro => match allIn ro (anames args), allLt (maxN ro) ro with
      | true, true => match zN (maxN ro) fun tp => inlZ P ⟨fn, D.glob, D.look, 0, 0, im, fun _ _ _ => none, []⟩ fuel fs n (Nat × Blk) f tp args ro fun v h => match v with
          | .one (.rsl x l) => match look h x with
            | some (.row T z m g) => zB (.row T z m g) fun b => .ok (l, b)
            | _ => .error "mk"
          | _ => .error "mk" with
        | .ok (l, .row T z m g) => some (.t, .row T z m g, .r l)
        | _ => none
      | _, _ => none
    | none => none
  | false => none
/-- Functions that write nothing and hand out no memory, reckoned, so many deep. -/
noncomputable def evZ (P : Program) (D : VData) (tb : List (Nat × Sp)) (pu im mk : List Nat) (fs : List (Nat × Func)) (fuel n m : Nat) : FuncId → List AV → List (Nat × Blk) → Option (Cond × AV) :=
  Nat.rec (motive := fun _ => FuncId → List AV → List (Nat × Blk) → Option (Cond × AV)) (fun f args _ => tabF tb f args)
    (fun _ ih f args bs => match tabF tb f args with
      | some x => some x
      | none => match inNs f pu with
        | true => match roBs bs with
          | some ro => match allIn ro (anames args), allLt (maxN ro) ro with
            | true, true => match zN (maxN ro) fun tp => inlZ P ⟨ih, D.glob, D.look, 0, 0, im, mkZ P D ih im mk fs fuel n, mk⟩ fuel fs n AV f tp args ro fun v _ => .ok v with
              | .ok v => match v.names with
                | [] => some (.t, v)
                | _ => none
              | .error _ => none
            | _, _ => none
          | none => none
        | false => none) m
noncomputable abbrev ZT.of (P : Program) (D : VData) (fn : FuncId → List AV → List (Nat × Blk) → Option (Cond × AV)) (im mk : List Nat) (fs : List (Nat × Func)) (fuel n : Nat) : ZT := ⟨fn, D.glob, D.look, 0, 0, im, mkZ P D fn im mk fs fuel n, mk⟩
section
variable {P : Program} {G : World → Prop} {D : VData}
theorem findF_some {fs : List (Nat × Func)} (hfs : FsOK P fs) {f : Nat} {fn : Func} (h : findF fs f = some fn) : ∃ fn, P.funcs[f]? = some fn ∧ (fn.name == "runtime.NumGoroutine") = false ∧ fn.body.isNone = false := ⟨fn, hfs f fn h⟩
theorem lnames_ro {T : TypeId} {ls : List L} : (Blk.ro T ls).names = lnames ls := rfl
theorem roB_spec {b c : Blk} (h : roB b = some c) : c.own = false ∧ c.names = [] ∧ ∀ (ρ : Nat → Loc) (q : Loc) (o : Option Obj), RelB ρ q b o → RelB ρ q c o := by
  cases b with
  | cells T ls =>
    obtain rfl := Option.some.inj h
    refine ⟨rfl, jkLs_names ls, fun ρ q o hb => ?_⟩
    obtain ⟨cs, e, h0, h1⟩ := hb
    exact ⟨cs, (0, 0), e, cs.toList, [], by rw [h0]; simp, relLs_jk h1⟩
  | ro T ls =>
    obtain rfl := Option.some.inj h
    refine ⟨rfl, jkLs_names ls, fun ρ q o hb => ?_⟩
    obtain ⟨cs, fr, e, us, ws, h0, h1⟩ := hb
    exact ⟨cs, fr, e, us, ws, h0, relLs_jk h1⟩
  | row T z n f =>
    obtain rfl := Option.some.inj h
    refine ⟨rfl, rfl, fun ρ q o hb => ?_⟩
    obtain ⟨cs, e, h0, h1, h2, h3, h4⟩ := hb
    exact ⟨cs, (0, 0), e, cs.toList.take (z * n), cs.toList.drop (z * n), by rw [h0]; simp, cs.toList.take (z * n), [], by simp, h4, rfl⟩
  | imap es =>
    obtain rfl := Option.some.inj h
    exact ⟨rfl, rfl, fun ρ q o hb => hb⟩
  | romap es =>
    obtain rfl := Option.some.inj h
    exact ⟨rfl, rfl, fun ρ q o hb => hb⟩
theorem roBs_look : ∀ {bs ro : List (Nat × Blk)}, roBs bs = some ro → ∀ i c, look ro i = some c → ∃ b, (i, b) ∈ bs ∧ roB b = some c
  | [], ro, h, i, c, hi => by
    obtain rfl := Option.some.inj h
    simp [look] at hi
  | (j, b) :: r, ro, h, i, c, hi => by
    simp only [roBs] at h
    split at h
    · rename_i b' r' h1 h2
      obtain rfl := Option.some.inj h
      rw [look_eq_beq] at hi
      split at hi
      · rename_i e
        subst e
        obtain rfl := Option.some.inj hi
        exact ⟨b, by simp, h1⟩
      · obtain ⟨b0, h3, h4⟩ := roBs_look h2 i c hi
        exact ⟨b0, by simp [h3], h4⟩
    · cases h
theorem roBs_rel {bs ro : List (Nat × Blk)} (h : roBs bs = some ro) {ρ : Nat → Loc} {w : World} (hB : RelBs ρ bs w) (hl : ∀ p ∈ bs, (ρ p.1).b < w.heap.size) : RelH w.heap.size w ρ (look ro) w := by
  refine ⟨fun i c hi => ?_, fun i c hi m hm => ?_, fun i c hi => ?_, fun i j c d hi hj ho _ => ?_, Below.refl _ _, Nat.le_refl _⟩
  · obtain ⟨b, h1, h2⟩ := roBs_look h i c hi
    exact (roB_spec h2).2.2 ρ _ _ (hB _ h1)
  · obtain ⟨b, h1, h2⟩ := roBs_look h i c hi
    rw [(roB_spec h2).2.1] at hm; simp at hm
  · obtain ⟨b, h1, h2⟩ := roBs_look h i c hi
    exact ⟨fun e => (by rw [(roB_spec h2).1] at e; cases e), fun _ => hl _ h1⟩
  · obtain ⟨b, h1, h2⟩ := roBs_look h i c hi
    rw [(roB_spec h2).1] at ho; cases ho
theorem mkZ_sound {im : List Nat} {fn : FuncId → List AV → List (Nat × Blk) → Option (Cond × AV)} (hC : CSound P G (ZT.tab ⟨fn, D.glob, D.look, 0, 0, im, fun _ _ _ => none, []⟩ (fun _ _ _ _ _ => Stuck "call") .clo)) (hm : P.follows .mixedOrders = true) {mk : List Nat} {fs : List (Nat × Func)} (hfs : FsOK P fs) (fuel n : Nat) :
    MkOK P G (mkZ P D fn im mk fs fuel n) := fun f args bs c b nv e hc => by
  unfold mkZ at e
  split at e
  · split at e
    · rename_i ro hro
      split at e
      · rename_i h1 h2
        rw [zN_eq] at e
        split at e
        · rename_i l T z m g hu
          simp only [Option.some.injEq, Prod.mk.injEq] at e
          obtain ⟨-, rfl, rfl⟩ := e
          have hF := inlZ_of n f (maxN ro) args ro _ (fun v h => ∃ x, v = .one (.rsl x l) ∧ look h x = some (.row T z m g)) (fun v h e => by
            split at e
            · rename_i x l'
              split at e
              · rename_i T z m g hx
                rw [zB_eq] at e
                simp only [Except.ok.injEq, Prod.mk.injEq] at e
                obtain ⟨rfl, e⟩ := e
                exact ⟨x, rfl, hx.trans (congrArg some e)⟩
              · cases e
            · cases e) hu
          have hI := inlN_sound hC hm hfs n f (maxN ro) args ro _ hF (allLt_spec h2) (fun v hv m hm => allIn_spec h1 m (anames_mem.2 ⟨v, hv, hm⟩))
          refine ⟨rfl, rfl, hI.1, fun us ρ hrel w hG hB hl => (hI.2 w.heap.size w ρ us w hG rfl hrel (roBs_rel hro hB hl)).mono ?_⟩
          rintro e w' ⟨v', h', u', ρ', ⟨x, rfl, hx⟩, rfl, hr, -, H, -⟩
          refine ⟨u', ρ' x, rfl, fun _ => ?_, relB_agree (H.heap x _ hx) (fun m hm => by cases hm), (H.low x _ hx).1 rfl, H.below⟩
          have := hr (by simp)
          rw [this]
          simp [NewV.at, gL]
        · cases e
      · cases e
    · cases e
  · cases e
/-- What the reckoned table answers is so. -/
theorem evZ_sound {tb : List (Nat × Sp)} (hC : CSound P G (tab D tb)) (hm : P.follows .mixedOrders = true) {pu im mk : List Nat} {fs : List (Nat × Func)} (hfs : FsOK P fs) (fuel n : Nat) :
    ∀ m, CSound P G ((ZT.of P D (evZ P D tb pu im mk fs fuel n m) im mk fs fuel n).tab (fun _ _ _ _ _ => Stuck "call") .clo)
  | 0 => ⟨hC.stable, hC.globs, hC.looks, fun f args bs c v e hc => hC.calls f args bs c v e hc, InlOK.none P G, mkZ_sound ⟨hC.stable, hC.globs, hC.looks, fun f args bs c v e hc => hC.calls f args bs c v e hc, InlOK.none P G, MkOK.none P G⟩ hm hfs fuel n⟩
  | m + 1 => by
    have ih := evZ_sound hC hm hfs fuel n m (pu := pu) (im := im) (mk := mk)
    suffices base : CSound P G (ZT.tab ⟨evZ P D tb pu im mk fs fuel n (m + 1), D.glob, D.look, 0, 0, im, fun _ _ _ => none, []⟩ (fun _ _ _ _ _ => Stuck "call") .clo) from ⟨base.stable, base.globs, base.looks, base.calls, InlOK.none P G, mkZ_sound base hm hfs fuel n⟩
    refine ⟨hC.stable, hC.globs, hC.looks, fun f args bs c v e hc => ?_, InlOK.none P G, MkOK.none P G⟩
    have e : (match tabF tb f args with
      | some x => some x
      | none => match inNs f pu with
        | true => match roBs bs with
          | some ro => match allIn ro (anames args), allLt (maxN ro) ro with
            | true, true => match zN (maxN ro) fun tp => inlZ P (ZT.of P D (evZ P D tb pu im mk fs fuel n m) im mk fs fuel n) fuel fs n AV f tp args ro fun v _ => .ok v with
              | .ok v => match v.names with
                | [] => some (Cond.t, v)
                | _ => none
              | .error _ => none
            | _, _ => none
          | none => none
        | false => none) = some (c, v) := e
    split at e
    · rename_i x hx
      obtain rfl := Option.some.inj e
      exact hC.calls f args bs c v hx hc
    · split at e
      · split at e
        · rename_i ro hro
          split at e
          · rename_i h1 h2
            rw [zN_eq] at e
            split at e
            · rename_i u hu
              split at e
              · rename_i hn
                simp only [Option.some.injEq, Prod.mk.injEq] at e
                obtain ⟨-, rfl⟩ := e
                have hF := inlZ_of n f (maxN ro) args ro _ (fun r _ => r = u) (fun v h e => by simpa using e) hu
                have hI := inlN_sound ih hm hfs n f (maxN ro) args ro _ hF (allLt_spec h2) (fun v hv m hm => allIn_spec h1 m (anames_mem.2 ⟨v, hv, hm⟩))
                refine ⟨hn, .inl ⟨hI.1, fun us ρ hrel w hG hB hl => (hI.2 w.heap.size w ρ us w hG rfl hrel (roBs_rel hro hB hl)).mono ?_⟩⟩
                rintro x w' ⟨v', h', u', ρ', rfl, rfl, hr, -, H, -⟩
                exact ⟨u', rfl, relA_any hr hn, H.below⟩
              · cases e
            · cases e
          · cases e
        · cases e
      · cases e
/-- A closed call, reckoned. -/
theorem EntryOK.of_Z {tb : List (Nat × Sp)} (hC : CSound P G (tab D tb)) (hm : P.follows .mixedOrders = true) {pu im mk : List Nat} {fs : List (Nat × Func)} (hfs : FsOK P fs) {fuel n m : Nat} {f : FuncId} {u : AV} {sp : Sp} {as : List AV}
    (h : inlZ P (ZT.of P D (evZ P D tb pu im mk fs fuel n m) im mk fs fuel n) fuel fs n AV f 0 as [] (fun v _ => .ok v) = .ok u) (hn : u.names = []) (ha : closed as = true) (hsp : ∀ args c v, sp args = some (c, v) → args = as ∧ v = u) : EntryOK P G f sp := by
  have hF := inlZ_of n f 0 as [] _ (fun r _ => r = u) (fun v h e => by simpa using e) h
  have hI := inlN_sound (evZ_sound hC hm hfs fuel n m (pu := pu) (im := im) (mk := mk)) hm hfs n f 0 as [] _ hF (fun m hm => by simp [look] at hm) (fun v hv m hm => by rw [closed_spec ha v hv] at hm; simp at hm)
  refine ⟨hI.1, fun args c v e hc => ?_⟩
  obtain ⟨rfl, rfl⟩ := hsp args c v e
  refine ⟨hn, fun us ρ hrel w hG => (hI.2 w.heap.size w ρ us w hG rfl hrel ⟨fun i b hi => by simp [look] at hi, fun i b hi => by simp [look] at hi, fun i c hi => by simp [look] at hi, fun i j c d hi => by simp [look] at hi, Below.refl _ _, Nat.le_refl _⟩).mono ?_⟩
  rintro x w' ⟨v', h', u', ρ', rfl, rfl, hr, -, H, -⟩
  exact ⟨u', rfl, relA_any hr hn, H.below⟩
end
/-- A closed call that answers true. -/
def spT : Sp
  | [] => some (Cond.t, .one (.bool true))
  | _ => none
def isT : Z AV → Bool
  | .ok (.one (.bool b)) => b
  | _ => false
theorem isT_eq {z : Z AV} (h : isT z = true) : z = .ok (.one (.bool true)) := by
  unfold isT at h
  split at h
  · rw [h]
  · cases h
theorem EntryOK.of_ZT {P : Program} {G : World → Prop} {D : VData} {tb : List (Nat × Sp)} (hC : CSound P G (tab D tb)) (hm : P.follows .mixedOrders = true) {pu im mk : List Nat} {fs : List (Nat × Func)} (hfs : FsOK P fs) {fuel n m : Nat} {f : FuncId}
    (h : isT (inlZ P (ZT.of P D (evZ P D tb pu im mk fs fuel n m) im mk fs fuel n) fuel fs n AV f 0 [] [] (fun v _ => .ok v)) = true) : EntryOK P G f spT :=
  .of_Z hC hm hfs (isT_eq h) rfl rfl fun args c v e => by
    unfold spT at e
    split at e
    · simp only [Option.some.injEq, Prod.mk.injEq] at e
      exact ⟨rfl, e.2.symm⟩
    · cases e
end Go.Ep
