/-
  Closed runs of a function for a list of arguments: a table of answers. Conditions: as typed.
-/
import Derived.Test.YtppankimieopiaaDoorPs
namespace Go.Ep
open Go.RowKit
set_option linter.unusedVariables false
set_option linter.unusedSimpArgs false
def eqUs : List UInt8 → List UInt8 → Bool
  | [], [] => true
  | x :: xs, y :: ys => match Nat.beq x.toNat y.toNat with
    | true => eqUs xs ys
    | false => false
  | _, _ => false
theorem eqUs_ok : ∀ {l m : List UInt8}, eqUs l m = true → l = m
  | [], [], _ => rfl
  | x :: xs, y :: ys, h => by
    unfold eqUs at h
    split at h
    · rename_i e
      rw [eqUs_ok h, UInt8.toNat_inj.1 (Nat.eq_of_beq_eq_true e)]
    · cases h
  | [], _ :: _, h => by simp [eqUs] at h
  | _ :: _, [], h => by simp [eqUs] at h
def eqW {w : Nat} (s t : Bool) (x y : BitVec w) : Bool := match eqB s t with
  | true => Nat.beq x.toNat y.toNat
  | false => false
theorem eqB_ok {a b : Bool} (h : eqB a b = true) : a = b := by cases a <;> cases b <;> first | rfl | cases h
theorem eqW_ok {w : Nat} {s t : Bool} {x y : BitVec w} (h : eqW s t x y = true) : s = t ∧ x = y := by
  unfold eqW at h
  split at h
  · rename_i e; exact ⟨eqB_ok e, BitVec.toNat_inj.1 (Nat.eq_of_beq_eq_true h)⟩
  · cases h
/-- Are two plain cells the same? Reckoned by numbers. -/
def eqC (x y : L) : Bool := match x with
  | .b64 s x => match y with | .b64 t y => eqW s t x y | _ => false
  | .b32 s x => match y with | .b32 t y => eqW s t x y | _ => false
  | .b16 s x => match y with | .b16 t y => eqW s t x y | _ => false
  | .b8 s x => match y with | .b8 t y => eqW s t x y | _ => false
  | .bool x => match y with | .bool y => eqB x y | _ => false
  | .str x => match y with | .str y => eqUs x.data.toList y.data.toList | _ => false
  | _ => false
theorem eqC_ok {x y : L} (h : eqC x y = true) : x = y := by
  cases x <;> cases y <;> simp only [eqC, Bool.false_eq_true] at h
  all_goals first
    | (obtain ⟨rfl, rfl⟩ := eqW_ok h; rfl)
    | (obtain rfl := eqB_ok h; rfl)
    | skip
  rename_i x y
  have e := eqUs_ok h
  obtain ⟨⟨x⟩⟩ := x; obtain ⟨⟨y⟩⟩ := y
  simp at e; rw [e]
theorem eqC_names {x y : L} (h : eqC x y = true) : x.names = [] ∧ y.names = [] := by
  have e := eqC_ok h
  subst e
  unfold eqC at h
  split at h <;> first | exact ⟨rfl, rfl⟩ | cases h
def eqZ1 (z : Z AV) (l : L) : Bool := match z with
  | .ok (.one x) => eqC x l
  | _ => false
theorem eqZ1_ok {z : Z AV} {l : L} (h : eqZ1 z l = true) : z = .ok (.one l) ∧ l.names = [] := by
  unfold eqZ1 at h
  split at h
  · exact ⟨by rw [eqC_ok h], (eqC_names h).2⟩
  · cases h
def eqCs : List AV → List L → Bool
  | [], [] => true
  | v :: vs, l :: ls => match v with
    | .one x => match eqC x l with
      | true => eqCs vs ls
      | false => false
    | _ => false
  | _, _ => false
def onesA : List L → List AV
  | [] => []
  | l :: ls => .one l :: onesA ls
theorem eqCs_ok : ∀ {vs : List AV} {ls : List L}, eqCs vs ls = true → vs = onesA ls
  | [], [], _ => rfl
  | v :: vs, l :: ls, h => by
    unfold eqCs at h
    split at h
    · split at h
      · rename_i e; rw [eqC_ok e, eqCs_ok h]; rfl
      · cases h
    · cases h
  | [], _ :: _, h => by simp [eqCs] at h
  | _ :: _, [], h => by simp [eqCs] at h
/-- What a list of closed calls answers. -/
def spMemo : List (List L × L) → Sp
  | [], _ => none
  | p :: r, args => match eqCs args p.1 with
    | true => some (Cond.t, .one p.2)
    | false => spMemo r args
theorem spMemo_ok : ∀ {as : List (List L × L)} {args : List AV} {c : Cond} {v : AV}, spMemo as args = some (c, v) → ∃ p ∈ as, args = onesA p.1 ∧ c = Cond.t ∧ v = .one p.2
  | [], _, _, _, h => by simp [spMemo] at h
  | p :: r, args, c, v, h => by
    unfold spMemo at h
    split at h
    · rename_i e
      simp only [Option.some.injEq, Prod.mk.injEq] at h
      exact ⟨p, by simp, eqCs_ok e, h.1.symm, h.2.symm⟩
    · obtain ⟨q, hq, r⟩ := spMemo_ok h
      exact ⟨q, by simp [hq], r⟩
section
variable {P : Program} {G : World → Prop} {D : VData}
/-- One closed call, that such an entry answers. -/
def OneOK (P : Program) (G : World → Prop) (f : FuncId) (args : List AV) (v : AV) : Prop := ∃ sp : Sp, sp args = some (Cond.t, v) ∧ EntryOK P G f sp
theorem OneOK.of_Z {tb : List (Nat × Sp)} (hC : CSound P G (tab D tb)) (hm : P.follows .mixedOrders = true) {pu im mk : List Nat} {fs : List (Nat × Func)} (hfs : FsOK P fs) {fuel n m : Nat} {f : FuncId} {as : List AV} {l : L} (ha : closed as = true)
    (h : eqZ1 (inlZ P (ZT.of P D (evZ P D tb pu im mk fs fuel n m) im mk fs fuel n) fuel fs n AV f 0 as [] (fun v _ => .ok v)) l = true) : OneOK P G f as (.one l) := by
  classical
  refine ⟨fun args => if args = as then some (Cond.t, .one l) else none, by simp, EntryOK.of_Z hC hm hfs (eqZ1_ok h).1 (eqZ1_ok h).2 ha fun args c v e => ?_⟩
  split at e
  · simp only [Option.some.injEq, Prod.mk.injEq] at e
    exact ⟨by assumption, e.2.symm⟩
  · cases e
theorem EntryOK.of_ones {f : FuncId} {sp : Sp} {args0 : List AV} {v0 : AV} (h0 : OneOK P G f args0 v0) (h : ∀ args c v, sp args = some (c, v) → c = Cond.t ∧ OneOK P G f args v) : EntryOK P G f sp := by
  obtain ⟨s0, -, e0⟩ := h0
  refine ⟨e0.1, fun args c v hs hc => ?_⟩
  obtain ⟨rfl, s, h1, h2⟩ := h args c v hs
  exact h2.2 args Cond.t v h1 hc
theorem EntryOK.of_memo {f : FuncId} {p : List L × L} {as : List (List L × L)} (h : ∀ q ∈ p :: as, OneOK P G f (onesA q.1) (.one q.2)) : EntryOK P G f (spMemo (p :: as)) :=
  .of_ones (h p (by simp)) fun args c v hs => by
    obtain ⟨q, hq, rfl, rfl, rfl⟩ := spMemo_ok hs
    exact ⟨rfl, h q hq⟩
noncomputable def allN (p : Nat → Bool) (n : Nat) : Bool := Nat.rec (motive := fun _ => Bool) true (fun k ih => match p k with
  | true => ih
  | false => false) n
theorem allN_ok {p : Nat → Bool} : ∀ {n : Nat}, allN p n = true → ∀ k, k < n → p k = true
  | 0, _, k, hk => absurd hk (by omega)
  | n + 1, h, k, hk => by
    have h : (match p n with
      | true => allN p n
      | false => false) = true := h
    split at h
    · rename_i e
      by_cases hn : k = n
      · rw [hn, e]
      · exact allN_ok h k (by omega)
    · cases h
/-- Functions of one byte, below a number. -/
def sp8 (n : Nat) (spec : Nat → L) : Sp
  | [.one (.b8 false o)] => match Nat.blt o.toNat n with
    | true => some (Cond.t, .one (spec o.toNat))
    | false => none
  | _ => none
def spI (n : Nat) (spec : Nat → L) : Sp
  | [.one (.b64 true o)] => match Nat.blt o.toNat n with
    | true => some (Cond.t, .one (spec o.toNat))
    | false => none
  | _ => none
theorem EntryOK.of_Z8 {tb : List (Nat × Sp)} (hC : CSound P G (tab D tb)) (hm : P.follows .mixedOrders = true) {pu im mk : List Nat} {fs : List (Nat × Func)} (hfs : FsOK P fs) {fuel n m : Nat} {f : FuncId} {N : Nat} {spec : Nat → L} (hN : 0 < N)
    (h : allN (fun k => eqZ1 (inlZ P (ZT.of P D (evZ P D tb pu im mk fs fuel n m) im mk fs fuel n) fuel fs n AV f 0 [.one (.b8 false (BitVec.ofNat 8 k))] [] (fun v _ => .ok v)) (spec k)) N = true) : EntryOK P G f (sp8 N spec) := by
  have h1 : ∀ k, k < N → OneOK P G f [.one (.b8 false (BitVec.ofNat 8 k))] (.one (spec k)) := fun k hk => OneOK.of_Z hC hm hfs rfl (allN_ok h k hk)
  refine .of_ones (h1 0 hN) fun args c v hs => ?_
  unfold sp8 at hs
  split at hs
  · rename_i o
    split at hs
    · rename_i ho
      simp only [Option.some.injEq, Prod.mk.injEq] at hs
      obtain ⟨rfl, rfl⟩ := hs
      refine ⟨rfl, ?_⟩
      have := h1 o.toNat (by simpa using ho)
      rwa [BitVec.ofNat_toNat, BitVec.setWidth_eq] at this
    · cases hs
  · cases hs
theorem EntryOK.of_ZI {tb : List (Nat × Sp)} (hC : CSound P G (tab D tb)) (hm : P.follows .mixedOrders = true) {pu im mk : List Nat} {fs : List (Nat × Func)} (hfs : FsOK P fs) {fuel n m : Nat} {f : FuncId} {N : Nat} {spec : Nat → L} (hN : 0 < N)
    (h : allN (fun k => eqZ1 (inlZ P (ZT.of P D (evZ P D tb pu im mk fs fuel n m) im mk fs fuel n) fuel fs n AV f 0 [.one (.b64 true (BitVec.ofNat 64 k))] [] (fun v _ => .ok v)) (spec k)) N = true) : EntryOK P G f (spI N spec) := by
  have h1 : ∀ k, k < N → OneOK P G f [.one (.b64 true (BitVec.ofNat 64 k))] (.one (spec k)) := fun k hk => OneOK.of_Z hC hm hfs rfl (allN_ok h k hk)
  refine .of_ones (h1 0 hN) fun args c v hs => ?_
  unfold spI at hs
  split at hs
  · rename_i o
    split at hs
    · rename_i ho
      simp only [Option.some.injEq, Prod.mk.injEq] at hs
      obtain ⟨rfl, rfl⟩ := hs
      refine ⟨rfl, ?_⟩
      have := h1 o.toNat (by simpa using ho)
      rwa [BitVec.ofNat_toNat, BitVec.setWidth_eq] at this
    · cases hs
  · cases hs
end
end Go.Ep
