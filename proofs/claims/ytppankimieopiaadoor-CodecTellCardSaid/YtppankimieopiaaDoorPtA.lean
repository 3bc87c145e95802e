/-
  Closed runs of a function for a list of arguments, of which some are of several cells. Conditions: as typed.
-/
import Derived.Test.YtppankimieopiaaDoorPt
namespace Go.Ep
open Go.RowKit
set_option linter.unusedVariables false
set_option linter.unusedSimpArgs false
def eqLs : List L → List L → Bool
  | [], [] => true
  | x :: xs, y :: ys => match eqC x y with
    | true => eqLs xs ys
    | false => false
  | _, _ => false
theorem eqLs_ok : ∀ {l m : List L}, eqLs l m = true → l = m
  | [], [], _ => rfl
  | x :: xs, y :: ys, h => by
    unfold eqLs at h
    split at h
    · rename_i e
      rw [eqLs_ok h, eqC_ok e]
    · cases h
  | [], _ :: _, h => by simp [eqLs] at h
  | _ :: _, [], h => by simp [eqLs] at h
def eqAV (v u : AV) : Bool := match v with
  | .one x => match u with | .one y => eqC x y | _ => false
  | .agg l => match u with | .agg l' => eqLs l l' | _ => false
  | _ => false
theorem eqAV_ok {v u : AV} (h : eqAV v u = true) : v = u := by
  unfold eqAV at h
  split at h
  · split at h
    · rw [eqC_ok h]
    · cases h
  · split at h
    · rw [eqLs_ok h]
    · cases h
  · cases h
def eqAs : List AV → List AV → Bool
  | [], [] => true
  | v :: vs, u :: us => match eqAV v u with
    | true => eqAs vs us
    | false => false
  | _, _ => false
theorem eqAs_ok : ∀ {vs us : List AV}, eqAs vs us = true → vs = us
  | [], [], _ => rfl
  | v :: vs, u :: us, h => by
    unfold eqAs at h
    split at h
    · rename_i e; rw [eqAV_ok e, eqAs_ok h]
    · cases h
  | [], _ :: _, h => by simp [eqAs] at h
  | _ :: _, [], h => by simp [eqAs] at h
/-- What a list of closed calls answers. -/
def spMemoA : List (List AV × L) → Sp
  | [], _ => none
  | p :: r, args => match eqAs args p.1 with
    | true => some (Cond.t, .one p.2)
    | false => spMemoA r args
theorem spMemoA_ok : ∀ {as : List (List AV × L)} {args : List AV} {c : Cond} {v : AV}, spMemoA as args = some (c, v) → ∃ p ∈ as, args = p.1 ∧ c = Cond.t ∧ v = .one p.2
  | [], _, _, _, h => by simp [spMemoA] at h
  | p :: r, args, c, v, h => by
    unfold spMemoA at h
    split at h
    · rename_i e
      simp only [Option.some.injEq, Prod.mk.injEq] at h
      exact ⟨p, by simp, eqAs_ok e, h.1.symm, h.2.symm⟩
    · obtain ⟨q, hq, r⟩ := spMemoA_ok h
      exact ⟨q, by simp [hq], r⟩
section
variable {P : Program} {G : World → Prop} {D : VData}
theorem EntryOK.of_memoA {f : FuncId} {p : List AV × L} {as : List (List AV × L)} (h : ∀ q ∈ p :: as, OneOK P G f q.1 (.one q.2)) : EntryOK P G f (spMemoA (p :: as)) :=
  .of_ones (h p (by simp)) fun args c v hs => by
    obtain ⟨q, hq, rfl, rfl, rfl⟩ := spMemoA_ok hs
    exact ⟨rfl, h q hq⟩
end
end Go.Ep
