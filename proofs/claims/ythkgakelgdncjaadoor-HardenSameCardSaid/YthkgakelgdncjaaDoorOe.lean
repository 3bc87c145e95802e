/- Chapter 04: what is wrong outside, or with fewer maps: plain facts. Conditions: as each says. -/
import Derived.Test.YthkgakelgdncjaaDoorOq
namespace Go.Proofs.YthkgakelgdncjaaDoor
open Go.Ep Go.RowKit
set_option linter.unusedVariables false
set_option linter.unusedSimpArgs false
theorem fK_more (o:BitVec 8) (h:fK o false=true):fK o true=true:=by
 unfold fK at *
 split at h
 · rename_i e;simp only [e,if_true] at *;exact h
 · rename_i e
   split at h
   · rename_i e2;simp only [e,e2] at *;exact h
   · rename_i e2
     simp only [e,e2,Bool.false_eq_true,if_false,Bool.and_false,Bool.or_false,Bool.and_true] at *
     rw [h];rfl
theorem iCheck_more (o d s:BitVec 8) (f:BitVec 16) (i:BitVec 32) (h:iCheck o d s f i false≠20#64):iCheck o d s f i true=iCheck o d s f i false:=by
 unfold iCheck at *
 cases e:fK o false with
 | false=>rw [e] at h;exact absurd rfl h
 | true=>rw [fK_more o e]
theorem alone_inner (x:IT) (n:Nat) (p m:BitVec 64) (h:aloneE x n p m false≠20#64):aloneE x n p m true=aloneE x n p m false:=by
 have key:iCheck (x p.toNat).o (x p.toNat).d (x p.toNat).s (x p.toNat).f (x p.toNat).i false≠20#64:=by
  intro e
  apply h
  unfold aloneE
  rw [e];rfl
 unfold aloneE
 rw [iCheck_more _ _ _ _ _ key]
theorem fstN_inv {p:Nat→Bool} {n k:Nat} (h:fstN p n=some k):k<n∧p k=true∧∀ j,j<k→p j=false:=by
 unfold fstN at h
 rw [List.find?_range_eq_some] at h
 refine ⟨by simpa using h.2.1,h.1,fun j hj=> ?_⟩
 have:=h.2.2 j hj
 simpa using this
theorem fstN_none_inv {p:Nat→Bool} {n:Nat} (h:fstN p n=none):∀ j,j<n→p j=false:=fun j hj=>by
 unfold fstN at h
 rw [List.find?_eq_none] at h
 have:=h j (by simpa using hj)
 simpa using this
end Go.Proofs.YthkgakelgdncjaaDoor
