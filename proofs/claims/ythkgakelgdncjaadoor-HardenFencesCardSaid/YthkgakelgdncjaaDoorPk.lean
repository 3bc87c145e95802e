/-
  Small helps for walks by the evaluator: states written by their slots; comparisons of counters. Conditions: as typed.
-/
import Derived.Test.YthkgakelgdncjaaDoorPj
namespace Go.Ep
open Go.RowKit
set_option linter.unusedVariables false
set_option linter.unusedSimpArgs false

noncomputable def pickA (l : List (Nat × AV)) (i : Nat) : AV :=
  List.rec (motive := fun _ => AV) (.one .junk) (fun p _ ih => match p with
    | (j, v) => match Nat.beq j i with
      | true => v
      | false => ih) l
noncomputable def mkT (n i : Nat) (l : List (Nat × AV)) : List AV :=
  Nat.rec (motive := fun _ => Nat → List AV) (fun _ => []) (fun _ ih i => pickA l i :: ih (i + 1)) n i
/-- A state of n slots: some of them are told, the others are of no matter. -/
noncomputable def mkS (n : Nat) (l : List (Nat × AV)) (h : List (Nat × Blk)) : S := ⟨mkT n 0 l, h⟩

/-- The bodies of a code's loops, in the order of the text (those within a loop are not told). -/
def loopsOf : Code → List Code
  | .seq a b => loopsOf a ++ loopsOf b
  | .cond _ a b => loopsOf a ++ loopsOf b
  | .block _ a => loopsOf a
  | .scope a => loopsOf a
  | .loop a => [a]
  | _ => []
def loopAt (f : Func) (k : Nat) : Code := match f.body with
  | some c => match nth (loopsOf c) k with
    | some c => c
    | none => .skip
  | none => .skip
/-- A counter. -/
abbrev iN (k : Nat) : AV := .one (.b64 true (BitVec.ofNat 64 k))
theorem toInt_ofNat {n : Nat} (h : n < 9223372036854775808) : (BitVec.ofNat 64 n).toInt = (n : Int) := vI_len h
theorem toNat_ofNat {n : Nat} (h : n < 18446744073709551616) : (BitVec.ofNat 64 n).toNat = n := by rw [BitVec.toNat_ofNat]; omega
theorem slt_ofNat {k n : Nat} (hk : k < 9223372036854775808) (hn : n < 9223372036854775808) : (BitVec.ofNat 64 k).slt (BitVec.ofNat 64 n) = decide (k < n) := by
  rw [BitVec.slt, toInt_ofNat hk, toInt_ofNat hn]
  exact decide_eq_decide.2 (by omega)
theorem sle_ofNat {k n : Nat} (hk : k < 9223372036854775808) (hn : n < 9223372036854775808) : (BitVec.ofNat 64 k).sle (BitVec.ofNat 64 n) = decide (k ≤ n) := by
  rw [BitVec.sle, toInt_ofNat hk, toInt_ofNat hn]
  exact decide_eq_decide.2 (by omega)
theorem succ_ofNat (k : Nat) : BitVec.ofNat 64 k + 1#64 = BitVec.ofNat 64 (k + 1) := (BitVec.ofNat_add k 1).symm
theorem iN_succ (k : Nat) : AV.one (.b64 true (BitVec.ofNat 64 k + 1#64)) = iN (k + 1) := by rw [succ_ofNat]
theorem slt_yes {k n : Nat} (hk : k < 9223372036854775808) (hn : n < 9223372036854775808) (h : (BitVec.ofNat 64 k).slt (BitVec.ofNat 64 n) = true) : k < n := by
  rw [slt_ofNat hk hn] at h; simpa using h
theorem slt_no {k n : Nat} (hk : k < 9223372036854775808) (hn : n < 9223372036854775808) (h : (BitVec.ofNat 64 k).slt (BitVec.ofNat 64 n) = false) : n ≤ k := by
  rw [slt_ofNat hk hn] at h; simpa using h
end Go.Ep
