/-
  Chapter 04: rows of instructions, numbers in loops, what Encode and Decode come to: plain definitions and facts. Conditions: as each says.
-/
import Derived.Test.YthkgakelgdncjaaDoorInE
import Derived.Test.YthkgakelgdncjaaDoorPk
import Derived.Test.YthkgakelgdncjaaDoorPo
namespace Go.Proofs.YthkgakelgdncjaaDoor
open Go.Ep Go.RowKit
set_option linter.unusedVariables false
set_option linter.unusedSimpArgs false

structure IN where
  o : BitVec 8
  d : BitVec 8
  s : BitVec 8
  f : BitVec 16
  i : BitVec 32
theorem IN.ext' : ∀ {x y : IN}, x.o = y.o → x.d = y.d → x.s = y.s → x.f = y.f → x.i = y.i → x = y
  | ⟨_, _, _, _, _⟩, ⟨_, _, _, _, _⟩, rfl, rfl, rfl, rfl, rfl => rfl
abbrev IT := Nat → IN
abbrev inP (x : IN) : List PL := [.b8 false x.o, .b8 false x.d, .b8 false x.s, .b16 true x.f, .b32 true x.i]
abbrev inF (x : IT) : Nat → List PL := fun k => [.b8 false (x k).o, .b8 false (x k).d, .b8 false (x k).s, .b16 true (x k).f, .b32 true (x k).i]
abbrev inL (x : IN) : List L := [.b8 false x.o, .b8 false x.d, .b8 false x.s, .b16 true x.f, .b32 true x.i]
def q8 : PL → BitVec 8 | .b8 _ x => x | _ => 0#8
def q16 : PL → BitVec 16 | .b16 _ x => x | _ => 0#16
def q32 : PL → BitVec 32 | .b32 _ x => x | _ => 0#32
def nthQ : List PL → Nat → PL
  | [], _ => .bool false
  | x :: _, 0 => x
  | _ :: xs, n + 1 => nthQ xs n
def inOf (f : Nat → List PL) : IT := fun k => ⟨q8 (nthQ (f k) 0), q8 (nthQ (f k) 1), q8 (nthQ (f k) 2), q16 (nthQ (f k) 3), q32 (nthQ (f k) 4)⟩
theorem inOf_inF (x : IT) : inOf (inF x) = x := rfl

theorem slt_nat {a b : Nat} (ha : a < 9223372036854775808) (hb : b < 9223372036854775808) : (BitVec.ofNat 64 a).slt (BitVec.ofNat 64 b) = decide (a < b) := by
  rw [BitVec.slt_eq_decide, toInt_ofNat ha, toInt_ofNat hb]
  simp
theorem sle_nat {a b : Nat} (ha : a < 9223372036854775808) (hb : b < 9223372036854775808) : (BitVec.ofNat 64 a).sle (BitVec.ofNat 64 b) = decide (a ≤ b) := by
  rw [BitVec.sle_eq_decide, toInt_ofNat ha, toInt_ofNat hb]
  simp
theorem lt_of_slt {a b : Nat} (ha : a < 9223372036854775808) (hb : b < 9223372036854775808) (h : (BitVec.ofNat 64 a).slt (BitVec.ofNat 64 b) = true) : a < b := by
  rw [slt_nat ha hb] at h; simpa using h
theorem ge_of_slt {a b : Nat} (ha : a < 9223372036854775808) (hb : b < 9223372036854775808) (h : (BitVec.ofNat 64 a).slt (BitVec.ofNat 64 b) = false) : b ≤ a := by
  rw [slt_nat ha hb] at h; simpa using h
theorem nat_ofNat {a : Nat} (ha : a < 9223372036854775808) : (BitVec.ofNat 64 a).toNat = a := by
  rw [BitVec.toNat_ofNat, Nat.mod_eq_of_lt (by omega)]
theorem ix_ofNat {a n : Nat} (ha : a < 9223372036854775808) (h : a < n) : 0 ≤ (BitVec.ofNat 64 a).toInt ∧ (BitVec.ofNat 64 a).toNat < n := by
  rw [toInt_ofNat ha, nat_ofNat ha]; exact ⟨by omega, h⟩

/-! Encode. -/
def encL (x : IT) : Nat → List UInt8
  | 0 => []
  | k + 1 => encL x k ++ (iEnc (x k).o (x k).d (x k).s (x k).f (x k).i).data.toList
def encB (x : IT) (n : Nat) : ByteArray := ⟨⟨encL x n⟩⟩
theorem encL_len (x : IT) : ∀ n, (encL x n).length = 8 * n
  | 0 => rfl
  | n + 1 => by
    have : (iEnc (x n).o (x n).d (x n).s (x n).f (x n).i).data.toList.length = 8 := rfl
    rw [encL, List.length_append, encL_len x n, this]; omega
theorem encB_size (x : IT) (n : Nat) : (encB x n).size = 8 * n := encL_len x n
theorem encB_succ (x : IT) (n : Nat) : catB (encB x n) (iEnc (x n).o (x n).d (x n).s (x n).f (x n).i) = encB x (n + 1) := rfl
/-- The bytes as a row that grows. -/
def eightF (x : IN) : Nat → List PL := fun k => [.b8 false (byteAt (iEnc x.o x.d x.s x.f x.i) k)]
def encF (x : IT) : Nat → Nat → List PL
  | 0 => fun _ => [.b8 false 0#8]
  | 1 => eightF (x 0)
  | k + 2 => joinF (8 * (k + 1)) (encF x (k + 1)) (eightF (x (k + 1)))
theorem encF_go (x : IT) {k : Nat} (h : 1 ≤ k) : joinF (8 * k) (encF x k) (eightF (x k)) = encF x (k + 1) := by
  obtain ⟨j, rfl⟩ : ∃ j, k = j + 1 := ⟨k - 1, by omega⟩
  rfl
theorem encF_b8 (x : IT) : ∀ (k j : Nat), ∃ b, encF x k j = [.b8 false b]
  | 0, _ => ⟨_, rfl⟩
  | 1, _ => ⟨_, rfl⟩
  | k + 2, j => by
    obtain ⟨b, hb⟩ := encF_b8 x (k + 1) j
    refine ⟨if 8 * (k + 1) ≤ j then byteAt (iEnc (x (k + 1)).o (x (k + 1)).d (x (k + 1)).s (x (k + 1)).f (x (k + 1)).i) (j - 8 * (k + 1)) else b, ?_⟩
    show mergeP (8 * (k + 1) ≤ j) 0 (eightF (x (k + 1)) (j - 8 * (k + 1))) (encF x (k + 1) j) = _
    rw [hb]; rfl
theorem encF_len (x : IT) (k j : Nat) : (encF x k j).length = 1 := by
  obtain ⟨b, hb⟩ := encF_b8 x k j
  rw [hb]; rfl
theorem nthB_get : ∀ (l : List UInt8) (k : Nat), k < l.length → UInt8.ofBitVec (nthB l k) = l.getD k 0
  | [], k, h => absurd h (by simp)
  | x :: l, 0, _ => rfl
  | x :: l, k + 1, h => by
    have := nthB_get l k (by simpa using h)
    simpa [nthB] using this
theorem encF_get (x : IT) : ∀ (n j : Nat), j < 8 * n → byteP (encF x n j) = (encL x n).getD j 0
  | 0, j, h => absurd h (by omega)
  | 1, j, h => by
    have e : encL x 1 = (iEnc (x 0).o (x 0).d (x 0).s (x 0).f (x 0).i).data.toList := rfl
    rw [e, ← nthB_get _ _ (show j < 8 by omega)]; rfl
  | n + 2, j, h => by
    have hl := encL_len x (n + 1)
    obtain ⟨b, hb⟩ := encF_b8 x (n + 1) j
    have e : encF x (n + 2) j = [.b8 false (if 8 * (n + 1) ≤ j then byteAt (iEnc (x (n + 1)).o (x (n + 1)).d (x (n + 1)).s (x (n + 1)).f (x (n + 1)).i) (j - 8 * (n + 1)) else b)] := by
      show mergeP (8 * (n + 1) ≤ j) 0 (eightF (x (n + 1)) (j - 8 * (n + 1))) (encF x (n + 1) j) = _
      rw [hb]; rfl
    have e2 : encL x (n + 2) = encL x (n + 1) ++ (iEnc (x (n + 1)).o (x (n + 1)).d (x (n + 1)).s (x (n + 1)).f (x (n + 1)).i).data.toList := rfl
    rw [e, e2]
    by_cases hj : 8 * (n + 1) ≤ j
    · rw [if_pos hj, List.getD_eq_getElem?_getD, List.getElem?_append_right (by omega), hl, ← List.getD_eq_getElem?_getD, ← nthB_get _ _ (show j - 8 * (n + 1) < 8 by omega)]; rfl
    · rw [if_neg hj, List.getD_eq_getElem?_getD, List.getElem?_append_left (by omega), ← List.getD_eq_getElem?_getD, ← encF_get x (n + 1) j (by omega), hb]
theorem rowStr_enc (x : IT) (n : Nat) : rowStr (8 * n) (encF x n) = encB x n := by
  have : ((List.range (8 * n)).map fun k => byteP (encF x n k)) = encL x n := by
    apply List.ext_getElem
    · simp [encL_len]
    · intro j h1 h2
      have hj : j < 8 * n := by simpa using h1
      rw [List.getElem_map, List.getElem_range, encF_get x n j hj, List.getD_eq_getElem?_getD, List.getElem?_eq_getElem h2]; rfl
  rw [rowStr, this, encB]
end Go.Proofs.YthkgakelgdncjaaDoor
