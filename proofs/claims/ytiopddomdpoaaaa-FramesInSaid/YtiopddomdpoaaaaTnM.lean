/-
  Numbers of which some bits are known, as bit vectors: what the functions come to, and plain facts about it: no program in sight. Conditions: as each says.
-/
import Derived.WalkKit
import Derived.Lib.BitFns
namespace Go.Proofs.Ytiopddomdpoaaaa
set_option linter.unusedVariables false

def tAddM (a b c d : BitVec 64) : BitVec 64 := (a + c + b + d) ^^^ (a + c) ||| b ||| d
def tAddV (a b c d : BitVec 64) : BitVec 64 := (a + c) &&& ~~~ (tAddM a b c d)
def tSubM (a b c d : BitVec 64) : BitVec 64 := (a - c + b) ^^^ (a - c - d) ||| b ||| d
def tSubV (a b c d : BitVec 64) : BitVec 64 := (a - c) &&& ~~~ (tSubM a b c d)
def tAndV (a b c d : BitVec 64) : BitVec 64 := a &&& c
def tAndM (a b c d : BitVec 64) : BitVec 64 := (a ||| b) &&& (c ||| d) &&& ~~~ (a &&& c)
def tOrV (a b c d : BitVec 64) : BitVec 64 := a ||| c
def tOrM (a b c d : BitVec 64) : BitVec 64 := (b ||| d) &&& ~~~ (a ||| c)
def tXorM (a b c d : BitVec 64) : BitVec 64 := b ||| d
def tXorV (a b c d : BitVec 64) : BitVec 64 := (a ^^^ c) &&& ~~~ (b ||| d)
def tEitherM (a b c d : BitVec 64) : BitVec 64 := b ||| d ||| (a ^^^ c)
def tEitherV (a b c d : BitVec 64) : BitVec 64 := a &&& ~~~ (tEitherM a b c d)
def tBothV (a b c d : BitVec 64) : BitVec 64 := (a ||| c) &&& ~~~ (b &&& d)
def tBothM (a b c d : BitVec 64) : BitVec 64 := b &&& d
def tBothOk (a b c d : BitVec 64) : Bool := (a ^^^ c) &&& ~~~ b &&& ~~~ d == 0#64
def tHas (a b x : BitVec 64) : Bool := x &&& ~~~ b == a
def tValid (a b : BitVec 64) : Bool := a &&& b == 0#64
def tIn (a b c d : BitVec 64) : Bool := (d &&& ~~~ b == 0#64) && tHas a b c
/-- All bits up to the highest one of a number. -/
def belowB (v : BitVec 64) : BitVec 64 := (1#64 <<< Lib.bitLen v.toNat) - 1#64
theorem bitLen_le64 (x : Nat) : Lib.bitLen x ≤ 64 := by
  have : ∀ f x, Lib.bitLenAux f x ≤ f := by
    intro f
    induction f with
    | zero => intro x; simp [Lib.bitLenAux]
    | succ f ih => intro x; unfold Lib.bitLenAux; split; omega; have := ih (x / 2); omega
  exact this 64 x
def okBit (a b x : BitVec 64) (j : Nat) : Prop := if b.getLsbD j then a.getLsbD j = false else a.getLsbD j = x.getLsbD j
theorem okBits_has (a b x : BitVec 64) : (∀ j, j < 64 → okBit a b x j) ↔ tHas a b x = true := by
  unfold tHas okBit
  rw [beq_iff_eq]
  constructor
  · intro h
    apply BitVec.eq_of_getLsbD_eq
    intro j hj
    have := h j hj
    rw [BitVec.getLsbD_and, BitVec.getLsbD_not, decide_eq_true hj, Bool.true_and]
    cases hb : b.getLsbD j
    · rw [hb, if_neg (by decide)] at this
      rw [this, Bool.not_false, Bool.and_true]
    · rw [hb, if_pos rfl] at this
      rw [this, Bool.not_true, Bool.and_false]
  · intro h j hj
    have e : a.getLsbD j = (x.getLsbD j && !b.getLsbD j) := by
      rw [← h, BitVec.getLsbD_and, BitVec.getLsbD_not, decide_eq_true hj, Bool.true_and]
    cases hb : b.getLsbD j
    · rw [if_neg (by decide), e, hb, Bool.not_false, Bool.and_true]
    · rw [if_pos rfl, e, hb, Bool.not_true, Bool.and_false]

theorem has_iff (a b x : BitVec 64) : tHas a b x = true ↔ ∀ j, j < 64 → a.getLsbD j = (x.getLsbD j && !b.getLsbD j) := by
  unfold tHas
  rw [beq_iff_eq]
  constructor
  · intro h j hj
    rw [← h, BitVec.getLsbD_and, BitVec.getLsbD_not, decide_eq_true hj, Bool.true_and]
  · intro h
    apply BitVec.eq_of_getLsbD_eq
    intro j hj
    rw [BitVec.getLsbD_and, BitVec.getLsbD_not, decide_eq_true hj, Bool.true_and, h j hj]
theorem valid_iff (a b : BitVec 64) : tValid a b = true ↔ ∀ j, j < 64 → (a.getLsbD j && b.getLsbD j) = false := by
  unfold tValid
  rw [beq_iff_eq]
  constructor
  · intro h j hj
    rw [← BitVec.getLsbD_and, h, BitVec.getLsbD_zero]
  · intro h
    apply BitVec.eq_of_getLsbD_eq
    intro j hj
    rw [BitVec.getLsbD_and, h j hj, BitVec.getLsbD_zero]
theorem valid_of_has {a b x : BitVec 64} (h : tHas a b x = true) : tValid a b = true := by
  rw [has_iff] at h
  rw [valid_iff]
  intro j hj
  rw [h j hj]
  cases x.getLsbD j <;> cases b.getLsbD j <;> rfl
theorem made_has (a b by' : BitVec 64) : tHas (a &&& ~~~b) b ((a &&& ~~~b) ||| (b &&& by')) = true := by
  rw [has_iff]
  intro j hj
  simp only [BitVec.getLsbD_and, BitVec.getLsbD_or, BitVec.getLsbD_not, hj, decide_true, Bool.true_and]
  cases a.getLsbD j <;> cases b.getLsbD j <;> cases by'.getLsbD j <;> rfl
theorem shl_has {a b x : BitVec 64} (k : Nat) (h : tHas a b x = true) : tHas (a <<< k) (b <<< k) (x <<< k) = true := by
  rw [has_iff] at h ⊢
  intro j hj
  simp only [BitVec.getLsbD_shiftLeft, hj, decide_true, Bool.true_and]
  by_cases hk : j < k
  · simp [hk]
  · simp [hk, h (j - k) (by omega)]
theorem shr_has {a b x : BitVec 64} (k : Nat) (h : tHas a b x = true) : tHas (a >>> k) (b >>> k) (x >>> k) = true := by
  rw [has_iff] at h ⊢
  intro j hj
  simp only [BitVec.getLsbD_ushiftRight]
  by_cases hk : k + j < 64
  · exact h _ hk
  · rw [BitVec.getLsbD_of_ge a _ (by omega), BitVec.getLsbD_of_ge x _ (by omega)]; rfl
theorem sshr_has {a b x : BitVec 64} (k : Nat) (h : tHas a b x = true) : tHas (a.sshiftRight k) (b.sshiftRight k) (x.sshiftRight k) = true := by
  rw [has_iff] at h ⊢
  intro j hj
  simp only [BitVec.getLsbD_sshiftRight, show decide (64 ≤ j) = false by simp; omega, Bool.not_false, Bool.true_and, BitVec.msb_eq_getLsbD_last]
  by_cases hk : k + j < 64
  · simp only [hk, if_true]; exact h _ hk
  · simp only [hk, if_false]; exact h _ (by decide)
theorem and_has {a b x : BitVec 64} (m : BitVec 64) (h : tHas a b x = true) : tHas (a &&& m) (b &&& m) (x &&& m) = true := by
  rw [has_iff] at h ⊢
  intro j hj
  simp only [BitVec.getLsbD_and, h j hj]
  cases x.getLsbD j <;> cases b.getLsbD j <;> cases m.getLsbD j <;> rfl
theorem const_has (x : BitVec 64) : tHas x 0#64 x = true := by
  rw [has_iff]; intro j hj; simp
theorem eitherL {a b x : BitVec 64} (c d : BitVec 64) (h : tHas a b x = true) : tHas (tEitherV a b c d) (tEitherM a b c d) x = true := by
  unfold tEitherV tEitherM
  rw [has_iff] at h ⊢
  intro j hj
  simp only [BitVec.getLsbD_and, BitVec.getLsbD_or, BitVec.getLsbD_xor, BitVec.getLsbD_not, hj, decide_true, Bool.true_and, h j hj]
  cases x.getLsbD j <;> cases b.getLsbD j <;> cases c.getLsbD j <;> cases d.getLsbD j <;> rfl
theorem eitherR {c d y : BitVec 64} (a b : BitVec 64) (h : tHas c d y = true) : tHas (tEitherV a b c d) (tEitherM a b c d) y = true := by
  unfold tEitherV tEitherM
  rw [has_iff] at h ⊢
  intro j hj
  simp only [BitVec.getLsbD_and, BitVec.getLsbD_or, BitVec.getLsbD_xor, BitVec.getLsbD_not, hj, decide_true, Bool.true_and, h j hj]
  cases y.getLsbD j <;> cases b.getLsbD j <;> cases a.getLsbD j <;> cases d.getLsbD j <;> rfl
theorem both_ok {a b c d x : BitVec 64} (h : tHas a b x = true) (h' : tHas c d x = true) : tBothOk a b c d = true := by
  unfold tBothOk
  rw [has_iff] at h h'
  rw [beq_iff_eq]
  apply BitVec.eq_of_getLsbD_eq
  intro j hj
  simp only [BitVec.getLsbD_and, BitVec.getLsbD_xor, BitVec.getLsbD_not, BitVec.getLsbD_zero, hj, decide_true, Bool.true_and, h j hj, h' j hj]
  cases x.getLsbD j <;> cases b.getLsbD j <;> cases d.getLsbD j <;> rfl
theorem both_has {a b c d x : BitVec 64} (h : tHas a b x = true) (h' : tHas c d x = true) : tHas (tBothV a b c d) (tBothM a b c d) x = true := by
  unfold tBothV tBothM
  rw [has_iff] at h h' ⊢
  intro j hj
  simp only [BitVec.getLsbD_and, BitVec.getLsbD_or, BitVec.getLsbD_not, hj, decide_true, Bool.true_and, h j hj, h' j hj]
  cases x.getLsbD j <;> cases b.getLsbD j <;> cases d.getLsbD j <;> rfl
theorem both_valid (a b c d : BitVec 64) : tValid (tBothV a b c d) (tBothM a b c d) = true := by
  unfold tBothV tBothM
  rw [valid_iff]
  intro j hj
  simp only [BitVec.getLsbD_and, BitVec.getLsbD_or, BitVec.getLsbD_not, hj, decide_true, Bool.true_and]
  cases a.getLsbD j <;> cases b.getLsbD j <;> cases c.getLsbD j <;> cases d.getLsbD j <;> rfl

theorem lt_bitLenAux : ∀ f x, x < 2 ^ f → x < 2 ^ Lib.bitLenAux f x := by
  intro f
  induction f with
  | zero => intro x h; simpa [Lib.bitLenAux] using h
  | succ f ih =>
    intro x h
    unfold Lib.bitLenAux
    split
    · omega
    · have := ih (x / 2) (by rw [Nat.pow_succ] at h; omega)
      rw [Nat.add_comm, Nat.pow_succ]; omega
theorem lt_bitLen (v : BitVec 64) : v.toNat < 2 ^ Lib.bitLen v.toNat := lt_bitLenAux 64 _ v.isLt
theorem belowB_bit (v : BitVec 64) (j : Nat) (hj : j < 64) : (belowB v).getLsbD j = decide (j < Lib.bitLen v.toNat) := by
  have hl := bitLen_le64 v.toNat
  generalize hL : Lib.bitLen v.toNat = L at hl
  have e : belowB v = BitVec.allOnes 64 >>> (64 - L) := by
    unfold belowB
    rw [hL]
    apply BitVec.eq_of_toNat_eq
    have : ∀ L : Fin 65, ((1#64 <<< L.val) - 1#64).toNat = (BitVec.allOnes 64 >>> (64 - L.val)).toNat := by decide +kernel
    exact this ⟨L, by omega⟩
  rw [e, BitVec.getLsbD_ushiftRight, BitVec.getLsbD_allOnes]
  rw [decide_eq_decide]; omega
/-- Range has all from one end to the other. -/
theorem range_has (lo hi v : BitVec 64) (h1 : lo.toNat ≤ v.toNat) (h2 : v.toNat ≤ hi.toNat) :
    tHas (lo &&& ~~~ belowB (lo ^^^ hi)) (belowB (lo ^^^ hi)) v = true := by
  rw [has_iff]
  intro j hj
  rw [BitVec.getLsbD_and, BitVec.getLsbD_not, decide_eq_true hj, Bool.true_and, belowB_bit _ _ hj]
  have hx := lt_bitLen (lo ^^^ hi)
  generalize Lib.bitLen (lo ^^^ hi).toNat = L at hx
  by_cases hL : j < L
  · simp [hL]
  · simp only [hL, decide_false, Bool.not_false, Bool.and_true]
    have e : lo.toNat / 2 ^ L = hi.toNat / 2 ^ L := by
      rw [← Nat.shiftRight_eq_div_pow, ← Nat.shiftRight_eq_div_pow]
      apply Nat.eq_of_testBit_eq
      intro i
      rw [Nat.testBit_shiftRight, Nat.testBit_shiftRight]
      have : (lo ^^^ hi).toNat.testBit (L + i) = false := Nat.testBit_lt_two_pow (Nat.lt_of_lt_of_le hx (Nat.pow_le_pow_right (by decide) (by omega)))
      rw [BitVec.toNat_xor, Nat.testBit_xor] at this
      simpa using this
    have e1 : lo.toNat / 2 ^ L = v.toNat / 2 ^ L := by
      have a1 : lo.toNat / 2 ^ L ≤ v.toNat / 2 ^ L := Nat.div_le_div_right h1
      have a2 : v.toNat / 2 ^ L ≤ hi.toNat / 2 ^ L := Nat.div_le_div_right h2
      omega
    have b1 : lo.getLsbD j = (lo.toNat / 2 ^ L).testBit (j - L) := by
      rw [← Nat.shiftRight_eq_div_pow, Nat.testBit_shiftRight, show L + (j - L) = j by omega]; rfl
    have b2 : v.getLsbD j = (v.toNat / 2 ^ L).testBit (j - L) := by
      rw [← Nat.shiftRight_eq_div_pow, Nat.testBit_shiftRight, show L + (j - L) = j by omega]; rfl
    rw [b1, b2, e1]
end Go.Proofs.Ytiopddomdpoaaaa
