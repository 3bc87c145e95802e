/-
  Conditions of jumps: what the document tells. Plain mathematics. Conditions: none.
-/
import Derived.Test.YtkmggidgfkchfaaDoorScG
namespace Go.Proofs.YtkmggidgfkchfaaDoor.Cd
open Go.Proofs.YtkmggidgfkchfaaDoor
set_option linter.unusedVariables false
set_option linter.unusedSimpArgs false

abbrev mOne : BitVec 64 := BitVec.ofInt 64 (Int.negSucc 0)
def inO (a b c : Bool) (n : BitVec 64) : Bool := if n == mOne then a else if n == 0#64 then b else c
def cmpS (x y : BitVec 64) : BitVec 64 := if x.slt y then mOne else if y.slt x then 1#64 else 0#64
def cmpU (x y : BitVec 64) : BitVec 64 := if x.ult y then mOne else if y.ult x then 1#64 else 0#64
def pLow (v n : BitVec 64) : BitVec 64 := if (64#64).sle n then v else v &&& (1#64 <<< (if n.slt 0#64 then 0#64 else n).toNat - 1#64)
def pSign (v n : BitVec 64) : BitVec 64 := if n.sle 0#64 then 0#64 else (v <<< (64#64 - (if (64#64).slt n then 64#64 else n)).toNat).sshiftRight (64#64 - (if (64#64).slt n then 64#64 else n)).toNat
def signH (x : BitVec 8) : Bool := x == 96#8 || x == 112#8 || x == 192#8 || x == 208#8
def signV (x : BitVec 8) : BitVec 8 := if x == 96#8 then 32#8 else if x == 112#8 then 48#8 else if x == 192#8 then 160#8 else if x == 208#8 then 176#8 else 0#8
def ordH (x : BitVec 8) : Bool := x == 16#8 || x == 80#8 || x == 32#8 || x == 48#8 || x == 160#8 || x == 176#8
def ordL (x : BitVec 8) : Bool := x == 80#8 || x == 160#8 || x == 176#8
def ordS (x : BitVec 8) : Bool := x == 16#8 || x == 48#8 || x == 176#8
def ordM (x : BitVec 8) : Bool := x == 80#8 || x == 32#8 || x == 48#8
def wid (w : Bool) : BitVec 64 := if w then 64#64 else 32#64
def cHolds (o : BitVec 8) (w : Bool) (a b : BitVec 64) : Bool :=
  if signH o then inO (ordL (signV o)) (ordS (signV o)) (ordM (signV o)) (cmpS (pSign a (if w then 64#64 else 32#64)) (pSign b (if w then 64#64 else 32#64)))
  else if ordH o then inO (ordL o) (ordS o) (ordM o) (cmpU (pLow a (if w then 64#64 else 32#64)) (pLow b (if w then 64#64 else 32#64)))
  else o == 0#8 || o == 64#8 && (pLow a (if w then 64#64 else 32#64) &&& pLow b (if w then 64#64 else 32#64)) != 0#64


/-- A number with its highest bit turned over, as the document has it; h: that bit. -/
def flip (a h : BitVec 64) : BitVec 64 := (a + h) % h + h - a / h * h
def rHolds (o : BitVec 8) (w : Bool) (a b : BitVec 64) : Bool :=
  if o == 0#8 then true else if o == 16#8 then rLow a (wid w) == rLow b (wid w) else if o == 80#8 then rLow a (wid w) != rLow b (wid w)
  else if o == 32#8 then (rLow b (wid w)).ult (rLow a (wid w)) else if o == 48#8 then (rLow b (wid w)).ule (rLow a (wid w))
  else if o == 160#8 then (rLow a (wid w)).ult (rLow b (wid w)) else if o == 176#8 then (rLow a (wid w)).ule (rLow b (wid w))
  else if o == 96#8 then (flip (rLow b (wid w)) (1#64 <<< (wid w - 1#64).toNat)).ult (flip (rLow a (wid w)) (1#64 <<< (wid w - 1#64).toNat))
  else if o == 112#8 then (flip (rLow b (wid w)) (1#64 <<< (wid w - 1#64).toNat)).ule (flip (rLow a (wid w)) (1#64 <<< (wid w - 1#64).toNat))
  else if o == 192#8 then (flip (rLow a (wid w)) (1#64 <<< (wid w - 1#64).toNat)).ult (flip (rLow b (wid w)) (1#64 <<< (wid w - 1#64).toNat))
  else if o == 208#8 then (flip (rLow a (wid w)) (1#64 <<< (wid w - 1#64).toNat)).ule (flip (rLow b (wid w)) (1#64 <<< (wid w - 1#64).toNat))
  else if o == 64#8 then (0#64).ult (rLow a (wid w) &&& rLow b (wid w)) else false


theorem ult_n (x y : BitVec 64) : x.ult y = true ↔ x.toNat < y.toNat := by simp [BitVec.ult]
theorem ult_f (x y : BitVec 64) : x.ult y = false ↔ y.toNat ≤ x.toNat := by simp [BitVec.ult]
theorem inO_cmpU (l s m : Bool) (x y : BitVec 64) : inO l s m (cmpU x y) = if x.ult y then l else if y.ult x then m else s := by
  unfold cmpU
  by_cases h1 : x.ult y = true
  · rw [if_pos h1, if_pos h1]; rfl
  · rw [if_neg h1, if_neg h1]
    by_cases h2 : y.ult x = true
    · rw [if_pos h2, if_pos h2]; rfl
    · rw [if_neg h2, if_neg h2]; rfl
theorem inO_cmpS (l s m : Bool) (x y : BitVec 64) : inO l s m (cmpS x y) = if x.slt y then l else if y.slt x then m else s := by
  unfold cmpS
  by_cases h1 : x.slt y = true
  · rw [if_pos h1, if_pos h1]; rfl
  · rw [if_neg h1, if_neg h1]
    by_cases h2 : y.slt x = true
    · rw [if_pos h2, if_pos h2]; rfl
    · rw [if_neg h2, if_neg h2]; rfl
theorem and32 (x : BitVec 64) : x &&& 4294967295#64 = x % 4294967296#64 := by
  apply BitVec.eq_of_toNat_eq
  rw [BitVec.toNat_and, BitVec.toNat_umod]
  exact Nat.and_two_pow_sub_one_eq_mod x.toNat 32
theorem low_eq (w : Bool) (v : BitVec 64) : pLow v (if w then 64#64 else 32#64) = rLow v (wid w) := by
  cases w
  · show v &&& 4294967295#64 = v % 4294967296#64
    exact and32 v
  · rfl
theorem sign64 (a : BitVec 64) : pSign a 64#64 = a := by
  unfold pSign
  rw [if_neg (by decide), show (64#64 - (if (64#64).slt 64#64 = true then 64#64 else 64#64)).toNat = 0 by decide]
  simp
theorem sign32 (a : BitVec 64) : pSign a 32#64 = (a <<< (32 : Nat)).sshiftRight 32 := by
  unfold pSign
  rw [if_neg (by decide), show (64#64 - (if (64#64).slt 32#64 = true then 64#64 else 32#64)).toNat = 32 by decide]
theorem flip_nat (a h : BitVec 64) (hh : 0 < h.toNat) (h2 : a.toNat < 2 * h.toNat) (h3 : h.toNat = 9223372036854775808 ∨ h.toNat ≤ 4611686018427387904) :
    (flip a h).toNat = if a.toNat < h.toNat then a.toNat + h.toNat else a.toNat - h.toNat := by
  have ha := a.isLt
  unfold flip
  rw [BitVec.toNat_sub, BitVec.toNat_add, BitVec.toNat_umod, BitVec.toNat_add, BitVec.toNat_mul, BitVec.toNat_udiv]
  generalize a.toNat = A at *
  generalize h.toNat = H at *
  by_cases hc : A < H
  · rw [if_pos hc, Nat.div_eq_of_lt hc, Nat.zero_mul, Nat.mod_eq_of_lt (show A + H < 2 ^ 64 by omega), Nat.add_mod_right, Nat.mod_eq_of_lt hc]
    omega
  · rw [if_neg hc, show A / H = 1 by rw [Nat.div_eq_iff hh]; omega, Nat.one_mul]
    have e : (A + H) % 2 ^ 64 % H = A - H := by
      by_cases hb : A + H < 2 ^ 64
      · rw [Nat.mod_eq_of_lt hb, Nat.add_mod_right, Nat.mod_eq_sub_mod (by omega), Nat.mod_eq_of_lt (by omega)]
      · have eH : H = 9223372036854775808 := by omega
        subst eH
        omega
    rw [e]
    omega
theorem flip64 (a : BitVec 64) : ((flip a 9223372036854775808#64).toNat : Int) = a.toInt + 9223372036854775808 := by
  have ha := a.isLt
  have e : (9223372036854775808#64).toNat = 9223372036854775808 := rfl
  rw [flip_nat a _ (by rw [e]; omega) (by rw [e]; omega) (by rw [e]; omega), e, BitVec.toInt_eq_toNat_cond]
  split <;> split <;> omega
theorem flip32 (a : BitVec 64) : ((flip (a % 4294967296#64) 2147483648#64).toNat : Int) = (pSign a 32#64).toInt + 2147483648 := by
  have ha := a.isLt
  have e : (2147483648#64).toNat = 2147483648 := rfl
  have e2 : (a % 4294967296#64).toNat = a.toNat % 4294967296 := by rw [BitVec.toNat_umod]; rfl
  rw [flip_nat _ _ (by rw [e]; omega) (by rw [e, e2]; omega) (by rw [e]; omega), e, e2, sign32, BitVec.toInt_sshiftRight, Int.shiftRight_eq_div_pow, BitVec.toInt_eq_toNat_cond, BitVec.toNat_shiftLeft, Nat.shiftLeft_eq]
  have e3 : a.toNat * 2 ^ 32 % 2 ^ 64 = (a.toNat % 4294967296) * 4294967296 := by omega
  rw [e3]
  generalize a.toNat % 4294967296 = r at *
  have hr : r < 4294967296 := by omega
  split <;> split <;> omega
theorem sgn_lt (w : Bool) (a b : BitVec 64) : (flip (rLow a (wid w)) (1#64 <<< (wid w - 1#64).toNat)).ult (flip (rLow b (wid w)) (1#64 <<< (wid w - 1#64).toNat)) = (pSign a (if w then 64#64 else 32#64)).slt (pSign b (if w then 64#64 else 32#64)) := by
  rw [Bool.eq_iff_iff, ult_n, BitVec.slt_iff_toInt_lt]
  cases w
  · show (flip (a % 4294967296#64) 2147483648#64).toNat < (flip (b % 4294967296#64) 2147483648#64).toNat ↔ (pSign a 32#64).toInt < (pSign b 32#64).toInt
    have h1 := flip32 a; have h2 := flip32 b
    omega
  · show (flip a 9223372036854775808#64).toNat < (flip b 9223372036854775808#64).toNat ↔ (pSign a 64#64).toInt < (pSign b 64#64).toInt
    rw [sign64, sign64]
    have h1 := flip64 a; have h2 := flip64 b
    omega
theorem ule_not (x y : BitVec 64) : x.ule y = !(y.ult x) := by
  rw [Bool.eq_iff_iff]; simp [BitVec.ule, BitVec.ult]
theorem ult_asymm {x y : BitVec 64} (h : x.ult y = true) : y.ult x = false := by rw [ult_n] at h; rw [ult_f]; omega
theorem ult_eq {x y : BitVec 64} (h : x.ult y = false) (h' : y.ult x = false) : x = y := by
  rw [ult_f] at h h'; exact BitVec.eq_of_toNat_eq (by omega)
theorem slt_asymm {x y : BitVec 64} (h : x.slt y = true) : y.slt x = false := by
  rw [BitVec.slt_iff_toInt_lt] at h
  rw [Bool.eq_false_iff, ne_eq, BitVec.slt_iff_toInt_lt]; omega
theorem three_eq (x y : BitVec 64) : (if x.ult y then false else if y.ult x then false else true) = (x == y) := by
  cases h1 : x.ult y with
  | true => simp; rintro rfl; rw [ult_n] at h1; omega
  | false => cases h2 : y.ult x with
    | true => simp; rintro rfl; rw [ult_n] at h2; omega
    | false => simp [ult_eq h1 h2]
theorem three_ne (x y : BitVec 64) : (if x.ult y then true else if y.ult x then true else false) = (x != y) := by
  have := three_eq x y
  unfold bne
  rw [← this]
  cases x.ult y <;> cases y.ult x <;> rfl
theorem three_gt (x y : BitVec 64) : (if x.ult y then false else if y.ult x then true else false) = y.ult x := by
  cases h1 : x.ult y with
  | true => rw [ult_asymm h1]; rfl
  | false => cases y.ult x <;> rfl
theorem three_ge (x y : BitVec 64) : (if x.ult y then false else if y.ult x then true else true) = !(x.ult y) := by
  cases x.ult y <;> cases y.ult x <;> rfl
theorem three_lt (x y : BitVec 64) : (if x.ult y then true else if y.ult x then false else false) = x.ult y := by
  cases x.ult y <;> cases y.ult x <;> rfl
theorem three_le (x y : BitVec 64) : (if x.ult y then true else if y.ult x then false else true) = !(y.ult x) := by
  cases h1 : x.ult y with
  | true => rw [ult_asymm h1]; rfl
  | false => cases y.ult x <;> rfl
theorem sthree_gt (x y : BitVec 64) : (if x.slt y then false else if y.slt x then true else false) = y.slt x := by
  cases h1 : x.slt y with
  | true => rw [slt_asymm h1]; rfl
  | false => cases y.slt x <;> rfl
theorem sthree_ge (x y : BitVec 64) : (if x.slt y then false else if y.slt x then true else true) = !(x.slt y) := by
  cases x.slt y <;> cases y.slt x <;> rfl
theorem sthree_lt (x y : BitVec 64) : (if x.slt y then true else if y.slt x then false else false) = x.slt y := by
  cases x.slt y <;> cases y.slt x <;> rfl
theorem sthree_le (x y : BitVec 64) : (if x.slt y then true else if y.slt x then false else true) = !(y.slt x) := by
  cases h1 : x.slt y with
  | true => rw [slt_asymm h1]; rfl
  | false => cases y.slt x <;> rfl
abbrev lo (w : Bool) (v : BitVec 64) : BitVec 64 := rLow v (wid w)
abbrev sn (w : Bool) (v : BitVec 64) : BitVec 64 := pSign v (if w then 64#64 else 32#64)
theorem cH16 (w : Bool) (a b : BitVec 64) : cHolds 16#8 w a b = (lo w a == lo w b) := by
  show inO false true false (cmpU (pLow a (if w then 64#64 else 32#64)) (pLow b (if w then 64#64 else 32#64))) = _
  rw [inO_cmpU, low_eq, low_eq, three_eq]
theorem cH80 (w : Bool) (a b : BitVec 64) : cHolds 80#8 w a b = (lo w a != lo w b) := by
  show inO true false true (cmpU (pLow a (if w then 64#64 else 32#64)) (pLow b (if w then 64#64 else 32#64))) = _
  rw [inO_cmpU, low_eq, low_eq, three_ne]
theorem cH32 (w : Bool) (a b : BitVec 64) : cHolds 32#8 w a b = ((lo w b).ult (lo w a)) := by
  show inO false false true (cmpU (pLow a (if w then 64#64 else 32#64)) (pLow b (if w then 64#64 else 32#64))) = _
  rw [inO_cmpU, low_eq, low_eq, three_gt]
theorem cH48 (w : Bool) (a b : BitVec 64) : cHolds 48#8 w a b = (!((lo w a).ult (lo w b))) := by
  show inO false true true (cmpU (pLow a (if w then 64#64 else 32#64)) (pLow b (if w then 64#64 else 32#64))) = _
  rw [inO_cmpU, low_eq, low_eq, three_ge]
theorem cH160 (w : Bool) (a b : BitVec 64) : cHolds 160#8 w a b = ((lo w a).ult (lo w b)) := by
  show inO true false false (cmpU (pLow a (if w then 64#64 else 32#64)) (pLow b (if w then 64#64 else 32#64))) = _
  rw [inO_cmpU, low_eq, low_eq, three_lt]
theorem cH176 (w : Bool) (a b : BitVec 64) : cHolds 176#8 w a b = (!((lo w b).ult (lo w a))) := by
  show inO true true false (cmpU (pLow a (if w then 64#64 else 32#64)) (pLow b (if w then 64#64 else 32#64))) = _
  rw [inO_cmpU, low_eq, low_eq, three_le]
theorem cH96 (w : Bool) (a b : BitVec 64) : cHolds 96#8 w a b = ((sn w b).slt (sn w a)) := by
  show inO false false true (cmpS (pSign a (if w then 64#64 else 32#64)) (pSign b (if w then 64#64 else 32#64))) = _
  rw [inO_cmpS, sthree_gt]
theorem cH112 (w : Bool) (a b : BitVec 64) : cHolds 112#8 w a b = (!((sn w a).slt (sn w b))) := by
  show inO false true true (cmpS (pSign a (if w then 64#64 else 32#64)) (pSign b (if w then 64#64 else 32#64))) = _
  rw [inO_cmpS, sthree_ge]
theorem cH192 (w : Bool) (a b : BitVec 64) : cHolds 192#8 w a b = ((sn w a).slt (sn w b)) := by
  show inO true false false (cmpS (pSign a (if w then 64#64 else 32#64)) (pSign b (if w then 64#64 else 32#64))) = _
  rw [inO_cmpS, sthree_lt]
theorem cH208 (w : Bool) (a b : BitVec 64) : cHolds 208#8 w a b = (!((sn w b).slt (sn w a))) := by
  show inO true true false (cmpS (pSign a (if w then 64#64 else 32#64)) (pSign b (if w then 64#64 else 32#64))) = _
  rw [inO_cmpS, sthree_le]
theorem cH0 (w : Bool) (a b : BitVec 64) : cHolds 0#8 w a b = true := rfl
theorem cH64 (w : Bool) (a b : BitVec 64) : cHolds 64#8 w a b = (lo w a &&& lo w b != 0#64) := by
  show ((64#8 == 0#8) || (64#8 == 64#8) && (pLow a (if w then 64#64 else 32#64) &&& pLow b (if w then 64#64 else 32#64) != 0#64)) = _
  rw [low_eq, low_eq]; rfl
theorem ne0_ult (x : BitVec 64) : (x != 0#64) = (0#64).ult x := by
  rw [Bool.eq_iff_iff, ult_n, bne_iff_ne, ne_eq, ← BitVec.toNat_inj]
  simp; omega
/-- **What is told is the document's.** -/
theorem same06 (o : BitVec 8) (w : Bool) (a b : BitVec 64) : cHolds o w a b = rHolds o w a b := by
  by_cases h0 : o = 0#8
  · subst h0
    rw [cH0]
    rfl
  by_cases h16 : o = 16#8
  · subst h16
    rw [cH16]
    rfl
  by_cases h80 : o = 80#8
  · subst h80
    rw [cH80]
    rfl
  by_cases h32 : o = 32#8
  · subst h32
    rw [cH32]
    rfl
  by_cases h48 : o = 48#8
  · subst h48
    rw [cH48]
    show _ = (rLow b (wid w)).ule (rLow a (wid w))
    rw [ule_not]
  by_cases h160 : o = 160#8
  · subst h160
    rw [cH160]
    rfl
  by_cases h176 : o = 176#8
  · subst h176
    rw [cH176]
    show _ = (rLow a (wid w)).ule (rLow b (wid w))
    rw [ule_not]
  by_cases h96 : o = 96#8
  · subst h96
    rw [cH96]
    exact (sgn_lt w b a).symm
  by_cases h112 : o = 112#8
  · subst h112
    rw [cH112]
    show _ = (flip (rLow b (wid w)) (1#64 <<< (wid w - 1#64).toNat)).ule (flip (rLow a (wid w)) (1#64 <<< (wid w - 1#64).toNat))
    rw [ule_not, sgn_lt]
  by_cases h192 : o = 192#8
  · subst h192
    rw [cH192]
    exact (sgn_lt w a b).symm
  by_cases h208 : o = 208#8
  · subst h208
    rw [cH208]
    show _ = (flip (rLow a (wid w)) (1#64 <<< (wid w - 1#64).toNat)).ule (flip (rLow b (wid w)) (1#64 <<< (wid w - 1#64).toNat))
    rw [ule_not, sgn_lt]
  by_cases h64 : o = 64#8
  · subst h64
    rw [cH64]
    exact ne0_ult _
  have e1 : signH o = false := by simp [signH, h0, h16, h80, h32, h48, h160, h176, h96, h112, h192, h208, h64]
  have e2 : ordH o = false := by simp [ordH, h0, h16, h80, h32, h48, h160, h176, h96, h112, h192, h208, h64]
  simp [cHolds, rHolds, e1, e2, h0, h16, h80, h32, h48, h160, h176, h96, h112, h192, h208, h64]
end Go.Proofs.YtkmggidgfkchfaaDoor.Cd
