/-
  What the package variables of conds hold, beside those of codec and cpu; conditions and flags, as bit vectors. Conditions: as typed.
-/
import Derived.Test.YtppankimieopiaaDoorCpG
namespace Go.Proofs.YtppankimieopiaaDoor
open Go.El Go.RowKit Go.ChangeShapes Go.WideShapes
set_option linter.unusedVariables false
set_option linter.unusedSimpArgs false

abbrev mOne : BitVec 64 := BitVec.ofInt 64 (Int.negSucc 0)
def inO (a b c : Bool) (n : BitVec 64) : Bool := if n == mOne then a else if n == 0#64 then b else c
def cmpS (x y : BitVec 64) : BitVec 64 := if x.slt y then mOne else if y.slt x then 1#64 else 0#64
def cmpU (x y : BitVec 64) : BitVec 64 := if x.ult y then mOne else if y.ult x then 1#64 else 0#64
def pLow (v n : BitVec 64) : BitVec 64 := if (64#64).sle n then v else v &&& (1#64 <<< (if n.slt 0#64 then 0#64 else n).toNat - 1#64)
def pSign (v n : BitVec 64) : BitVec 64 := if n.sle 0#64 then 0#64 else (v <<< (64#64 - (if (64#64).slt n then 64#64 else n)).toNat).sshiftRight (64#64 - (if (64#64).slt n then 64#64 else n)).toNat
def signH (x : BitVec 8) : Bool := x == 96#8 || x == 112#8 || x == 192#8 || x == 208#8
def signV (x : BitVec 8) : BitVec 8 := if x == 96#8 then 32#8 else if x == 112#8 then 48#8 else if x == 192#8 then 160#8 else if x == 208#8 then 176#8 else 0#8
def ordH (x : BitVec 8) : Bool := x == 16#8 || x == 80#8 || x == 32#8 || x == 48#8 || x == 160#8 || x == 176#8
def ordL (x : BitVec 8) : Bool := x == 80#8 || x == 160#8 || x == 176#8
def ordS (x : BitVec 8) : Bool := x == 16#8 || x == 48#8 || x == 176#8
def ordM (x : BitVec 8) : Bool := x == 80#8 || x == 32#8 || x == 48#8
def wid (w : Bool) : BitVec 64 := if w then 64#64 else 32#64
def cHolds (o : BitVec 8) (w : Bool) (a b : BitVec 64) : Bool :=
  if signH o then inO (ordL (signV o)) (ordS (signV o)) (ordM (signV o)) (cmpS (pSign a (if w then 64#64 else 32#64)) (pSign b (if w then 64#64 else 32#64)))
  else if ordH o then inO (ordL o) (ordS o) (ordM o) (cmpU (pLow a (if w then 64#64 else 32#64)) (pLow b (if w then 64#64 else 32#64)))
  else o == 0#8 || o == 64#8 && (pLow a (if w then 64#64 else 32#64) &&& pLow b (if w then 64#64 else 32#64)) != 0#64
/-! ### Comparisons -/
theorem ult_n (x y : BitVec 64) : x.ult y = true ↔ x.toNat < y.toNat := by simp [BitVec.ult]
theorem ult_f (x y : BitVec 64) : x.ult y = false ↔ y.toNat ≤ x.toNat := by simp [BitVec.ult]
theorem inO_cmpU (l s m : Bool) (x y : BitVec 64) : inO l s m (cmpU x y) = if x.ult y then l else if y.ult x then m else s := by
  unfold cmpU
  by_cases h1 : x.ult y = true
  · rw [if_pos h1, if_pos h1]; rfl
  · rw [if_neg h1, if_neg h1]
    by_cases h2 : y.ult x = true
    · rw [if_pos h2, if_pos h2]; rfl
    · rw [if_neg h2, if_neg h2]; rfl
theorem inO_cmpS (l s m : Bool) (x y : BitVec 64) : inO l s m (cmpS x y) = if x.slt y then l else if y.slt x then m else s := by
  unfold cmpS
  by_cases h1 : x.slt y = true
  · rw [if_pos h1, if_pos h1]; rfl
  · rw [if_neg h1, if_neg h1]
    by_cases h2 : y.slt x = true
    · rw [if_pos h2, if_pos h2]; rfl
    · rw [if_neg h2, if_neg h2]; rfl
theorem sign64 (a : BitVec 64) : pSign a 64#64 = a := by
  unfold pSign
  rw [if_neg (by decide), show (64#64 - (if (64#64).slt 64#64 = true then 64#64 else 64#64)).toNat = 0 by decide]
  simp
theorem sign32 (a : BitVec 64) : pSign a 32#64 = (a <<< (32 : Nat)).sshiftRight 32 := by
  unfold pSign
  rw [if_neg (by decide), show (64#64 - (if (64#64).slt 32#64 = true then 64#64 else 32#64)).toNat = 32 by decide]
theorem ult_asymm {x y : BitVec 64} (h : x.ult y = true) : y.ult x = false := by rw [ult_n] at h; rw [ult_f]; omega
theorem ult_eq {x y : BitVec 64} (h : x.ult y = false) (h' : y.ult x = false) : x = y := by
  rw [ult_f] at h h'; exact BitVec.eq_of_toNat_eq (by omega)
theorem slt_asymm {x y : BitVec 64} (h : x.slt y = true) : y.slt x = false := by
  rw [BitVec.slt_iff_toInt_lt] at h
  rw [Bool.eq_false_iff, ne_eq, BitVec.slt_iff_toInt_lt]; omega
theorem three_eq (x y : BitVec 64) : (if x.ult y then false else if y.ult x then false else true) = (x == y) := by
  cases h1 : x.ult y with
  | true => simp; rintro rfl; rw [ult_n] at h1; omega
  | false => cases h2 : y.ult x with
    | true => simp; rintro rfl; rw [ult_n] at h2; omega
    | false => simp [ult_eq h1 h2]
theorem three_ne (x y : BitVec 64) : (if x.ult y then true else if y.ult x then true else false) = (x != y) := by
  have := three_eq x y
  unfold bne
  rw [← this]
  cases x.ult y <;> cases y.ult x <;> rfl
theorem three_gt (x y : BitVec 64) : (if x.ult y then false else if y.ult x then true else false) = y.ult x := by
  cases h1 : x.ult y with
  | true => rw [ult_asymm h1]; rfl
  | false => cases y.ult x <;> rfl
theorem three_ge (x y : BitVec 64) : (if x.ult y then false else if y.ult x then true else true) = !(x.ult y) := by
  cases x.ult y <;> cases y.ult x <;> rfl
theorem three_lt (x y : BitVec 64) : (if x.ult y then true else if y.ult x then false else false) = x.ult y := by
  cases x.ult y <;> cases y.ult x <;> rfl
theorem three_le (x y : BitVec 64) : (if x.ult y then true else if y.ult x then false else true) = !(y.ult x) := by
  cases h1 : x.ult y with
  | true => rw [ult_asymm h1]; rfl
  | false => cases y.ult x <;> rfl
theorem sthree_gt (x y : BitVec 64) : (if x.slt y then false else if y.slt x then true else false) = y.slt x := by
  cases h1 : x.slt y with
  | true => rw [slt_asymm h1]; rfl
  | false => cases y.slt x <;> rfl
theorem sthree_ge (x y : BitVec 64) : (if x.slt y then false else if y.slt x then true else true) = !(x.slt y) := by
  cases x.slt y <;> cases y.slt x <;> rfl
theorem sthree_lt (x y : BitVec 64) : (if x.slt y then true else if y.slt x then false else false) = x.slt y := by
  cases x.slt y <;> cases y.slt x <;> rfl
theorem sthree_le (x y : BitVec 64) : (if x.slt y then true else if y.slt x then false else true) = !(y.slt x) := by
  cases h1 : x.slt y with
  | true => rw [slt_asymm h1]; rfl
  | false => cases y.slt x <;> rfl
theorem mx64 (v : BitVec 64) : (9223372036854775807#64).ult v = v.msb := by
  rw [BitVec.msb_eq_decide, BitVec.ult]
  apply decide_eq_decide.2
  have e : (9223372036854775807#64).toNat = 9223372036854775807 := rfl
  rw [e]; show _ ↔ 9223372036854775808 ≤ _; omega
theorem mx32 (v : BitVec 32) : (2147483647#32).ult v = v.msb := by
  rw [BitVec.msb_eq_decide, BitVec.ult]
  apply decide_eq_decide.2
  have e : (2147483647#32).toNat = 2147483647 := rfl
  rw [e]; show _ ↔ 2147483648 ≤ _; omega
theorem so64 (x y : BitVec 64) : ((9223372036854775807#64).ult (x - y) != (9223372036854775807#64).ult ((x ^^^ y) &&& (x ^^^ (x - y)))) = x.slt y := by
  rw [mx64, mx64, BitVec.msb_and, BitVec.msb_xor, BitVec.msb_xor, Bool.eq_iff_iff, BitVec.slt_iff_toInt_lt, BitVec.toInt_eq_toNat_cond, BitVec.toInt_eq_toNat_cond]
  have hx := x.isLt
  have hy := y.isLt
  have e : (x - y).toNat = (2 ^ 64 - y.toNat + x.toNat) % 2 ^ 64 := BitVec.toNat_sub ..
  rw [BitVec.msb_eq_decide, BitVec.msb_eq_decide, BitVec.msb_eq_decide, e]
  generalize x.toNat = X at *
  generalize y.toNat = Y at *
  clear e
  by_cases h1 : 2 ^ (64 - 1) ≤ X <;> by_cases h2 : 2 ^ (64 - 1) ≤ Y <;> by_cases h3 : 2 ^ (64 - 1) ≤ (2 ^ 64 - Y + X) % 2 ^ 64 <;> simp only [h1, h2, h3, decide_true, decide_false] <;> simp <;> omega
theorem so32 (x y : BitVec 32) : ((2147483647#32).ult (x - y) != (2147483647#32).ult ((x ^^^ y) &&& (x ^^^ (x - y)))) = x.slt y := by
  rw [mx32, mx32, BitVec.msb_and, BitVec.msb_xor, BitVec.msb_xor, Bool.eq_iff_iff, BitVec.slt_iff_toInt_lt, BitVec.toInt_eq_toNat_cond, BitVec.toInt_eq_toNat_cond]
  have hx := x.isLt
  have hy := y.isLt
  have e : (x - y).toNat = (2 ^ 32 - y.toNat + x.toNat) % 2 ^ 32 := BitVec.toNat_sub ..
  rw [BitVec.msb_eq_decide, BitVec.msb_eq_decide, BitVec.msb_eq_decide, e]
  generalize x.toNat = X at *
  generalize y.toNat = Y at *
  clear e
  by_cases h1 : 2 ^ (32 - 1) ≤ X <;> by_cases h2 : 2 ^ (32 - 1) ≤ Y <;> by_cases h3 : 2 ^ (32 - 1) ≤ (2 ^ 32 - Y + X) % 2 ^ 32 <;> simp only [h1, h2, h3, decide_true, decide_false] <;> simp <;> omega
theorem sub_z {w : Nat} (x y : BitVec w) : (x - y == 0#w) = (x == y) := by
  rw [Bool.eq_iff_iff, beq_iff_eq, beq_iff_eq]
  constructor
  · intro h
    have h2 : x - y + y = 0#w + y := by rw [h]
    rw [BitVec.sub_add_cancel, BitVec.zero_add] at h2
    exact h2
  · rintro rfl; exact BitVec.sub_self _
theorem lo_eq (a b : BitVec 64) : (a % 4294967296#64 == b % 4294967296#64) = (a.setWidth 32 == b.setWidth 32) := by
  rw [Bool.eq_iff_iff, beq_iff_eq, beq_iff_eq, ← BitVec.toNat_inj, ← BitVec.toNat_inj, BitVec.toNat_umod, BitVec.toNat_umod, BitVec.toNat_setWidth, BitVec.toNat_setWidth]
  show a.toNat % 4294967296 = b.toNat % 4294967296 ↔ _
  rfl
theorem lo_ult (a b : BitVec 64) : (a % 4294967296#64).ult (b % 4294967296#64) = (a.setWidth 32).ult (b.setWidth 32) := by
  rw [BitVec.ult, BitVec.ult, BitVec.toNat_umod, BitVec.toNat_umod, BitVec.toNat_setWidth, BitVec.toNat_setWidth]
  rfl
theorem sn_int (a : BitVec 64) : ((a <<< (32 : Nat)).sshiftRight 32).toInt = (a.setWidth 32).toInt := by
  have ha := a.isLt
  rw [BitVec.toInt_sshiftRight, Int.shiftRight_eq_div_pow, BitVec.toInt_eq_toNat_cond, BitVec.toNat_shiftLeft, Nat.shiftLeft_eq, BitVec.toInt_eq_toNat_cond, BitVec.toNat_setWidth]
  have e3 : a.toNat * 2 ^ 32 % 2 ^ 64 = (a.toNat % 4294967296) * 4294967296 := by omega
  rw [e3, show (2 : Nat) ^ 32 = 4294967296 from rfl]
  generalize a.toNat % 4294967296 = r at *
  split <;> split <;> omega
theorem sn_slt (a b : BitVec 64) : ((a <<< (32 : Nat)).sshiftRight 32).slt ((b <<< (32 : Nat)).sshiftRight 32) = (a.setWidth 32).slt (b.setWidth 32) := by
  rw [Bool.eq_iff_iff, BitVec.slt_iff_toInt_lt, BitVec.slt_iff_toInt_lt, sn_int, sn_int]
theorem and_lo (a b : BitVec 64) : (a % 4294967296#64 &&& b % 4294967296#64 != 0#64) = (a.setWidth 32 &&& b.setWidth 32 != 0#32) := by
  have e : ∀ x : BitVec 64, x % 4294967296#64 = (x.setWidth 32).setWidth 64 := fun x => by
    apply BitVec.eq_of_toNat_eq
    rw [BitVec.toNat_umod, BitVec.toNat_setWidth, BitVec.toNat_setWidth]
    show x.toNat % 4294967296 = _
    omega
  rw [e, e, ← BitVec.setWidth_and, Bool.eq_iff_iff, bne_iff_ne, bne_iff_ne, ne_eq, ne_eq, not_congr]
  generalize a.setWidth 32 &&& b.setWidth 32 = z
  rw [← BitVec.toNat_inj, ← BitVec.toNat_inj, BitVec.toNat_setWidth]
  have := z.isLt
  show z.toNat % 18446744073709551616 = 0 ↔ z.toNat = 0
  omega
/-- The flags that a comparison leaves. -/
def fZ (w : Bool) (a b : BitVec 64) : Bool := if w then a - b == 0#64 else a.setWidth 32 - b.setWidth 32 == 0#32
def fC (w : Bool) (a b : BitVec 64) : Bool := if w then a.ult b else (a.setWidth 32).ult (b.setWidth 32)
def fS (w : Bool) (a b : BitVec 64) : Bool := if w then (9223372036854775807#64).ult (a - b) else (2147483647#32).ult (a.setWidth 32 - b.setWidth 32)
def fO (w : Bool) (a b : BitVec 64) : Bool := if w then (9223372036854775807#64).ult ((a ^^^ b) &&& (a ^^^ (a - b))) else (2147483647#32).ult ((a.setWidth 32 ^^^ b.setWidth 32) &&& (a.setWidth 32 ^^^ (a.setWidth 32 - b.setWidth 32)))
def pL (w : Bool) (a : BitVec 64) : BitVec 64 := pLow a (if w then 64#64 else 32#64)
def pS (w : Bool) (a : BitVec 64) : BitVec 64 := pSign a (if w then 64#64 else 32#64)
theorem pl_t (a : BitVec 64) : pL true a = a := rfl
theorem and32' (x : BitVec 64) : x &&& 4294967295#64 = x % 4294967296#64 := by
  apply BitVec.eq_of_toNat_eq
  rw [BitVec.toNat_and, BitVec.toNat_umod]
  exact Nat.and_two_pow_sub_one_eq_mod x.toNat 32
theorem pl_f (a : BitVec 64) : pL false a = a % 4294967296#64 := and32' a
theorem ps_t (a : BitVec 64) : pS true a = a := sign64 a
theorem ps_f (a : BitVec 64) : pS false a = (a <<< (32 : Nat)).sshiftRight 32 := sign32 a
theorem fz_eq (w : Bool) (a b : BitVec 64) : fZ w a b = (pL w a == pL w b) := by
  cases w
  · rw [pl_f, pl_f, lo_eq]; exact sub_z _ _
  · exact sub_z _ _
theorem fc_eq (w : Bool) (a b : BitVec 64) : fC w a b = (pL w a).ult (pL w b) := by
  cases w
  · rw [pl_f, pl_f, lo_ult]; rfl
  · rfl
theorem fso_eq (w : Bool) (a b : BitVec 64) : (fS w a b != fO w a b) = (pS w a).slt (pS w b) := by
  cases w
  · rw [ps_f, ps_f, sn_slt]; exact so32 _ _
  · rw [ps_t, ps_t]; exact so64 _ _
theorem cz_s (w : Bool) (a b : BitVec 64) : (pL w a == pL w b) = (pS w a == pS w b) := by
  cases w
  · rw [pl_f, pl_f, ps_f, ps_f, lo_eq, Bool.eq_iff_iff, beq_iff_eq, beq_iff_eq]
    constructor
    · intro h; exact BitVec.eq_of_toInt_eq (by rw [sn_int, sn_int, h])
    · intro h; exact BitVec.eq_of_toInt_eq (by rw [← sn_int, ← sn_int, h])
  · rw [pl_t, pl_t, ps_t, ps_t]
theorem ult_le (x y : BitVec 64) : (x.ult y || x == y) = !(y.ult x) := by
  rw [Bool.eq_iff_iff, Bool.or_eq_true, Bool.not_eq_true', ult_n, ult_f, beq_iff_eq, ← BitVec.toNat_inj]; omega
theorem slt_le (x y : BitVec 64) : (x.slt y || x == y) = !(y.slt x) := by
  rw [Bool.eq_iff_iff, Bool.or_eq_true, Bool.not_eq_true', BitVec.slt_iff_toInt_lt, Bool.eq_false_iff, ne_eq, BitVec.slt_iff_toInt_lt, beq_iff_eq, ← BitVec.toInt_inj]; omega
theorem ne3 (b : Bool) : (b != b) = false := by cases b <;> rfl
theorem k160 (w : Bool) (a b : BitVec 64) : cHolds 160#8 w a b = fC w a b := by
  show inO true false false (cmpU (pL w a) (pL w b)) = _
  rw [inO_cmpU, three_lt, fc_eq]
theorem k48 (w : Bool) (a b : BitVec 64) : cHolds 48#8 w a b = !(fC w a b) := by
  show inO false true true (cmpU (pL w a) (pL w b)) = _
  rw [inO_cmpU, three_ge, fc_eq]
theorem k16 (w : Bool) (a b : BitVec 64) : cHolds 16#8 w a b = fZ w a b := by
  show inO false true false (cmpU (pL w a) (pL w b)) = _
  rw [inO_cmpU, three_eq, fz_eq]
theorem k80 (w : Bool) (a b : BitVec 64) : cHolds 80#8 w a b = !(fZ w a b) := by
  show inO true false true (cmpU (pL w a) (pL w b)) = _
  rw [inO_cmpU, three_ne, fz_eq]; rfl
theorem k176 (w : Bool) (a b : BitVec 64) : cHolds 176#8 w a b = (fC w a b || fZ w a b) := by
  show inO true true false (cmpU (pL w a) (pL w b)) = _
  rw [inO_cmpU, three_le, fc_eq, fz_eq, ult_le]
theorem k32 (w : Bool) (a b : BitVec 64) : cHolds 32#8 w a b = !(fC w a b || fZ w a b) := by
  show inO false false true (cmpU (pL w a) (pL w b)) = _
  rw [inO_cmpU, three_gt, fc_eq, fz_eq, ult_le, Bool.not_not]
theorem k192 (w : Bool) (a b : BitVec 64) : cHolds 192#8 w a b = (fS w a b != fO w a b) := by
  show inO true false false (cmpS (pS w a) (pS w b)) = _
  rw [inO_cmpS, sthree_lt, fso_eq]
theorem k112 (w : Bool) (a b : BitVec 64) : cHolds 112#8 w a b = !(fS w a b != fO w a b) := by
  show inO false true true (cmpS (pS w a) (pS w b)) = _
  rw [inO_cmpS, sthree_ge, fso_eq]
theorem k208 (w : Bool) (a b : BitVec 64) : cHolds 208#8 w a b = ((fS w a b != fO w a b) || fZ w a b) := by
  show inO true true false (cmpS (pS w a) (pS w b)) = _
  rw [inO_cmpS, sthree_le, fso_eq, fz_eq, cz_s, slt_le]
theorem k96 (w : Bool) (a b : BitVec 64) : cHolds 96#8 w a b = !((fS w a b != fO w a b) || fZ w a b) := by
  show inO false false true (cmpS (pS w a) (pS w b)) = _
  rw [inO_cmpS, sthree_gt, fso_eq, fz_eq, cz_s, slt_le, Bool.not_not]
theorem k64 (w : Bool) (a b : BitVec 64) : cHolds 64#8 w a b = (pL w a &&& pL w b != 0#64) := rfl
theorem k64t (a b : BitVec 64) : cHolds 64#8 true a b = (a &&& b != 0#64) := rfl
theorem k64f (a b : BitVec 64) : cHolds 64#8 false a b = (a.setWidth 32 &&& b.setWidth 32 != 0#32) := by rw [k64, pl_f, pl_f, and_lo]
/-! ### What the package variables hold -/
def GC (m : Nat → Nat) (w : World) : Prop := MapIs Tryd.prog 5 5 Rows.laid_firewall_conds_signed w 4 (m 4) ∧ MapIs Tryd.prog 5 113 Rows.laid_firewall_conds_orders w 5 (m 5)
def DC (m : Nat → Nat) : VData where
  glob := fun T g off => match off with
    | 0 => match Nat.beq T 111, Nat.beq g 4 with
      | true, true => some (.one (.gmap g (m g)))
      | _, _ => match Nat.beq T 114, Nat.beq g 5 with
        | true, true => some (.one (.gmap g (m g)))
        | _, _ => none
    | _ => none
  look := fun T ok g b key => match key with
    | .one (.b8 false x) => match Nat.beq T 111, Nat.beq g 4 with
      | true, true => match ok with
        | true => some (.p (b = m g), .tup [(false, [.b8 false (signV x)]), (false, [.bool (signH x)])])
        | false => none
      | _, _ => match Nat.beq T 114, Nat.beq g 5 with
        | true, true => match ok with
          | true => some (.p (b = m g), .tup [(true, [.bool (ordL x), .bool (ordS x), .bool (ordM x)]), (false, [.bool (ordH x)])])
          | false => some (.p (b = m g), .agg [.bool (ordL x), .bool (ordS x), .bool (ordM x)])
        | _, _ => none
    | _ => none
theorem at_signed (x : BitVec 8) (zd : DataW Unit) : (Rows.laid_firewall_conds_signed : DataW Unit).atKey (.int .u8 (x.toNat : Int)) zd = if signH x then .lit (.int .u8 ((signV x).toNat : Int)) else zd := by
  by_cases h1 : x = 96#8
  · subst h1; rfl
  by_cases h2 : x = 112#8
  · subst h2; rfl
  by_cases h3 : x = 192#8
  · subst h3; rfl
  by_cases h4 : x = 208#8
  · subst h4; rfl
  have e : signH x = false := by simp [signH, h1, h2, h3, h4]
  rw [e]
  have k1 : ¬ ((96 : Int) = x.toNat) := fun e => h1 (BitVec.eq_of_toNat_eq (by simp; omega))
  have k2 : ¬ ((112 : Int) = x.toNat) := fun e => h2 (BitVec.eq_of_toNat_eq (by simp; omega))
  have k3 : ¬ ((192 : Int) = x.toNat) := fun e => h3 (BitVec.eq_of_toNat_eq (by simp; omega))
  have k4 : ¬ ((208 : Int) = x.toNat) := fun e => h4 (BitVec.eq_of_toNat_eq (by simp; omega))
  simp [Rows.laid_firewall_conds_signed, DataW.atKey, Lit.sameKey, k1, k2, k3, k4]
theorem at_orders (x : BitVec 8) (zd : DataW Unit) : (Rows.laid_firewall_conds_orders : DataW Unit).atKey (.int .u8 (x.toNat : Int)) zd = if ordH x then .agg [.lit (.bool (ordL x)), .lit (.bool (ordS x)), .lit (.bool (ordM x))] else zd := by
  by_cases h1 : x = 16#8
  · subst h1; rfl
  by_cases h2 : x = 80#8
  · subst h2; rfl
  by_cases h3 : x = 32#8
  · subst h3; rfl
  by_cases h4 : x = 48#8
  · subst h4; rfl
  by_cases h5 : x = 160#8
  · subst h5; rfl
  by_cases h6 : x = 176#8
  · subst h6; rfl
  have e : ordH x = false := by simp [ordH, h1, h2, h3, h4, h5, h6]
  rw [e]
  have k1 : ¬ ((16 : Int) = x.toNat) := fun e => h1 (BitVec.eq_of_toNat_eq (by simp; omega))
  have k2 : ¬ ((80 : Int) = x.toNat) := fun e => h2 (BitVec.eq_of_toNat_eq (by simp; omega))
  have k3 : ¬ ((32 : Int) = x.toNat) := fun e => h3 (BitVec.eq_of_toNat_eq (by simp; omega))
  have k4 : ¬ ((48 : Int) = x.toNat) := fun e => h4 (BitVec.eq_of_toNat_eq (by simp; omega))
  have k5 : ¬ ((160 : Int) = x.toNat) := fun e => h5 (BitVec.eq_of_toNat_eq (by simp; omega))
  have k6 : ¬ ((176 : Int) = x.toNat) := fun e => h6 (BitVec.eq_of_toNat_eq (by simp; omega))
  simp [Rows.laid_firewall_conds_orders, DataW.atKey, Lit.sameKey, k1, k2, k3, k4, k5, k6]
theorem ord_none (x : BitVec 8) (h : ordH x = false) : ordL x = false ∧ ordS x = false ∧ ordM x = false := by
  simp only [ordH, Bool.or_eq_false_iff] at h
  obtain ⟨⟨⟨⟨⟨h1, h2⟩, h3⟩, h4⟩, h5⟩, h6⟩ := h
  simp only [ordL, ordS, ordM, h1, h2, h3, h4, h5, h6]
  exact ⟨rfl, rfl, rfl⟩
theorem sign_none (x : BitVec 8) (h : signH x = false) : signV x = 0#8 := by
  simp only [signH, Bool.or_eq_false_iff] at h
  obtain ⟨⟨⟨h1, h2⟩, h3⟩, h4⟩ := h
  simp only [signV, h1, h2, h3, h4]
  rfl
theorem key8 (x : BitVec 8) : keyOf Tryd.prog 5 (.int .u8 (x.toNat : Int)) = some (.int .u8 (x.toNat : Int)) := by
  have := x.isLt
  exact Maps.keyOf_int_mk Tryd.underlying5 (by simp [Lit.wf, IntKind.min, IntKind.max, IntKind.bits, IntKind.signed]; omega)
theorem DC_ok (m : Nat → Nat) : DataOK Tryd.prog (GC m) (DC m) := by
  refine ⟨fun w w' h hb => ⟨h.1.later hb, h.2.later hb⟩, fun T g off v h => ?_, fun T ok g b key c v h hc => ?_⟩
  · simp only [DC] at h
    split at h
    · split at h
      · rename_i h1 h2
        obtain rfl : T = 111 := by simpa using h1
        obtain rfl : g = 4 := by simpa using h2
        obtain rfl := Option.some.inj h
        exact ⟨rfl, fun w hw => ⟨_, hw.1.load (by kernel_rfl), fun ρ _ => rfl⟩⟩
      · split at h
        · rename_i h1 h2
          obtain rfl : T = 114 := by simpa using h1
          obtain rfl : g = 5 := by simpa using h2
          obtain rfl := Option.some.inj h
          exact ⟨rfl, fun w hw => ⟨_, hw.2.load (by kernel_rfl), fun ρ _ => rfl⟩⟩
        · cases h
    · cases h
  · simp only [DC] at h
    split at h
    · rename_i x
      split at h
      · rename_i h1 h2
        obtain rfl : T = 111 := by simpa using h1
        obtain rfl : g = 4 := by simpa using h2
        split at h
        · obtain ⟨rfl, rfl⟩ : _ ∧ _ := by simpa using h
          obtain rfl : b = m 4 := hc
          refine ⟨rfl, fun w hw ρ k hk => ?_⟩
          obtain rfl := hk (by simp)
          have hz : (zeroValue 5).run Tryd.prog w = .ok (.int .u8 0) w := by kernel_rfl
          rcases hw.1.look (Maps.int_keyed Tryd.underlying5) Tryd.underlying111 hz true (key8 x) with ⟨h3, h4⟩ | ⟨v, y, n, W, h3, h4, h5⟩
          · have e := h4 .nil
            rw [at_signed] at e
            have hh : signH x = false := by
              cases hs : signH x with
              | false => rfl
              | true => rw [hs] at e; cases e
            refine ⟨_, h3, _, rfl, fun _ => ?_, fun _ => ?_, trivial⟩
            · rw [sign_none x hh]; rfl
            · rw [hh]; rfl
          · have e := h5 .nil
            rw [at_signed] at e
            obtain ⟨a, rfl, e2⟩ := elem_int Tryd.underlying5 h4
            rw [e2] at e
            have hh : signH x = true := by
              cases hs : signH x with
              | true => rfl
              | false => rw [hs] at e; cases e
            rw [hh] at e
            simp only [if_true, DataW.lit.injEq, Lit.int.injEq, true_and] at e
            refine ⟨_, h3, _, rfl, fun _ => ?_, fun _ => ?_, trivial⟩
            · rw [← e]; rfl
            · rw [hh]; rfl
        · cases h
      · split at h
        · rename_i h1 h2
          obtain rfl : T = 114 := by simpa using h1
          obtain rfl : g = 5 := by simpa using h2
          have key : ∀ (w : World), GC m w → ∀ c : Bool, (Instr.lookup 114 (.map (some (m 5))) (.int .u8 (x.toNat : Int)) c).run Tryd.prog w =
              .ok (if c then .tuple #[.agg #[.bool (ordL x), .bool (ordS x), .bool (ordM x)], .bool (ordH x)] else .agg #[.bool (ordL x), .bool (ordS x), .bool (ordM x)]) w := by
            intro w hw c
            have hz : (zeroValue 113).run Tryd.prog w = .ok (.agg #[.bool false, .bool false, .bool false]) w := by kernel_rfl
            rcases hw.2.look (Maps.int_keyed Tryd.underlying5) Tryd.underlying114 hz c (key8 x) with ⟨h3, h4⟩ | ⟨v, y, n, W, h3, h4, h5⟩
            · have e := h4 .nil
              rw [at_orders] at e
              have hh : ordH x = false := by
                cases hs : ordH x with
                | false => rfl
                | true => rw [hs] at e; cases e
              obtain ⟨e1, e2, e3⟩ := ord_none x hh
              rw [hh, e1, e2, e3]; exact h3
            · have e := h5 .nil
              rw [at_orders] at e
              obtain ⟨p, q, r, rfl, e2⟩ := elem_bool3 Tryd.underlying113 rfl rfl rfl Tryd.underlying4 Tryd.underlying4 Tryd.underlying4 (by kernel_rfl) (by kernel_rfl) (by kernel_rfl) (by kernel_rfl) h4
              rw [e2] at e
              have hh : ordH x = true := by
                cases hs : ordH x with
                | true => rfl
                | false => rw [hs] at e; cases e
              rw [hh] at e
              simp only [if_true, DataW.agg.injEq, List.cons.injEq, DataW.lit.injEq, Lit.bool.injEq, and_true] at e
              obtain ⟨e4, e5, e6⟩ := e
              rw [hh, e4, e5, e6]; exact h3
          split at h
          · obtain ⟨rfl, rfl⟩ : _ ∧ _ := by simpa using h
            obtain rfl : b = m 5 := hc
            refine ⟨rfl, fun w hw ρ k hk => ?_⟩
            obtain rfl := hk (by simp)
            exact ⟨_, key w hw true, _, rfl, ⟨_, rfl, fun _ => rfl, fun _ => rfl, fun _ => rfl, trivial⟩, fun _ => rfl, trivial⟩
          · obtain ⟨rfl, rfl⟩ : _ ∧ _ := by simpa using h
            obtain rfl : b = m 5 := hc
            refine ⟨rfl, fun w hw ρ k hk => ?_⟩
            obtain rfl := hk (by simp)
            exact ⟨_, key w hw false, _, rfl, fun _ => rfl, fun _ => rfl, fun _ => rfl, trivial⟩
        · cases h
    · cases h

def GV (m : Nat → Nat) : World → Prop := and2 (GB m) (and2 (GP m) (GC m))
abbrev DV (m : Nat → Nat) : VData := or2 (DB m) (or2 (DP m) (DC m))
abbrev tb_v (m : Nat → Nat) : List (Nat × Sp) := tb_firewalllaw12_done m
theorem C_v (m : Nat → Nat) : CSound Tryd.prog (GV m) (tab (DV m) (tb_v m)) := C_firewalllaw12_done (GC m) (DC m) (DC_ok m) m
abbrev gSn : Nat := 4
abbrev gOr : Nat := 5
theorem GV_of {W : World} (h : laidMetH Tryd.prog [("firewall/conds.orders", Rows.laid_firewall_conds_orders), ("firewall/conds.signed", Rows.laid_firewall_conds_signed), ("firewall/codec.forms", Rows.laid_firewall_codec_forms), ("firewall/codec.loads", Rows.laid_firewall_codec_loads), ("firewall/codec.conds", Rows.laid_firewall_codec_conds),
    ("firewall/cpu.does", Rows.laid_firewall_cpu_does), ("firewall/cpu.shifts", Rows.laid_firewall_cpu_shifts)] W) : ∃ m, GV m W := by
  rw [MakeChecks.laidMetH_plain _ _ _ (by kernel_rfl)] at h
  obtain ⟨ps, h, _⟩ := h
  obtain ⟨⟨b6, h6⟩, q6, h⟩ := laid_map (g := gOr) (T := 114) h (by kernel_rfl) (by kernel_rfl) Tryd.underlying114
  obtain ⟨⟨b7, h7⟩, q7, h⟩ := laid_map (g := gSn) (T := 111) h (by kernel_rfl) (by kernel_rfl) Tryd.underlying111
  obtain ⟨h1, q1, h⟩ := laid_flat (g := 1) (T := 82) (l := (List.replicate 22 [Leaf.str, .int .i64, .int .i64, .int .i64, .int .i64, .bool, .bool]).flatten) h (by kernel_rfl) (by kernel_rfl) 8 (by kernel_rfl)
  obtain ⟨⟨b2, h2⟩, q2, h⟩ := laid_map (g := gLd) (T := 95) h (by kernel_rfl) (by kernel_rfl) Tryd.underlying95
  obtain ⟨⟨b3, o3, h3, h3'⟩, q3, h⟩ := laid_ints (g := gCd) (T := 97) (ns := condZ) (k := .i64) h (by kernel_rfl) (by kernel_rfl) Tryd.underlying97 Tryd.underlying3 (by kernel_rfl) (by decide)
  obtain ⟨⟨b4, h4⟩, q4, h⟩ := laid_map (g := gDz) (T := 65) h (by kernel_rfl) (by kernel_rfl) Tryd.underlying65
  obtain ⟨⟨b5, h5⟩, _⟩ := laid_map (g := gSf) (T := 65) h (by kernel_rfl) (by kernel_rfl) Tryd.underlying65
  have low : ∀ {a : Addr} {v : Value}, W.cell? a = some v → a.block < W.heap.size := by
    intro a v e
    cases ho : W.heap[a.block]? with
    | none => simp [World.cell?, ho] at e
    | some o => exact (Array.getElem?_eq_some_iff.1 ho).1
  have z0 := h3' 0 (by decide)
  have f0 := h1 0 (by rw [forms_len]; decide)
  refine ⟨fun g => if g = gLd then b2 else if g = gCd then b3 else if g = gCd + 1000 then o3 else if g = gDz then b4 else if g = gSn then b7 else if g = gOr then b6 else b5, ⟨⟨?_, h1⟩, h2, ?_, ?_, ?_, ?_⟩, ⟨h4, h5⟩, ⟨h7, h6⟩⟩
  · have : ((flatC 8 (Rows.laid_firewall_codec_forms : DataW Unit))[0]?).isSome = true := by kernel_rfl
    cases hf : (flatC 8 (Rows.laid_firewall_codec_forms : DataW Unit))[0]? with
    | none => rw [hf] at this; cases this
    | some v => rw [hf] at f0; exact low f0
  · exact low h3
  · exact low z0
  · exact h3
  · exact h3'
end Go.Proofs.YtppankimieopiaaDoor
