/-
  Chapter 11: what the document's Decode takes bytes for: definitions; the head of an instruction, numbers. Conditions: as typed.
-/
import Derived.Test.YtppankimieopiaaDoorDr
namespace Go.Proofs.YtppankimieopiaaDoor
open Go.Ep Go.RowKit
set_option linter.unusedVariables false
set_option linter.unusedSimpArgs false
def atB (t : ByteArray) (i : BitVec 64) : BitVec 64 := (byteAt t i.toNat).setWidth 64
def sgV (n : Nat) (v : BitVec 64) : BitVec 64 := match n with
  | 8 => if (v % 256#64).ult 128#64 then v % 256#64 else v % 256#64 - 256#64
  | 32 => if (v % 4294967296#64).ult 2147483648#64 then v % 4294967296#64 else v % 4294967296#64 - 4294967296#64
  | _ => v
/-- The number of so many bytes from a place on. -/
def nmR (n : Nat) (t : ByteArray) (i : BitVec 64) : BitVec 64 := match n with
  | 1 => sgV 8 (0#64 * 256#64 + atB t (i + 0#64))
  | 4 => sgV 32 ((((0#64 * 256#64 + atB t (i + 3#64)) * 256#64 + atB t (i + 2#64)) * 256#64 + atB t (i + 1#64)) * 256#64 + atB t (i + 0#64))
  | _ => sgV 64 ((((((((0#64 * 256#64 + atB t (i + 7#64)) * 256#64 + atB t (i + 6#64)) * 256#64 + atB t (i + 5#64)) * 256#64 + atB t (i + 4#64)) * 256#64 + atB t (i + 3#64)) * 256#64 + atB t (i + 2#64)) * 256#64 + atB t (i + 1#64)) * 256#64 + atB t (i + 0#64))
def secF (t : ByteArray) (i : BitVec 64) (x : MX) : MX :=
  if atB t i == 174#64 then { x with k := 21#64 } else if atB t i == 175#64 then { x with k := 10#64 } else if atB t i == 182#64 || atB t i == 183#64 then { x with k := 13#64, sz := atB t i - 181#64 }
  else if (128#64).sle (atB t i) && (atB t i).slt 144#64 then { x with k := 16#64, cc := atB t i - 128#64, rl := BitVec.signExtend 32 (nmR 4 t (i + 1#64)) } else x
def mdD (t : ByteArray) (i : BitVec 64) : BitVec 64 := ((atB t (i + 1#64)).sdiv 8#64).srem 8#64
def firF (t : ByteArray) (i : BitVec 64) (x : MX) (half : Bool) : MX :=
  if atB t i == 137#64 && (192#64).sle (atB t (i + 1#64)) then { x with k := 1#64 }
  else if atB t i == 133#64 then { x with k := 6#64 }
  else if (atB t i).slt 64#64 && (atB t i).srem 8#64 == 1#64 then { x with k := 4#64, al := (atB t i).sdiv 8#64 }
  else if atB t i == 129#64 then { x with k := 5#64, al := mdD t i, im := nmR 4 t (i + 2#64) }
  else if atB t i == 199#64 then { x with k := 2#64, im := nmR 4 t (i + 2#64) }
  else if (184#64).sle (atB t i) && (atB t i).slt 192#64 then { x with k := 3#64, im := nmR 8 t (i + 1#64) }
  else if atB t i == 247#64 && mdD t i == 3#64 then { x with k := 7#64 }
  else if atB t i == 247#64 && mdD t i == 4#64 then { x with k := 8#64 }
  else if atB t i == 247#64 then { x with k := 9#64 }
  else if atB t i == 193#64 then { x with k := 11#64, al := mdD t i, im := nmR 1 t (i + 2#64) }
  else if atB t i == 211#64 then { x with k := 12#64, al := mdD t i }
  else if atB t i == 139#64 then { x with k := 13#64, sz := 4#64 }
  else if atB t i == 136#64 then { x with k := 14#64, sz := 1#64 }
  else if atB t i == 137#64 then { x with k := 14#64, sz := if half then 2#64 else 4#64 }
  else if atB t i == 235#64 then { x with k := 15#64, sh := true, rl := BitVec.signExtend 32 (nmR 1 t (i + 1#64)) }
  else if atB t i == 233#64 then { x with k := 15#64, rl := BitVec.signExtend 32 (nmR 4 t (i + 1#64)) }
  else if (112#64).sle (atB t i) && (atB t i).slt 128#64 then { x with k := 16#64, sh := true, cc := atB t i - 112#64, rl := BitVec.signExtend 32 (nmR 1 t (i + 1#64)) }
  else if (80#64).sle (atB t i) && (atB t i).slt 88#64 then { x with k := 17#64 }
  else if (88#64).sle (atB t i) && (atB t i).slt 96#64 then { x with k := 18#64 }
  else if atB t i == 195#64 then { x with k := 19#64 }
  else if atB t i == 232#64 then { x with k := 20#64, rl := BitVec.signExtend 32 (nmR 4 t (i + 1#64)) }
  else x
/-- A size of four is one of eight, where the instruction is wide. -/
def wid8 (x : MX) : MX := if x.sz == 4#64 && x.w then { x with sz := 8#64 } else x
def rgR (t : ByteArray) (i high : BitVec 64) : BitVec 64 := (high.sdiv 4#64).srem 2#64 * 8#64 + ((atB t (i + 1#64)).sdiv 8#64).srem 8#64
def rgE (t : ByteArray) (i high : BitVec 64) : BitVec 64 := high.srem 2#64 * 8#64 + (atB t (i + 1#64)).srem 8#64
def rgD (t : ByteArray) (i : BitVec 64) : BitVec 32 := BitVec.signExtend 32 (nmR 4 t (if (atB t (i + 1#64)).srem 8#64 == 4#64 then i + 2#64 + 1#64 else i + 2#64))
def regF (t : ByteArray) (i : BitVec 64) (x : MX) (high : BitVec 64) : MX :=
  if x.k == 1#64 || (x.k == 6#64 || x.k == 4#64) then { x with d := rgE t i high, s := rgR t i high }
  else if x.k == 10#64 then { x with d := rgR t i high, s := rgE t i high }
  else if x.k == 5#64 || (x.k == 2#64 || (x.k == 7#64 || (x.k == 8#64 || (x.k == 9#64 || (x.k == 11#64 || x.k == 12#64))))) then { x with d := rgE t i high }
  else if x.k == 3#64 || (x.k == 17#64 || x.k == 18#64) then { x with d := high.srem 2#64 * 8#64 + (atB t i).srem 8#64 }
  else if x.k == 13#64 || x.k == 14#64 then (if x.k == 14#64 then { x with d := rgE t i high, s := rgR t i high, dp := rgD t i } else { x with d := rgR t i high, s := rgE t i high, dp := rgD t i })
  else x
def XW (w : Bool) : MX := ⟨0#64, 0#64, 0#64, 0#64, w, false, 0#64, 0#64, 0#32, 0#32, 0#64⟩
def dHalf (t : ByteArray) : Bool := atB t 0#64 == 102#64
def dI0 (t : ByteArray) : BitVec 64 := if dHalf t then 0#64 + 1#64 else 0#64
def dRx (t : ByteArray) : Bool := (64#64).sle (atB t (dI0 t)) && (atB t (dI0 t)).slt 80#64
def dHigh (t : ByteArray) : BitVec 64 := if dRx t then atB t (dI0 t) - 64#64 else 0#64
def dI1 (t : ByteArray) : BitVec 64 := if dRx t then dI0 t + 1#64 else dI0 t
def dTwo (t : ByteArray) : Bool := atB t (dI1 t) == 15#64
def dI2 (t : ByteArray) : BitVec 64 := if dTwo t then dI1 t + 1#64 else dI1 t
def dX1 (t : ByteArray) : MX := if dTwo t then secF t (dI2 t) (XW ((8#64).sle (dHigh t))) else wid8 (firF t (dI2 t) (XW ((8#64).sle (dHigh t))) (dHalf t))
/-- What the document's Decode takes bytes for. -/
def rgF (t : ByteArray) : MX := regF t (dI2 t) (dX1 t) (dHigh t)
/- Bytes of a text, by their places. -/
theorem at_app (p q : List UInt8) (n : Nat) (hp : p.length = n) (k : Nat) (hk : k < 100) (hn : n < 100) : atB (B (p ++ q)) (BitVec.ofNat 64 (n + k)) = atB (B q) (BitVec.ofNat 64 k) := by
  unfold atB byteAt
  rw [nat_of (by omega), nat_of (by omega), nthB_eq, nthB_eq]
  show BitVec.setWidth 64 ((p ++ q)[n + k]?.getD 0).toBitVec = BitVec.setWidth 64 (q[k]?.getD 0).toBitVec
  rw [List.getElem?_append_right (by omega), show n + k - p.length = k by omega]
/-- The head, as the document reads it: where the opcode stands, what is ahead. -/
structure Hr (t : ByteArray) (half : Bool) (hi : BitVec 64) (two : Bool) (q : List UInt8) : Prop where
  half : dHalf t = half
  hi : dHigh t = hi
  two : dTwo t = two
  at_ : ∀ k : Nat, k < 20 → atB t (dI2 t + BitVec.ofNat 64 k) = atB (B q) (BitVec.ofNat 64 k)
def hN (rx : List UInt8) (hi : BitVec 8) : BitVec 64 := match rx with
  | [] => 0#64
  | _ :: _ => hi.setWidth 64 - 64#64
theorem hi_f : ∀ v : Fin 256, ((64#64).sle ((BitVec.ofNat 8 v).setWidth 64) && ((BitVec.ofNat 8 v).setWidth 64).slt 80#64) = (BitVec.ofNat 8 v &&& 240#8 == 64#8) := by decide +kernel
theorem hi_all (v : UInt8) : ((64#64).sle (v.toBitVec.setWidth 64) && (v.toBitVec.setWidth 64).slt 80#64) = (v.toBitVec &&& 240#8 == 64#8) := by
  have h := hi_f ⟨v.toBitVec.toNat, v.toBitVec.isLt⟩
  simpa using h
theorem at0 (a : UInt8) (l : List UInt8) : atB (B (a :: l)) 0#64 = a.toBitVec.setWidth 64 := rfl
theorem at1 (a b : UInt8) (l : List UInt8) : atB (B (a :: b :: l)) 1#64 = b.toBitVec.setWidth 64 := rfl
theorem u8_beq (a : UInt8) (n : Nat) (hn : n < 256) (h : a ≠ ⟨BitVec.ofNat 8 n⟩) : (a.toBitVec.setWidth 64 == BitVec.ofNat 64 n) = false := by
  rw [beq_eq_false_iff_ne]
  intro e
  apply h
  have : a.toBitVec.toNat = n := by
    have := congrArg BitVec.toNat e
    rw [BitVec.toNat_setWidth, BitVec.toNat_ofNat, Nat.mod_eq_of_lt (by have := a.toBitVec.isLt; omega), Nat.mod_eq_of_lt (by omega)] at this
    exact this
  apply UInt8.eq_of_toBitVec_eq
  apply BitVec.eq_of_toNat_eq
  rw [this]
  show n = n % 256
  omega
theorem Hr.of {half : Bool} {rx : List UInt8} {hi : BitVec 8} {two : Bool} {op : UInt8} {r : List UInt8} (hr : rxOK rx hi) (ho : opOK two op) :
    Hr (B (tx half two rx op r)) half (hN rx hi) two (op :: r) := by
  show Hr (B ((if half then [102] else []) ++ (rx ++ ((if two then [15] else []) ++ op :: r)))) half (hN rx hi) two (op :: r)
  obtain ⟨o, q, e, ho1, ho2⟩ : ∃ (o : UInt8) (q : List UInt8), (if two then [15] else []) ++ op :: r = o :: q ∧ (o.toBitVec &&& 240#8 == 64#8) = false ∧ o ≠ 102 := by
    cases two with
    | true => exact ⟨15, op :: r, rfl, by decide, by decide⟩
    | false =>
      rcases ho with ho | ⟨a, b, c⟩
      · cases ho
      · exact ⟨op, r, rfl, a, c⟩
  have ho3 : two = false → op ≠ 15 := by
    rintro rfl
    rcases ho with ho | ⟨a, b, c⟩
    · cases ho
    · exact b
  -- the place behind 66
  have h0 : dHalf (B ((if half then [102] else []) ++ (rx ++ o :: q))) = half := by
    unfold dHalf
    cases half with
    | true => rfl
    | false =>
      rcases hr with ⟨rfl, _⟩ | ⟨v, rfl, _, hv⟩
      · show (atB (B (o :: q)) 0#64 == 102#64) = false
        rw [at0]; exact u8_beq o 102 (by decide) ho2
      · show (atB (B (v :: o :: q)) 0#64 == 102#64) = false
        rw [at0]; exact u8_beq v 102 (by decide) (v_no hv)
  rw [e]
  generalize hT : (if half then [102] else []) ++ (rx ++ o :: q) = T at h0 ⊢
  have hI0 : dI0 (B T) = BitVec.ofNat 64 (if half then 1 else 0) := by
    unfold dI0; rw [h0]; cases half <;> rfl
  have hA0 : ∀ k : Nat, k < 50 → atB (B T) (BitVec.ofNat 64 ((if half then 1 else 0) + k)) = atB (B (rx ++ o :: q)) (BitVec.ofNat 64 k) := by
    intro k hk
    rw [← hT]
    refine at_app _ _ _ ?_ k (by omega) (by split <;> omega)
    cases half <;> rfl
  have hA00 : atB (B T) (dI0 (B T)) = atB (B (rx ++ o :: q)) 0#64 := by
    rw [hI0]; exact hA0 0 (by decide)
  have hR : dRx (B T) = (match rx with | [] => false | _ :: _ => true) ∧ dHigh (B T) = hN rx hi ∧ dI1 (B T) = BitVec.ofNat 64 ((if half then 1 else 0) + rx.length) := by
    rcases hr with ⟨rfl, rfl⟩ | ⟨v, rfl, rfl, hv⟩
    · have h1 : dRx (B T) = false := by
        unfold dRx; rw [hA00, show atB (B ([] ++ o :: q)) 0#64 = o.toBitVec.setWidth 64 from rfl, hi_all, ho1]
      refine ⟨h1, by unfold dHigh; rw [h1]; rfl, ?_⟩
      unfold dI1; rw [h1, hI0]; rfl
    · have h1 : dRx (B T) = true := by
        unfold dRx; rw [hA00, show atB (B ([v] ++ o :: q)) 0#64 = v.toBitVec.setWidth 64 from rfl, hi_all, hv]
      refine ⟨h1, by unfold dHigh; rw [h1, hA00]; rfl, ?_⟩
      unfold dI1; rw [h1, hI0]; cases half <;> rfl
  obtain ⟨h1, h2, h3⟩ := hR
  have hlen : rx.length ≤ 1 := by
    rcases hr with ⟨rfl, _⟩ | ⟨v, rfl, _, _⟩
    · exact Nat.zero_le _
    · exact Nat.le_refl _
  have hA1 : ∀ k : Nat, k < 30 → atB (B T) (BitVec.ofNat 64 ((if half then 1 else 0) + rx.length + k)) = atB (B (o :: q)) (BitVec.ofNat 64 k) := by
    intro k hk
    rw [Nat.add_assoc, hA0 (rx.length + k) (by omega)]
    exact at_app _ _ _ rfl k (by omega) (by omega)
  have hA10 : atB (B T) (dI1 (B T)) = o.toBitVec.setWidth 64 := by
    rw [h3]; exact hA1 0 (by decide)
  have h4 : dTwo (B T) = two := by
    unfold dTwo; rw [hA10]
    cases two with
    | true =>
      obtain ⟨rfl, _⟩ : o = 15 ∧ True := ⟨by have := congrArg List.head? e; simpa using this.symm, trivial⟩
      rfl
    | false =>
      obtain ⟨rfl, _⟩ : o = op ∧ True := ⟨by have := congrArg List.head? e; simpa using this.symm, trivial⟩
      exact u8_beq _ 15 (by decide) (ho3 rfl)
  have h5 : dI2 (B T) = BitVec.ofNat 64 ((if half then 1 else 0) + rx.length + (if two then 1 else 0)) := by
    unfold dI2; rw [h4, h3]
    cases two
    · rfl
    · rw [if_pos rfl, if_pos rfl]
      exact (BitVec.ofNat_add _ 1).symm
  refine ⟨h0, h2, h4, fun k hk => ?_⟩
  rw [h5, ← BitVec.ofNat_add, Nat.add_assoc, hA1 _ (by split <;> omega), ← e]
  refine at_app _ _ _ ?_ k (by omega) (by split <;> omega)
  cases two <;> rfl
theorem Hr.at2 {t : ByteArray} {half : Bool} {hi : BitVec 64} {two : Bool} {q : List UInt8} (H : Hr t half hi two q) (j k : Nat) (h : j + k < 20) : atB t (dI2 t + BitVec.ofNat 64 j + BitVec.ofNat 64 k) = atB (B (q.drop j)) (BitVec.ofNat 64 k) := by
  rw [BitVec.add_assoc, ← BitVec.ofNat_add, H.at_ _ h]
  unfold atB byteAt
  rw [nat_of (by omega), nat_of (by omega), nthB_eq, nthB_eq]
  show BitVec.setWidth 64 (q[j + k]?.getD 0).toBitVec = BitVec.setWidth 64 ((q.drop j)[k]?.getD 0).toBitVec
  rw [List.getElem?_drop]
theorem Hr.at0 {t : ByteArray} {half : Bool} {hi : BitVec 64} {two : Bool} {q : List UInt8} (H : Hr t half hi two q) : atB t (dI2 t) = atB (B q) 0#64 := by
  have h := H.at_ 0 (by decide)
  rwa [show BitVec.ofNat 64 0 = 0#64 from rfl, BitVec.add_zero] at h
theorem horner4 (v : BitVec 64) : (((((0#64 * 256#64 + ((v >>> 24).setWidth 8).setWidth 64) * 256#64 + ((v >>> 16).setWidth 8).setWidth 64) * 256#64 + ((v >>> 8).setWidth 8).setWidth 64) * 256#64 + ((v >>> 0).setWidth 8).setWidth 64)) = (v.setWidth 32).setWidth 64 := by
  apply BitVec.eq_of_toNat_eq
  simp only [BitVec.toNat_add, BitVec.toNat_mul, BitVec.toNat_setWidth, BitVec.toNat_ushiftRight, BitVec.toNat_ofNat, Nat.shiftRight_eq_div_pow]
  omega
theorem horner1 (v : BitVec 64) : (0#64 * 256#64 + ((v >>> 0).setWidth 8).setWidth 64) = (v.setWidth 8).setWidth 64 := by
  apply BitVec.eq_of_toNat_eq
  simp only [BitVec.toNat_add, BitVec.toNat_mul, BitVec.toNat_setWidth, BitVec.toNat_ushiftRight, BitVec.toNat_ofNat, Nat.shiftRight_eq_div_pow]
  omega
theorem horner4g (v : BitVec 64) : ((((v >>> 32) * 256#64 + ((v >>> 24).setWidth 8).setWidth 64) * 256#64 + ((v >>> 16).setWidth 8).setWidth 64) * 256#64 + ((v >>> 8).setWidth 8).setWidth 64) * 256#64 + ((v >>> 0).setWidth 8).setWidth 64 = v := by
  apply BitVec.eq_of_toNat_eq
  simp only [BitVec.toNat_add, BitVec.toNat_mul, BitVec.toNat_setWidth, BitVec.toNat_ushiftRight, BitVec.toNat_ofNat, Nat.shiftRight_eq_div_pow]
  have := v.isLt
  omega
theorem horner8 (v : BitVec 64) : ((((((((0#64 * 256#64 + ((v >>> 56).setWidth 8).setWidth 64) * 256#64 + ((v >>> 48).setWidth 8).setWidth 64) * 256#64 + ((v >>> 40).setWidth 8).setWidth 64) * 256#64 + ((v >>> 32).setWidth 8).setWidth 64) * 256#64 + ((v >>> 24).setWidth 8).setWidth 64) * 256#64 + ((v >>> 16).setWidth 8).setWidth 64) * 256#64 + ((v >>> 8).setWidth 8).setWidth 64) * 256#64 + ((v >>> 0).setWidth 8).setWidth 64) = v := by
  have h := horner4 (v >>> 32)
  rw [← BitVec.shiftRight_add, ← BitVec.shiftRight_add, ← BitVec.shiftRight_add, ← BitVec.shiftRight_add] at h
  have e : (((v >>> 32).setWidth 32).setWidth 64) = v >>> 32 := by
    apply BitVec.eq_of_toNat_eq
    simp only [BitVec.toNat_setWidth, BitVec.toNat_ushiftRight, Nat.shiftRight_eq_div_pow]
    have := v.isLt
    omega
  rw [e] at h
  rw [show (32 + 24 : Nat) = 56 from rfl, show (32 + 16 : Nat) = 48 from rfl, show (32 + 8 : Nat) = 40 from rfl, show (32 + 0 : Nat) = 32 from rfl] at h
  rw [h, horner4g]
theorem sgV_8 (v : BitVec 64) : sgV 8 ((v.setWidth 8).setWidth 64) = (v.setWidth 8).signExtend 64 := by
  unfold sgV
  apply BitVec.eq_of_toInt_eq
  rw [BitVec.toInt_signExtend, Nat.min_eq_right (by decide)]
  have hb := (v.setWidth 8).isLt
  generalize v.setWidth 8 = b at *
  have e1 : ((b.setWidth 64) % 256#64) = b.setWidth 64 := by
    apply BitVec.eq_of_toNat_eq
    simp only [BitVec.toNat_umod, BitVec.toNat_setWidth, BitVec.toNat_ofNat, Nat.reducePow, Nat.reduceMod]; omega
  simp only
  rw [e1]
  cases h : (b.setWidth 64).ult 128#64 with
  | true =>
    rw [if_pos rfl]
    rw [BitVec.ult_eq_decide, decide_eq_true_eq, BitVec.toNat_setWidth, BitVec.toNat_ofNat] at h
    rw [BitVec.toInt_eq_toNat_cond, BitVec.toNat_setWidth, if_pos (by omega), BitVec.toInt_eq_toNat_cond, if_pos (by omega), bmod_id (by omega) (by omega)]
    omega
  | false =>
    rw [if_neg (by decide)]
    rw [BitVec.ult_eq_decide, decide_eq_false_iff_not, BitVec.toNat_setWidth, BitVec.toNat_ofNat] at h
    rw [BitVec.toInt_eq_toNat_cond, BitVec.toNat_sub, BitVec.toNat_setWidth, BitVec.toNat_ofNat, if_neg (by omega), BitVec.toInt_eq_toNat_cond, if_neg (by omega), bmod_id (by omega) (by omega)]
    omega
theorem sgV_32 (v : BitVec 64) : sgV 32 ((v.setWidth 32).setWidth 64) = (v.setWidth 32).signExtend 64 := by
  unfold sgV
  apply BitVec.eq_of_toInt_eq
  rw [BitVec.toInt_signExtend, Nat.min_eq_right (by decide)]
  have hb := (v.setWidth 32).isLt
  generalize v.setWidth 32 = b at *
  have e1 : ((b.setWidth 64) % 4294967296#64) = b.setWidth 64 := by
    apply BitVec.eq_of_toNat_eq
    simp only [BitVec.toNat_umod, BitVec.toNat_setWidth, BitVec.toNat_ofNat, Nat.reducePow, Nat.reduceMod]; omega
  simp only
  rw [e1]
  cases h : (b.setWidth 64).ult 2147483648#64 with
  | true =>
    rw [if_pos rfl]
    rw [BitVec.ult_eq_decide, decide_eq_true_eq, BitVec.toNat_setWidth, BitVec.toNat_ofNat] at h
    rw [BitVec.toInt_eq_toNat_cond, BitVec.toNat_setWidth, if_pos (by omega), BitVec.toInt_eq_toNat_cond, if_pos (by omega), bmod_id (by omega) (by omega)]
    omega
  | false =>
    rw [if_neg (by decide)]
    rw [BitVec.ult_eq_decide, decide_eq_false_iff_not, BitVec.toNat_setWidth, BitVec.toNat_ofNat] at h
    rw [BitVec.toInt_eq_toNat_cond, BitVec.toNat_sub, BitVec.toNat_setWidth, BitVec.toNat_ofNat, if_neg (by omega), BitVec.toInt_eq_toNat_cond, if_neg (by omega), bmod_id (by omega) (by omega)]
    omega
theorem by8_bv (v : BitVec 64) (k : Nat) : (by8 v k).toBitVec = (v >>> k).setWidth 8 := rfl
theorem nm1_ok {t : ByteArray} {i v : BitVec 64} (h0 : atB t (i + 0#64) = (by8 v 0).toBitVec.setWidth 64) : nmR 1 t i = (v.setWidth 8).signExtend 64 := by
  unfold nmR
  simp only
  rw [h0, by8_bv, horner1, sgV_8]
theorem nm4_ok {t : ByteArray} {i v : BitVec 64} (h0 : atB t (i + 0#64) = (by8 v 0).toBitVec.setWidth 64) (h1 : atB t (i + 1#64) = (by8 v 8).toBitVec.setWidth 64) (h2 : atB t (i + 2#64) = (by8 v 16).toBitVec.setWidth 64) (h3 : atB t (i + 3#64) = (by8 v 24).toBitVec.setWidth 64) : nmR 4 t i = (v.setWidth 32).signExtend 64 := by
  unfold nmR
  simp only
  rw [h0, h1, h2, h3, by8_bv, by8_bv, by8_bv, by8_bv, horner4, sgV_32]
theorem nm8_ok {t : ByteArray} {i v : BitVec 64} (h0 : atB t (i + 0#64) = (by8 v 0).toBitVec.setWidth 64) (h1 : atB t (i + 1#64) = (by8 v 8).toBitVec.setWidth 64) (h2 : atB t (i + 2#64) = (by8 v 16).toBitVec.setWidth 64) (h3 : atB t (i + 3#64) = (by8 v 24).toBitVec.setWidth 64)
    (h4 : atB t (i + 4#64) = (by8 v 32).toBitVec.setWidth 64) (h5 : atB t (i + 5#64) = (by8 v 40).toBitVec.setWidth 64) (h6 : atB t (i + 6#64) = (by8 v 48).toBitVec.setWidth 64) (h7 : atB t (i + 7#64) = (by8 v 56).toBitVec.setWidth 64) : nmR 8 t i = v := by
  unfold nmR
  simp only
  rw [h0, h1, h2, h3, h4, h5, h6, h7, by8_bv, by8_bv, by8_bv, by8_bv, by8_bv, by8_bv, by8_bv, by8_bv, horner8]
  rfl
theorem Hr.n1 {t : ByteArray} {half : Bool} {hi : BitVec 64} {two : Bool} {q r : List UInt8} (H : Hr t half hi two q) (j : Nat) (hj : j < 10) {v : BitVec 64} (hq : q.drop j = by8 v 0 :: r) : nmR 1 t (dI2 t + BitVec.ofNat 64 j) = (v.setWidth 8).signExtend 64 := by
  refine nm1_ok ?_
  rw [show (0#64 : BitVec 64) = BitVec.ofNat 64 0 from rfl, H.at2 j 0 (by omega), hq]; rfl
theorem Hr.n4 {t : ByteArray} {half : Bool} {hi : BitVec 64} {two : Bool} {q r : List UInt8} (H : Hr t half hi two q) (j : Nat) (hj : j < 10) {v : BitVec 64} (hq : q.drop j = c4 v r) : nmR 4 t (dI2 t + BitVec.ofNat 64 j) = (v.setWidth 32).signExtend 64 := by
  have h : ∀ k : Nat, k < 8 → atB t (dI2 t + BitVec.ofNat 64 j + BitVec.ofNat 64 k) = atB (B (c4 v r)) (BitVec.ofNat 64 k) := fun k hk => by rw [H.at2 j k (by omega), hq]
  exact nm4_ok (h 0 (by decide)) (h 1 (by decide)) (h 2 (by decide)) (h 3 (by decide))
theorem Hr.n8 {t : ByteArray} {half : Bool} {hi : BitVec 64} {two : Bool} {q r : List UInt8} (H : Hr t half hi two q) (j : Nat) (hj : j < 10) {v : BitVec 64} (hq : q.drop j = c8 v r) : nmR 8 t (dI2 t + BitVec.ofNat 64 j) = v := by
  have h : ∀ k : Nat, k < 8 → atB t (dI2 t + BitVec.ofNat 64 j + BitVec.ofNat 64 k) = atB (B (c8 v r)) (BitVec.ofNat 64 k) := fun k hk => by rw [H.at2 j k (by omega), hq]
  exact nm8_ok (h 0 (by decide)) (h 1 (by decide)) (h 2 (by decide)) (h 3 (by decide)) (h 4 (by decide)) (h 5 (by decide)) (h 6 (by decide)) (h 7 (by decide))
end Go.Proofs.YtppankimieopiaaDoor
