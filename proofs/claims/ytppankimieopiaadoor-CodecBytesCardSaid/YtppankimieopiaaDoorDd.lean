/-
  Chapter 11: what bytes are guessed to be: definitions. Conditions: as typed.
-/
import Derived.Test.YtppankimieopiaaDoorDa
namespace Go.Proofs.YtppankimieopiaaDoor
open Go.Ep Go.RowKit
set_option linter.unusedVariables false
set_option linter.unusedSimpArgs false
abbrev p66 : ByteArray := ⟨#[102]⟩
abbrev p0f : ByteArray := ⟨#[15]⟩
theorem exB_le (s : ByteArray) (l : Nat) : (exB s l s.size).size ≤ s.size := by
  show (takeU (dropU s.data.toList l) (s.size - l)).length ≤ _
  rw [takeU_eq, dropU_eq, List.length_take]
  omega
theorem cut_lt {p s : ByteArray} (h : s.size < 9223372036854775808) : (cutT p s).size < 9223372036854775808 := by
  unfold cutT
  split
  · exact Nat.lt_of_le_of_lt (exB_le s _) h
  · exact h
theorem drop_lt {n : BitVec 64} {s : ByteArray} (h : s.size < 9223372036854775808) : (dropT n s).size < 9223372036854775808 := Nat.lt_of_le_of_lt (exB_le s _) h
theorem take1 : takeOK 1#64 := .inl rfl
theorem take4 : takeOK 4#64 := .inr (.inl rfl)
theorem take8 : takeOK 8#64 := .inr (.inr rfl)
theorem ne_pos {s : ByteArray} (h : decide (s = s0) = false) : 0 < s.size := by
  have h := of_decide_eq_false h
  obtain ⟨⟨l⟩⟩ := s
  cases l with
  | nil => exact absurd rfl h
  | cons a l => exact Nat.succ_pos _
/-- An instruction's fields. -/
structure MX where
  k : BitVec 64
  al : BitVec 64
  cc : BitVec 64
  sz : BitVec 64
  w : Bool
  sh : Bool
  d : BitVec 64
  s : BitVec 64
  dp : BitVec 32
  rl : BitVec 32
  im : BitVec 64
def LX (x : MX) : List L := [.b64 true x.k, .b64 true x.al, .b64 true x.cc, .b64 true x.sz, .bool x.w, .bool x.sh, .b64 true x.d, .b64 true x.s, .b32 true x.dp, .b32 true x.rl, .b64 true x.im]
abbrev vX (x : MX) : Bool := vld x.k x.al x.cc x.sz x.w x.sh x.d x.s x.dp x.rl x.im
abbrev eX (x : MX) : ByteArray := encB x.k x.al x.cc x.sz x.w x.sh x.d x.s x.dp x.rl x.im
/- What stands ahead of the opcode, the opcode, what stands behind. -/
abbrev hS1 (t : ByteArray) : ByteArray := cutT p66 t
def hC (t : ByteArray) : Bool := !(decide (hS1 t = s0)) && ((byteAt (hS1 t) 0 &&& 240#8) == 64#8)
def hHi (t : ByteArray) : BitVec 8 := if hC t then (numT 1#64 (hS1 t)).setWidth 8 else 0#8
def hS2 (t : ByteArray) : ByteArray := if hC t then dropT 1#64 (hS1 t) else hS1 t
theorem hd3 (t : ByteArray) : (decide (cutT p66 t = s0) = false ∧ ((byteAt (cutT p66 t) 0 &&& 240#8) == 64#8) = true ∧ hHi t = (numT 1#64 (cutT p66 t)).setWidth 8 ∧ hS2 t = dropT 1#64 (cutT p66 t)) ∨
    (decide (cutT p66 t = s0) = false ∧ ((byteAt (cutT p66 t) 0 &&& 240#8) == 64#8) = false ∧ hHi t = 0#8 ∧ hS2 t = cutT p66 t) ∨
    (decide (cutT p66 t = s0) = true ∧ decide (cutT p66 t = s0) = true ∧ hHi t = 0#8 ∧ hS2 t = cutT p66 t) := by
  unfold hHi hS2 hC
  cases h1 : decide (cutT p66 t = s0) with
  | true => exact .inr (.inr ⟨rfl, rfl, by simp [h1], by simp [h1]⟩)
  | false =>
    cases h2 : ((byteAt (cutT p66 t) 0 &&& 240#8) == 64#8) with
    | true => exact .inl ⟨rfl, rfl, by simp [h1, h2], by simp [h1, h2]⟩
    | false => exact .inr (.inl ⟨rfl, rfl, by simp [h1, h2], by simp [h1, h2]⟩)
def hTw (t : ByteArray) : Bool := pre (hS2 t) p0f
def hS3 (t : ByteArray) : ByteArray := cutT p0f (hS2 t)
def hOp (t : ByteArray) : BitVec 64 := numT 1#64 (hS3 t)
def hS4 (t : ByteArray) : ByteArray := dropT 1#64 (hS3 t)
def hM (t : ByteArray) : BitVec 64 := numT 1#64 (hS4 t)
def hS5 (t : ByteArray) : ByteArray := dropT 1#64 (hS4 t)
def hW (t : ByteArray) : Bool := hHi t &&& 8#8 != 0#8
def hE0 (t : ByteArray) : BitVec 64 := ((hHi t).setWidth 64 &&& 1#64) <<< (3#64).toNat
def hEnd (t : ByteArray) : BitVec 64 := hE0 t ||| hM t &&& 7#64
def hMid (t : ByteArray) : BitVec 64 := (((hHi t).setWidth 64).sshiftRight (2#64).toNat &&& 1#64) <<< (3#64).toNat ||| (hM t).sshiftRight (3#64).toNat &&& 7#64
def hS6 (t : ByteArray) : ByteArray := if (hEnd t &&& 7#64) == 4#64 then dropT 1#64 (hS5 t) else hS5 t
def hDp (t : ByteArray) : BitVec 32 := BitVec.signExtend 32 (sgT 4#64 (hS6 t))
def g1 (t : ByteArray) : MX := ⟨1#64, 0#64, 0#64, 0#64, hW t, false, hEnd t, hMid t, 0#32, 0#32, 0#64⟩
def g2 (t : ByteArray) : MX := ⟨2#64, 0#64, 0#64, 0#64, hW t, false, hEnd t, 0#64, 0#32, 0#32, sgT 4#64 (hS5 t)⟩
def g3 (t : ByteArray) : MX := ⟨3#64, 0#64, 0#64, 0#64, hW t, false, hE0 t ||| hOp t &&& 7#64, 0#64, 0#32, 0#32, sgT 8#64 (hS4 t)⟩
def g4 (t : ByteArray) : MX := ⟨4#64, (hOp t).sshiftRight (3#64).toNat, 0#64, 0#64, hW t, false, hEnd t, hMid t, 0#32, 0#32, 0#64⟩
def g5 (t : ByteArray) : MX := ⟨5#64, hMid t &&& 7#64, 0#64, 0#64, hW t, false, hEnd t, 0#64, 0#32, 0#32, sgT 4#64 (hS5 t)⟩
def g6 (t : ByteArray) : MX := ⟨6#64, 0#64, 0#64, 0#64, hW t, false, hEnd t, hMid t, 0#32, 0#32, 0#64⟩
def g7 (t : ByteArray) : MX := ⟨7#64, 0#64, 0#64, 0#64, hW t, false, hEnd t, 0#64, 0#32, 0#32, 0#64⟩
def g8 (t : ByteArray) : MX := ⟨8#64, 0#64, 0#64, 0#64, hW t, false, hEnd t, 0#64, 0#32, 0#32, 0#64⟩
def g9 (t : ByteArray) : MX := ⟨9#64, 0#64, 0#64, 0#64, hW t, false, hEnd t, 0#64, 0#32, 0#32, 0#64⟩
def g10 (t : ByteArray) : MX := ⟨10#64, 0#64, 0#64, 0#64, hW t, false, hMid t, hEnd t, 0#32, 0#32, 0#64⟩
def g11 (t : ByteArray) : MX := ⟨11#64, hMid t &&& 7#64, 0#64, 0#64, hW t, false, hEnd t, 0#64, 0#32, 0#32, sgT 1#64 (hS5 t)⟩
def g12 (t : ByteArray) : MX := ⟨12#64, hMid t &&& 7#64, 0#64, 0#64, hW t, false, hEnd t, 0#64, 0#32, 0#32, 0#64⟩
def g13 (t : ByteArray) : MX := ⟨13#64, 0#64, 0#64, szF 5#64 (hOp t) (hTw t) (pre t p66) (hW t), hW t, false, hMid t, hEnd t, hDp t, 0#32, 0#64⟩
def g14 (t : ByteArray) : MX := ⟨14#64, 0#64, 0#64, szF 6#64 (hOp t) (hTw t) (pre t p66) (hW t), hW t, false, hEnd t, hMid t, hDp t, 0#32, 0#64⟩
def g15 (t : ByteArray) : MX := ⟨15#64, 0#64, 0#64, 0#64, hW t, hOp t == 235#64, 0#64, 0#64, 0#32, if hOp t == 235#64 then BitVec.signExtend 32 (sgT 1#64 (hS4 t)) else BitVec.signExtend 32 (sgT 4#64 (hS4 t)), 0#64⟩
def g16 (t : ByteArray) : MX := ⟨16#64, 0#64, hOp t &&& 15#64, 0#64, hW t, !hTw t, 0#64, 0#64, 0#32, if !hTw t then BitVec.signExtend 32 (sgT 1#64 (hS4 t)) else BitVec.signExtend 32 (sgT 4#64 (hS4 t)), 0#64⟩
def g17 (t : ByteArray) : MX := ⟨17#64, 0#64, 0#64, 0#64, hW t, false, hE0 t ||| hOp t &&& 7#64, 0#64, 0#32, 0#32, 0#64⟩
def g18 (t : ByteArray) : MX := ⟨18#64, 0#64, 0#64, 0#64, hW t, false, hE0 t ||| hOp t &&& 7#64, 0#64, 0#32, 0#32, 0#64⟩
def g19 (t : ByteArray) : MX := ⟨19#64, 0#64, 0#64, 0#64, hW t, false, 0#64, 0#64, 0#32, 0#32, 0#64⟩
def g20 (t : ByteArray) : MX := ⟨20#64, 0#64, 0#64, 0#64, hW t, false, 0#64, 0#64, 0#32, BitVec.signExtend 32 (sgT 4#64 (hS4 t)), 0#64⟩
def g21 (t : ByteArray) : MX := ⟨21#64, 0#64, 0#64, 0#64, hW t, false, 0#64, 0#64, 0#32, 0#32, 0#64⟩
/-- What is guessed of bytes, of a kind. -/
def G : Nat → ByteArray → MX
  | 1, t => g1 t
  | 2, t => g2 t
  | 3, t => g3 t
  | 4, t => g4 t
  | 5, t => g5 t
  | 6, t => g6 t
  | 7, t => g7 t
  | 8, t => g8 t
  | 9, t => g9 t
  | 10, t => g10 t
  | 11, t => g11 t
  | 12, t => g12 t
  | 13, t => g13 t
  | 14, t => g14 t
  | 15, t => g15 t
  | 16, t => g16 t
  | 17, t => g17 t
  | 18, t => g18 t
  | 19, t => g19 t
  | 20, t => g20 t
  | 21, t => g21 t
  | _, t => g1 t
end Go.Proofs.YtppankimieopiaaDoor
