/-
  Chapter 11: bytes that are put together and read again: lists, the head of an instruction, numbers. Conditions: as typed.
-/
import Derived.Test.YtppankimieopiaaDoorDd
namespace Go.Proofs.YtppankimieopiaaDoor
open Go.Ep Go.RowKit
set_option linter.unusedVariables false
set_option linter.unusedSimpArgs false
abbrev B (l : List UInt8) : ByteArray := ⟨⟨l⟩⟩
theorem B_inj {l m : List UInt8} (h : B l = B m) : l = m := by injection h with h; injection h
theorem B_eta (s : ByteArray) : s = B s.data.toList := rfl
theorem cat_B (l m : List UInt8) : catB (B l) (B m) = B (l ++ m) := rfl
theorem ex_B (l : List UInt8) (a b : Nat) : exB (B l) a b = B ((l.drop a).take (b - a)) := by
  show B (takeU (dropU l a) (b - a)) = _
  rw [takeU_eq, dropU_eq]
theorem pre_B (l p : List UInt8) : pre (B l) (B p) = decide (l.take p.length = p) := by
  unfold pre
  rw [show exB (B l) 0 (B p).size = B ((l.drop 0).take (p.length - 0)) from ex_B l 0 p.length]
  simp only [List.drop_zero, Nat.sub_zero]
  exact decide_eq_decide.2 ⟨fun h => B_inj h, fun h => by rw [h]⟩
theorem pre_yes (p l : List UInt8) : pre (B (p ++ l)) (B p) = true := by rw [pre_B]; simp
theorem cut_yes (p l : List UInt8) : cutT (B p) (B (p ++ l)) = B l := by
  unfold cutT
  rw [if_pos (pre_yes p l), show exB (B (p ++ l)) (B p).size (B (p ++ l)).size = B (((p ++ l).drop p.length).take ((p ++ l).length - p.length)) from ex_B _ _ _]
  simp
theorem cut_no {p s : ByteArray} (h : pre s p = false) : cutT p s = s := by
  unfold cutT
  rw [if_neg (by rw [h]; decide)]
theorem pre1_no {a b : UInt8} (l : List UInt8) (h : a ≠ b) : pre (B (a :: l)) (B [b]) = false := by
  rw [pre_B]; simpa using h
/- What is taken. -/
theorem mn_n {n : BitVec 64} {s : ByteArray} {k : Nat} (hs : s.size < 9223372036854775808) (hn : n = BitVec.ofNat 64 k) (hk : k ≤ 8) (hl : k ≤ s.size) : mn n s = k := by
  rw [(mn_eq hs hn hk).1]; omega
theorem num_ex {n : BitVec 64} {l : List UInt8} {k : Nat} (hs : l.length < 9223372036854775808) (hn : n = BitVec.ofNat 64 k) (hk : k ≤ 8) (hl : k ≤ l.length) : numT n (B l) = numB (B (l.take k)) ∧ dropT n (B l) = B (l.drop k) := by
  have e : mn n (B l) = k := mn_n (s := B l) hs hn hk hl
  unfold numT dropT
  rw [e, ex_B, show exB (B l) k (B l).size = B ((l.drop k).take (l.length - k)) from ex_B l k l.length]
  refine ⟨by simp, ?_⟩
  rw [List.take_of_length_le (by simp)]
theorem num1 (a : UInt8) (l : List UInt8) (hs : (a :: l).length < 9223372036854775808) : numT 1#64 (B (a :: l)) = a.toBitVec.setWidth 64 ∧ dropT 1#64 (B (a :: l)) = B l := by
  obtain ⟨h1, h2⟩ := num_ex (n := 1#64) (k := 1) hs rfl (by decide) (by simp)
  rw [h1, h2]
  refine ⟨?_, rfl⟩
  show numB (B [a]) = _
  simp [numB, byteAt, nthB]
theorem num4 (a b c d : UInt8) (l : List UInt8) (hs : (a :: b :: c :: d :: l).length < 9223372036854775808) : numT 4#64 (B (a :: b :: c :: d :: l)) = (0#64 ||| a.toBitVec.setWidth 64 <<< 0 ||| b.toBitVec.setWidth 64 <<< 8 ||| c.toBitVec.setWidth 64 <<< 16 ||| d.toBitVec.setWidth 64 <<< 24) ∧ dropT 4#64 (B (a :: b :: c :: d :: l)) = B l := by
  obtain ⟨h1, h2⟩ := num_ex (n := 4#64) (k := 4) hs rfl (by decide) (by simp)
  rw [h1, h2]
  refine ⟨?_, rfl⟩
  show numB (B [a, b, c, d]) = _
  simp [numB, byteAt, nthB]
theorem nm8 (a b c d e f g i : UInt8) (l : List UInt8) (hs : (a :: b :: c :: d :: e :: f :: g :: i :: l).length < 9223372036854775808) : numT 8#64 (B (a :: b :: c :: d :: e :: f :: g :: i :: l)) = (0#64 ||| a.toBitVec.setWidth 64 <<< 0 ||| b.toBitVec.setWidth 64 <<< 8 ||| c.toBitVec.setWidth 64 <<< 16 ||| d.toBitVec.setWidth 64 <<< 24 ||| e.toBitVec.setWidth 64 <<< 32 ||| f.toBitVec.setWidth 64 <<< 40 ||| g.toBitVec.setWidth 64 <<< 48 ||| i.toBitVec.setWidth 64 <<< 56) := by
  obtain ⟨h1, h2⟩ := num_ex (n := 8#64) (k := 8) hs rfl (by decide) (by simp)
  rw [h1]
  show numB (B [a, b, c, d, e, f, g, i]) = _
  simp [numB, byteAt, nthB]
/- The head of an instruction. -/
structure Hd (t : ByteArray) (half : Bool) (hi : BitVec 8) (two : Bool) (op : UInt8) (r : List UInt8) : Prop where
  half : pre t p66 = half
  hi : hHi t = hi
  two : hTw t = two
  op : hOp t = op.toBitVec.setWidth 64
  s4 : hS4 t = B r
def rxOK (rx : List UInt8) (hi : BitVec 8) : Prop := (rx = [] ∧ hi = 0#8) ∨ ∃ v : UInt8, rx = [v] ∧ hi = v.toBitVec ∧ (v.toBitVec &&& 240#8 == 64#8) = true
def opOK (two : Bool) (op : UInt8) : Prop := two = true ∨ ((op.toBitVec &&& 240#8 == 64#8) = false ∧ op ≠ 15 ∧ op ≠ 102)
theorem hd_rest {rx : List UInt8} {hi : BitVec 8} {o : UInt8} {q : List UInt8} {t : ByteArray} (hr : rxOK rx hi) (ho : (o.toBitVec &&& 240#8 == 64#8) = false) (h1 : cutT p66 t = B (rx ++ o :: q)) (hs : (rx ++ o :: q).length < 9223372036854775808) : hHi t = hi ∧ hS2 t = B (o :: q) := by
  rcases hr with ⟨rfl, rfl⟩ | ⟨v, rfl, rfl, hv⟩
  · have h : cutT p66 t = B (o :: q) := h1
    have hc : hC t = false := by
      unfold hC
      rw [show hS1 t = B (o :: q) from h, show byteAt (B (o :: q)) 0 = o.toBitVec from rfl, ho, Bool.and_false]
    unfold hHi hS2
    rw [hc]
    exact ⟨rfl, h⟩
  · have h : cutT p66 t = B (v :: o :: q) := h1
    have hc : hC t = true := by
      unfold hC
      rw [show hS1 t = B (v :: o :: q) from h, show byteAt (B (v :: o :: q)) 0 = v.toBitVec from rfl, hv, Bool.and_true]
      rfl
    obtain ⟨n1, n2⟩ := num1 v (o :: q) hs
    unfold hHi hS2
    rw [hc, show hS1 t = B (v :: o :: q) from h, n1, n2]
    refine ⟨?_, rfl⟩
    rw [if_pos rfl, BitVec.setWidth_setWidth_of_le _ (by decide), BitVec.setWidth_eq]
theorem v_no {v : UInt8} (h : (v.toBitVec &&& 240#8 == 64#8) = true) : v ≠ 102 := by
  rintro rfl; revert h; decide
theorem Hd.of {half : Bool} {rx : List UInt8} {hi : BitVec 8} {two : Bool} {op : UInt8} {r : List UInt8} (hr : rxOK rx hi) (ho : opOK two op) (hs : ((if half then [102] else []) ++ (rx ++ ((if two then [15] else []) ++ op :: r))).length < 9223372036854775808) :
    Hd (B ((if half then [102] else []) ++ (rx ++ ((if two then [15] else []) ++ op :: r)))) half hi two op r := by
  obtain ⟨o, q, e, ho1, ho2⟩ : ∃ (o : UInt8) (q : List UInt8), (if two then [15] else []) ++ op :: r = o :: q ∧ (o.toBitVec &&& 240#8 == 64#8) = false ∧ o ≠ 102 := by
    cases two with
    | true => exact ⟨15, op :: r, rfl, by decide, by decide⟩
    | false =>
      rcases ho with ho | ⟨a, b, c⟩
      · cases ho
      · exact ⟨op, r, rfl, a, c⟩
  have h0 : cutT p66 (B ((if half then [102] else []) ++ (rx ++ o :: q))) = B (rx ++ o :: q) ∧ pre (B ((if half then [102] else []) ++ (rx ++ o :: q))) p66 = half := by
    cases half with
    | true => exact ⟨cut_yes [102] _, pre_yes [102] _⟩
    | false =>
      have hp : pre (B (rx ++ o :: q)) (B [102]) = false := by
        rcases hr with ⟨rfl, _⟩ | ⟨v, rfl, _, hv⟩
        · exact pre1_no _ ho2
        · exact pre1_no _ (v_no hv)
      exact ⟨cut_no hp, hp⟩
  rw [e] at hs ⊢
  have hlen : (rx ++ o :: q).length < 9223372036854775808 := by
    rw [List.length_append] at hs; omega
  have hlen2 : (o :: q).length < 9223372036854775808 := by
    rw [List.length_append] at hlen; omega
  obtain ⟨h1, h2⟩ := h0
  obtain ⟨h3, h4⟩ := hd_rest hr ho1 h1 hlen
  have h5 : hTw (B ((if half then [102] else []) ++ (rx ++ o :: q))) = two ∧ hS3 (B ((if half then [102] else []) ++ (rx ++ o :: q))) = B (op :: r) := by
    unfold hTw hS3
    rw [h4, ← e]
    cases two with
    | true => exact ⟨pre_yes [15] _, cut_yes [15] _⟩
    | false =>
      rcases ho with ho | ⟨a, b, c⟩
      · cases ho
      · have hp : pre (B (op :: r)) (B [15]) = false := pre1_no _ b
        exact ⟨hp, cut_no hp⟩
  have hlen3 : (op :: r).length < 9223372036854775808 := by
    have : (op :: r).length ≤ (o :: q).length := by rw [← e, List.length_append]; omega
    omega
  obtain ⟨n1, n2⟩ := num1 op r hlen3
  refine ⟨h2, h3, h5.1, ?_, ?_⟩
  · unfold hOp; rw [h5.2, n1]
  · unfold hS4; rw [h5.2, n2]
/- Registers. -/
def mrV (a b c : BitVec 64) : BitVec 8 := BitVec.signExtend 8 (a <<< (6#64).toNat ||| b.srem 8#64 <<< (3#64).toNat ||| c.srem 8#64)
theorem mrB_B (a b c : BitVec 64) : mrB a b c = B [⟨mrV a b c⟩] := rfl
def fEnd (hi m : BitVec 8) : BitVec 64 := (hi.setWidth 64 &&& 1#64) <<< (3#64).toNat ||| m.setWidth 64 &&& 7#64
def fMid (hi m : BitVec 8) : BitVec 64 := ((hi.setWidth 64).sshiftRight (2#64).toNat &&& 1#64) <<< (3#64).toNat ||| (m.setWidth 64).sshiftRight (3#64).toNat &&& 7#64
def fE0 (hi : BitVec 8) : BitVec 64 := (hi.setWidth 64 &&& 1#64) <<< (3#64).toNat
theorem mod_ok {t : ByteArray} {half : Bool} {hi : BitVec 8} {two : Bool} {op m : UInt8} {r : List UInt8} (H : Hd t half hi two op (m :: r)) (hs : (m :: r).length < 9223372036854775808) : hW t = (hi &&& 8#8 != 0#8) ∧ hEnd t = fEnd hi m.toBitVec ∧ hMid t = fMid hi m.toBitVec ∧ hS5 t = B r := by
  obtain ⟨n1, n2⟩ := num1 m r hs
  have hm : hM t = m.toBitVec.setWidth 64 := by unfold hM; rw [H.s4, n1]
  refine ⟨by unfold hW; rw [H.hi], ?_, ?_, ?_⟩
  · unfold hEnd hE0; rw [H.hi, hm]; rfl
  · unfold hMid; rw [H.hi, hm]; rfl
  · unfold hS5; rw [H.s4, n2]
theorem reg_in' {x : BitVec 64} (h : regB x = true) : ∃ i : Fin 16, x = BitVec.ofNat 64 i := by
  unfold regB at h
  rw [Bool.and_eq_true, BitVec.sle_iff_toInt_le, BitVec.slt_iff_toInt_lt] at h
  have e0 : (0#64).toInt = 0 := rfl
  have e16 : (16#64).toInt = 16 := rfl
  rw [e0, e16] at h
  exact ⟨⟨x.toInt.toNat, by omega⟩, BitVec.eq_of_toInt_eq (by rw [toInt_ofNat (by show x.toInt.toNat < _; omega)]; show x.toInt = (x.toInt.toNat : Int); omega)⟩
def rxHi (al w : Bool) (a b : BitVec 64) : BitVec 8 := if (rxV w a b == 64#8) && !al then 0#8 else rxV w a b
def rxL (al w : Bool) (a b : BitVec 64) : List UInt8 := if (rxV w a b == 64#8) && !al then [] else [⟨rxV w a b⟩]
theorem rxB_B (al w : Bool) (a b : BitVec 64) : rxB al w a b = B (rxL al w a b) := by
  unfold rxB rxL
  cases rxV w a b == 64#8 <;> cases al <;> rfl
theorem rx_f : ∀ (i j : Fin 16) (w : Bool), ((rxV w (BitVec.ofNat 64 i) (BitVec.ofNat 64 j) &&& 240#8) == 64#8) = true := by decide +kernel
theorem rx_ok (al w : Bool) {a b : BitVec 64} (ha : regB a = true) (hb : regB b = true) : rxOK (rxL al w a b) (rxHi al w a b) := by
  obtain ⟨i, rfl⟩ := reg_in' ha
  obtain ⟨j, rfl⟩ := reg_in' hb
  unfold rxL rxHi
  cases (rxV w (BitVec.ofNat 64 i) (BitVec.ofNat 64 j) == 64#8) && !al
  · exact .inr ⟨_, rfl, rfl, rx_f i j w⟩
  · exact .inl ⟨rfl, rfl⟩
theorem reg_f : ∀ (i j : Fin 16) (w al : Bool), ((rxHi al w (BitVec.ofNat 64 i) (BitVec.ofNat 64 j) &&& 8#8 != 0#8) == w && fMid (rxHi al w (BitVec.ofNat 64 i) (BitVec.ofNat 64 j)) (mrV 3#64 (BitVec.ofNat 64 i) (BitVec.ofNat 64 j)) == BitVec.ofNat 64 i && fEnd (rxHi al w (BitVec.ofNat 64 i) (BitVec.ofNat 64 j)) (mrV 3#64 (BitVec.ofNat 64 i) (BitVec.ofNat 64 j)) == BitVec.ofNat 64 j
    && fMid (rxHi al w (BitVec.ofNat 64 i) (BitVec.ofNat 64 j)) (mrV 2#64 (BitVec.ofNat 64 i) (BitVec.ofNat 64 j)) == BitVec.ofNat 64 i && fEnd (rxHi al w (BitVec.ofNat 64 i) (BitVec.ofNat 64 j)) (mrV 2#64 (BitVec.ofNat 64 i) (BitVec.ofNat 64 j)) == BitVec.ofNat 64 j) = true := by decide +kernel
theorem reg_ok (al w : Bool) {a b : BitVec 64} (ha : regB a = true) (hb : regB b = true) : (rxHi al w a b &&& 8#8 != 0#8) = w ∧ fMid (rxHi al w a b) (mrV 3#64 a b) = a ∧ fEnd (rxHi al w a b) (mrV 3#64 a b) = b ∧ fMid (rxHi al w a b) (mrV 2#64 a b) = a ∧ fEnd (rxHi al w a b) (mrV 2#64 a b) = b := by
  obtain ⟨i, rfl⟩ := reg_in' ha
  obtain ⟨j, rfl⟩ := reg_in' hb
  have h := reg_f i j w al
  simp only [Bool.and_eq_true, beq_iff_eq] at h
  obtain ⟨⟨⟨⟨h1, h2⟩, h3⟩, h4⟩, h5⟩ := h
  exact ⟨h1, h2, h3, h4, h5⟩
theorem dig_f : ∀ (i : Fin 8) (j : Fin 16) (w : Bool), (fMid (rxHi false w 0#64 (BitVec.ofNat 64 j)) (mrV 3#64 (BitVec.ofNat 64 i) (BitVec.ofNat 64 j)) &&& 7#64 == BitVec.ofNat 64 i && fEnd (rxHi false w 0#64 (BitVec.ofNat 64 j)) (mrV 3#64 (BitVec.ofNat 64 i) (BitVec.ofNat 64 j)) == BitVec.ofNat 64 j) = true := by decide +kernel
theorem dig_ok (w : Bool) {a b : BitVec 64} (ha : a.toNat < 8) (hb : regB b = true) : fMid (rxHi false w 0#64 b) (mrV 3#64 a b) &&& 7#64 = a ∧ fEnd (rxHi false w 0#64 b) (mrV 3#64 a b) = b := by
  obtain ⟨j, rfl⟩ := reg_in' hb
  obtain ⟨i, rfl⟩ : ∃ i : Fin 8, a = BitVec.ofNat 64 i := ⟨⟨a.toNat, ha⟩, by simp⟩
  have h := dig_f i j w
  simp only [Bool.and_eq_true, beq_iff_eq] at h
  exact h
theorem plus_f : ∀ (j : Fin 16) (w : Bool), ((fE0 (rxHi false w 0#64 (BitVec.ofNat 64 j)) ||| (184#8 + BitVec.signExtend 8 ((BitVec.ofNat 64 j).srem 8#64)).setWidth 64 &&& 7#64) == BitVec.ofNat 64 j && ((fE0 (rxHi false w 0#64 (BitVec.ofNat 64 j)) ||| (80#8 + BitVec.signExtend 8 ((BitVec.ofNat 64 j).srem 8#64)).setWidth 64 &&& 7#64) == BitVec.ofNat 64 j) && ((fE0 (rxHi false w 0#64 (BitVec.ofNat 64 j)) ||| (88#8 + BitVec.signExtend 8 ((BitVec.ofNat 64 j).srem 8#64)).setWidth 64 &&& 7#64) == BitVec.ofNat 64 j)) = true := by decide +kernel
theorem plus_ok (w : Bool) {b : BitVec 64} (hb : regB b = true) : (fE0 (rxHi false w 0#64 b) ||| (184#8 + BitVec.signExtend 8 (b.srem 8#64)).setWidth 64 &&& 7#64) = b ∧ (fE0 (rxHi false w 0#64 b) ||| (80#8 + BitVec.signExtend 8 (b.srem 8#64)).setWidth 64 &&& 7#64) = b ∧ (fE0 (rxHi false w 0#64 b) ||| (88#8 + BitVec.signExtend 8 (b.srem 8#64)).setWidth 64 &&& 7#64) = b := by
  obtain ⟨j, rfl⟩ := reg_in' hb
  have h := plus_f j w
  simp only [Bool.and_eq_true, beq_iff_eq] at h
  exact ⟨h.1.1, h.1.2, h.2⟩
/- A text by its parts. -/
abbrev tx (half two : Bool) (rx : List UInt8) (op : UInt8) (q : List UInt8) : List UInt8 := (if half then [102] else []) ++ (rx ++ ((if two then [15] else []) ++ op :: q))
abbrev c4 (v : BitVec 64) (r : List UInt8) : List UInt8 := by8 v 0 :: by8 v 8 :: by8 v 16 :: by8 v 24 :: r
abbrev c8 (v : BitVec 64) (r : List UInt8) : List UInt8 := by8 v 0 :: by8 v 8 :: by8 v 16 :: by8 v 24 :: by8 v 32 :: by8 v 40 :: by8 v 48 :: by8 v 56 :: r
abbrev sx (x : BitVec 32) : BitVec 64 := BitVec.signExtend 64 x
theorem suf {l m : List UInt8} {n : Nat} (h : (l ++ m).length < n) : m.length < n := by rw [List.length_append] at h; omega
theorem tx_suf {half two : Bool} {rx : List UInt8} {op : UInt8} {q : List UInt8} {n : Nat} (h : (tx half two rx op q).length < n) : (op :: q).length < n := suf (suf (suf h))
theorem tx_of {half two : Bool} {rx : List UInt8} {op : UInt8} {od im : List UInt8} (r : List UInt8) : catB (catB (catB (catB (catB (B (if half then [102] else [])) (B rx)) (B ((if two then [15] else []) ++ [op]))) (B od)) (B im)) (B r) = B (tx half two rx op (od ++ (im ++ r))) := by
  show B ((((((if half then [102] else []) ++ rx) ++ ((if two then [15] else []) ++ [op])) ++ od) ++ im) ++ r) = B ((if half then [102] else []) ++ (rx ++ ((if two then [15] else []) ++ op :: (od ++ (im ++ r)))))
  exact congrArg B (by simp)
end Go.Proofs.YtppankimieopiaaDoor
