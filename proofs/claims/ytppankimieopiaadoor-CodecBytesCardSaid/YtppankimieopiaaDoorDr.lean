/-
  Chapter 11: what is put together is guessed again, kind by kind. Conditions: the instruction may be.
-/
import Derived.Test.YtppankimieopiaaDoorDn
namespace Go.Proofs.YtppankimieopiaaDoor
open Go.Ep Go.RowKit
set_option linter.unusedVariables false
set_option linter.unusedSimpArgs false
theorem opOK_of {op : UInt8} (h : ((op.toBitVec &&& 240#8 == 64#8) || (op == 15) || (op == 102)) = false) : opOK false op := by
  rw [Bool.or_eq_false_iff, Bool.or_eq_false_iff] at h
  exact .inr ⟨h.1.1, by simpa using h.1.2, by simpa using h.2⟩
theorem plus_op : ∀ j : Fin 16, ((((⟨184#8 + BitVec.signExtend 8 ((BitVec.ofNat 64 j).srem 8#64)⟩ : UInt8).toBitVec &&& 240#8 == 64#8) || ((⟨184#8 + BitVec.signExtend 8 ((BitVec.ofNat 64 j).srem 8#64)⟩ : UInt8) == 15) || ((⟨184#8 + BitVec.signExtend 8 ((BitVec.ofNat 64 j).srem 8#64)⟩ : UInt8) == 102)) = false) ∧
    ((((⟨80#8 + BitVec.signExtend 8 ((BitVec.ofNat 64 j).srem 8#64)⟩ : UInt8).toBitVec &&& 240#8 == 64#8) || ((⟨80#8 + BitVec.signExtend 8 ((BitVec.ofNat 64 j).srem 8#64)⟩ : UInt8) == 15) || ((⟨80#8 + BitVec.signExtend 8 ((BitVec.ofNat 64 j).srem 8#64)⟩ : UInt8) == 102)) = false) ∧
    ((((⟨88#8 + BitVec.signExtend 8 ((BitVec.ofNat 64 j).srem 8#64)⟩ : UInt8).toBitVec &&& 240#8 == 64#8) || ((⟨88#8 + BitVec.signExtend 8 ((BitVec.ofNat 64 j).srem 8#64)⟩ : UInt8) == 15) || ((⟨88#8 + BitVec.signExtend 8 ((BitVec.ofNat 64 j).srem 8#64)⟩ : UInt8) == 102)) = false) := by decide +kernel
theorem plus_opOK {b : BitVec 64} (hb : regB b = true) : opOK false ⟨184#8 + BitVec.signExtend 8 (b.srem 8#64)⟩ ∧ opOK false ⟨80#8 + BitVec.signExtend 8 (b.srem 8#64)⟩ ∧ opOK false ⟨88#8 + BitVec.signExtend 8 (b.srem 8#64)⟩ := by
  obtain ⟨j, rfl⟩ := reg_in' hb
  exact ⟨opOK_of (plus_op j).1, opOK_of (plus_op j).2.1, opOK_of (plus_op j).2.2⟩
theorem reg00 : regB 0#64 = true := by decide
theorem alu_in {x : BitVec 64} (h : aluB x = true) : x = 0#64 ∨ x = 1#64 ∨ x = 4#64 ∨ x = 5#64 ∨ x = 6#64 ∨ x = 7#64 := by
  simp only [aluB, Bool.or_eq_true, beq_iff_eq] at h
  rcases h with ((((rfl | rfl) | rfl) | rfl) | rfl) | rfl <;> simp
theorem alu8 {x : BitVec 64} (h : aluB x = true) : x.toNat < 8 := by
  rcases alu_in h with rfl | rfl | rfl | rfl | rfl | rfl <;> decide
theorem shift8 {x : BitVec 64} (h : shiftB x = true) : x.toNat < 8 := by
  simp only [shiftB, Bool.or_eq_true, beq_iff_eq] at h
  rcases h with (rfl | rfl) | rfl <;> decide
theorem size_in' {x : BitVec 64} (h : sizeB x = true) : x = 1#64 ∨ x = 2#64 ∨ x = 4#64 ∨ x = 8#64 := by
  simp only [sizeB, Bool.or_eq_true, beq_iff_eq] at h
  rcases h with ((rfl | rfl) | rfl) | rfl <;> simp
theorem cond_in {x : BitVec 64} (h : condB x = true) : x = 2#64 ∨ x = 3#64 ∨ x = 4#64 ∨ x = 5#64 ∨ x = 6#64 ∨ x = 7#64 ∨ x = 12#64 ∨ x = 13#64 ∨ x = 14#64 ∨ x = 15#64 := by
  simp only [condB, Bool.or_eq_true, beq_iff_eq] at h
  rcases h with ((((((((rfl | rfl) | rfl) | rfl) | rfl) | rfl) | rfl) | rfl) | rfl) | rfl <;> simp
abbrev b4 (v : BitVec 64) : List UInt8 := [by8 v 0, by8 v 8, by8 v 16, by8 v 24]
abbrev b8 (v : BitVec 64) : List UInt8 := [by8 v 0, by8 v 8, by8 v 16, by8 v 24, by8 v 32, by8 v 40, by8 v 48, by8 v 56]
theorem Hd.e0 {t : ByteArray} {half : Bool} {hi : BitVec 8} {two : Bool} {op : UInt8} {r : List UInt8} (H : Hd t half hi two op r) : hW t = (hi &&& 8#8 != 0#8) ∧ hE0 t = fE0 hi := by
  unfold hW hE0; rw [H.hi]; exact ⟨rfl, rfl⟩
theorem mod_ok' {t : ByteArray} {half : Bool} {hi mv : BitVec 8} {two : Bool} {op : UInt8} {r : List UInt8} (H : Hd t half hi two op (⟨mv⟩ :: r)) (hs : (⟨mv⟩ :: r : List UInt8).length < 9223372036854775808) : hW t = (hi &&& 8#8 != 0#8) ∧ hEnd t = fEnd hi mv ∧ hMid t = fMid hi mv ∧ hS5 t = B r := mod_ok H hs
set_option maxRecDepth 100000 in
set_option maxHeartbeats 4000000 in
theorem rt_1 (al cc sz : BitVec 64) (w sh : Bool) (d s : BitVec 64) (dp rl : BitVec 32) (im : BitVec 64) (hv : v1 al cc sz w sh d s dp rl im = true) (r : List UInt8) (hz : (catB (en1 al cc sz w sh d s dp rl im) (B r)).size < 9223372036854775808) : g1 (catB (en1 al cc sz w sh d s dp rl im) (B r)) = ⟨1#64, al, cc, sz, w, sh, d, s, dp, rl, im⟩ := by
  unfold v1 at hv
  simp only [Bool.and_eq_true, Bool.not_eq_true', Bool.or_eq_true, beq_iff_eq] at hv
  obtain ⟨⟨⟨⟨⟨⟨⟨rfl, rfl⟩, rfl⟩, rfl⟩, rfl⟩, rfl⟩, rfl⟩, hd, hs⟩ := hv
  · have e : catB (en1 0#64 0#64 0#64 w false d s 0#32 0#32 0#64) (B r) = B (tx false false (rxL false w s d) 137 (⟨mrV 3#64 s d⟩ :: r)) := by
      unfold en1
      rw [rxB_B]
      show B (((([] ++ rxL false w s d) ++ [137]) ++ ([⟨mrV 3#64 s d⟩])) ++ [] ++ r) = _
      exact congrArg B (by simp [tx, c4, c8])
    rw [e] at hz ⊢
    have H := Hd.of (half := false) (rx_ok false w hs hd) (opOK_of (by decide) : opOK false 137) hz
    have hz2 := tx_suf hz
    have hz3 := suf (l := [_]) hz2
    obtain ⟨f1, f2, f3, f4, f5⟩ := reg_ok false w (a := s) (b := d) hs hd
    obtain ⟨e1, e2, e3, e4⟩ := mod_ok' H hz3
    unfold g1
    rw [e1, e2, e3, f1, f2, f3]
set_option maxRecDepth 100000 in
set_option maxHeartbeats 4000000 in
theorem rt_2 (al cc sz : BitVec 64) (w sh : Bool) (d s : BitVec 64) (dp rl : BitVec 32) (im : BitVec 64) (hv : v2 al cc sz w sh d s dp rl im = true) (r : List UInt8) (hz : (catB (en2 al cc sz w sh d s dp rl im) (B r)).size < 9223372036854775808) : g2 (catB (en2 al cc sz w sh d s dp rl im) (B r)) = ⟨2#64, al, cc, sz, w, sh, d, s, dp, rl, im⟩ := by
  unfold v2 at hv
  simp only [Bool.and_eq_true, Bool.not_eq_true', Bool.or_eq_true, beq_iff_eq] at hv
  obtain ⟨⟨⟨⟨⟨⟨⟨⟨⟨rfl, rfl⟩, rfl⟩, rfl⟩, rfl⟩, rfl⟩, rfl⟩, hI⟩, rfl⟩, hd, hs⟩ := hv
  · have e : catB (en2 0#64 0#64 0#64 true false d 0#64 0#32 0#32 im) (B r) = B (tx false false (rxL false true 0#64 d) 199 (⟨mrV 3#64 0#64 d⟩ :: c4 (im) (r))) := by
      unfold en2
      rw [rxB_B]
      show B (((([] ++ rxL false true 0#64 d) ++ [199]) ++ ([⟨mrV 3#64 0#64 d⟩])) ++ b4 im ++ r) = _
      exact congrArg B (by simp [tx, c4, c8])
    rw [e] at hz ⊢
    have H := Hd.of (half := false) (rx_ok false true reg00 hd) (opOK_of (by decide) : opOK false 199) hz
    have hz2 := tx_suf hz
    have hz3 := suf (l := [_]) hz2
    obtain ⟨f1, _⟩ := reg_ok false true (a := 0#64) (b := d) reg00 hd
    obtain ⟨f2, f3⟩ := dig_ok true (a := 0#64) (b := d) (by decide) hd
    obtain ⟨e1, e2, e3, e4⟩ := mod_ok' H hz3
    unfold g2
    rw [e1, f1, e2, f3]
    rw [e4, sg4 im _ (suf (l := [⟨mrV 3#64 0#64 d⟩]) hz3), word_sx hI]
set_option maxRecDepth 100000 in
set_option maxHeartbeats 4000000 in
theorem rt_3 (al cc sz : BitVec 64) (w sh : Bool) (d s : BitVec 64) (dp rl : BitVec 32) (im : BitVec 64) (hv : v3 al cc sz w sh d s dp rl im = true) (r : List UInt8) (hz : (catB (en3 al cc sz w sh d s dp rl im) (B r)).size < 9223372036854775808) : g3 (catB (en3 al cc sz w sh d s dp rl im) (B r)) = ⟨3#64, al, cc, sz, w, sh, d, s, dp, rl, im⟩ := by
  unfold v3 at hv
  simp only [Bool.and_eq_true, Bool.not_eq_true', Bool.or_eq_true, beq_iff_eq] at hv
  obtain ⟨⟨⟨⟨⟨⟨⟨⟨rfl, rfl⟩, rfl⟩, rfl⟩, rfl⟩, rfl⟩, rfl⟩, rfl⟩, hd, hs⟩ := hv
  · have e : catB (en3 0#64 0#64 0#64 true false d 0#64 0#32 0#32 im) (B r) = B (tx false false (rxL false true 0#64 d) ⟨184#8 + BitVec.signExtend 8 (d.srem 8#64)⟩ (c8 (im) (r))) := by
      unfold en3
      rw [rxB_B]
      show B (((([] ++ rxL false true 0#64 d) ++ [⟨184#8 + BitVec.signExtend 8 (d.srem 8#64)⟩]) ++ ([])) ++ b8 im ++ r) = _
      exact congrArg B (by simp [tx, c4, c8])
    rw [e] at hz ⊢
    have H := Hd.of (half := false) (rx_ok false true reg00 hd) ((plus_opOK hd).1 : opOK false ⟨184#8 + BitVec.signExtend 8 (d.srem 8#64)⟩) hz
    have hz2 := tx_suf hz
    have hz3 := suf (l := [_]) hz2
    obtain ⟨f1, _⟩ := reg_ok false true (a := 0#64) (b := d) reg00 hd
    have f2 := (plus_ok true (b := d) hd).1
    obtain ⟨e1, e2⟩ := H.e0
    unfold g3
    rw [e1, f1, e2, H.op]
    rw [f2]
    rw [H.s4]
    rw [sg8 im r hz3]
set_option maxRecDepth 100000 in
set_option maxHeartbeats 4000000 in
theorem rt_4 (al cc sz : BitVec 64) (w sh : Bool) (d s : BitVec 64) (dp rl : BitVec 32) (im : BitVec 64) (hv : v4 al cc sz w sh d s dp rl im = true) (r : List UInt8) (hz : (catB (en4 al cc sz w sh d s dp rl im) (B r)).size < 9223372036854775808) : g4 (catB (en4 al cc sz w sh d s dp rl im) (B r)) = ⟨4#64, al, cc, sz, w, sh, d, s, dp, rl, im⟩ := by
  unfold v4 at hv
  simp only [Bool.and_eq_true, Bool.not_eq_true', Bool.or_eq_true, beq_iff_eq] at hv
  obtain ⟨⟨⟨⟨⟨⟨⟨rfl, rfl⟩, rfl⟩, rfl⟩, rfl⟩, rfl⟩, hA⟩, hd, hs⟩ := hv
  rcases alu_in hA with hq | hq | hq | hq | hq | hq
  all_goals
    have e : catB (en4 al 0#64 0#64 w false d s 0#32 0#32 0#64) (B r) = B (tx false false (rxL false w s d) ⟨BitVec.signExtend 8 (8#64 * al + 1#64)⟩ (⟨mrV 3#64 s d⟩ :: r)) := by
      unfold en4
      rw [rxB_B]
      show B (((([] ++ rxL false w s d) ++ [⟨BitVec.signExtend 8 (8#64 * al + 1#64)⟩]) ++ ([⟨mrV 3#64 s d⟩])) ++ [] ++ r) = _
      exact congrArg B (by simp [tx, c4, c8])
    rw [e] at hz ⊢
    have H := Hd.of (half := false) (rx_ok false w hs hd) (by rw [hq]; exact opOK_of (by decide) : opOK false ⟨BitVec.signExtend 8 (8#64 * al + 1#64)⟩) hz
    have hz2 := tx_suf hz
    have hz3 := suf (l := [_]) hz2
    obtain ⟨f1, f2, f3, f4, f5⟩ := reg_ok false w (a := s) (b := d) hs hd
    obtain ⟨e1, e2, e3, e4⟩ := mod_ok' H hz3
    unfold g4
    rw [e1, e2, e3, f1, f2, f3, H.op]
    rw [hq]; rfl
set_option maxRecDepth 100000 in
set_option maxHeartbeats 4000000 in
theorem rt_5 (al cc sz : BitVec 64) (w sh : Bool) (d s : BitVec 64) (dp rl : BitVec 32) (im : BitVec 64) (hv : v5 al cc sz w sh d s dp rl im = true) (r : List UInt8) (hz : (catB (en5 al cc sz w sh d s dp rl im) (B r)).size < 9223372036854775808) : g5 (catB (en5 al cc sz w sh d s dp rl im) (B r)) = ⟨5#64, al, cc, sz, w, sh, d, s, dp, rl, im⟩ := by
  unfold v5 at hv
  simp only [Bool.and_eq_true, Bool.not_eq_true', Bool.or_eq_true, beq_iff_eq] at hv
  obtain ⟨⟨⟨⟨⟨⟨⟨⟨rfl, rfl⟩, rfl⟩, rfl⟩, rfl⟩, rfl⟩, hA⟩, hI⟩, hd, hs⟩ := hv
  · have e : catB (en5 al 0#64 0#64 w false d 0#64 0#32 0#32 im) (B r) = B (tx false false (rxL false w 0#64 d) 129 (⟨mrV 3#64 al d⟩ :: c4 (im) (r))) := by
      unfold en5
      rw [rxB_B]
      show B (((([] ++ rxL false w 0#64 d) ++ [129]) ++ ([⟨mrV 3#64 al d⟩])) ++ b4 im ++ r) = _
      exact congrArg B (by simp [tx, c4, c8])
    rw [e] at hz ⊢
    have H := Hd.of (half := false) (rx_ok false w reg00 hd) (opOK_of (by decide) : opOK false 129) hz
    have hz2 := tx_suf hz
    have hz3 := suf (l := [_]) hz2
    obtain ⟨f1, _⟩ := reg_ok false w (a := 0#64) (b := d) reg00 hd
    obtain ⟨f2, f3⟩ := dig_ok w (a := al) (b := d) (alu8 hA) hd
    obtain ⟨e1, e2, e3, e4⟩ := mod_ok' H hz3
    unfold g5
    rw [e1, f1, e2, f3, e3, f2]
    rw [e4, sg4 im _ (suf (l := [⟨mrV 3#64 al d⟩]) hz3), word_sx hI]
set_option maxRecDepth 100000 in
set_option maxHeartbeats 4000000 in
theorem rt_6 (al cc sz : BitVec 64) (w sh : Bool) (d s : BitVec 64) (dp rl : BitVec 32) (im : BitVec 64) (hv : v6 al cc sz w sh d s dp rl im = true) (r : List UInt8) (hz : (catB (en6 al cc sz w sh d s dp rl im) (B r)).size < 9223372036854775808) : g6 (catB (en6 al cc sz w sh d s dp rl im) (B r)) = ⟨6#64, al, cc, sz, w, sh, d, s, dp, rl, im⟩ := by
  unfold v6 at hv
  simp only [Bool.and_eq_true, Bool.not_eq_true', Bool.or_eq_true, beq_iff_eq] at hv
  obtain ⟨⟨⟨⟨⟨⟨⟨rfl, rfl⟩, rfl⟩, rfl⟩, rfl⟩, rfl⟩, rfl⟩, hd, hs⟩ := hv
  · have e : catB (en6 0#64 0#64 0#64 w false d s 0#32 0#32 0#64) (B r) = B (tx false false (rxL false w s d) 133 (⟨mrV 3#64 s d⟩ :: r)) := by
      unfold en6
      rw [rxB_B]
      show B (((([] ++ rxL false w s d) ++ [133]) ++ ([⟨mrV 3#64 s d⟩])) ++ [] ++ r) = _
      exact congrArg B (by simp [tx, c4, c8])
    rw [e] at hz ⊢
    have H := Hd.of (half := false) (rx_ok false w hs hd) (opOK_of (by decide) : opOK false 133) hz
    have hz2 := tx_suf hz
    have hz3 := suf (l := [_]) hz2
    obtain ⟨f1, f2, f3, f4, f5⟩ := reg_ok false w (a := s) (b := d) hs hd
    obtain ⟨e1, e2, e3, e4⟩ := mod_ok' H hz3
    unfold g6
    rw [e1, e2, e3, f1, f2, f3]
set_option maxRecDepth 100000 in
set_option maxHeartbeats 4000000 in
theorem rt_7 (al cc sz : BitVec 64) (w sh : Bool) (d s : BitVec 64) (dp rl : BitVec 32) (im : BitVec 64) (hv : v7 al cc sz w sh d s dp rl im = true) (r : List UInt8) (hz : (catB (en7 al cc sz w sh d s dp rl im) (B r)).size < 9223372036854775808) : g7 (catB (en7 al cc sz w sh d s dp rl im) (B r)) = ⟨7#64, al, cc, sz, w, sh, d, s, dp, rl, im⟩ := by
  unfold v7 at hv
  simp only [Bool.and_eq_true, Bool.not_eq_true', Bool.or_eq_true, beq_iff_eq] at hv
  obtain ⟨⟨⟨⟨⟨⟨⟨⟨rfl, rfl⟩, rfl⟩, rfl⟩, rfl⟩, rfl⟩, rfl⟩, rfl⟩, hd, hs⟩ := hv
  · have e : catB (en7 0#64 0#64 0#64 w false d 0#64 0#32 0#32 0#64) (B r) = B (tx false false (rxL false w 0#64 d) 247 (⟨mrV 3#64 3#64 d⟩ :: r)) := by
      unfold en7
      rw [rxB_B]
      show B (((([] ++ rxL false w 0#64 d) ++ [247]) ++ ([⟨mrV 3#64 3#64 d⟩])) ++ [] ++ r) = _
      exact congrArg B (by simp [tx, c4, c8])
    rw [e] at hz ⊢
    have H := Hd.of (half := false) (rx_ok false w reg00 hd) (opOK_of (by decide) : opOK false 247) hz
    have hz2 := tx_suf hz
    have hz3 := suf (l := [_]) hz2
    obtain ⟨f1, _⟩ := reg_ok false w (a := 0#64) (b := d) reg00 hd
    obtain ⟨f2, f3⟩ := dig_ok w (a := 3#64) (b := d) (by decide) hd
    obtain ⟨e1, e2, e3, e4⟩ := mod_ok' H hz3
    unfold g7
    rw [e1, f1, e2, f3]
set_option maxRecDepth 100000 in
set_option maxHeartbeats 4000000 in
theorem rt_8 (al cc sz : BitVec 64) (w sh : Bool) (d s : BitVec 64) (dp rl : BitVec 32) (im : BitVec 64) (hv : v8 al cc sz w sh d s dp rl im = true) (r : List UInt8) (hz : (catB (en8 al cc sz w sh d s dp rl im) (B r)).size < 9223372036854775808) : g8 (catB (en8 al cc sz w sh d s dp rl im) (B r)) = ⟨8#64, al, cc, sz, w, sh, d, s, dp, rl, im⟩ := by
  unfold v8 at hv
  simp only [Bool.and_eq_true, Bool.not_eq_true', Bool.or_eq_true, beq_iff_eq] at hv
  obtain ⟨⟨⟨⟨⟨⟨⟨⟨rfl, rfl⟩, rfl⟩, rfl⟩, rfl⟩, rfl⟩, rfl⟩, rfl⟩, hd, hs⟩ := hv
  · have e : catB (en8 0#64 0#64 0#64 w false d 0#64 0#32 0#32 0#64) (B r) = B (tx false false (rxL false w 0#64 d) 247 (⟨mrV 3#64 4#64 d⟩ :: r)) := by
      unfold en8
      rw [rxB_B]
      show B (((([] ++ rxL false w 0#64 d) ++ [247]) ++ ([⟨mrV 3#64 4#64 d⟩])) ++ [] ++ r) = _
      exact congrArg B (by simp [tx, c4, c8])
    rw [e] at hz ⊢
    have H := Hd.of (half := false) (rx_ok false w reg00 hd) (opOK_of (by decide) : opOK false 247) hz
    have hz2 := tx_suf hz
    have hz3 := suf (l := [_]) hz2
    obtain ⟨f1, _⟩ := reg_ok false w (a := 0#64) (b := d) reg00 hd
    obtain ⟨f2, f3⟩ := dig_ok w (a := 4#64) (b := d) (by decide) hd
    obtain ⟨e1, e2, e3, e4⟩ := mod_ok' H hz3
    unfold g8
    rw [e1, f1, e2, f3]
set_option maxRecDepth 100000 in
set_option maxHeartbeats 4000000 in
theorem rt_9 (al cc sz : BitVec 64) (w sh : Bool) (d s : BitVec 64) (dp rl : BitVec 32) (im : BitVec 64) (hv : v9 al cc sz w sh d s dp rl im = true) (r : List UInt8) (hz : (catB (en9 al cc sz w sh d s dp rl im) (B r)).size < 9223372036854775808) : g9 (catB (en9 al cc sz w sh d s dp rl im) (B r)) = ⟨9#64, al, cc, sz, w, sh, d, s, dp, rl, im⟩ := by
  unfold v9 at hv
  simp only [Bool.and_eq_true, Bool.not_eq_true', Bool.or_eq_true, beq_iff_eq] at hv
  obtain ⟨⟨⟨⟨⟨⟨⟨⟨rfl, rfl⟩, rfl⟩, rfl⟩, rfl⟩, rfl⟩, rfl⟩, rfl⟩, hd, hs⟩ := hv
  · have e : catB (en9 0#64 0#64 0#64 w false d 0#64 0#32 0#32 0#64) (B r) = B (tx false false (rxL false w 0#64 d) 247 (⟨mrV 3#64 6#64 d⟩ :: r)) := by
      unfold en9
      rw [rxB_B]
      show B (((([] ++ rxL false w 0#64 d) ++ [247]) ++ ([⟨mrV 3#64 6#64 d⟩])) ++ [] ++ r) = _
      exact congrArg B (by simp [tx, c4, c8])
    rw [e] at hz ⊢
    have H := Hd.of (half := false) (rx_ok false w reg00 hd) (opOK_of (by decide) : opOK false 247) hz
    have hz2 := tx_suf hz
    have hz3 := suf (l := [_]) hz2
    obtain ⟨f1, _⟩ := reg_ok false w (a := 0#64) (b := d) reg00 hd
    obtain ⟨f2, f3⟩ := dig_ok w (a := 6#64) (b := d) (by decide) hd
    obtain ⟨e1, e2, e3, e4⟩ := mod_ok' H hz3
    unfold g9
    rw [e1, f1, e2, f3]
set_option maxRecDepth 100000 in
set_option maxHeartbeats 4000000 in
theorem rt_10 (al cc sz : BitVec 64) (w sh : Bool) (d s : BitVec 64) (dp rl : BitVec 32) (im : BitVec 64) (hv : v10 al cc sz w sh d s dp rl im = true) (r : List UInt8) (hz : (catB (en10 al cc sz w sh d s dp rl im) (B r)).size < 9223372036854775808) : g10 (catB (en10 al cc sz w sh d s dp rl im) (B r)) = ⟨10#64, al, cc, sz, w, sh, d, s, dp, rl, im⟩ := by
  unfold v10 at hv
  simp only [Bool.and_eq_true, Bool.not_eq_true', Bool.or_eq_true, beq_iff_eq] at hv
  obtain ⟨⟨⟨⟨⟨⟨⟨rfl, rfl⟩, rfl⟩, rfl⟩, rfl⟩, rfl⟩, rfl⟩, hd, hs⟩ := hv
  · have e : catB (en10 0#64 0#64 0#64 w false d s 0#32 0#32 0#64) (B r) = B (tx false true (rxL false w d s) 175 (⟨mrV 3#64 d s⟩ :: r)) := by
      unfold en10
      rw [rxB_B]
      show B (((([] ++ rxL false w d s) ++ [15, 175]) ++ ([⟨mrV 3#64 d s⟩])) ++ [] ++ r) = _
      exact congrArg B (by simp [tx, c4, c8])
    rw [e] at hz ⊢
    have H := Hd.of (half := false) (rx_ok false w hd hs) (.inl rfl : opOK true 175) hz
    have hz2 := tx_suf hz
    have hz3 := suf (l := [_]) hz2
    obtain ⟨f1, f2, f3, f4, f5⟩ := reg_ok false w (a := d) (b := s) hd hs
    obtain ⟨e1, e2, e3, e4⟩ := mod_ok' H hz3
    unfold g10
    rw [e1, e2, e3, f1, f2, f3]
set_option maxRecDepth 100000 in
set_option maxHeartbeats 4000000 in
theorem rt_11 (al cc sz : BitVec 64) (w sh : Bool) (d s : BitVec 64) (dp rl : BitVec 32) (im : BitVec 64) (hv : v11 al cc sz w sh d s dp rl im = true) (r : List UInt8) (hz : (catB (en11 al cc sz w sh d s dp rl im) (B r)).size < 9223372036854775808) : g11 (catB (en11 al cc sz w sh d s dp rl im) (B r)) = ⟨11#64, al, cc, sz, w, sh, d, s, dp, rl, im⟩ := by
  unfold v11 at hv
  simp only [Bool.and_eq_true, Bool.not_eq_true', Bool.or_eq_true, beq_iff_eq] at hv
  obtain ⟨⟨⟨⟨⟨⟨⟨⟨rfl, rfl⟩, rfl⟩, rfl⟩, rfl⟩, rfl⟩, hA⟩, hI⟩, hd, hs⟩ := hv
  · have e : catB (en11 al 0#64 0#64 w false d 0#64 0#32 0#32 im) (B r) = B (tx false false (rxL false w 0#64 d) 193 (⟨mrV 3#64 al d⟩ :: by8 im 0 :: r)) := by
      unfold en11
      rw [rxB_B]
      show B (((([] ++ rxL false w 0#64 d) ++ [193]) ++ ([⟨mrV 3#64 al d⟩])) ++ [by8 im 0] ++ r) = _
      exact congrArg B (by simp [tx, c4, c8])
    rw [e] at hz ⊢
    have H := Hd.of (half := false) (rx_ok false w reg00 hd) (opOK_of (by decide) : opOK false 193) hz
    have hz2 := tx_suf hz
    have hz3 := suf (l := [_]) hz2
    obtain ⟨f1, _⟩ := reg_ok false w (a := 0#64) (b := d) reg00 hd
    obtain ⟨f2, f3⟩ := dig_ok w (a := al) (b := d) (shift8 hA) hd
    obtain ⟨e1, e2, e3, e4⟩ := mod_ok' H hz3
    unfold g11
    rw [e1, f1, e2, f3, e3, f2]
    rw [e4, sg1 im _ (suf (l := [⟨mrV 3#64 al d⟩]) hz3), sh_sx hI]
set_option maxRecDepth 100000 in
set_option maxHeartbeats 4000000 in
theorem rt_12 (al cc sz : BitVec 64) (w sh : Bool) (d s : BitVec 64) (dp rl : BitVec 32) (im : BitVec 64) (hv : v12 al cc sz w sh d s dp rl im = true) (r : List UInt8) (hz : (catB (en12 al cc sz w sh d s dp rl im) (B r)).size < 9223372036854775808) : g12 (catB (en12 al cc sz w sh d s dp rl im) (B r)) = ⟨12#64, al, cc, sz, w, sh, d, s, dp, rl, im⟩ := by
  unfold v12 at hv
  simp only [Bool.and_eq_true, Bool.not_eq_true', Bool.or_eq_true, beq_iff_eq] at hv
  obtain ⟨⟨⟨⟨⟨⟨⟨⟨rfl, rfl⟩, rfl⟩, rfl⟩, rfl⟩, rfl⟩, rfl⟩, hA⟩, hd, hs⟩ := hv
  · have e : catB (en12 al 0#64 0#64 w false d 0#64 0#32 0#32 0#64) (B r) = B (tx false false (rxL false w 0#64 d) 211 (⟨mrV 3#64 al d⟩ :: r)) := by
      unfold en12
      rw [rxB_B]
      show B (((([] ++ rxL false w 0#64 d) ++ [211]) ++ ([⟨mrV 3#64 al d⟩])) ++ [] ++ r) = _
      exact congrArg B (by simp [tx, c4, c8])
    rw [e] at hz ⊢
    have H := Hd.of (half := false) (rx_ok false w reg00 hd) (opOK_of (by decide) : opOK false 211) hz
    have hz2 := tx_suf hz
    have hz3 := suf (l := [_]) hz2
    obtain ⟨f1, _⟩ := reg_ok false w (a := 0#64) (b := d) reg00 hd
    obtain ⟨f2, f3⟩ := dig_ok w (a := al) (b := d) (shift8 hA) hd
    obtain ⟨e1, e2, e3, e4⟩ := mod_ok' H hz3
    unfold g12
    rw [e1, f1, e2, f3, e3, f2]
set_option maxRecDepth 100000 in
set_option maxHeartbeats 4000000 in
theorem rt_13 (al cc sz : BitVec 64) (w sh : Bool) (d s : BitVec 64) (dp rl : BitVec 32) (im : BitVec 64) (hv : v13 al cc sz w sh d s dp rl im = true) (r : List UInt8) (hz : (catB (en13 al cc sz w sh d s dp rl im) (B r)).size < 9223372036854775808) : g13 (catB (en13 al cc sz w sh d s dp rl im) (B r)) = ⟨13#64, al, cc, sz, w, sh, d, s, dp, rl, im⟩ := by
  unfold v13 at hv
  simp only [Bool.and_eq_true, Bool.not_eq_true', Bool.or_eq_true, beq_iff_eq] at hv
  obtain ⟨⟨⟨⟨⟨⟨⟨rfl, rfl⟩, rfl⟩, rfl⟩, rfl⟩, hZ⟩, rfl⟩, hd, hs⟩ := hv
  rcases size_in' hZ with rfl | rfl | rfl | rfl
  · cases hq : (s.srem 8#64 == 4#64)
    · have e : catB (en13 0#64 0#64 1#64 (1#64 == 8#64) false d s dp 0#32 0#64) (B r) = B (tx false true (rxL false (1#64 == 8#64) d s) 182 (⟨mrV 2#64 d s⟩ :: c4 ((sx dp)) (r))) := by
        unfold en13
        rw [rxB_B]
        rw [hq]
        show B (((([] ++ rxL false (1#64 == 8#64) d s) ++ [15, 182]) ++ ([⟨mrV 2#64 d s⟩] ++ b4 (sx dp))) ++ [] ++ r) = _
        exact congrArg B (by simp [tx, c4, c8])
      rw [e] at hz ⊢
      have H := Hd.of (half := false) (rx_ok false (1#64 == 8#64) hd hs) (.inl rfl : opOK true 182) hz
      have hz2 := tx_suf hz
      have hz3 := suf (l := [_]) hz2
      generalize B (tx false true (rxL false (1#64 == 8#64) d s) 182 (⟨mrV 2#64 d s⟩ :: c4 ((sx dp)) (r))) = T at H ⊢
      obtain ⟨f1, f2, f3, f4, f5⟩ := reg_ok false (1#64 == 8#64) (a := d) (b := s) hd hs
      obtain ⟨e1, e2, e3, e4⟩ := mod_ok' H hz3
      have e5 : hEnd T = s := e2.trans f5
      have e6 : hMid T = d := e3.trans f4
      have e7 : hW T = (1#64 == 8#64) := e1.trans f1
      have e8 : hS6 T = B (c4 (sx dp) r) := by
        unfold hS6
        rw [e5, and7 hs, hq, if_neg (by decide), e4]
      have e9 : hDp T = dp := by
        unfold hDp
        rw [e8]
        rw [sg4 (sx dp) r (suf (l := [⟨mrV 2#64 d s⟩]) hz3), dp_sx]
      unfold g13
      rw [e5, e6, e7, e9, H.op, H.two, H.half]
      rfl
    · have e : catB (en13 0#64 0#64 1#64 (1#64 == 8#64) false d s dp 0#32 0#64) (B r) = B (tx false true (rxL false (1#64 == 8#64) d s) 182 (⟨mrV 2#64 d s⟩ :: 36 :: c4 ((sx dp)) (r))) := by
        unfold en13
        rw [rxB_B]
        rw [hq]
        show B (((([] ++ rxL false (1#64 == 8#64) d s) ++ [15, 182]) ++ ([⟨mrV 2#64 d s⟩] ++ [36] ++ b4 (sx dp))) ++ [] ++ r) = _
        exact congrArg B (by simp [tx, c4, c8])
      rw [e] at hz ⊢
      have H := Hd.of (half := false) (rx_ok false (1#64 == 8#64) hd hs) (.inl rfl : opOK true 182) hz
      have hz2 := tx_suf hz
      have hz3 := suf (l := [_]) hz2
      generalize B (tx false true (rxL false (1#64 == 8#64) d s) 182 (⟨mrV 2#64 d s⟩ :: 36 :: c4 ((sx dp)) (r))) = T at H ⊢
      obtain ⟨f1, f2, f3, f4, f5⟩ := reg_ok false (1#64 == 8#64) (a := d) (b := s) hd hs
      obtain ⟨e1, e2, e3, e4⟩ := mod_ok' H hz3
      have e5 : hEnd T = s := e2.trans f5
      have e6 : hMid T = d := e3.trans f4
      have e7 : hW T = (1#64 == 8#64) := e1.trans f1
      have e8 : hS6 T = B (c4 (sx dp) r) := by
        unfold hS6
        rw [e5, and7 hs, hq, if_pos rfl, e4]
        exact (num1 36 _ (suf (l := [⟨mrV 2#64 d s⟩]) hz3)).2
      have e9 : hDp T = dp := by
        unfold hDp
        rw [e8]
        rw [sg4 (sx dp) r (suf (l := [⟨mrV 2#64 d s⟩, 36]) hz3), dp_sx]
      unfold g13
      rw [e5, e6, e7, e9, H.op, H.two, H.half]
      rfl
  · cases hq : (s.srem 8#64 == 4#64)
    · have e : catB (en13 0#64 0#64 2#64 (2#64 == 8#64) false d s dp 0#32 0#64) (B r) = B (tx false true (rxL false (2#64 == 8#64) d s) 183 (⟨mrV 2#64 d s⟩ :: c4 ((sx dp)) (r))) := by
        unfold en13
        rw [rxB_B]
        rw [hq]
        show B (((([] ++ rxL false (2#64 == 8#64) d s) ++ [15, 183]) ++ ([⟨mrV 2#64 d s⟩] ++ b4 (sx dp))) ++ [] ++ r) = _
        exact congrArg B (by simp [tx, c4, c8])
      rw [e] at hz ⊢
      have H := Hd.of (half := false) (rx_ok false (2#64 == 8#64) hd hs) (.inl rfl : opOK true 183) hz
      have hz2 := tx_suf hz
      have hz3 := suf (l := [_]) hz2
      generalize B (tx false true (rxL false (2#64 == 8#64) d s) 183 (⟨mrV 2#64 d s⟩ :: c4 ((sx dp)) (r))) = T at H ⊢
      obtain ⟨f1, f2, f3, f4, f5⟩ := reg_ok false (2#64 == 8#64) (a := d) (b := s) hd hs
      obtain ⟨e1, e2, e3, e4⟩ := mod_ok' H hz3
      have e5 : hEnd T = s := e2.trans f5
      have e6 : hMid T = d := e3.trans f4
      have e7 : hW T = (2#64 == 8#64) := e1.trans f1
      have e8 : hS6 T = B (c4 (sx dp) r) := by
        unfold hS6
        rw [e5, and7 hs, hq, if_neg (by decide), e4]
      have e9 : hDp T = dp := by
        unfold hDp
        rw [e8]
        rw [sg4 (sx dp) r (suf (l := [⟨mrV 2#64 d s⟩]) hz3), dp_sx]
      unfold g13
      rw [e5, e6, e7, e9, H.op, H.two, H.half]
      rfl
    · have e : catB (en13 0#64 0#64 2#64 (2#64 == 8#64) false d s dp 0#32 0#64) (B r) = B (tx false true (rxL false (2#64 == 8#64) d s) 183 (⟨mrV 2#64 d s⟩ :: 36 :: c4 ((sx dp)) (r))) := by
        unfold en13
        rw [rxB_B]
        rw [hq]
        show B (((([] ++ rxL false (2#64 == 8#64) d s) ++ [15, 183]) ++ ([⟨mrV 2#64 d s⟩] ++ [36] ++ b4 (sx dp))) ++ [] ++ r) = _
        exact congrArg B (by simp [tx, c4, c8])
      rw [e] at hz ⊢
      have H := Hd.of (half := false) (rx_ok false (2#64 == 8#64) hd hs) (.inl rfl : opOK true 183) hz
      have hz2 := tx_suf hz
      have hz3 := suf (l := [_]) hz2
      generalize B (tx false true (rxL false (2#64 == 8#64) d s) 183 (⟨mrV 2#64 d s⟩ :: 36 :: c4 ((sx dp)) (r))) = T at H ⊢
      obtain ⟨f1, f2, f3, f4, f5⟩ := reg_ok false (2#64 == 8#64) (a := d) (b := s) hd hs
      obtain ⟨e1, e2, e3, e4⟩ := mod_ok' H hz3
      have e5 : hEnd T = s := e2.trans f5
      have e6 : hMid T = d := e3.trans f4
      have e7 : hW T = (2#64 == 8#64) := e1.trans f1
      have e8 : hS6 T = B (c4 (sx dp) r) := by
        unfold hS6
        rw [e5, and7 hs, hq, if_pos rfl, e4]
        exact (num1 36 _ (suf (l := [⟨mrV 2#64 d s⟩]) hz3)).2
      have e9 : hDp T = dp := by
        unfold hDp
        rw [e8]
        rw [sg4 (sx dp) r (suf (l := [⟨mrV 2#64 d s⟩, 36]) hz3), dp_sx]
      unfold g13
      rw [e5, e6, e7, e9, H.op, H.two, H.half]
      rfl
  · cases hq : (s.srem 8#64 == 4#64)
    · have e : catB (en13 0#64 0#64 4#64 (4#64 == 8#64) false d s dp 0#32 0#64) (B r) = B (tx false false (rxL false (4#64 == 8#64) d s) 139 (⟨mrV 2#64 d s⟩ :: c4 ((sx dp)) (r))) := by
        unfold en13
        rw [rxB_B]
        rw [hq]
        show B (((([] ++ rxL false (4#64 == 8#64) d s) ++ [139]) ++ ([⟨mrV 2#64 d s⟩] ++ b4 (sx dp))) ++ [] ++ r) = _
        exact congrArg B (by simp [tx, c4, c8])
      rw [e] at hz ⊢
      have H := Hd.of (half := false) (rx_ok false (4#64 == 8#64) hd hs) (opOK_of (by decide) : opOK false 139) hz
      have hz2 := tx_suf hz
      have hz3 := suf (l := [_]) hz2
      generalize B (tx false false (rxL false (4#64 == 8#64) d s) 139 (⟨mrV 2#64 d s⟩ :: c4 ((sx dp)) (r))) = T at H ⊢
      obtain ⟨f1, f2, f3, f4, f5⟩ := reg_ok false (4#64 == 8#64) (a := d) (b := s) hd hs
      obtain ⟨e1, e2, e3, e4⟩ := mod_ok' H hz3
      have e5 : hEnd T = s := e2.trans f5
      have e6 : hMid T = d := e3.trans f4
      have e7 : hW T = (4#64 == 8#64) := e1.trans f1
      have e8 : hS6 T = B (c4 (sx dp) r) := by
        unfold hS6
        rw [e5, and7 hs, hq, if_neg (by decide), e4]
      have e9 : hDp T = dp := by
        unfold hDp
        rw [e8]
        rw [sg4 (sx dp) r (suf (l := [⟨mrV 2#64 d s⟩]) hz3), dp_sx]
      unfold g13
      rw [e5, e6, e7, e9, H.op, H.two, H.half]
      rfl
    · have e : catB (en13 0#64 0#64 4#64 (4#64 == 8#64) false d s dp 0#32 0#64) (B r) = B (tx false false (rxL false (4#64 == 8#64) d s) 139 (⟨mrV 2#64 d s⟩ :: 36 :: c4 ((sx dp)) (r))) := by
        unfold en13
        rw [rxB_B]
        rw [hq]
        show B (((([] ++ rxL false (4#64 == 8#64) d s) ++ [139]) ++ ([⟨mrV 2#64 d s⟩] ++ [36] ++ b4 (sx dp))) ++ [] ++ r) = _
        exact congrArg B (by simp [tx, c4, c8])
      rw [e] at hz ⊢
      have H := Hd.of (half := false) (rx_ok false (4#64 == 8#64) hd hs) (opOK_of (by decide) : opOK false 139) hz
      have hz2 := tx_suf hz
      have hz3 := suf (l := [_]) hz2
      generalize B (tx false false (rxL false (4#64 == 8#64) d s) 139 (⟨mrV 2#64 d s⟩ :: 36 :: c4 ((sx dp)) (r))) = T at H ⊢
      obtain ⟨f1, f2, f3, f4, f5⟩ := reg_ok false (4#64 == 8#64) (a := d) (b := s) hd hs
      obtain ⟨e1, e2, e3, e4⟩ := mod_ok' H hz3
      have e5 : hEnd T = s := e2.trans f5
      have e6 : hMid T = d := e3.trans f4
      have e7 : hW T = (4#64 == 8#64) := e1.trans f1
      have e8 : hS6 T = B (c4 (sx dp) r) := by
        unfold hS6
        rw [e5, and7 hs, hq, if_pos rfl, e4]
        exact (num1 36 _ (suf (l := [⟨mrV 2#64 d s⟩]) hz3)).2
      have e9 : hDp T = dp := by
        unfold hDp
        rw [e8]
        rw [sg4 (sx dp) r (suf (l := [⟨mrV 2#64 d s⟩, 36]) hz3), dp_sx]
      unfold g13
      rw [e5, e6, e7, e9, H.op, H.two, H.half]
      rfl
  · cases hq : (s.srem 8#64 == 4#64)
    · have e : catB (en13 0#64 0#64 8#64 (8#64 == 8#64) false d s dp 0#32 0#64) (B r) = B (tx false false (rxL false (8#64 == 8#64) d s) 139 (⟨mrV 2#64 d s⟩ :: c4 ((sx dp)) (r))) := by
        unfold en13
        rw [rxB_B]
        rw [hq]
        show B (((([] ++ rxL false (8#64 == 8#64) d s) ++ [139]) ++ ([⟨mrV 2#64 d s⟩] ++ b4 (sx dp))) ++ [] ++ r) = _
        exact congrArg B (by simp [tx, c4, c8])
      rw [e] at hz ⊢
      have H := Hd.of (half := false) (rx_ok false (8#64 == 8#64) hd hs) (opOK_of (by decide) : opOK false 139) hz
      have hz2 := tx_suf hz
      have hz3 := suf (l := [_]) hz2
      generalize B (tx false false (rxL false (8#64 == 8#64) d s) 139 (⟨mrV 2#64 d s⟩ :: c4 ((sx dp)) (r))) = T at H ⊢
      obtain ⟨f1, f2, f3, f4, f5⟩ := reg_ok false (8#64 == 8#64) (a := d) (b := s) hd hs
      obtain ⟨e1, e2, e3, e4⟩ := mod_ok' H hz3
      have e5 : hEnd T = s := e2.trans f5
      have e6 : hMid T = d := e3.trans f4
      have e7 : hW T = (8#64 == 8#64) := e1.trans f1
      have e8 : hS6 T = B (c4 (sx dp) r) := by
        unfold hS6
        rw [e5, and7 hs, hq, if_neg (by decide), e4]
      have e9 : hDp T = dp := by
        unfold hDp
        rw [e8]
        rw [sg4 (sx dp) r (suf (l := [⟨mrV 2#64 d s⟩]) hz3), dp_sx]
      unfold g13
      rw [e5, e6, e7, e9, H.op, H.two, H.half]
      rfl
    · have e : catB (en13 0#64 0#64 8#64 (8#64 == 8#64) false d s dp 0#32 0#64) (B r) = B (tx false false (rxL false (8#64 == 8#64) d s) 139 (⟨mrV 2#64 d s⟩ :: 36 :: c4 ((sx dp)) (r))) := by
        unfold en13
        rw [rxB_B]
        rw [hq]
        show B (((([] ++ rxL false (8#64 == 8#64) d s) ++ [139]) ++ ([⟨mrV 2#64 d s⟩] ++ [36] ++ b4 (sx dp))) ++ [] ++ r) = _
        exact congrArg B (by simp [tx, c4, c8])
      rw [e] at hz ⊢
      have H := Hd.of (half := false) (rx_ok false (8#64 == 8#64) hd hs) (opOK_of (by decide) : opOK false 139) hz
      have hz2 := tx_suf hz
      have hz3 := suf (l := [_]) hz2
      generalize B (tx false false (rxL false (8#64 == 8#64) d s) 139 (⟨mrV 2#64 d s⟩ :: 36 :: c4 ((sx dp)) (r))) = T at H ⊢
      obtain ⟨f1, f2, f3, f4, f5⟩ := reg_ok false (8#64 == 8#64) (a := d) (b := s) hd hs
      obtain ⟨e1, e2, e3, e4⟩ := mod_ok' H hz3
      have e5 : hEnd T = s := e2.trans f5
      have e6 : hMid T = d := e3.trans f4
      have e7 : hW T = (8#64 == 8#64) := e1.trans f1
      have e8 : hS6 T = B (c4 (sx dp) r) := by
        unfold hS6
        rw [e5, and7 hs, hq, if_pos rfl, e4]
        exact (num1 36 _ (suf (l := [⟨mrV 2#64 d s⟩]) hz3)).2
      have e9 : hDp T = dp := by
        unfold hDp
        rw [e8]
        rw [sg4 (sx dp) r (suf (l := [⟨mrV 2#64 d s⟩, 36]) hz3), dp_sx]
      unfold g13
      rw [e5, e6, e7, e9, H.op, H.two, H.half]
      rfl
set_option maxRecDepth 100000 in
set_option maxHeartbeats 4000000 in
theorem rt_14 (al cc sz : BitVec 64) (w sh : Bool) (d s : BitVec 64) (dp rl : BitVec 32) (im : BitVec 64) (hv : v14 al cc sz w sh d s dp rl im = true) (r : List UInt8) (hz : (catB (en14 al cc sz w sh d s dp rl im) (B r)).size < 9223372036854775808) : g14 (catB (en14 al cc sz w sh d s dp rl im) (B r)) = ⟨14#64, al, cc, sz, w, sh, d, s, dp, rl, im⟩ := by
  unfold v14 at hv
  simp only [Bool.and_eq_true, Bool.not_eq_true', Bool.or_eq_true, beq_iff_eq] at hv
  obtain ⟨⟨⟨⟨⟨⟨⟨rfl, rfl⟩, rfl⟩, rfl⟩, rfl⟩, hZ⟩, rfl⟩, hd, hs⟩ := hv
  rcases size_in' hZ with rfl | rfl | rfl | rfl
  · cases hq : (d.srem 8#64 == 4#64)
    · have e : catB (en14 0#64 0#64 1#64 (1#64 == 8#64) false d s dp 0#32 0#64) (B r) = B (tx false false (rxL true (1#64 == 8#64) s d) 136 (⟨mrV 2#64 s d⟩ :: c4 ((sx dp)) (r))) := by
        unfold en14
        rw [rxB_B]
        rw [hq]
        show B (((([] ++ rxL true (1#64 == 8#64) s d) ++ [136]) ++ ([⟨mrV 2#64 s d⟩] ++ b4 (sx dp))) ++ [] ++ r) = _
        exact congrArg B (by simp [tx, c4, c8])
      rw [e] at hz ⊢
      have H := Hd.of (half := false) (rx_ok true (1#64 == 8#64) hs hd) (opOK_of (by decide) : opOK false 136) hz
      have hz2 := tx_suf hz
      have hz3 := suf (l := [_]) hz2
      generalize B (tx false false (rxL true (1#64 == 8#64) s d) 136 (⟨mrV 2#64 s d⟩ :: c4 ((sx dp)) (r))) = T at H ⊢
      obtain ⟨f1, f2, f3, f4, f5⟩ := reg_ok true (1#64 == 8#64) (a := s) (b := d) hs hd
      obtain ⟨e1, e2, e3, e4⟩ := mod_ok' H hz3
      have e5 : hEnd T = d := e2.trans f5
      have e6 : hMid T = s := e3.trans f4
      have e7 : hW T = (1#64 == 8#64) := e1.trans f1
      have e8 : hS6 T = B (c4 (sx dp) r) := by
        unfold hS6
        rw [e5, and7 hd, hq, if_neg (by decide), e4]
      have e9 : hDp T = dp := by
        unfold hDp
        rw [e8]
        rw [sg4 (sx dp) r (suf (l := [⟨mrV 2#64 s d⟩]) hz3), dp_sx]
      unfold g14
      rw [e5, e6, e7, e9, H.op, H.two, H.half]
      rfl
    · have e : catB (en14 0#64 0#64 1#64 (1#64 == 8#64) false d s dp 0#32 0#64) (B r) = B (tx false false (rxL true (1#64 == 8#64) s d) 136 (⟨mrV 2#64 s d⟩ :: 36 :: c4 ((sx dp)) (r))) := by
        unfold en14
        rw [rxB_B]
        rw [hq]
        show B (((([] ++ rxL true (1#64 == 8#64) s d) ++ [136]) ++ ([⟨mrV 2#64 s d⟩] ++ [36] ++ b4 (sx dp))) ++ [] ++ r) = _
        exact congrArg B (by simp [tx, c4, c8])
      rw [e] at hz ⊢
      have H := Hd.of (half := false) (rx_ok true (1#64 == 8#64) hs hd) (opOK_of (by decide) : opOK false 136) hz
      have hz2 := tx_suf hz
      have hz3 := suf (l := [_]) hz2
      generalize B (tx false false (rxL true (1#64 == 8#64) s d) 136 (⟨mrV 2#64 s d⟩ :: 36 :: c4 ((sx dp)) (r))) = T at H ⊢
      obtain ⟨f1, f2, f3, f4, f5⟩ := reg_ok true (1#64 == 8#64) (a := s) (b := d) hs hd
      obtain ⟨e1, e2, e3, e4⟩ := mod_ok' H hz3
      have e5 : hEnd T = d := e2.trans f5
      have e6 : hMid T = s := e3.trans f4
      have e7 : hW T = (1#64 == 8#64) := e1.trans f1
      have e8 : hS6 T = B (c4 (sx dp) r) := by
        unfold hS6
        rw [e5, and7 hd, hq, if_pos rfl, e4]
        exact (num1 36 _ (suf (l := [⟨mrV 2#64 s d⟩]) hz3)).2
      have e9 : hDp T = dp := by
        unfold hDp
        rw [e8]
        rw [sg4 (sx dp) r (suf (l := [⟨mrV 2#64 s d⟩, 36]) hz3), dp_sx]
      unfold g14
      rw [e5, e6, e7, e9, H.op, H.two, H.half]
      rfl
  · cases hq : (d.srem 8#64 == 4#64)
    · have e : catB (en14 0#64 0#64 2#64 (2#64 == 8#64) false d s dp 0#32 0#64) (B r) = B (tx true false (rxL false (2#64 == 8#64) s d) 137 (⟨mrV 2#64 s d⟩ :: c4 ((sx dp)) (r))) := by
        unfold en14
        rw [rxB_B]
        rw [hq]
        show B (((([102] ++ rxL false (2#64 == 8#64) s d) ++ [137]) ++ ([⟨mrV 2#64 s d⟩] ++ b4 (sx dp))) ++ [] ++ r) = _
        exact congrArg B (by simp [tx, c4, c8])
      rw [e] at hz ⊢
      have H := Hd.of (half := true) (rx_ok false (2#64 == 8#64) hs hd) (opOK_of (by decide) : opOK false 137) hz
      have hz2 := tx_suf hz
      have hz3 := suf (l := [_]) hz2
      generalize B (tx true false (rxL false (2#64 == 8#64) s d) 137 (⟨mrV 2#64 s d⟩ :: c4 ((sx dp)) (r))) = T at H ⊢
      obtain ⟨f1, f2, f3, f4, f5⟩ := reg_ok false (2#64 == 8#64) (a := s) (b := d) hs hd
      obtain ⟨e1, e2, e3, e4⟩ := mod_ok' H hz3
      have e5 : hEnd T = d := e2.trans f5
      have e6 : hMid T = s := e3.trans f4
      have e7 : hW T = (2#64 == 8#64) := e1.trans f1
      have e8 : hS6 T = B (c4 (sx dp) r) := by
        unfold hS6
        rw [e5, and7 hd, hq, if_neg (by decide), e4]
      have e9 : hDp T = dp := by
        unfold hDp
        rw [e8]
        rw [sg4 (sx dp) r (suf (l := [⟨mrV 2#64 s d⟩]) hz3), dp_sx]
      unfold g14
      rw [e5, e6, e7, e9, H.op, H.two, H.half]
      rfl
    · have e : catB (en14 0#64 0#64 2#64 (2#64 == 8#64) false d s dp 0#32 0#64) (B r) = B (tx true false (rxL false (2#64 == 8#64) s d) 137 (⟨mrV 2#64 s d⟩ :: 36 :: c4 ((sx dp)) (r))) := by
        unfold en14
        rw [rxB_B]
        rw [hq]
        show B (((([102] ++ rxL false (2#64 == 8#64) s d) ++ [137]) ++ ([⟨mrV 2#64 s d⟩] ++ [36] ++ b4 (sx dp))) ++ [] ++ r) = _
        exact congrArg B (by simp [tx, c4, c8])
      rw [e] at hz ⊢
      have H := Hd.of (half := true) (rx_ok false (2#64 == 8#64) hs hd) (opOK_of (by decide) : opOK false 137) hz
      have hz2 := tx_suf hz
      have hz3 := suf (l := [_]) hz2
      generalize B (tx true false (rxL false (2#64 == 8#64) s d) 137 (⟨mrV 2#64 s d⟩ :: 36 :: c4 ((sx dp)) (r))) = T at H ⊢
      obtain ⟨f1, f2, f3, f4, f5⟩ := reg_ok false (2#64 == 8#64) (a := s) (b := d) hs hd
      obtain ⟨e1, e2, e3, e4⟩ := mod_ok' H hz3
      have e5 : hEnd T = d := e2.trans f5
      have e6 : hMid T = s := e3.trans f4
      have e7 : hW T = (2#64 == 8#64) := e1.trans f1
      have e8 : hS6 T = B (c4 (sx dp) r) := by
        unfold hS6
        rw [e5, and7 hd, hq, if_pos rfl, e4]
        exact (num1 36 _ (suf (l := [⟨mrV 2#64 s d⟩]) hz3)).2
      have e9 : hDp T = dp := by
        unfold hDp
        rw [e8]
        rw [sg4 (sx dp) r (suf (l := [⟨mrV 2#64 s d⟩, 36]) hz3), dp_sx]
      unfold g14
      rw [e5, e6, e7, e9, H.op, H.two, H.half]
      rfl
  · cases hq : (d.srem 8#64 == 4#64)
    · have e : catB (en14 0#64 0#64 4#64 (4#64 == 8#64) false d s dp 0#32 0#64) (B r) = B (tx false false (rxL false (4#64 == 8#64) s d) 137 (⟨mrV 2#64 s d⟩ :: c4 ((sx dp)) (r))) := by
        unfold en14
        rw [rxB_B]
        rw [hq]
        show B (((([] ++ rxL false (4#64 == 8#64) s d) ++ [137]) ++ ([⟨mrV 2#64 s d⟩] ++ b4 (sx dp))) ++ [] ++ r) = _
        exact congrArg B (by simp [tx, c4, c8])
      rw [e] at hz ⊢
      have H := Hd.of (half := false) (rx_ok false (4#64 == 8#64) hs hd) (opOK_of (by decide) : opOK false 137) hz
      have hz2 := tx_suf hz
      have hz3 := suf (l := [_]) hz2
      generalize B (tx false false (rxL false (4#64 == 8#64) s d) 137 (⟨mrV 2#64 s d⟩ :: c4 ((sx dp)) (r))) = T at H ⊢
      obtain ⟨f1, f2, f3, f4, f5⟩ := reg_ok false (4#64 == 8#64) (a := s) (b := d) hs hd
      obtain ⟨e1, e2, e3, e4⟩ := mod_ok' H hz3
      have e5 : hEnd T = d := e2.trans f5
      have e6 : hMid T = s := e3.trans f4
      have e7 : hW T = (4#64 == 8#64) := e1.trans f1
      have e8 : hS6 T = B (c4 (sx dp) r) := by
        unfold hS6
        rw [e5, and7 hd, hq, if_neg (by decide), e4]
      have e9 : hDp T = dp := by
        unfold hDp
        rw [e8]
        rw [sg4 (sx dp) r (suf (l := [⟨mrV 2#64 s d⟩]) hz3), dp_sx]
      unfold g14
      rw [e5, e6, e7, e9, H.op, H.two, H.half]
      rfl
    · have e : catB (en14 0#64 0#64 4#64 (4#64 == 8#64) false d s dp 0#32 0#64) (B r) = B (tx false false (rxL false (4#64 == 8#64) s d) 137 (⟨mrV 2#64 s d⟩ :: 36 :: c4 ((sx dp)) (r))) := by
        unfold en14
        rw [rxB_B]
        rw [hq]
        show B (((([] ++ rxL false (4#64 == 8#64) s d) ++ [137]) ++ ([⟨mrV 2#64 s d⟩] ++ [36] ++ b4 (sx dp))) ++ [] ++ r) = _
        exact congrArg B (by simp [tx, c4, c8])
      rw [e] at hz ⊢
      have H := Hd.of (half := false) (rx_ok false (4#64 == 8#64) hs hd) (opOK_of (by decide) : opOK false 137) hz
      have hz2 := tx_suf hz
      have hz3 := suf (l := [_]) hz2
      generalize B (tx false false (rxL false (4#64 == 8#64) s d) 137 (⟨mrV 2#64 s d⟩ :: 36 :: c4 ((sx dp)) (r))) = T at H ⊢
      obtain ⟨f1, f2, f3, f4, f5⟩ := reg_ok false (4#64 == 8#64) (a := s) (b := d) hs hd
      obtain ⟨e1, e2, e3, e4⟩ := mod_ok' H hz3
      have e5 : hEnd T = d := e2.trans f5
      have e6 : hMid T = s := e3.trans f4
      have e7 : hW T = (4#64 == 8#64) := e1.trans f1
      have e8 : hS6 T = B (c4 (sx dp) r) := by
        unfold hS6
        rw [e5, and7 hd, hq, if_pos rfl, e4]
        exact (num1 36 _ (suf (l := [⟨mrV 2#64 s d⟩]) hz3)).2
      have e9 : hDp T = dp := by
        unfold hDp
        rw [e8]
        rw [sg4 (sx dp) r (suf (l := [⟨mrV 2#64 s d⟩, 36]) hz3), dp_sx]
      unfold g14
      rw [e5, e6, e7, e9, H.op, H.two, H.half]
      rfl
  · cases hq : (d.srem 8#64 == 4#64)
    · have e : catB (en14 0#64 0#64 8#64 (8#64 == 8#64) false d s dp 0#32 0#64) (B r) = B (tx false false (rxL false (8#64 == 8#64) s d) 137 (⟨mrV 2#64 s d⟩ :: c4 ((sx dp)) (r))) := by
        unfold en14
        rw [rxB_B]
        rw [hq]
        show B (((([] ++ rxL false (8#64 == 8#64) s d) ++ [137]) ++ ([⟨mrV 2#64 s d⟩] ++ b4 (sx dp))) ++ [] ++ r) = _
        exact congrArg B (by simp [tx, c4, c8])
      rw [e] at hz ⊢
      have H := Hd.of (half := false) (rx_ok false (8#64 == 8#64) hs hd) (opOK_of (by decide) : opOK false 137) hz
      have hz2 := tx_suf hz
      have hz3 := suf (l := [_]) hz2
      generalize B (tx false false (rxL false (8#64 == 8#64) s d) 137 (⟨mrV 2#64 s d⟩ :: c4 ((sx dp)) (r))) = T at H ⊢
      obtain ⟨f1, f2, f3, f4, f5⟩ := reg_ok false (8#64 == 8#64) (a := s) (b := d) hs hd
      obtain ⟨e1, e2, e3, e4⟩ := mod_ok' H hz3
      have e5 : hEnd T = d := e2.trans f5
      have e6 : hMid T = s := e3.trans f4
      have e7 : hW T = (8#64 == 8#64) := e1.trans f1
      have e8 : hS6 T = B (c4 (sx dp) r) := by
        unfold hS6
        rw [e5, and7 hd, hq, if_neg (by decide), e4]
      have e9 : hDp T = dp := by
        unfold hDp
        rw [e8]
        rw [sg4 (sx dp) r (suf (l := [⟨mrV 2#64 s d⟩]) hz3), dp_sx]
      unfold g14
      rw [e5, e6, e7, e9, H.op, H.two, H.half]
      rfl
    · have e : catB (en14 0#64 0#64 8#64 (8#64 == 8#64) false d s dp 0#32 0#64) (B r) = B (tx false false (rxL false (8#64 == 8#64) s d) 137 (⟨mrV 2#64 s d⟩ :: 36 :: c4 ((sx dp)) (r))) := by
        unfold en14
        rw [rxB_B]
        rw [hq]
        show B (((([] ++ rxL false (8#64 == 8#64) s d) ++ [137]) ++ ([⟨mrV 2#64 s d⟩] ++ [36] ++ b4 (sx dp))) ++ [] ++ r) = _
        exact congrArg B (by simp [tx, c4, c8])
      rw [e] at hz ⊢
      have H := Hd.of (half := false) (rx_ok false (8#64 == 8#64) hs hd) (opOK_of (by decide) : opOK false 137) hz
      have hz2 := tx_suf hz
      have hz3 := suf (l := [_]) hz2
      generalize B (tx false false (rxL false (8#64 == 8#64) s d) 137 (⟨mrV 2#64 s d⟩ :: 36 :: c4 ((sx dp)) (r))) = T at H ⊢
      obtain ⟨f1, f2, f3, f4, f5⟩ := reg_ok false (8#64 == 8#64) (a := s) (b := d) hs hd
      obtain ⟨e1, e2, e3, e4⟩ := mod_ok' H hz3
      have e5 : hEnd T = d := e2.trans f5
      have e6 : hMid T = s := e3.trans f4
      have e7 : hW T = (8#64 == 8#64) := e1.trans f1
      have e8 : hS6 T = B (c4 (sx dp) r) := by
        unfold hS6
        rw [e5, and7 hd, hq, if_pos rfl, e4]
        exact (num1 36 _ (suf (l := [⟨mrV 2#64 s d⟩]) hz3)).2
      have e9 : hDp T = dp := by
        unfold hDp
        rw [e8]
        rw [sg4 (sx dp) r (suf (l := [⟨mrV 2#64 s d⟩, 36]) hz3), dp_sx]
      unfold g14
      rw [e5, e6, e7, e9, H.op, H.two, H.half]
      rfl
set_option maxRecDepth 100000 in
set_option maxHeartbeats 4000000 in
theorem rt_15 (al cc sz : BitVec 64) (w sh : Bool) (d s : BitVec 64) (dp rl : BitVec 32) (im : BitVec 64) (hv : v15 al cc sz w sh d s dp rl im = true) (r : List UInt8) (hz : (catB (en15 al cc sz w sh d s dp rl im) (B r)).size < 9223372036854775808) : g15 (catB (en15 al cc sz w sh d s dp rl im) (B r)) = ⟨15#64, al, cc, sz, w, sh, d, s, dp, rl, im⟩ := by
  unfold v15 at hv
  simp only [Bool.and_eq_true, Bool.not_eq_true', Bool.or_eq_true, beq_iff_eq] at hv
  obtain ⟨⟨⟨⟨⟨⟨⟨⟨⟨rfl, rfl⟩, rfl⟩, rfl⟩, rfl⟩, rfl⟩, rfl⟩, rfl⟩, hR⟩, hd, hs⟩ := hv
  cases sh
  · have e : catB (en15 0#64 0#64 0#64 false false 0#64 0#64 0#32 rl 0#64) (B r) = B (tx false false (rxL false false 0#64 0#64) 233 (c4 ((sx rl)) (r))) := by
      unfold en15
      rw [rxB_B]
      show B (((([] ++ rxL false false 0#64 0#64) ++ [233]) ++ (b4 (sx rl))) ++ [] ++ r) = _
      exact congrArg B (by simp [tx, c4, c8])
    rw [e] at hz ⊢
    have H := Hd.of (half := false) (rx_ok false false reg00 reg00) (opOK_of (by decide) : opOK false 233) hz
    have hz2 := tx_suf hz
    have hz3 := suf (l := [_]) hz2
    obtain ⟨f1, _⟩ := reg_ok false false (a := 0#64) (b := 0#64) reg00 reg00
    obtain ⟨e1, e2⟩ := H.e0
    unfold g15
    rw [e1, f1, H.s4, H.op]
    rw [sg4 (sx rl) r hz3, dp_sx]
    rfl
  · have e : catB (en15 0#64 0#64 0#64 false true 0#64 0#64 0#32 rl 0#64) (B r) = B (tx false false (rxL false false 0#64 0#64) 235 (by8 (sx rl) 0 :: r)) := by
      unfold en15
      rw [rxB_B]
      show B (((([] ++ rxL false false 0#64 0#64) ++ [235]) ++ ([by8 (sx rl) 0])) ++ [] ++ r) = _
      exact congrArg B (by simp [tx, c4, c8])
    rw [e] at hz ⊢
    have H := Hd.of (half := false) (rx_ok false false reg00 reg00) (opOK_of (by decide) : opOK false 235) hz
    have hz2 := tx_suf hz
    have hz3 := suf (l := [_]) hz2
    obtain ⟨f1, _⟩ := reg_ok false false (a := 0#64) (b := 0#64) reg00 reg00
    obtain ⟨e1, e2⟩ := H.e0
    unfold g15
    rw [e1, f1, H.s4, H.op]
    rw [sg1 (sx rl) r hz3, rel_sx (hR.resolve_left (by decide))]
    rfl
set_option maxRecDepth 100000 in
set_option maxHeartbeats 4000000 in
theorem rt_16 (al cc sz : BitVec 64) (w sh : Bool) (d s : BitVec 64) (dp rl : BitVec 32) (im : BitVec 64) (hv : v16 al cc sz w sh d s dp rl im = true) (r : List UInt8) (hz : (catB (en16 al cc sz w sh d s dp rl im) (B r)).size < 9223372036854775808) : g16 (catB (en16 al cc sz w sh d s dp rl im) (B r)) = ⟨16#64, al, cc, sz, w, sh, d, s, dp, rl, im⟩ := by
  unfold v16 at hv
  simp only [Bool.and_eq_true, Bool.not_eq_true', Bool.or_eq_true, beq_iff_eq] at hv
  obtain ⟨⟨⟨⟨⟨⟨⟨⟨⟨rfl, rfl⟩, rfl⟩, rfl⟩, rfl⟩, rfl⟩, rfl⟩, hR⟩, hC⟩, hd, hs⟩ := hv
  cases sh
  · rcases cond_in hC with hq | hq | hq | hq | hq | hq | hq | hq | hq | hq
    all_goals
      have e : catB (en16 0#64 cc 0#64 false false 0#64 0#64 0#32 rl 0#64) (B r) = B (tx false true (rxL false false 0#64 0#64) ⟨128#8 + BitVec.signExtend 8 cc⟩ (c4 ((sx rl)) (r))) := by
        unfold en16
        rw [rxB_B]
        show B (((([] ++ rxL false false 0#64 0#64) ++ [15, ⟨128#8 + BitVec.signExtend 8 cc⟩]) ++ (b4 (sx rl))) ++ [] ++ r) = _
        exact congrArg B (by simp [tx, c4, c8])
      rw [e] at hz ⊢
      have H := Hd.of (half := false) (rx_ok false false reg00 reg00) (.inl rfl : opOK true ⟨128#8 + BitVec.signExtend 8 cc⟩) hz
      have hz2 := tx_suf hz
      have hz3 := suf (l := [_]) hz2
      obtain ⟨f1, _⟩ := reg_ok false false (a := 0#64) (b := 0#64) reg00 reg00
      obtain ⟨e1, e2⟩ := H.e0
      unfold g16
      rw [e1, f1, H.s4, H.op, H.two]
      rw [sg4 (sx rl) r hz3, dp_sx]
      rw [hq]; rfl
  · rcases cond_in hC with hq | hq | hq | hq | hq | hq | hq | hq | hq | hq
    all_goals
      have e : catB (en16 0#64 cc 0#64 false true 0#64 0#64 0#32 rl 0#64) (B r) = B (tx false false (rxL false false 0#64 0#64) ⟨112#8 + BitVec.signExtend 8 cc⟩ (by8 (sx rl) 0 :: r)) := by
        unfold en16
        rw [rxB_B]
        show B (((([] ++ rxL false false 0#64 0#64) ++ [⟨112#8 + BitVec.signExtend 8 cc⟩]) ++ ([by8 (sx rl) 0])) ++ [] ++ r) = _
        exact congrArg B (by simp [tx, c4, c8])
      rw [e] at hz ⊢
      have H := Hd.of (half := false) (rx_ok false false reg00 reg00) (by rw [hq]; exact opOK_of (by decide) : opOK false ⟨112#8 + BitVec.signExtend 8 cc⟩) hz
      have hz2 := tx_suf hz
      have hz3 := suf (l := [_]) hz2
      obtain ⟨f1, _⟩ := reg_ok false false (a := 0#64) (b := 0#64) reg00 reg00
      obtain ⟨e1, e2⟩ := H.e0
      unfold g16
      rw [e1, f1, H.s4, H.op, H.two]
      rw [sg1 (sx rl) r hz3, rel_sx (hR.resolve_left (by decide))]
      rw [hq]; rfl
set_option maxRecDepth 100000 in
set_option maxHeartbeats 4000000 in
theorem rt_17 (al cc sz : BitVec 64) (w sh : Bool) (d s : BitVec 64) (dp rl : BitVec 32) (im : BitVec 64) (hv : v17 al cc sz w sh d s dp rl im = true) (r : List UInt8) (hz : (catB (en17 al cc sz w sh d s dp rl im) (B r)).size < 9223372036854775808) : g17 (catB (en17 al cc sz w sh d s dp rl im) (B r)) = ⟨17#64, al, cc, sz, w, sh, d, s, dp, rl, im⟩ := by
  unfold v17 at hv
  simp only [Bool.and_eq_true, Bool.not_eq_true', Bool.or_eq_true, beq_iff_eq] at hv
  obtain ⟨⟨⟨⟨⟨⟨⟨⟨⟨rfl, rfl⟩, rfl⟩, rfl⟩, rfl⟩, rfl⟩, rfl⟩, rfl⟩, rfl⟩, hd, hs⟩ := hv
  · have e : catB (en17 0#64 0#64 0#64 false false d 0#64 0#32 0#32 0#64) (B r) = B (tx false false (rxL false false 0#64 d) ⟨80#8 + BitVec.signExtend 8 (d.srem 8#64)⟩ (r)) := by
      unfold en17
      rw [rxB_B]
      show B (((([] ++ rxL false false 0#64 d) ++ [⟨80#8 + BitVec.signExtend 8 (d.srem 8#64)⟩]) ++ ([])) ++ [] ++ r) = _
      exact congrArg B (by simp [tx, c4, c8])
    rw [e] at hz ⊢
    have H := Hd.of (half := false) (rx_ok false false reg00 hd) ((plus_opOK hd).2.1 : opOK false ⟨80#8 + BitVec.signExtend 8 (d.srem 8#64)⟩) hz
    have hz2 := tx_suf hz
    have hz3 := suf (l := [_]) hz2
    obtain ⟨f1, _⟩ := reg_ok false false (a := 0#64) (b := d) reg00 hd
    have f2 := (plus_ok false (b := d) hd).2.1
    obtain ⟨e1, e2⟩ := H.e0
    unfold g17
    rw [e1, f1, e2, H.op]
    rw [f2]
set_option maxRecDepth 100000 in
set_option maxHeartbeats 4000000 in
theorem rt_18 (al cc sz : BitVec 64) (w sh : Bool) (d s : BitVec 64) (dp rl : BitVec 32) (im : BitVec 64) (hv : v18 al cc sz w sh d s dp rl im = true) (r : List UInt8) (hz : (catB (en18 al cc sz w sh d s dp rl im) (B r)).size < 9223372036854775808) : g18 (catB (en18 al cc sz w sh d s dp rl im) (B r)) = ⟨18#64, al, cc, sz, w, sh, d, s, dp, rl, im⟩ := by
  unfold v18 at hv
  simp only [Bool.and_eq_true, Bool.not_eq_true', Bool.or_eq_true, beq_iff_eq] at hv
  obtain ⟨⟨⟨⟨⟨⟨⟨⟨⟨rfl, rfl⟩, rfl⟩, rfl⟩, rfl⟩, rfl⟩, rfl⟩, rfl⟩, rfl⟩, hd, hs⟩ := hv
  · have e : catB (en18 0#64 0#64 0#64 false false d 0#64 0#32 0#32 0#64) (B r) = B (tx false false (rxL false false 0#64 d) ⟨88#8 + BitVec.signExtend 8 (d.srem 8#64)⟩ (r)) := by
      unfold en18
      rw [rxB_B]
      show B (((([] ++ rxL false false 0#64 d) ++ [⟨88#8 + BitVec.signExtend 8 (d.srem 8#64)⟩]) ++ ([])) ++ [] ++ r) = _
      exact congrArg B (by simp [tx, c4, c8])
    rw [e] at hz ⊢
    have H := Hd.of (half := false) (rx_ok false false reg00 hd) ((plus_opOK hd).2.2 : opOK false ⟨88#8 + BitVec.signExtend 8 (d.srem 8#64)⟩) hz
    have hz2 := tx_suf hz
    have hz3 := suf (l := [_]) hz2
    obtain ⟨f1, _⟩ := reg_ok false false (a := 0#64) (b := d) reg00 hd
    have f2 := (plus_ok false (b := d) hd).2.2
    obtain ⟨e1, e2⟩ := H.e0
    unfold g18
    rw [e1, f1, e2, H.op]
    rw [f2]
set_option maxRecDepth 100000 in
set_option maxHeartbeats 4000000 in
theorem rt_19 (al cc sz : BitVec 64) (w sh : Bool) (d s : BitVec 64) (dp rl : BitVec 32) (im : BitVec 64) (hv : v19 al cc sz w sh d s dp rl im = true) (r : List UInt8) (hz : (catB (en19 al cc sz w sh d s dp rl im) (B r)).size < 9223372036854775808) : g19 (catB (en19 al cc sz w sh d s dp rl im) (B r)) = ⟨19#64, al, cc, sz, w, sh, d, s, dp, rl, im⟩ := by
  unfold v19 at hv
  simp only [Bool.and_eq_true, Bool.not_eq_true', Bool.or_eq_true, beq_iff_eq] at hv
  obtain ⟨⟨⟨⟨⟨⟨⟨⟨⟨⟨rfl, rfl⟩, rfl⟩, rfl⟩, rfl⟩, rfl⟩, rfl⟩, rfl⟩, rfl⟩, rfl⟩, hd, hs⟩ := hv
  · have e : catB (en19 0#64 0#64 0#64 false false 0#64 0#64 0#32 0#32 0#64) (B r) = B (tx false false (rxL false false 0#64 0#64) 195 (r)) := by
      unfold en19
      rw [rxB_B]
      show B (((([] ++ rxL false false 0#64 0#64) ++ [195]) ++ ([])) ++ [] ++ r) = _
      exact congrArg B (by simp [tx, c4, c8])
    rw [e] at hz ⊢
    have H := Hd.of (half := false) (rx_ok false false reg00 reg00) (opOK_of (by decide) : opOK false 195) hz
    have hz2 := tx_suf hz
    have hz3 := suf (l := [_]) hz2
    obtain ⟨f1, _⟩ := reg_ok false false (a := 0#64) (b := 0#64) reg00 reg00
    obtain ⟨e1, e2⟩ := H.e0
    unfold g19
    rw [e1, f1]
set_option maxRecDepth 100000 in
set_option maxHeartbeats 4000000 in
theorem rt_20 (al cc sz : BitVec 64) (w sh : Bool) (d s : BitVec 64) (dp rl : BitVec 32) (im : BitVec 64) (hv : v20 al cc sz w sh d s dp rl im = true) (r : List UInt8) (hz : (catB (en20 al cc sz w sh d s dp rl im) (B r)).size < 9223372036854775808) : g20 (catB (en20 al cc sz w sh d s dp rl im) (B r)) = ⟨20#64, al, cc, sz, w, sh, d, s, dp, rl, im⟩ := by
  unfold v20 at hv
  simp only [Bool.and_eq_true, Bool.not_eq_true', Bool.or_eq_true, beq_iff_eq] at hv
  obtain ⟨⟨⟨⟨⟨⟨⟨⟨⟨rfl, rfl⟩, rfl⟩, rfl⟩, rfl⟩, rfl⟩, rfl⟩, rfl⟩, rfl⟩, hd, hs⟩ := hv
  · have e : catB (en20 0#64 0#64 0#64 false false 0#64 0#64 0#32 rl 0#64) (B r) = B (tx false false (rxL false false 0#64 0#64) 232 (c4 ((sx rl)) (r))) := by
      unfold en20
      rw [rxB_B]
      show B (((([] ++ rxL false false 0#64 0#64) ++ [232]) ++ (b4 (sx rl))) ++ [] ++ r) = _
      exact congrArg B (by simp [tx, c4, c8])
    rw [e] at hz ⊢
    have H := Hd.of (half := false) (rx_ok false false reg00 reg00) (opOK_of (by decide) : opOK false 232) hz
    have hz2 := tx_suf hz
    have hz3 := suf (l := [_]) hz2
    obtain ⟨f1, _⟩ := reg_ok false false (a := 0#64) (b := 0#64) reg00 reg00
    obtain ⟨e1, e2⟩ := H.e0
    unfold g20
    rw [e1, f1, H.s4]
    rw [sg4 (sx rl) r hz3, dp_sx]
set_option maxRecDepth 100000 in
set_option maxHeartbeats 4000000 in
theorem rt_21 (al cc sz : BitVec 64) (w sh : Bool) (d s : BitVec 64) (dp rl : BitVec 32) (im : BitVec 64) (hv : v21 al cc sz w sh d s dp rl im = true) (r : List UInt8) (hz : (catB (en21 al cc sz w sh d s dp rl im) (B r)).size < 9223372036854775808) : g21 (catB (en21 al cc sz w sh d s dp rl im) (B r)) = ⟨21#64, al, cc, sz, w, sh, d, s, dp, rl, im⟩ := by
  unfold v21 at hv
  simp only [Bool.and_eq_true, Bool.not_eq_true', Bool.or_eq_true, beq_iff_eq] at hv
  obtain ⟨⟨⟨⟨⟨⟨⟨⟨⟨⟨rfl, rfl⟩, rfl⟩, rfl⟩, rfl⟩, rfl⟩, rfl⟩, rfl⟩, rfl⟩, rfl⟩, hd, hs⟩ := hv
  · have e : catB (en21 0#64 0#64 0#64 false false 0#64 0#64 0#32 0#32 0#64) (B r) = B (tx false true (rxL false false 0#64 0#64) 174 (232 :: r)) := by
      unfold en21
      rw [rxB_B]
      show B ((((([] ++ rxL false false 0#64 0#64) ++ [15, 174, 232]) ++ []) ++ []) ++ r) = _
      exact congrArg B (by simp [tx])
    rw [e] at hz ⊢
    have H := Hd.of (half := false) (rx_ok false false reg00 reg00) (.inl rfl : opOK true 174) hz
    have hz2 := tx_suf hz
    have hz3 := suf (l := [_]) hz2
    obtain ⟨f1, _⟩ := reg_ok false false (a := 0#64) (b := 0#64) reg00 reg00
    obtain ⟨e1, e2⟩ := H.e0
    unfold g21
    rw [e1, f1]
/-- What is put together is guessed again, whatever stands behind. -/
theorem RT {x : MX} (hv : vX x = true) (r : List UInt8) (hz : (catB (eX x) (B r)).size < 9223372036854775808) : ∃ k, 1 ≤ k ∧ k ≤ 21 ∧ x.k = BitVec.ofNat 64 k ∧ G k (catB (eX x) (B r)) = x := by
  obtain ⟨k, al, cc, sz, w, sh, d, s, dp, rl, im⟩ := x
  rcases ks k with rfl | rfl | rfl | rfl | rfl | rfl | rfl | rfl | rfl | rfl | rfl | rfl | rfl | rfl | rfl | rfl | rfl | rfl | rfl | rfl | rfl | hk
  rotate_right 1
  · exfalso
    have h : vld k al cc sz w sh d s dp rl im = false := vld_none hk
    have hv' : vld k al cc sz w sh d s dp rl im = true := hv
    rw [h] at hv'; cases hv'
  · exact ⟨1, by decide, by decide, rfl, rt_1 al cc sz w sh d s dp rl im hv r hz⟩
  · exact ⟨2, by decide, by decide, rfl, rt_2 al cc sz w sh d s dp rl im hv r hz⟩
  · exact ⟨3, by decide, by decide, rfl, rt_3 al cc sz w sh d s dp rl im hv r hz⟩
  · exact ⟨4, by decide, by decide, rfl, rt_4 al cc sz w sh d s dp rl im hv r hz⟩
  · exact ⟨5, by decide, by decide, rfl, rt_5 al cc sz w sh d s dp rl im hv r hz⟩
  · exact ⟨6, by decide, by decide, rfl, rt_6 al cc sz w sh d s dp rl im hv r hz⟩
  · exact ⟨7, by decide, by decide, rfl, rt_7 al cc sz w sh d s dp rl im hv r hz⟩
  · exact ⟨8, by decide, by decide, rfl, rt_8 al cc sz w sh d s dp rl im hv r hz⟩
  · exact ⟨9, by decide, by decide, rfl, rt_9 al cc sz w sh d s dp rl im hv r hz⟩
  · exact ⟨10, by decide, by decide, rfl, rt_10 al cc sz w sh d s dp rl im hv r hz⟩
  · exact ⟨11, by decide, by decide, rfl, rt_11 al cc sz w sh d s dp rl im hv r hz⟩
  · exact ⟨12, by decide, by decide, rfl, rt_12 al cc sz w sh d s dp rl im hv r hz⟩
  · exact ⟨13, by decide, by decide, rfl, rt_13 al cc sz w sh d s dp rl im hv r hz⟩
  · exact ⟨14, by decide, by decide, rfl, rt_14 al cc sz w sh d s dp rl im hv r hz⟩
  · exact ⟨15, by decide, by decide, rfl, rt_15 al cc sz w sh d s dp rl im hv r hz⟩
  · exact ⟨16, by decide, by decide, rfl, rt_16 al cc sz w sh d s dp rl im hv r hz⟩
  · exact ⟨17, by decide, by decide, rfl, rt_17 al cc sz w sh d s dp rl im hv r hz⟩
  · exact ⟨18, by decide, by decide, rfl, rt_18 al cc sz w sh d s dp rl im hv r hz⟩
  · exact ⟨19, by decide, by decide, rfl, rt_19 al cc sz w sh d s dp rl im hv r hz⟩
  · exact ⟨20, by decide, by decide, rfl, rt_20 al cc sz w sh d s dp rl im hv r hz⟩
  · exact ⟨21, by decide, by decide, rfl, rt_21 al cc sz w sh d s dp rl im hv r hz⟩
end Go.Proofs.YtppankimieopiaaDoor
