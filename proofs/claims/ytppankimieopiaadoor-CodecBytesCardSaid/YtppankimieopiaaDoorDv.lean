/-
  Chapter 11: the document takes bytes for what was put together, kind by kind. Conditions: the instruction may be.
-/
import Derived.Test.YtppankimieopiaaDoorDt
namespace Go.Proofs.YtppankimieopiaaDoor
open Go.Ep Go.RowKit
set_option linter.unusedVariables false
set_option linter.unusedSimpArgs false
def rxQ (al w : Bool) (a b : BitVec 64) : BitVec 64 := hN (rxL al w a b) (rxHi al w a b)
def m64 (x a b : BitVec 64) : BitVec 64 := (mrV x a b).setWidth 64
theorem rgN_f : ∀ (i j : Fin 16) (w al : Bool), (((8#64).sle (rxQ al w (BitVec.ofNat 64 i) (BitVec.ofNat 64 j)) == w) && (((rxQ al w (BitVec.ofNat 64 i) (BitVec.ofNat 64 j)).sdiv 4#64).srem 2#64 * 8#64 + ((m64 3#64 (BitVec.ofNat 64 i) (BitVec.ofNat 64 j)).sdiv 8#64).srem 8#64 == BitVec.ofNat 64 i) && ((rxQ al w (BitVec.ofNat 64 i) (BitVec.ofNat 64 j)).srem 2#64 * 8#64 + (m64 3#64 (BitVec.ofNat 64 i) (BitVec.ofNat 64 j)).srem 8#64 == BitVec.ofNat 64 j)
    && (((rxQ al w (BitVec.ofNat 64 i) (BitVec.ofNat 64 j)).sdiv 4#64).srem 2#64 * 8#64 + ((m64 2#64 (BitVec.ofNat 64 i) (BitVec.ofNat 64 j)).sdiv 8#64).srem 8#64 == BitVec.ofNat 64 i) && ((rxQ al w (BitVec.ofNat 64 i) (BitVec.ofNat 64 j)).srem 2#64 * 8#64 + (m64 2#64 (BitVec.ofNat 64 i) (BitVec.ofNat 64 j)).srem 8#64 == BitVec.ofNat 64 j)
    && ((192#64).sle (m64 3#64 (BitVec.ofNat 64 i) (BitVec.ofNat 64 j))) && !((192#64).sle (m64 2#64 (BitVec.ofNat 64 i) (BitVec.ofNat 64 j))) && ((m64 2#64 (BitVec.ofNat 64 i) (BitVec.ofNat 64 j)).srem 8#64 == (BitVec.ofNat 64 j).srem 8#64)) = true := by decide +kernel
structure RgN (al w : Bool) (a b : BitVec 64) : Prop where
  wd : (8#64).sle (rxQ al w a b) = w
  r3 : ((rxQ al w a b).sdiv 4#64).srem 2#64 * 8#64 + ((m64 3#64 a b).sdiv 8#64).srem 8#64 = a
  e3 : (rxQ al w a b).srem 2#64 * 8#64 + (m64 3#64 a b).srem 8#64 = b
  r2 : ((rxQ al w a b).sdiv 4#64).srem 2#64 * 8#64 + ((m64 2#64 a b).sdiv 8#64).srem 8#64 = a
  e2 : (rxQ al w a b).srem 2#64 * 8#64 + (m64 2#64 a b).srem 8#64 = b
  p3 : (192#64).sle (m64 3#64 a b) = true
  p2 : (192#64).sle (m64 2#64 a b) = false
  s2 : (m64 2#64 a b).srem 8#64 = b.srem 8#64
theorem RgN.of (al w : Bool) {a b : BitVec 64} (ha : regB a = true) (hb : regB b = true) : RgN al w a b := by
  obtain ⟨i, rfl⟩ := reg_in' ha
  obtain ⟨j, rfl⟩ := reg_in' hb
  have h := rgN_f i j w al
  simp only [Bool.and_eq_true, beq_iff_eq, Bool.not_eq_true'] at h
  obtain ⟨⟨⟨⟨⟨⟨⟨h1, h2⟩, h3⟩, h4⟩, h5⟩, h6⟩, h7⟩, h8⟩ := h
  exact ⟨h1, h2, h3, h4, h5, h6, h7, h8⟩
theorem dgN_f : ∀ (i : Fin 8) (j : Fin 16) (w : Bool), ((((m64 3#64 (BitVec.ofNat 64 i) (BitVec.ofNat 64 j)).sdiv 8#64).srem 8#64 == BitVec.ofNat 64 i) && ((rxQ false w 0#64 (BitVec.ofNat 64 j)).srem 2#64 * 8#64 + (m64 3#64 (BitVec.ofNat 64 i) (BitVec.ofNat 64 j)).srem 8#64 == BitVec.ofNat 64 j)) = true := by decide +kernel
theorem dgN (w : Bool) {a b : BitVec 64} (ha : a.toNat < 8) (hb : regB b = true) : ((m64 3#64 a b).sdiv 8#64).srem 8#64 = a ∧ (rxQ false w 0#64 b).srem 2#64 * 8#64 + (m64 3#64 a b).srem 8#64 = b := by
  obtain ⟨j, rfl⟩ := reg_in' hb
  obtain ⟨i, rfl⟩ : ∃ i : Fin 8, a = BitVec.ofNat 64 i := ⟨⟨a.toNat, ha⟩, by simp⟩
  have h := dgN_f i j w
  simp only [Bool.and_eq_true, beq_iff_eq] at h
  exact h
theorem plN_f : ∀ (j : Fin 16) (w : Bool), ((rxQ false w 0#64 (BitVec.ofNat 64 j)).srem 2#64 * 8#64 + (BitVec.ofNat 64 j).srem 8#64 == BitVec.ofNat 64 j) = true := by decide +kernel
theorem plN (w : Bool) {b : BitVec 64} (hb : regB b = true) : (rxQ false w 0#64 b).srem 2#64 * 8#64 + b.srem 8#64 = b := by
  obtain ⟨j, rfl⟩ := reg_in' hb
  simpa using plN_f j w
theorem s8_f : ∀ j : Fin 16, ((BitVec.ofNat 64 j).srem 8#64).toNat < 8 := by decide +kernel
theorem s8_in {b : BitVec 64} (hb : regB b = true) : b.srem 8#64 = 0#64 ∨ b.srem 8#64 = 1#64 ∨ b.srem 8#64 = 2#64 ∨ b.srem 8#64 = 3#64 ∨ b.srem 8#64 = 4#64 ∨ b.srem 8#64 = 5#64 ∨ b.srem 8#64 = 6#64 ∨ b.srem 8#64 = 7#64 := by
  obtain ⟨j, rfl⟩ := reg_in' hb
  have h := s8_f j
  generalize (BitVec.ofNat 64 j).srem 8#64 = y at *
  have key : ∀ n : Nat, n < 8 → y.toNat = n → y = BitVec.ofNat 64 n := fun n hn h => BitVec.eq_of_toNat_eq (by rw [h, BitVec.toNat_ofNat, Nat.mod_eq_of_lt (by omega)])
  have : y.toNat = 0 ∨ y.toNat = 1 ∨ y.toNat = 2 ∨ y.toNat = 3 ∨ y.toNat = 4 ∨ y.toNat = 5 ∨ y.toNat = 6 ∨ y.toNat = 7 := by omega
  rcases this with h | h | h | h | h | h | h | h
  · exact .inl (key 0 (by decide) h)
  · exact .inr (.inl (key 1 (by decide) h))
  · exact .inr (.inr (.inl (key 2 (by decide) h)))
  · exact .inr (.inr (.inr (.inl (key 3 (by decide) h))))
  · exact .inr (.inr (.inr (.inr (.inl (key 4 (by decide) h)))))
  · exact .inr (.inr (.inr (.inr (.inr (.inl (key 5 (by decide) h))))))
  · exact .inr (.inr (.inr (.inr (.inr (.inr (.inl (key 6 (by decide) h)))))))
  · exact .inr (.inr (.inr (.inr (.inr (.inr (.inr (key 7 (by decide) h)))))))
theorem Hr.of' {al w : Bool} {a b : BitVec 64} (ha : regB a = true) (hb : regB b = true) {half two : Bool} {op : UInt8} {r : List UInt8} (ho : opOK two op) : Hr (B (tx half two (rxL al w a b) op r)) half (rxQ al w a b) two (op :: r) := Hr.of (rx_ok al w ha hb) ho
set_option maxRecDepth 100000 in
set_option maxHeartbeats 4000000 in
theorem rr_1 (al cc sz : BitVec 64) (w sh : Bool) (d s : BitVec 64) (dp rl : BitVec 32) (im : BitVec 64) (hv : v1 al cc sz w sh d s dp rl im = true) (r : List UInt8) : rgF (catB (en1 al cc sz w sh d s dp rl im) (B r)) = ⟨1#64, al, cc, sz, w, sh, d, s, dp, rl, im⟩ := by
  unfold v1 at hv
  simp only [Bool.and_eq_true, Bool.not_eq_true', Bool.or_eq_true, beq_iff_eq] at hv
  obtain ⟨⟨⟨⟨⟨⟨⟨rfl, rfl⟩, rfl⟩, rfl⟩, rfl⟩, rfl⟩, rfl⟩, hd, hs⟩ := hv
  · have e : catB (en1 0#64 0#64 0#64 w false d s 0#32 0#32 0#64) (B r) = B (tx false false (rxL false w s d) 137 (⟨mrV 3#64 s d⟩ :: r)) := by
      unfold en1
      rw [rxB_B]
      show B (((([] ++ rxL false w s d) ++ [137]) ++ ([⟨mrV 3#64 s d⟩])) ++ [] ++ r) = _
      exact congrArg B (by simp [tx, c4, c8])
    rw [e]
    have H := Hr.of' (al := false) (w := w) (half := false) (r := (⟨mrV 3#64 s d⟩ :: r)) hs hd (opOK_of (by decide) : opOK false 137)
    have N := RgN.of false w (a := s) (b := d) hs hd
    generalize B (tx false false (rxL false w s d) 137 (⟨mrV 3#64 s d⟩ :: r)) = T at H ⊢
    have a0 : atB T (dI2 T) = 137#64 := H.at0.trans (by rfl)
    have a1 : atB T (dI2 T + 1#64) = m64 3#64 s d := H.at_ 1 (by decide)
    have hR : rgR T (dI2 T) (rxQ false w s d) = s := by unfold rgR; rw [a1, N.r3]
    have hE : rgE T (dI2 T) (rxQ false w s d) = d := by unfold rgE; rw [a1, N.e3]
    have F : firF T (dI2 T) (XW w) false = (⟨1#64, 0#64, 0#64, 0#64, w, false, 0#64, 0#64, 0#32, 0#32, 0#64⟩ : MX) := by
      unfold firF
      simp [a0, XW, a1, N.p3]
    unfold rgF dX1
    rw [H.two, H.half, H.hi, N.wd]
    rw [if_neg (by decide), F]
    simp [wid8, regF, hR, hE]
set_option maxRecDepth 100000 in
set_option maxHeartbeats 4000000 in
theorem rr_2 (al cc sz : BitVec 64) (w sh : Bool) (d s : BitVec 64) (dp rl : BitVec 32) (im : BitVec 64) (hv : v2 al cc sz w sh d s dp rl im = true) (r : List UInt8) : rgF (catB (en2 al cc sz w sh d s dp rl im) (B r)) = ⟨2#64, al, cc, sz, w, sh, d, s, dp, rl, im⟩ := by
  unfold v2 at hv
  simp only [Bool.and_eq_true, Bool.not_eq_true', Bool.or_eq_true, beq_iff_eq] at hv
  obtain ⟨⟨⟨⟨⟨⟨⟨⟨⟨rfl, rfl⟩, rfl⟩, rfl⟩, rfl⟩, rfl⟩, rfl⟩, hI⟩, rfl⟩, hd, hs⟩ := hv
  · have e : catB (en2 0#64 0#64 0#64 true false d 0#64 0#32 0#32 im) (B r) = B (tx false false (rxL false true 0#64 d) 199 (⟨mrV 3#64 0#64 d⟩ :: c4 (im) (r))) := by
      unfold en2
      rw [rxB_B]
      show B (((([] ++ rxL false true 0#64 d) ++ [199]) ++ ([⟨mrV 3#64 0#64 d⟩])) ++ b4 im ++ r) = _
      exact congrArg B (by simp [tx, c4, c8])
    rw [e]
    have H := Hr.of' (al := false) (w := true) (half := false) (r := (⟨mrV 3#64 0#64 d⟩ :: c4 (im) (r))) reg00 hd (opOK_of (by decide) : opOK false 199)
    have N := RgN.of false true (a := 0#64) (b := d) reg00 hd
    generalize B (tx false false (rxL false true 0#64 d) 199 (⟨mrV 3#64 0#64 d⟩ :: c4 (im) (r))) = T at H ⊢
    have a0 : atB T (dI2 T) = 199#64 := H.at0.trans (by rfl)
    have a1 : atB T (dI2 T + 1#64) = m64 3#64 0#64 d := H.at_ 1 (by decide)
    obtain ⟨g1, g2⟩ := dgN true (a := 0#64) (b := d) (by decide) hd
    have hM : mdD T (dI2 T) = 0#64 := by unfold mdD; rw [a1, g1]
    have hE : rgE T (dI2 T) (rxQ false true 0#64 d) = d := by unfold rgE; rw [a1, g2]
    have hI2 : nmR 4 T (dI2 T + 2#64) = im := (H.n4 2 (by decide) (v := im) (r := r) rfl).trans (word_sx hI)
    have F : firF T (dI2 T) (XW true) false = (⟨2#64, 0#64, 0#64, 0#64, true, false, 0#64, 0#64, 0#32, 0#32, im⟩ : MX) := by
      unfold firF
      simp [a0, XW, hM, hI2]
    unfold rgF dX1
    rw [H.two, H.half, H.hi, N.wd]
    rw [if_neg (by decide), F]
    simp [wid8, regF, hE]
set_option maxRecDepth 100000 in
set_option maxHeartbeats 4000000 in
theorem rr_3 (al cc sz : BitVec 64) (w sh : Bool) (d s : BitVec 64) (dp rl : BitVec 32) (im : BitVec 64) (hv : v3 al cc sz w sh d s dp rl im = true) (r : List UInt8) : rgF (catB (en3 al cc sz w sh d s dp rl im) (B r)) = ⟨3#64, al, cc, sz, w, sh, d, s, dp, rl, im⟩ := by
  unfold v3 at hv
  simp only [Bool.and_eq_true, Bool.not_eq_true', Bool.or_eq_true, beq_iff_eq] at hv
  obtain ⟨⟨⟨⟨⟨⟨⟨⟨rfl, rfl⟩, rfl⟩, rfl⟩, rfl⟩, rfl⟩, rfl⟩, rfl⟩, hd, hs⟩ := hv
  rcases s8_in hd with hq | hq | hq | hq | hq | hq | hq | hq
  all_goals
    have e : catB (en3 0#64 0#64 0#64 true false d 0#64 0#32 0#32 im) (B r) = B (tx false false (rxL false true 0#64 d) ⟨184#8 + BitVec.signExtend 8 (d.srem 8#64)⟩ (c8 (im) (r))) := by
      unfold en3
      rw [rxB_B]
      show B (((([] ++ rxL false true 0#64 d) ++ [⟨184#8 + BitVec.signExtend 8 (d.srem 8#64)⟩]) ++ ([])) ++ b8 im ++ r) = _
      exact congrArg B (by simp [tx, c4, c8])
    rw [e]
    have H := Hr.of' (al := false) (w := true) (half := false) (r := (c8 (im) (r))) reg00 hd (by rw [hq]; exact opOK_of (by decide) : opOK false ⟨184#8 + BitVec.signExtend 8 (d.srem 8#64)⟩)
    have N := RgN.of false true (a := 0#64) (b := d) reg00 hd
    generalize B (tx false false (rxL false true 0#64 d) ⟨184#8 + BitVec.signExtend 8 (d.srem 8#64)⟩ (c8 (im) (r))) = T at H ⊢
    have a0 : atB T (dI2 T) = BitVec.setWidth 64 (184#8 + BitVec.signExtend 8 (d.srem 8#64)) := H.at0
    rw [hq] at a0
    have hP := plN true (b := d) hd
    rw [hq] at hP
    have hI2 : nmR 8 T (dI2 T + 1#64) = im := H.n8 1 (by decide) (v := im) (r := r) rfl
    have F : firF T (dI2 T) (XW true) false = (⟨3#64, 0#64, 0#64, 0#64, true, false, 0#64, 0#64, 0#32, 0#32, im⟩ : MX) := by
      unfold firF
      simp [a0, XW, hq, hI2]
    unfold rgF dX1
    rw [H.two, H.half, H.hi, N.wd]
    rw [if_neg (by decide), F]
    simp [wid8, regF, a0, hP]
set_option maxRecDepth 100000 in
set_option maxHeartbeats 4000000 in
theorem rr_4 (al cc sz : BitVec 64) (w sh : Bool) (d s : BitVec 64) (dp rl : BitVec 32) (im : BitVec 64) (hv : v4 al cc sz w sh d s dp rl im = true) (r : List UInt8) : rgF (catB (en4 al cc sz w sh d s dp rl im) (B r)) = ⟨4#64, al, cc, sz, w, sh, d, s, dp, rl, im⟩ := by
  unfold v4 at hv
  simp only [Bool.and_eq_true, Bool.not_eq_true', Bool.or_eq_true, beq_iff_eq] at hv
  obtain ⟨⟨⟨⟨⟨⟨⟨rfl, rfl⟩, rfl⟩, rfl⟩, rfl⟩, rfl⟩, hA⟩, hd, hs⟩ := hv
  rcases alu_in hA with hq | hq | hq | hq | hq | hq
  all_goals
    have e : catB (en4 al 0#64 0#64 w false d s 0#32 0#32 0#64) (B r) = B (tx false false (rxL false w s d) ⟨BitVec.signExtend 8 (8#64 * al + 1#64)⟩ (⟨mrV 3#64 s d⟩ :: r)) := by
      unfold en4
      rw [rxB_B]
      show B (((([] ++ rxL false w s d) ++ [⟨BitVec.signExtend 8 (8#64 * al + 1#64)⟩]) ++ ([⟨mrV 3#64 s d⟩])) ++ [] ++ r) = _
      exact congrArg B (by simp [tx, c4, c8])
    rw [e]
    have H := Hr.of' (al := false) (w := w) (half := false) (r := (⟨mrV 3#64 s d⟩ :: r)) hs hd (by rw [hq]; exact opOK_of (by decide) : opOK false ⟨BitVec.signExtend 8 (8#64 * al + 1#64)⟩)
    have N := RgN.of false w (a := s) (b := d) hs hd
    generalize B (tx false false (rxL false w s d) ⟨BitVec.signExtend 8 (8#64 * al + 1#64)⟩ (⟨mrV 3#64 s d⟩ :: r)) = T at H ⊢
    have a0 : atB T (dI2 T) = BitVec.setWidth 64 (BitVec.signExtend 8 (8#64 * al + 1#64)) := H.at0
    rw [hq] at a0
    have a1 : atB T (dI2 T + 1#64) = m64 3#64 s d := H.at_ 1 (by decide)
    have hR : rgR T (dI2 T) (rxQ false w s d) = s := by unfold rgR; rw [a1, N.r3]
    have hE : rgE T (dI2 T) (rxQ false w s d) = d := by unfold rgE; rw [a1, N.e3]
    have F : firF T (dI2 T) (XW w) false = (⟨4#64, al, 0#64, 0#64, w, false, 0#64, 0#64, 0#32, 0#32, 0#64⟩ : MX) := by
      unfold firF
      simp [a0, XW, hq]
    unfold rgF dX1
    rw [H.two, H.half, H.hi, N.wd]
    rw [if_neg (by decide), F]
    simp [wid8, regF, hR, hE]
set_option maxRecDepth 100000 in
set_option maxHeartbeats 4000000 in
theorem rr_5 (al cc sz : BitVec 64) (w sh : Bool) (d s : BitVec 64) (dp rl : BitVec 32) (im : BitVec 64) (hv : v5 al cc sz w sh d s dp rl im = true) (r : List UInt8) : rgF (catB (en5 al cc sz w sh d s dp rl im) (B r)) = ⟨5#64, al, cc, sz, w, sh, d, s, dp, rl, im⟩ := by
  unfold v5 at hv
  simp only [Bool.and_eq_true, Bool.not_eq_true', Bool.or_eq_true, beq_iff_eq] at hv
  obtain ⟨⟨⟨⟨⟨⟨⟨⟨rfl, rfl⟩, rfl⟩, rfl⟩, rfl⟩, rfl⟩, hA⟩, hI⟩, hd, hs⟩ := hv
  · have e : catB (en5 al 0#64 0#64 w false d 0#64 0#32 0#32 im) (B r) = B (tx false false (rxL false w 0#64 d) 129 (⟨mrV 3#64 al d⟩ :: c4 (im) (r))) := by
      unfold en5
      rw [rxB_B]
      show B (((([] ++ rxL false w 0#64 d) ++ [129]) ++ ([⟨mrV 3#64 al d⟩])) ++ b4 im ++ r) = _
      exact congrArg B (by simp [tx, c4, c8])
    rw [e]
    have H := Hr.of' (al := false) (w := w) (half := false) (r := (⟨mrV 3#64 al d⟩ :: c4 (im) (r))) reg00 hd (opOK_of (by decide) : opOK false 129)
    have N := RgN.of false w (a := 0#64) (b := d) reg00 hd
    generalize B (tx false false (rxL false w 0#64 d) 129 (⟨mrV 3#64 al d⟩ :: c4 (im) (r))) = T at H ⊢
    have a0 : atB T (dI2 T) = 129#64 := H.at0.trans (by rfl)
    have a1 : atB T (dI2 T + 1#64) = m64 3#64 al d := H.at_ 1 (by decide)
    obtain ⟨g1, g2⟩ := dgN w (a := al) (b := d) (alu8 hA) hd
    have hM : mdD T (dI2 T) = al := by unfold mdD; rw [a1, g1]
    have hE : rgE T (dI2 T) (rxQ false w 0#64 d) = d := by unfold rgE; rw [a1, g2]
    have hI2 : nmR 4 T (dI2 T + 2#64) = im := (H.n4 2 (by decide) (v := im) (r := r) rfl).trans (word_sx hI)
    have F : firF T (dI2 T) (XW w) false = (⟨5#64, al, 0#64, 0#64, w, false, 0#64, 0#64, 0#32, 0#32, im⟩ : MX) := by
      unfold firF
      simp [a0, XW, hM, hI2]
    unfold rgF dX1
    rw [H.two, H.half, H.hi, N.wd]
    rw [if_neg (by decide), F]
    simp [wid8, regF, hE]
set_option maxRecDepth 100000 in
set_option maxHeartbeats 4000000 in
theorem rr_6 (al cc sz : BitVec 64) (w sh : Bool) (d s : BitVec 64) (dp rl : BitVec 32) (im : BitVec 64) (hv : v6 al cc sz w sh d s dp rl im = true) (r : List UInt8) : rgF (catB (en6 al cc sz w sh d s dp rl im) (B r)) = ⟨6#64, al, cc, sz, w, sh, d, s, dp, rl, im⟩ := by
  unfold v6 at hv
  simp only [Bool.and_eq_true, Bool.not_eq_true', Bool.or_eq_true, beq_iff_eq] at hv
  obtain ⟨⟨⟨⟨⟨⟨⟨rfl, rfl⟩, rfl⟩, rfl⟩, rfl⟩, rfl⟩, rfl⟩, hd, hs⟩ := hv
  · have e : catB (en6 0#64 0#64 0#64 w false d s 0#32 0#32 0#64) (B r) = B (tx false false (rxL false w s d) 133 (⟨mrV 3#64 s d⟩ :: r)) := by
      unfold en6
      rw [rxB_B]
      show B (((([] ++ rxL false w s d) ++ [133]) ++ ([⟨mrV 3#64 s d⟩])) ++ [] ++ r) = _
      exact congrArg B (by simp [tx, c4, c8])
    rw [e]
    have H := Hr.of' (al := false) (w := w) (half := false) (r := (⟨mrV 3#64 s d⟩ :: r)) hs hd (opOK_of (by decide) : opOK false 133)
    have N := RgN.of false w (a := s) (b := d) hs hd
    generalize B (tx false false (rxL false w s d) 133 (⟨mrV 3#64 s d⟩ :: r)) = T at H ⊢
    have a0 : atB T (dI2 T) = 133#64 := H.at0.trans (by rfl)
    have a1 : atB T (dI2 T + 1#64) = m64 3#64 s d := H.at_ 1 (by decide)
    have hR : rgR T (dI2 T) (rxQ false w s d) = s := by unfold rgR; rw [a1, N.r3]
    have hE : rgE T (dI2 T) (rxQ false w s d) = d := by unfold rgE; rw [a1, N.e3]
    have F : firF T (dI2 T) (XW w) false = (⟨6#64, 0#64, 0#64, 0#64, w, false, 0#64, 0#64, 0#32, 0#32, 0#64⟩ : MX) := by
      unfold firF
      simp [a0, XW]
    unfold rgF dX1
    rw [H.two, H.half, H.hi, N.wd]
    rw [if_neg (by decide), F]
    simp [wid8, regF, hR, hE]
set_option maxRecDepth 100000 in
set_option maxHeartbeats 4000000 in
theorem rr_7 (al cc sz : BitVec 64) (w sh : Bool) (d s : BitVec 64) (dp rl : BitVec 32) (im : BitVec 64) (hv : v7 al cc sz w sh d s dp rl im = true) (r : List UInt8) : rgF (catB (en7 al cc sz w sh d s dp rl im) (B r)) = ⟨7#64, al, cc, sz, w, sh, d, s, dp, rl, im⟩ := by
  unfold v7 at hv
  simp only [Bool.and_eq_true, Bool.not_eq_true', Bool.or_eq_true, beq_iff_eq] at hv
  obtain ⟨⟨⟨⟨⟨⟨⟨⟨rfl, rfl⟩, rfl⟩, rfl⟩, rfl⟩, rfl⟩, rfl⟩, rfl⟩, hd, hs⟩ := hv
  · have e : catB (en7 0#64 0#64 0#64 w false d 0#64 0#32 0#32 0#64) (B r) = B (tx false false (rxL false w 0#64 d) 247 (⟨mrV 3#64 3#64 d⟩ :: r)) := by
      unfold en7
      rw [rxB_B]
      show B (((([] ++ rxL false w 0#64 d) ++ [247]) ++ ([⟨mrV 3#64 3#64 d⟩])) ++ [] ++ r) = _
      exact congrArg B (by simp [tx, c4, c8])
    rw [e]
    have H := Hr.of' (al := false) (w := w) (half := false) (r := (⟨mrV 3#64 3#64 d⟩ :: r)) reg00 hd (opOK_of (by decide) : opOK false 247)
    have N := RgN.of false w (a := 0#64) (b := d) reg00 hd
    generalize B (tx false false (rxL false w 0#64 d) 247 (⟨mrV 3#64 3#64 d⟩ :: r)) = T at H ⊢
    have a0 : atB T (dI2 T) = 247#64 := H.at0.trans (by rfl)
    have a1 : atB T (dI2 T + 1#64) = m64 3#64 3#64 d := H.at_ 1 (by decide)
    obtain ⟨g1, g2⟩ := dgN w (a := 3#64) (b := d) (by decide) hd
    have hM : mdD T (dI2 T) = 3#64 := by unfold mdD; rw [a1, g1]
    have hE : rgE T (dI2 T) (rxQ false w 0#64 d) = d := by unfold rgE; rw [a1, g2]
    have F : firF T (dI2 T) (XW w) false = (⟨7#64, 0#64, 0#64, 0#64, w, false, 0#64, 0#64, 0#32, 0#32, 0#64⟩ : MX) := by
      unfold firF
      simp [a0, XW, hM]
    unfold rgF dX1
    rw [H.two, H.half, H.hi, N.wd]
    rw [if_neg (by decide), F]
    simp [wid8, regF, hE]
set_option maxRecDepth 100000 in
set_option maxHeartbeats 4000000 in
theorem rr_8 (al cc sz : BitVec 64) (w sh : Bool) (d s : BitVec 64) (dp rl : BitVec 32) (im : BitVec 64) (hv : v8 al cc sz w sh d s dp rl im = true) (r : List UInt8) : rgF (catB (en8 al cc sz w sh d s dp rl im) (B r)) = ⟨8#64, al, cc, sz, w, sh, d, s, dp, rl, im⟩ := by
  unfold v8 at hv
  simp only [Bool.and_eq_true, Bool.not_eq_true', Bool.or_eq_true, beq_iff_eq] at hv
  obtain ⟨⟨⟨⟨⟨⟨⟨⟨rfl, rfl⟩, rfl⟩, rfl⟩, rfl⟩, rfl⟩, rfl⟩, rfl⟩, hd, hs⟩ := hv
  · have e : catB (en8 0#64 0#64 0#64 w false d 0#64 0#32 0#32 0#64) (B r) = B (tx false false (rxL false w 0#64 d) 247 (⟨mrV 3#64 4#64 d⟩ :: r)) := by
      unfold en8
      rw [rxB_B]
      show B (((([] ++ rxL false w 0#64 d) ++ [247]) ++ ([⟨mrV 3#64 4#64 d⟩])) ++ [] ++ r) = _
      exact congrArg B (by simp [tx, c4, c8])
    rw [e]
    have H := Hr.of' (al := false) (w := w) (half := false) (r := (⟨mrV 3#64 4#64 d⟩ :: r)) reg00 hd (opOK_of (by decide) : opOK false 247)
    have N := RgN.of false w (a := 0#64) (b := d) reg00 hd
    generalize B (tx false false (rxL false w 0#64 d) 247 (⟨mrV 3#64 4#64 d⟩ :: r)) = T at H ⊢
    have a0 : atB T (dI2 T) = 247#64 := H.at0.trans (by rfl)
    have a1 : atB T (dI2 T + 1#64) = m64 3#64 4#64 d := H.at_ 1 (by decide)
    obtain ⟨g1, g2⟩ := dgN w (a := 4#64) (b := d) (by decide) hd
    have hM : mdD T (dI2 T) = 4#64 := by unfold mdD; rw [a1, g1]
    have hE : rgE T (dI2 T) (rxQ false w 0#64 d) = d := by unfold rgE; rw [a1, g2]
    have F : firF T (dI2 T) (XW w) false = (⟨8#64, 0#64, 0#64, 0#64, w, false, 0#64, 0#64, 0#32, 0#32, 0#64⟩ : MX) := by
      unfold firF
      simp [a0, XW, hM]
    unfold rgF dX1
    rw [H.two, H.half, H.hi, N.wd]
    rw [if_neg (by decide), F]
    simp [wid8, regF, hE]
set_option maxRecDepth 100000 in
set_option maxHeartbeats 4000000 in
theorem rr_9 (al cc sz : BitVec 64) (w sh : Bool) (d s : BitVec 64) (dp rl : BitVec 32) (im : BitVec 64) (hv : v9 al cc sz w sh d s dp rl im = true) (r : List UInt8) : rgF (catB (en9 al cc sz w sh d s dp rl im) (B r)) = ⟨9#64, al, cc, sz, w, sh, d, s, dp, rl, im⟩ := by
  unfold v9 at hv
  simp only [Bool.and_eq_true, Bool.not_eq_true', Bool.or_eq_true, beq_iff_eq] at hv
  obtain ⟨⟨⟨⟨⟨⟨⟨⟨rfl, rfl⟩, rfl⟩, rfl⟩, rfl⟩, rfl⟩, rfl⟩, rfl⟩, hd, hs⟩ := hv
  · have e : catB (en9 0#64 0#64 0#64 w false d 0#64 0#32 0#32 0#64) (B r) = B (tx false false (rxL false w 0#64 d) 247 (⟨mrV 3#64 6#64 d⟩ :: r)) := by
      unfold en9
      rw [rxB_B]
      show B (((([] ++ rxL false w 0#64 d) ++ [247]) ++ ([⟨mrV 3#64 6#64 d⟩])) ++ [] ++ r) = _
      exact congrArg B (by simp [tx, c4, c8])
    rw [e]
    have H := Hr.of' (al := false) (w := w) (half := false) (r := (⟨mrV 3#64 6#64 d⟩ :: r)) reg00 hd (opOK_of (by decide) : opOK false 247)
    have N := RgN.of false w (a := 0#64) (b := d) reg00 hd
    generalize B (tx false false (rxL false w 0#64 d) 247 (⟨mrV 3#64 6#64 d⟩ :: r)) = T at H ⊢
    have a0 : atB T (dI2 T) = 247#64 := H.at0.trans (by rfl)
    have a1 : atB T (dI2 T + 1#64) = m64 3#64 6#64 d := H.at_ 1 (by decide)
    obtain ⟨g1, g2⟩ := dgN w (a := 6#64) (b := d) (by decide) hd
    have hM : mdD T (dI2 T) = 6#64 := by unfold mdD; rw [a1, g1]
    have hE : rgE T (dI2 T) (rxQ false w 0#64 d) = d := by unfold rgE; rw [a1, g2]
    have F : firF T (dI2 T) (XW w) false = (⟨9#64, 0#64, 0#64, 0#64, w, false, 0#64, 0#64, 0#32, 0#32, 0#64⟩ : MX) := by
      unfold firF
      simp [a0, XW, hM]
    unfold rgF dX1
    rw [H.two, H.half, H.hi, N.wd]
    rw [if_neg (by decide), F]
    simp [wid8, regF, hE]
set_option maxRecDepth 100000 in
set_option maxHeartbeats 4000000 in
theorem rr_10 (al cc sz : BitVec 64) (w sh : Bool) (d s : BitVec 64) (dp rl : BitVec 32) (im : BitVec 64) (hv : v10 al cc sz w sh d s dp rl im = true) (r : List UInt8) : rgF (catB (en10 al cc sz w sh d s dp rl im) (B r)) = ⟨10#64, al, cc, sz, w, sh, d, s, dp, rl, im⟩ := by
  unfold v10 at hv
  simp only [Bool.and_eq_true, Bool.not_eq_true', Bool.or_eq_true, beq_iff_eq] at hv
  obtain ⟨⟨⟨⟨⟨⟨⟨rfl, rfl⟩, rfl⟩, rfl⟩, rfl⟩, rfl⟩, rfl⟩, hd, hs⟩ := hv
  · have e : catB (en10 0#64 0#64 0#64 w false d s 0#32 0#32 0#64) (B r) = B (tx false true (rxL false w d s) 175 (⟨mrV 3#64 d s⟩ :: r)) := by
      unfold en10
      rw [rxB_B]
      show B (((([] ++ rxL false w d s) ++ [15, 175]) ++ ([⟨mrV 3#64 d s⟩])) ++ [] ++ r) = _
      exact congrArg B (by simp [tx, c4, c8])
    rw [e]
    have H := Hr.of' (al := false) (w := w) (half := false) (r := (⟨mrV 3#64 d s⟩ :: r)) hd hs (.inl rfl : opOK true 175)
    have N := RgN.of false w (a := d) (b := s) hd hs
    generalize B (tx false true (rxL false w d s) 175 (⟨mrV 3#64 d s⟩ :: r)) = T at H ⊢
    have a0 : atB T (dI2 T) = 175#64 := H.at0.trans (by rfl)
    have a1 : atB T (dI2 T + 1#64) = m64 3#64 d s := H.at_ 1 (by decide)
    have hR : rgR T (dI2 T) (rxQ false w d s) = d := by unfold rgR; rw [a1, N.r3]
    have hE : rgE T (dI2 T) (rxQ false w d s) = s := by unfold rgE; rw [a1, N.e3]
    have F : secF T (dI2 T) (XW w) = (⟨10#64, 0#64, 0#64, 0#64, w, false, 0#64, 0#64, 0#32, 0#32, 0#64⟩ : MX) := by
      unfold secF
      simp [a0, XW]
    unfold rgF dX1
    rw [H.two, H.half, H.hi, N.wd]
    rw [if_pos rfl, F]
    simp [wid8, regF, hR, hE]
set_option maxRecDepth 100000 in
set_option maxHeartbeats 4000000 in
theorem rr_11 (al cc sz : BitVec 64) (w sh : Bool) (d s : BitVec 64) (dp rl : BitVec 32) (im : BitVec 64) (hv : v11 al cc sz w sh d s dp rl im = true) (r : List UInt8) : rgF (catB (en11 al cc sz w sh d s dp rl im) (B r)) = ⟨11#64, al, cc, sz, w, sh, d, s, dp, rl, im⟩ := by
  unfold v11 at hv
  simp only [Bool.and_eq_true, Bool.not_eq_true', Bool.or_eq_true, beq_iff_eq] at hv
  obtain ⟨⟨⟨⟨⟨⟨⟨⟨rfl, rfl⟩, rfl⟩, rfl⟩, rfl⟩, rfl⟩, hA⟩, hI⟩, hd, hs⟩ := hv
  · have e : catB (en11 al 0#64 0#64 w false d 0#64 0#32 0#32 im) (B r) = B (tx false false (rxL false w 0#64 d) 193 (⟨mrV 3#64 al d⟩ :: by8 im 0 :: r)) := by
      unfold en11
      rw [rxB_B]
      show B (((([] ++ rxL false w 0#64 d) ++ [193]) ++ ([⟨mrV 3#64 al d⟩])) ++ [by8 im 0] ++ r) = _
      exact congrArg B (by simp [tx, c4, c8])
    rw [e]
    have H := Hr.of' (al := false) (w := w) (half := false) (r := (⟨mrV 3#64 al d⟩ :: by8 im 0 :: r)) reg00 hd (opOK_of (by decide) : opOK false 193)
    have N := RgN.of false w (a := 0#64) (b := d) reg00 hd
    generalize B (tx false false (rxL false w 0#64 d) 193 (⟨mrV 3#64 al d⟩ :: by8 im 0 :: r)) = T at H ⊢
    have a0 : atB T (dI2 T) = 193#64 := H.at0.trans (by rfl)
    have a1 : atB T (dI2 T + 1#64) = m64 3#64 al d := H.at_ 1 (by decide)
    obtain ⟨g1, g2⟩ := dgN w (a := al) (b := d) (shift8 hA) hd
    have hM : mdD T (dI2 T) = al := by unfold mdD; rw [a1, g1]
    have hE : rgE T (dI2 T) (rxQ false w 0#64 d) = d := by unfold rgE; rw [a1, g2]
    have hI2 : nmR 1 T (dI2 T + 2#64) = im := (H.n1 2 (by decide) (v := im) (r := r) rfl).trans (sh_sx hI)
    have F : firF T (dI2 T) (XW w) false = (⟨11#64, al, 0#64, 0#64, w, false, 0#64, 0#64, 0#32, 0#32, im⟩ : MX) := by
      unfold firF
      simp [a0, XW, hM, hI2]
    unfold rgF dX1
    rw [H.two, H.half, H.hi, N.wd]
    rw [if_neg (by decide), F]
    simp [wid8, regF, hE]
set_option maxRecDepth 100000 in
set_option maxHeartbeats 4000000 in
theorem rr_12 (al cc sz : BitVec 64) (w sh : Bool) (d s : BitVec 64) (dp rl : BitVec 32) (im : BitVec 64) (hv : v12 al cc sz w sh d s dp rl im = true) (r : List UInt8) : rgF (catB (en12 al cc sz w sh d s dp rl im) (B r)) = ⟨12#64, al, cc, sz, w, sh, d, s, dp, rl, im⟩ := by
  unfold v12 at hv
  simp only [Bool.and_eq_true, Bool.not_eq_true', Bool.or_eq_true, beq_iff_eq] at hv
  obtain ⟨⟨⟨⟨⟨⟨⟨⟨rfl, rfl⟩, rfl⟩, rfl⟩, rfl⟩, rfl⟩, rfl⟩, hA⟩, hd, hs⟩ := hv
  · have e : catB (en12 al 0#64 0#64 w false d 0#64 0#32 0#32 0#64) (B r) = B (tx false false (rxL false w 0#64 d) 211 (⟨mrV 3#64 al d⟩ :: r)) := by
      unfold en12
      rw [rxB_B]
      show B (((([] ++ rxL false w 0#64 d) ++ [211]) ++ ([⟨mrV 3#64 al d⟩])) ++ [] ++ r) = _
      exact congrArg B (by simp [tx, c4, c8])
    rw [e]
    have H := Hr.of' (al := false) (w := w) (half := false) (r := (⟨mrV 3#64 al d⟩ :: r)) reg00 hd (opOK_of (by decide) : opOK false 211)
    have N := RgN.of false w (a := 0#64) (b := d) reg00 hd
    generalize B (tx false false (rxL false w 0#64 d) 211 (⟨mrV 3#64 al d⟩ :: r)) = T at H ⊢
    have a0 : atB T (dI2 T) = 211#64 := H.at0.trans (by rfl)
    have a1 : atB T (dI2 T + 1#64) = m64 3#64 al d := H.at_ 1 (by decide)
    obtain ⟨g1, g2⟩ := dgN w (a := al) (b := d) (shift8 hA) hd
    have hM : mdD T (dI2 T) = al := by unfold mdD; rw [a1, g1]
    have hE : rgE T (dI2 T) (rxQ false w 0#64 d) = d := by unfold rgE; rw [a1, g2]
    have F : firF T (dI2 T) (XW w) false = (⟨12#64, al, 0#64, 0#64, w, false, 0#64, 0#64, 0#32, 0#32, 0#64⟩ : MX) := by
      unfold firF
      simp [a0, XW, hM]
    unfold rgF dX1
    rw [H.two, H.half, H.hi, N.wd]
    rw [if_neg (by decide), F]
    simp [wid8, regF, hE]
set_option maxRecDepth 100000 in
set_option maxHeartbeats 4000000 in
theorem rr_13 (al cc sz : BitVec 64) (w sh : Bool) (d s : BitVec 64) (dp rl : BitVec 32) (im : BitVec 64) (hv : v13 al cc sz w sh d s dp rl im = true) (r : List UInt8) : rgF (catB (en13 al cc sz w sh d s dp rl im) (B r)) = ⟨13#64, al, cc, sz, w, sh, d, s, dp, rl, im⟩ := by
  unfold v13 at hv
  simp only [Bool.and_eq_true, Bool.not_eq_true', Bool.or_eq_true, beq_iff_eq] at hv
  obtain ⟨⟨⟨⟨⟨⟨⟨rfl, rfl⟩, rfl⟩, rfl⟩, rfl⟩, hZ⟩, rfl⟩, hd, hs⟩ := hv
  rcases size_in' hZ with rfl | rfl | rfl | rfl
  · cases hq : (s.srem 8#64 == 4#64)
    · have e : catB (en13 0#64 0#64 1#64 (1#64 == 8#64) false d s dp 0#32 0#64) (B r) = B (tx false true (rxL false false d s) 182 (⟨mrV 2#64 d s⟩ :: c4 ((sx dp)) (r))) := by
        unfold en13
        rw [rxB_B]
        rw [hq]
        show B (((([] ++ rxL false false d s) ++ [15, 182]) ++ ([⟨mrV 2#64 d s⟩] ++ b4 (sx dp))) ++ [] ++ r) = _
        exact congrArg B (by simp [tx, c4, c8])
      rw [e]
      have H := Hr.of' (al := false) (w := false) (half := false) (r := (⟨mrV 2#64 d s⟩ :: c4 ((sx dp)) (r))) hd hs (.inl rfl : opOK true 182)
      have N := RgN.of false false (a := d) (b := s) hd hs
      generalize B (tx false true (rxL false false d s) 182 (⟨mrV 2#64 d s⟩ :: c4 ((sx dp)) (r))) = T at H ⊢
      have a0 : atB T (dI2 T) = 182#64 := H.at0.trans (by rfl)
      have a1 : atB T (dI2 T + 1#64) = m64 2#64 d s := H.at_ 1 (by decide)
      have hR : rgR T (dI2 T) (rxQ false false d s) = d := by unfold rgR; rw [a1, N.r2]
      have hE : rgE T (dI2 T) (rxQ false false d s) = s := by unfold rgE; rw [a1, N.e2]
      have hD : rgD T (dI2 T) = dp := by
        unfold rgD
        rw [a1, N.s2, hq, if_neg (by decide), (H.n4 2 (by decide) (v := sx dp) (r := r) rfl), dp_sx]
      have F : secF T (dI2 T) (XW false) = (⟨13#64, 0#64, 0#64, 1#64, false, false, 0#64, 0#64, 0#32, 0#32, 0#64⟩ : MX) := by
        unfold secF
        simp [a0, XW]
      unfold rgF dX1
      rw [H.two, H.half, H.hi, N.wd]
      rw [if_pos rfl, F]
      simp [wid8, regF, hR, hE, hD]
    · have e : catB (en13 0#64 0#64 1#64 (1#64 == 8#64) false d s dp 0#32 0#64) (B r) = B (tx false true (rxL false false d s) 182 (⟨mrV 2#64 d s⟩ :: 36 :: c4 ((sx dp)) (r))) := by
        unfold en13
        rw [rxB_B]
        rw [hq]
        show B (((([] ++ rxL false false d s) ++ [15, 182]) ++ ([⟨mrV 2#64 d s⟩] ++ [36] ++ b4 (sx dp))) ++ [] ++ r) = _
        exact congrArg B (by simp [tx, c4, c8])
      rw [e]
      have H := Hr.of' (al := false) (w := false) (half := false) (r := (⟨mrV 2#64 d s⟩ :: 36 :: c4 ((sx dp)) (r))) hd hs (.inl rfl : opOK true 182)
      have N := RgN.of false false (a := d) (b := s) hd hs
      generalize B (tx false true (rxL false false d s) 182 (⟨mrV 2#64 d s⟩ :: 36 :: c4 ((sx dp)) (r))) = T at H ⊢
      have a0 : atB T (dI2 T) = 182#64 := H.at0.trans (by rfl)
      have a1 : atB T (dI2 T + 1#64) = m64 2#64 d s := H.at_ 1 (by decide)
      have hR : rgR T (dI2 T) (rxQ false false d s) = d := by unfold rgR; rw [a1, N.r2]
      have hE : rgE T (dI2 T) (rxQ false false d s) = s := by unfold rgE; rw [a1, N.e2]
      have hD : rgD T (dI2 T) = dp := by
        unfold rgD
        rw [a1, N.s2, hq, if_pos rfl, show dI2 T + 2#64 + 1#64 = dI2 T + 3#64 from by rw [BitVec.add_assoc]; rfl, (H.n4 3 (by decide) (v := sx dp) (r := r) rfl), dp_sx]
      have F : secF T (dI2 T) (XW false) = (⟨13#64, 0#64, 0#64, 1#64, false, false, 0#64, 0#64, 0#32, 0#32, 0#64⟩ : MX) := by
        unfold secF
        simp [a0, XW]
      unfold rgF dX1
      rw [H.two, H.half, H.hi, N.wd]
      rw [if_pos rfl, F]
      simp [wid8, regF, hR, hE, hD]
  · cases hq : (s.srem 8#64 == 4#64)
    · have e : catB (en13 0#64 0#64 2#64 (2#64 == 8#64) false d s dp 0#32 0#64) (B r) = B (tx false true (rxL false false d s) 183 (⟨mrV 2#64 d s⟩ :: c4 ((sx dp)) (r))) := by
        unfold en13
        rw [rxB_B]
        rw [hq]
        show B (((([] ++ rxL false false d s) ++ [15, 183]) ++ ([⟨mrV 2#64 d s⟩] ++ b4 (sx dp))) ++ [] ++ r) = _
        exact congrArg B (by simp [tx, c4, c8])
      rw [e]
      have H := Hr.of' (al := false) (w := false) (half := false) (r := (⟨mrV 2#64 d s⟩ :: c4 ((sx dp)) (r))) hd hs (.inl rfl : opOK true 183)
      have N := RgN.of false false (a := d) (b := s) hd hs
      generalize B (tx false true (rxL false false d s) 183 (⟨mrV 2#64 d s⟩ :: c4 ((sx dp)) (r))) = T at H ⊢
      have a0 : atB T (dI2 T) = 183#64 := H.at0.trans (by rfl)
      have a1 : atB T (dI2 T + 1#64) = m64 2#64 d s := H.at_ 1 (by decide)
      have hR : rgR T (dI2 T) (rxQ false false d s) = d := by unfold rgR; rw [a1, N.r2]
      have hE : rgE T (dI2 T) (rxQ false false d s) = s := by unfold rgE; rw [a1, N.e2]
      have hD : rgD T (dI2 T) = dp := by
        unfold rgD
        rw [a1, N.s2, hq, if_neg (by decide), (H.n4 2 (by decide) (v := sx dp) (r := r) rfl), dp_sx]
      have F : secF T (dI2 T) (XW false) = (⟨13#64, 0#64, 0#64, 2#64, false, false, 0#64, 0#64, 0#32, 0#32, 0#64⟩ : MX) := by
        unfold secF
        simp [a0, XW]
      unfold rgF dX1
      rw [H.two, H.half, H.hi, N.wd]
      rw [if_pos rfl, F]
      simp [wid8, regF, hR, hE, hD]
    · have e : catB (en13 0#64 0#64 2#64 (2#64 == 8#64) false d s dp 0#32 0#64) (B r) = B (tx false true (rxL false false d s) 183 (⟨mrV 2#64 d s⟩ :: 36 :: c4 ((sx dp)) (r))) := by
        unfold en13
        rw [rxB_B]
        rw [hq]
        show B (((([] ++ rxL false false d s) ++ [15, 183]) ++ ([⟨mrV 2#64 d s⟩] ++ [36] ++ b4 (sx dp))) ++ [] ++ r) = _
        exact congrArg B (by simp [tx, c4, c8])
      rw [e]
      have H := Hr.of' (al := false) (w := false) (half := false) (r := (⟨mrV 2#64 d s⟩ :: 36 :: c4 ((sx dp)) (r))) hd hs (.inl rfl : opOK true 183)
      have N := RgN.of false false (a := d) (b := s) hd hs
      generalize B (tx false true (rxL false false d s) 183 (⟨mrV 2#64 d s⟩ :: 36 :: c4 ((sx dp)) (r))) = T at H ⊢
      have a0 : atB T (dI2 T) = 183#64 := H.at0.trans (by rfl)
      have a1 : atB T (dI2 T + 1#64) = m64 2#64 d s := H.at_ 1 (by decide)
      have hR : rgR T (dI2 T) (rxQ false false d s) = d := by unfold rgR; rw [a1, N.r2]
      have hE : rgE T (dI2 T) (rxQ false false d s) = s := by unfold rgE; rw [a1, N.e2]
      have hD : rgD T (dI2 T) = dp := by
        unfold rgD
        rw [a1, N.s2, hq, if_pos rfl, show dI2 T + 2#64 + 1#64 = dI2 T + 3#64 from by rw [BitVec.add_assoc]; rfl, (H.n4 3 (by decide) (v := sx dp) (r := r) rfl), dp_sx]
      have F : secF T (dI2 T) (XW false) = (⟨13#64, 0#64, 0#64, 2#64, false, false, 0#64, 0#64, 0#32, 0#32, 0#64⟩ : MX) := by
        unfold secF
        simp [a0, XW]
      unfold rgF dX1
      rw [H.two, H.half, H.hi, N.wd]
      rw [if_pos rfl, F]
      simp [wid8, regF, hR, hE, hD]
  · cases hq : (s.srem 8#64 == 4#64)
    · have e : catB (en13 0#64 0#64 4#64 (4#64 == 8#64) false d s dp 0#32 0#64) (B r) = B (tx false false (rxL false false d s) 139 (⟨mrV 2#64 d s⟩ :: c4 ((sx dp)) (r))) := by
        unfold en13
        rw [rxB_B]
        rw [hq]
        show B (((([] ++ rxL false false d s) ++ [139]) ++ ([⟨mrV 2#64 d s⟩] ++ b4 (sx dp))) ++ [] ++ r) = _
        exact congrArg B (by simp [tx, c4, c8])
      rw [e]
      have H := Hr.of' (al := false) (w := false) (half := false) (r := (⟨mrV 2#64 d s⟩ :: c4 ((sx dp)) (r))) hd hs (opOK_of (by decide) : opOK false 139)
      have N := RgN.of false false (a := d) (b := s) hd hs
      generalize B (tx false false (rxL false false d s) 139 (⟨mrV 2#64 d s⟩ :: c4 ((sx dp)) (r))) = T at H ⊢
      have a0 : atB T (dI2 T) = 139#64 := H.at0.trans (by rfl)
      have a1 : atB T (dI2 T + 1#64) = m64 2#64 d s := H.at_ 1 (by decide)
      have hR : rgR T (dI2 T) (rxQ false false d s) = d := by unfold rgR; rw [a1, N.r2]
      have hE : rgE T (dI2 T) (rxQ false false d s) = s := by unfold rgE; rw [a1, N.e2]
      have hD : rgD T (dI2 T) = dp := by
        unfold rgD
        rw [a1, N.s2, hq, if_neg (by decide), (H.n4 2 (by decide) (v := sx dp) (r := r) rfl), dp_sx]
      have F : firF T (dI2 T) (XW false) false = (⟨13#64, 0#64, 0#64, 4#64, false, false, 0#64, 0#64, 0#32, 0#32, 0#64⟩ : MX) := by
        unfold firF
        simp [a0, XW]
      unfold rgF dX1
      rw [H.two, H.half, H.hi, N.wd]
      rw [if_neg (by decide), F]
      simp [wid8, regF, hR, hE, hD]
    · have e : catB (en13 0#64 0#64 4#64 (4#64 == 8#64) false d s dp 0#32 0#64) (B r) = B (tx false false (rxL false false d s) 139 (⟨mrV 2#64 d s⟩ :: 36 :: c4 ((sx dp)) (r))) := by
        unfold en13
        rw [rxB_B]
        rw [hq]
        show B (((([] ++ rxL false false d s) ++ [139]) ++ ([⟨mrV 2#64 d s⟩] ++ [36] ++ b4 (sx dp))) ++ [] ++ r) = _
        exact congrArg B (by simp [tx, c4, c8])
      rw [e]
      have H := Hr.of' (al := false) (w := false) (half := false) (r := (⟨mrV 2#64 d s⟩ :: 36 :: c4 ((sx dp)) (r))) hd hs (opOK_of (by decide) : opOK false 139)
      have N := RgN.of false false (a := d) (b := s) hd hs
      generalize B (tx false false (rxL false false d s) 139 (⟨mrV 2#64 d s⟩ :: 36 :: c4 ((sx dp)) (r))) = T at H ⊢
      have a0 : atB T (dI2 T) = 139#64 := H.at0.trans (by rfl)
      have a1 : atB T (dI2 T + 1#64) = m64 2#64 d s := H.at_ 1 (by decide)
      have hR : rgR T (dI2 T) (rxQ false false d s) = d := by unfold rgR; rw [a1, N.r2]
      have hE : rgE T (dI2 T) (rxQ false false d s) = s := by unfold rgE; rw [a1, N.e2]
      have hD : rgD T (dI2 T) = dp := by
        unfold rgD
        rw [a1, N.s2, hq, if_pos rfl, show dI2 T + 2#64 + 1#64 = dI2 T + 3#64 from by rw [BitVec.add_assoc]; rfl, (H.n4 3 (by decide) (v := sx dp) (r := r) rfl), dp_sx]
      have F : firF T (dI2 T) (XW false) false = (⟨13#64, 0#64, 0#64, 4#64, false, false, 0#64, 0#64, 0#32, 0#32, 0#64⟩ : MX) := by
        unfold firF
        simp [a0, XW]
      unfold rgF dX1
      rw [H.two, H.half, H.hi, N.wd]
      rw [if_neg (by decide), F]
      simp [wid8, regF, hR, hE, hD]
  · cases hq : (s.srem 8#64 == 4#64)
    · have e : catB (en13 0#64 0#64 8#64 (8#64 == 8#64) false d s dp 0#32 0#64) (B r) = B (tx false false (rxL false true d s) 139 (⟨mrV 2#64 d s⟩ :: c4 ((sx dp)) (r))) := by
        unfold en13
        rw [rxB_B]
        rw [hq]
        show B (((([] ++ rxL false true d s) ++ [139]) ++ ([⟨mrV 2#64 d s⟩] ++ b4 (sx dp))) ++ [] ++ r) = _
        exact congrArg B (by simp [tx, c4, c8])
      rw [e]
      have H := Hr.of' (al := false) (w := true) (half := false) (r := (⟨mrV 2#64 d s⟩ :: c4 ((sx dp)) (r))) hd hs (opOK_of (by decide) : opOK false 139)
      have N := RgN.of false true (a := d) (b := s) hd hs
      generalize B (tx false false (rxL false true d s) 139 (⟨mrV 2#64 d s⟩ :: c4 ((sx dp)) (r))) = T at H ⊢
      have a0 : atB T (dI2 T) = 139#64 := H.at0.trans (by rfl)
      have a1 : atB T (dI2 T + 1#64) = m64 2#64 d s := H.at_ 1 (by decide)
      have hR : rgR T (dI2 T) (rxQ false true d s) = d := by unfold rgR; rw [a1, N.r2]
      have hE : rgE T (dI2 T) (rxQ false true d s) = s := by unfold rgE; rw [a1, N.e2]
      have hD : rgD T (dI2 T) = dp := by
        unfold rgD
        rw [a1, N.s2, hq, if_neg (by decide), (H.n4 2 (by decide) (v := sx dp) (r := r) rfl), dp_sx]
      have F : firF T (dI2 T) (XW true) false = (⟨13#64, 0#64, 0#64, 4#64, true, false, 0#64, 0#64, 0#32, 0#32, 0#64⟩ : MX) := by
        unfold firF
        simp [a0, XW]
      unfold rgF dX1
      rw [H.two, H.half, H.hi, N.wd]
      rw [if_neg (by decide), F]
      simp [wid8, regF, hR, hE, hD]
    · have e : catB (en13 0#64 0#64 8#64 (8#64 == 8#64) false d s dp 0#32 0#64) (B r) = B (tx false false (rxL false true d s) 139 (⟨mrV 2#64 d s⟩ :: 36 :: c4 ((sx dp)) (r))) := by
        unfold en13
        rw [rxB_B]
        rw [hq]
        show B (((([] ++ rxL false true d s) ++ [139]) ++ ([⟨mrV 2#64 d s⟩] ++ [36] ++ b4 (sx dp))) ++ [] ++ r) = _
        exact congrArg B (by simp [tx, c4, c8])
      rw [e]
      have H := Hr.of' (al := false) (w := true) (half := false) (r := (⟨mrV 2#64 d s⟩ :: 36 :: c4 ((sx dp)) (r))) hd hs (opOK_of (by decide) : opOK false 139)
      have N := RgN.of false true (a := d) (b := s) hd hs
      generalize B (tx false false (rxL false true d s) 139 (⟨mrV 2#64 d s⟩ :: 36 :: c4 ((sx dp)) (r))) = T at H ⊢
      have a0 : atB T (dI2 T) = 139#64 := H.at0.trans (by rfl)
      have a1 : atB T (dI2 T + 1#64) = m64 2#64 d s := H.at_ 1 (by decide)
      have hR : rgR T (dI2 T) (rxQ false true d s) = d := by unfold rgR; rw [a1, N.r2]
      have hE : rgE T (dI2 T) (rxQ false true d s) = s := by unfold rgE; rw [a1, N.e2]
      have hD : rgD T (dI2 T) = dp := by
        unfold rgD
        rw [a1, N.s2, hq, if_pos rfl, show dI2 T + 2#64 + 1#64 = dI2 T + 3#64 from by rw [BitVec.add_assoc]; rfl, (H.n4 3 (by decide) (v := sx dp) (r := r) rfl), dp_sx]
      have F : firF T (dI2 T) (XW true) false = (⟨13#64, 0#64, 0#64, 4#64, true, false, 0#64, 0#64, 0#32, 0#32, 0#64⟩ : MX) := by
        unfold firF
        simp [a0, XW]
      unfold rgF dX1
      rw [H.two, H.half, H.hi, N.wd]
      rw [if_neg (by decide), F]
      simp [wid8, regF, hR, hE, hD]
set_option maxRecDepth 100000 in
set_option maxHeartbeats 4000000 in
theorem rr_14 (al cc sz : BitVec 64) (w sh : Bool) (d s : BitVec 64) (dp rl : BitVec 32) (im : BitVec 64) (hv : v14 al cc sz w sh d s dp rl im = true) (r : List UInt8) : rgF (catB (en14 al cc sz w sh d s dp rl im) (B r)) = ⟨14#64, al, cc, sz, w, sh, d, s, dp, rl, im⟩ := by
  unfold v14 at hv
  simp only [Bool.and_eq_true, Bool.not_eq_true', Bool.or_eq_true, beq_iff_eq] at hv
  obtain ⟨⟨⟨⟨⟨⟨⟨rfl, rfl⟩, rfl⟩, rfl⟩, rfl⟩, hZ⟩, rfl⟩, hd, hs⟩ := hv
  rcases size_in' hZ with rfl | rfl | rfl | rfl
  · cases hq : (d.srem 8#64 == 4#64)
    · have e : catB (en14 0#64 0#64 1#64 (1#64 == 8#64) false d s dp 0#32 0#64) (B r) = B (tx false false (rxL true false s d) 136 (⟨mrV 2#64 s d⟩ :: c4 ((sx dp)) (r))) := by
        unfold en14
        rw [rxB_B]
        rw [hq]
        show B (((([] ++ rxL true false s d) ++ [136]) ++ ([⟨mrV 2#64 s d⟩] ++ b4 (sx dp))) ++ [] ++ r) = _
        exact congrArg B (by simp [tx, c4, c8])
      rw [e]
      have H := Hr.of' (al := true) (w := false) (half := false) (r := (⟨mrV 2#64 s d⟩ :: c4 ((sx dp)) (r))) hs hd (opOK_of (by decide) : opOK false 136)
      have N := RgN.of true false (a := s) (b := d) hs hd
      generalize B (tx false false (rxL true false s d) 136 (⟨mrV 2#64 s d⟩ :: c4 ((sx dp)) (r))) = T at H ⊢
      have a0 : atB T (dI2 T) = 136#64 := H.at0.trans (by rfl)
      have a1 : atB T (dI2 T + 1#64) = m64 2#64 s d := H.at_ 1 (by decide)
      have hR : rgR T (dI2 T) (rxQ true false s d) = s := by unfold rgR; rw [a1, N.r2]
      have hE : rgE T (dI2 T) (rxQ true false s d) = d := by unfold rgE; rw [a1, N.e2]
      have hD : rgD T (dI2 T) = dp := by
        unfold rgD
        rw [a1, N.s2, hq, if_neg (by decide), (H.n4 2 (by decide) (v := sx dp) (r := r) rfl), dp_sx]
      have F : firF T (dI2 T) (XW false) false = (⟨14#64, 0#64, 0#64, 1#64, false, false, 0#64, 0#64, 0#32, 0#32, 0#64⟩ : MX) := by
        unfold firF
        simp [a0, XW]
      unfold rgF dX1
      rw [H.two, H.half, H.hi, N.wd]
      rw [if_neg (by decide), F]
      simp [wid8, regF, hR, hE, hD]
    · have e : catB (en14 0#64 0#64 1#64 (1#64 == 8#64) false d s dp 0#32 0#64) (B r) = B (tx false false (rxL true false s d) 136 (⟨mrV 2#64 s d⟩ :: 36 :: c4 ((sx dp)) (r))) := by
        unfold en14
        rw [rxB_B]
        rw [hq]
        show B (((([] ++ rxL true false s d) ++ [136]) ++ ([⟨mrV 2#64 s d⟩] ++ [36] ++ b4 (sx dp))) ++ [] ++ r) = _
        exact congrArg B (by simp [tx, c4, c8])
      rw [e]
      have H := Hr.of' (al := true) (w := false) (half := false) (r := (⟨mrV 2#64 s d⟩ :: 36 :: c4 ((sx dp)) (r))) hs hd (opOK_of (by decide) : opOK false 136)
      have N := RgN.of true false (a := s) (b := d) hs hd
      generalize B (tx false false (rxL true false s d) 136 (⟨mrV 2#64 s d⟩ :: 36 :: c4 ((sx dp)) (r))) = T at H ⊢
      have a0 : atB T (dI2 T) = 136#64 := H.at0.trans (by rfl)
      have a1 : atB T (dI2 T + 1#64) = m64 2#64 s d := H.at_ 1 (by decide)
      have hR : rgR T (dI2 T) (rxQ true false s d) = s := by unfold rgR; rw [a1, N.r2]
      have hE : rgE T (dI2 T) (rxQ true false s d) = d := by unfold rgE; rw [a1, N.e2]
      have hD : rgD T (dI2 T) = dp := by
        unfold rgD
        rw [a1, N.s2, hq, if_pos rfl, show dI2 T + 2#64 + 1#64 = dI2 T + 3#64 from by rw [BitVec.add_assoc]; rfl, (H.n4 3 (by decide) (v := sx dp) (r := r) rfl), dp_sx]
      have F : firF T (dI2 T) (XW false) false = (⟨14#64, 0#64, 0#64, 1#64, false, false, 0#64, 0#64, 0#32, 0#32, 0#64⟩ : MX) := by
        unfold firF
        simp [a0, XW]
      unfold rgF dX1
      rw [H.two, H.half, H.hi, N.wd]
      rw [if_neg (by decide), F]
      simp [wid8, regF, hR, hE, hD]
  · cases hq : (d.srem 8#64 == 4#64)
    · have e : catB (en14 0#64 0#64 2#64 (2#64 == 8#64) false d s dp 0#32 0#64) (B r) = B (tx true false (rxL false false s d) 137 (⟨mrV 2#64 s d⟩ :: c4 ((sx dp)) (r))) := by
        unfold en14
        rw [rxB_B]
        rw [hq]
        show B (((([102] ++ rxL false false s d) ++ [137]) ++ ([⟨mrV 2#64 s d⟩] ++ b4 (sx dp))) ++ [] ++ r) = _
        exact congrArg B (by simp [tx, c4, c8])
      rw [e]
      have H := Hr.of' (al := false) (w := false) (half := true) (r := (⟨mrV 2#64 s d⟩ :: c4 ((sx dp)) (r))) hs hd (opOK_of (by decide) : opOK false 137)
      have N := RgN.of false false (a := s) (b := d) hs hd
      generalize B (tx true false (rxL false false s d) 137 (⟨mrV 2#64 s d⟩ :: c4 ((sx dp)) (r))) = T at H ⊢
      have a0 : atB T (dI2 T) = 137#64 := H.at0.trans (by rfl)
      have a1 : atB T (dI2 T + 1#64) = m64 2#64 s d := H.at_ 1 (by decide)
      have hR : rgR T (dI2 T) (rxQ false false s d) = s := by unfold rgR; rw [a1, N.r2]
      have hE : rgE T (dI2 T) (rxQ false false s d) = d := by unfold rgE; rw [a1, N.e2]
      have hD : rgD T (dI2 T) = dp := by
        unfold rgD
        rw [a1, N.s2, hq, if_neg (by decide), (H.n4 2 (by decide) (v := sx dp) (r := r) rfl), dp_sx]
      have F : firF T (dI2 T) (XW false) true = (⟨14#64, 0#64, 0#64, 2#64, false, false, 0#64, 0#64, 0#32, 0#32, 0#64⟩ : MX) := by
        unfold firF
        simp [a0, XW, a1, N.p2]
      unfold rgF dX1
      rw [H.two, H.half, H.hi, N.wd]
      rw [if_neg (by decide), F]
      simp [wid8, regF, hR, hE, hD]
    · have e : catB (en14 0#64 0#64 2#64 (2#64 == 8#64) false d s dp 0#32 0#64) (B r) = B (tx true false (rxL false false s d) 137 (⟨mrV 2#64 s d⟩ :: 36 :: c4 ((sx dp)) (r))) := by
        unfold en14
        rw [rxB_B]
        rw [hq]
        show B (((([102] ++ rxL false false s d) ++ [137]) ++ ([⟨mrV 2#64 s d⟩] ++ [36] ++ b4 (sx dp))) ++ [] ++ r) = _
        exact congrArg B (by simp [tx, c4, c8])
      rw [e]
      have H := Hr.of' (al := false) (w := false) (half := true) (r := (⟨mrV 2#64 s d⟩ :: 36 :: c4 ((sx dp)) (r))) hs hd (opOK_of (by decide) : opOK false 137)
      have N := RgN.of false false (a := s) (b := d) hs hd
      generalize B (tx true false (rxL false false s d) 137 (⟨mrV 2#64 s d⟩ :: 36 :: c4 ((sx dp)) (r))) = T at H ⊢
      have a0 : atB T (dI2 T) = 137#64 := H.at0.trans (by rfl)
      have a1 : atB T (dI2 T + 1#64) = m64 2#64 s d := H.at_ 1 (by decide)
      have hR : rgR T (dI2 T) (rxQ false false s d) = s := by unfold rgR; rw [a1, N.r2]
      have hE : rgE T (dI2 T) (rxQ false false s d) = d := by unfold rgE; rw [a1, N.e2]
      have hD : rgD T (dI2 T) = dp := by
        unfold rgD
        rw [a1, N.s2, hq, if_pos rfl, show dI2 T + 2#64 + 1#64 = dI2 T + 3#64 from by rw [BitVec.add_assoc]; rfl, (H.n4 3 (by decide) (v := sx dp) (r := r) rfl), dp_sx]
      have F : firF T (dI2 T) (XW false) true = (⟨14#64, 0#64, 0#64, 2#64, false, false, 0#64, 0#64, 0#32, 0#32, 0#64⟩ : MX) := by
        unfold firF
        simp [a0, XW, a1, N.p2]
      unfold rgF dX1
      rw [H.two, H.half, H.hi, N.wd]
      rw [if_neg (by decide), F]
      simp [wid8, regF, hR, hE, hD]
  · cases hq : (d.srem 8#64 == 4#64)
    · have e : catB (en14 0#64 0#64 4#64 (4#64 == 8#64) false d s dp 0#32 0#64) (B r) = B (tx false false (rxL false false s d) 137 (⟨mrV 2#64 s d⟩ :: c4 ((sx dp)) (r))) := by
        unfold en14
        rw [rxB_B]
        rw [hq]
        show B (((([] ++ rxL false false s d) ++ [137]) ++ ([⟨mrV 2#64 s d⟩] ++ b4 (sx dp))) ++ [] ++ r) = _
        exact congrArg B (by simp [tx, c4, c8])
      rw [e]
      have H := Hr.of' (al := false) (w := false) (half := false) (r := (⟨mrV 2#64 s d⟩ :: c4 ((sx dp)) (r))) hs hd (opOK_of (by decide) : opOK false 137)
      have N := RgN.of false false (a := s) (b := d) hs hd
      generalize B (tx false false (rxL false false s d) 137 (⟨mrV 2#64 s d⟩ :: c4 ((sx dp)) (r))) = T at H ⊢
      have a0 : atB T (dI2 T) = 137#64 := H.at0.trans (by rfl)
      have a1 : atB T (dI2 T + 1#64) = m64 2#64 s d := H.at_ 1 (by decide)
      have hR : rgR T (dI2 T) (rxQ false false s d) = s := by unfold rgR; rw [a1, N.r2]
      have hE : rgE T (dI2 T) (rxQ false false s d) = d := by unfold rgE; rw [a1, N.e2]
      have hD : rgD T (dI2 T) = dp := by
        unfold rgD
        rw [a1, N.s2, hq, if_neg (by decide), (H.n4 2 (by decide) (v := sx dp) (r := r) rfl), dp_sx]
      have F : firF T (dI2 T) (XW false) false = (⟨14#64, 0#64, 0#64, 4#64, false, false, 0#64, 0#64, 0#32, 0#32, 0#64⟩ : MX) := by
        unfold firF
        simp [a0, XW, a1, N.p2]
      unfold rgF dX1
      rw [H.two, H.half, H.hi, N.wd]
      rw [if_neg (by decide), F]
      simp [wid8, regF, hR, hE, hD]
    · have e : catB (en14 0#64 0#64 4#64 (4#64 == 8#64) false d s dp 0#32 0#64) (B r) = B (tx false false (rxL false false s d) 137 (⟨mrV 2#64 s d⟩ :: 36 :: c4 ((sx dp)) (r))) := by
        unfold en14
        rw [rxB_B]
        rw [hq]
        show B (((([] ++ rxL false false s d) ++ [137]) ++ ([⟨mrV 2#64 s d⟩] ++ [36] ++ b4 (sx dp))) ++ [] ++ r) = _
        exact congrArg B (by simp [tx, c4, c8])
      rw [e]
      have H := Hr.of' (al := false) (w := false) (half := false) (r := (⟨mrV 2#64 s d⟩ :: 36 :: c4 ((sx dp)) (r))) hs hd (opOK_of (by decide) : opOK false 137)
      have N := RgN.of false false (a := s) (b := d) hs hd
      generalize B (tx false false (rxL false false s d) 137 (⟨mrV 2#64 s d⟩ :: 36 :: c4 ((sx dp)) (r))) = T at H ⊢
      have a0 : atB T (dI2 T) = 137#64 := H.at0.trans (by rfl)
      have a1 : atB T (dI2 T + 1#64) = m64 2#64 s d := H.at_ 1 (by decide)
      have hR : rgR T (dI2 T) (rxQ false false s d) = s := by unfold rgR; rw [a1, N.r2]
      have hE : rgE T (dI2 T) (rxQ false false s d) = d := by unfold rgE; rw [a1, N.e2]
      have hD : rgD T (dI2 T) = dp := by
        unfold rgD
        rw [a1, N.s2, hq, if_pos rfl, show dI2 T + 2#64 + 1#64 = dI2 T + 3#64 from by rw [BitVec.add_assoc]; rfl, (H.n4 3 (by decide) (v := sx dp) (r := r) rfl), dp_sx]
      have F : firF T (dI2 T) (XW false) false = (⟨14#64, 0#64, 0#64, 4#64, false, false, 0#64, 0#64, 0#32, 0#32, 0#64⟩ : MX) := by
        unfold firF
        simp [a0, XW, a1, N.p2]
      unfold rgF dX1
      rw [H.two, H.half, H.hi, N.wd]
      rw [if_neg (by decide), F]
      simp [wid8, regF, hR, hE, hD]
  · cases hq : (d.srem 8#64 == 4#64)
    · have e : catB (en14 0#64 0#64 8#64 (8#64 == 8#64) false d s dp 0#32 0#64) (B r) = B (tx false false (rxL false true s d) 137 (⟨mrV 2#64 s d⟩ :: c4 ((sx dp)) (r))) := by
        unfold en14
        rw [rxB_B]
        rw [hq]
        show B (((([] ++ rxL false true s d) ++ [137]) ++ ([⟨mrV 2#64 s d⟩] ++ b4 (sx dp))) ++ [] ++ r) = _
        exact congrArg B (by simp [tx, c4, c8])
      rw [e]
      have H := Hr.of' (al := false) (w := true) (half := false) (r := (⟨mrV 2#64 s d⟩ :: c4 ((sx dp)) (r))) hs hd (opOK_of (by decide) : opOK false 137)
      have N := RgN.of false true (a := s) (b := d) hs hd
      generalize B (tx false false (rxL false true s d) 137 (⟨mrV 2#64 s d⟩ :: c4 ((sx dp)) (r))) = T at H ⊢
      have a0 : atB T (dI2 T) = 137#64 := H.at0.trans (by rfl)
      have a1 : atB T (dI2 T + 1#64) = m64 2#64 s d := H.at_ 1 (by decide)
      have hR : rgR T (dI2 T) (rxQ false true s d) = s := by unfold rgR; rw [a1, N.r2]
      have hE : rgE T (dI2 T) (rxQ false true s d) = d := by unfold rgE; rw [a1, N.e2]
      have hD : rgD T (dI2 T) = dp := by
        unfold rgD
        rw [a1, N.s2, hq, if_neg (by decide), (H.n4 2 (by decide) (v := sx dp) (r := r) rfl), dp_sx]
      have F : firF T (dI2 T) (XW true) false = (⟨14#64, 0#64, 0#64, 4#64, true, false, 0#64, 0#64, 0#32, 0#32, 0#64⟩ : MX) := by
        unfold firF
        simp [a0, XW, a1, N.p2]
      unfold rgF dX1
      rw [H.two, H.half, H.hi, N.wd]
      rw [if_neg (by decide), F]
      simp [wid8, regF, hR, hE, hD]
    · have e : catB (en14 0#64 0#64 8#64 (8#64 == 8#64) false d s dp 0#32 0#64) (B r) = B (tx false false (rxL false true s d) 137 (⟨mrV 2#64 s d⟩ :: 36 :: c4 ((sx dp)) (r))) := by
        unfold en14
        rw [rxB_B]
        rw [hq]
        show B (((([] ++ rxL false true s d) ++ [137]) ++ ([⟨mrV 2#64 s d⟩] ++ [36] ++ b4 (sx dp))) ++ [] ++ r) = _
        exact congrArg B (by simp [tx, c4, c8])
      rw [e]
      have H := Hr.of' (al := false) (w := true) (half := false) (r := (⟨mrV 2#64 s d⟩ :: 36 :: c4 ((sx dp)) (r))) hs hd (opOK_of (by decide) : opOK false 137)
      have N := RgN.of false true (a := s) (b := d) hs hd
      generalize B (tx false false (rxL false true s d) 137 (⟨mrV 2#64 s d⟩ :: 36 :: c4 ((sx dp)) (r))) = T at H ⊢
      have a0 : atB T (dI2 T) = 137#64 := H.at0.trans (by rfl)
      have a1 : atB T (dI2 T + 1#64) = m64 2#64 s d := H.at_ 1 (by decide)
      have hR : rgR T (dI2 T) (rxQ false true s d) = s := by unfold rgR; rw [a1, N.r2]
      have hE : rgE T (dI2 T) (rxQ false true s d) = d := by unfold rgE; rw [a1, N.e2]
      have hD : rgD T (dI2 T) = dp := by
        unfold rgD
        rw [a1, N.s2, hq, if_pos rfl, show dI2 T + 2#64 + 1#64 = dI2 T + 3#64 from by rw [BitVec.add_assoc]; rfl, (H.n4 3 (by decide) (v := sx dp) (r := r) rfl), dp_sx]
      have F : firF T (dI2 T) (XW true) false = (⟨14#64, 0#64, 0#64, 4#64, true, false, 0#64, 0#64, 0#32, 0#32, 0#64⟩ : MX) := by
        unfold firF
        simp [a0, XW, a1, N.p2]
      unfold rgF dX1
      rw [H.two, H.half, H.hi, N.wd]
      rw [if_neg (by decide), F]
      simp [wid8, regF, hR, hE, hD]
set_option maxRecDepth 100000 in
set_option maxHeartbeats 4000000 in
theorem rr_15 (al cc sz : BitVec 64) (w sh : Bool) (d s : BitVec 64) (dp rl : BitVec 32) (im : BitVec 64) (hv : v15 al cc sz w sh d s dp rl im = true) (r : List UInt8) : rgF (catB (en15 al cc sz w sh d s dp rl im) (B r)) = ⟨15#64, al, cc, sz, w, sh, d, s, dp, rl, im⟩ := by
  unfold v15 at hv
  simp only [Bool.and_eq_true, Bool.not_eq_true', Bool.or_eq_true, beq_iff_eq] at hv
  obtain ⟨⟨⟨⟨⟨⟨⟨⟨⟨rfl, rfl⟩, rfl⟩, rfl⟩, rfl⟩, rfl⟩, rfl⟩, rfl⟩, hR⟩, hd, hs⟩ := hv
  cases sh
  · have e : catB (en15 0#64 0#64 0#64 false false 0#64 0#64 0#32 rl 0#64) (B r) = B (tx false false (rxL false false 0#64 0#64) 233 (c4 ((sx rl)) (r))) := by
      unfold en15
      rw [rxB_B]
      show B (((([] ++ rxL false false 0#64 0#64) ++ [233]) ++ (b4 (sx rl))) ++ [] ++ r) = _
      exact congrArg B (by simp [tx, c4, c8])
    rw [e]
    have H := Hr.of' (al := false) (w := false) (half := false) (r := (c4 ((sx rl)) (r))) reg00 reg00 (opOK_of (by decide) : opOK false 233)
    have N := RgN.of false false (a := 0#64) (b := 0#64) reg00 reg00
    generalize B (tx false false (rxL false false 0#64 0#64) 233 (c4 ((sx rl)) (r))) = T at H ⊢
    have a0 : atB T (dI2 T) = 233#64 := H.at0.trans (by rfl)
    have hL : BitVec.signExtend 32 (nmR 4 T (dI2 T + 1#64)) = rl := by rw [H.n4 1 (by decide) (v := sx rl) (r := r) rfl, dp_sx]
    have F : firF T (dI2 T) (XW false) false = (⟨15#64, 0#64, 0#64, 0#64, false, false, 0#64, 0#64, 0#32, rl, 0#64⟩ : MX) := by
      unfold firF
      simp [a0, XW, hL]
    unfold rgF dX1
    rw [H.two, H.half, H.hi, N.wd]
    rw [if_neg (by decide), F]
    simp [wid8, regF, hL]
  · have e : catB (en15 0#64 0#64 0#64 false true 0#64 0#64 0#32 rl 0#64) (B r) = B (tx false false (rxL false false 0#64 0#64) 235 (by8 (sx rl) 0 :: r)) := by
      unfold en15
      rw [rxB_B]
      show B (((([] ++ rxL false false 0#64 0#64) ++ [235]) ++ ([by8 (sx rl) 0])) ++ [] ++ r) = _
      exact congrArg B (by simp [tx, c4, c8])
    rw [e]
    have H := Hr.of' (al := false) (w := false) (half := false) (r := (by8 (sx rl) 0 :: r)) reg00 reg00 (opOK_of (by decide) : opOK false 235)
    have N := RgN.of false false (a := 0#64) (b := 0#64) reg00 reg00
    generalize B (tx false false (rxL false false 0#64 0#64) 235 (by8 (sx rl) 0 :: r)) = T at H ⊢
    have a0 : atB T (dI2 T) = 235#64 := H.at0.trans (by rfl)
    have hL : BitVec.signExtend 32 (nmR 1 T (dI2 T + 1#64)) = rl := by rw [H.n1 1 (by decide) (v := sx rl) (r := r) rfl, rel_sx (hR.resolve_left (by decide))]
    have F : firF T (dI2 T) (XW false) false = (⟨15#64, 0#64, 0#64, 0#64, false, true, 0#64, 0#64, 0#32, rl, 0#64⟩ : MX) := by
      unfold firF
      simp [a0, XW, hL]
    unfold rgF dX1
    rw [H.two, H.half, H.hi, N.wd]
    rw [if_neg (by decide), F]
    simp [wid8, regF, hL]
set_option maxRecDepth 100000 in
set_option maxHeartbeats 4000000 in
theorem rr_16 (al cc sz : BitVec 64) (w sh : Bool) (d s : BitVec 64) (dp rl : BitVec 32) (im : BitVec 64) (hv : v16 al cc sz w sh d s dp rl im = true) (r : List UInt8) : rgF (catB (en16 al cc sz w sh d s dp rl im) (B r)) = ⟨16#64, al, cc, sz, w, sh, d, s, dp, rl, im⟩ := by
  unfold v16 at hv
  simp only [Bool.and_eq_true, Bool.not_eq_true', Bool.or_eq_true, beq_iff_eq] at hv
  obtain ⟨⟨⟨⟨⟨⟨⟨⟨⟨rfl, rfl⟩, rfl⟩, rfl⟩, rfl⟩, rfl⟩, rfl⟩, hR⟩, hC⟩, hd, hs⟩ := hv
  cases sh
  · rcases cond_in hC with hq | hq | hq | hq | hq | hq | hq | hq | hq | hq
    all_goals
      have e : catB (en16 0#64 cc 0#64 false false 0#64 0#64 0#32 rl 0#64) (B r) = B (tx false true (rxL false false 0#64 0#64) ⟨128#8 + BitVec.signExtend 8 cc⟩ (c4 ((sx rl)) (r))) := by
        unfold en16
        rw [rxB_B]
        show B (((([] ++ rxL false false 0#64 0#64) ++ [15, ⟨128#8 + BitVec.signExtend 8 cc⟩]) ++ (b4 (sx rl))) ++ [] ++ r) = _
        exact congrArg B (by simp [tx, c4, c8])
      rw [e]
      have H := Hr.of' (al := false) (w := false) (half := false) (r := (c4 ((sx rl)) (r))) reg00 reg00 (.inl rfl : opOK true ⟨128#8 + BitVec.signExtend 8 cc⟩)
      have N := RgN.of false false (a := 0#64) (b := 0#64) reg00 reg00
      generalize B (tx false true (rxL false false 0#64 0#64) ⟨128#8 + BitVec.signExtend 8 cc⟩ (c4 ((sx rl)) (r))) = T at H ⊢
      have a0 : atB T (dI2 T) = BitVec.setWidth 64 (128#8 + BitVec.signExtend 8 cc) := H.at0
      rw [hq] at a0
      have hL : BitVec.signExtend 32 (nmR 4 T (dI2 T + 1#64)) = rl := by rw [H.n4 1 (by decide) (v := sx rl) (r := r) rfl, dp_sx]
      have F : secF T (dI2 T) (XW false) = (⟨16#64, 0#64, cc, 0#64, false, false, 0#64, 0#64, 0#32, rl, 0#64⟩ : MX) := by
        unfold secF
        simp [a0, XW, hq, hL]
      unfold rgF dX1
      rw [H.two, H.half, H.hi, N.wd]
      rw [if_pos rfl, F]
      simp [wid8, regF, hL]
  · rcases cond_in hC with hq | hq | hq | hq | hq | hq | hq | hq | hq | hq
    all_goals
      have e : catB (en16 0#64 cc 0#64 false true 0#64 0#64 0#32 rl 0#64) (B r) = B (tx false false (rxL false false 0#64 0#64) ⟨112#8 + BitVec.signExtend 8 cc⟩ (by8 (sx rl) 0 :: r)) := by
        unfold en16
        rw [rxB_B]
        show B (((([] ++ rxL false false 0#64 0#64) ++ [⟨112#8 + BitVec.signExtend 8 cc⟩]) ++ ([by8 (sx rl) 0])) ++ [] ++ r) = _
        exact congrArg B (by simp [tx, c4, c8])
      rw [e]
      have H := Hr.of' (al := false) (w := false) (half := false) (r := (by8 (sx rl) 0 :: r)) reg00 reg00 (by rw [hq]; exact opOK_of (by decide) : opOK false ⟨112#8 + BitVec.signExtend 8 cc⟩)
      have N := RgN.of false false (a := 0#64) (b := 0#64) reg00 reg00
      generalize B (tx false false (rxL false false 0#64 0#64) ⟨112#8 + BitVec.signExtend 8 cc⟩ (by8 (sx rl) 0 :: r)) = T at H ⊢
      have a0 : atB T (dI2 T) = BitVec.setWidth 64 (112#8 + BitVec.signExtend 8 cc) := H.at0
      rw [hq] at a0
      have hL : BitVec.signExtend 32 (nmR 1 T (dI2 T + 1#64)) = rl := by rw [H.n1 1 (by decide) (v := sx rl) (r := r) rfl, rel_sx (hR.resolve_left (by decide))]
      have F : firF T (dI2 T) (XW false) false = (⟨16#64, 0#64, cc, 0#64, false, true, 0#64, 0#64, 0#32, rl, 0#64⟩ : MX) := by
        unfold firF
        simp [a0, XW, hq, hL]
      unfold rgF dX1
      rw [H.two, H.half, H.hi, N.wd]
      rw [if_neg (by decide), F]
      simp [wid8, regF, hL]
set_option maxRecDepth 100000 in
set_option maxHeartbeats 4000000 in
theorem rr_17 (al cc sz : BitVec 64) (w sh : Bool) (d s : BitVec 64) (dp rl : BitVec 32) (im : BitVec 64) (hv : v17 al cc sz w sh d s dp rl im = true) (r : List UInt8) : rgF (catB (en17 al cc sz w sh d s dp rl im) (B r)) = ⟨17#64, al, cc, sz, w, sh, d, s, dp, rl, im⟩ := by
  unfold v17 at hv
  simp only [Bool.and_eq_true, Bool.not_eq_true', Bool.or_eq_true, beq_iff_eq] at hv
  obtain ⟨⟨⟨⟨⟨⟨⟨⟨⟨rfl, rfl⟩, rfl⟩, rfl⟩, rfl⟩, rfl⟩, rfl⟩, rfl⟩, rfl⟩, hd, hs⟩ := hv
  rcases s8_in hd with hq | hq | hq | hq | hq | hq | hq | hq
  all_goals
    have e : catB (en17 0#64 0#64 0#64 false false d 0#64 0#32 0#32 0#64) (B r) = B (tx false false (rxL false false 0#64 d) ⟨80#8 + BitVec.signExtend 8 (d.srem 8#64)⟩ (r)) := by
      unfold en17
      rw [rxB_B]
      show B (((([] ++ rxL false false 0#64 d) ++ [⟨80#8 + BitVec.signExtend 8 (d.srem 8#64)⟩]) ++ ([])) ++ [] ++ r) = _
      exact congrArg B (by simp [tx, c4, c8])
    rw [e]
    have H := Hr.of' (al := false) (w := false) (half := false) (r := (r)) reg00 hd (by rw [hq]; exact opOK_of (by decide) : opOK false ⟨80#8 + BitVec.signExtend 8 (d.srem 8#64)⟩)
    have N := RgN.of false false (a := 0#64) (b := d) reg00 hd
    generalize B (tx false false (rxL false false 0#64 d) ⟨80#8 + BitVec.signExtend 8 (d.srem 8#64)⟩ (r)) = T at H ⊢
    have a0 : atB T (dI2 T) = BitVec.setWidth 64 (80#8 + BitVec.signExtend 8 (d.srem 8#64)) := H.at0
    rw [hq] at a0
    have hP := plN false (b := d) hd
    rw [hq] at hP
    have F : firF T (dI2 T) (XW false) false = (⟨17#64, 0#64, 0#64, 0#64, false, false, 0#64, 0#64, 0#32, 0#32, 0#64⟩ : MX) := by
      unfold firF
      simp [a0, XW, hq]
    unfold rgF dX1
    rw [H.two, H.half, H.hi, N.wd]
    rw [if_neg (by decide), F]
    simp [wid8, regF, a0, hP]
set_option maxRecDepth 100000 in
set_option maxHeartbeats 4000000 in
theorem rr_18 (al cc sz : BitVec 64) (w sh : Bool) (d s : BitVec 64) (dp rl : BitVec 32) (im : BitVec 64) (hv : v18 al cc sz w sh d s dp rl im = true) (r : List UInt8) : rgF (catB (en18 al cc sz w sh d s dp rl im) (B r)) = ⟨18#64, al, cc, sz, w, sh, d, s, dp, rl, im⟩ := by
  unfold v18 at hv
  simp only [Bool.and_eq_true, Bool.not_eq_true', Bool.or_eq_true, beq_iff_eq] at hv
  obtain ⟨⟨⟨⟨⟨⟨⟨⟨⟨rfl, rfl⟩, rfl⟩, rfl⟩, rfl⟩, rfl⟩, rfl⟩, rfl⟩, rfl⟩, hd, hs⟩ := hv
  rcases s8_in hd with hq | hq | hq | hq | hq | hq | hq | hq
  all_goals
    have e : catB (en18 0#64 0#64 0#64 false false d 0#64 0#32 0#32 0#64) (B r) = B (tx false false (rxL false false 0#64 d) ⟨88#8 + BitVec.signExtend 8 (d.srem 8#64)⟩ (r)) := by
      unfold en18
      rw [rxB_B]
      show B (((([] ++ rxL false false 0#64 d) ++ [⟨88#8 + BitVec.signExtend 8 (d.srem 8#64)⟩]) ++ ([])) ++ [] ++ r) = _
      exact congrArg B (by simp [tx, c4, c8])
    rw [e]
    have H := Hr.of' (al := false) (w := false) (half := false) (r := (r)) reg00 hd (by rw [hq]; exact opOK_of (by decide) : opOK false ⟨88#8 + BitVec.signExtend 8 (d.srem 8#64)⟩)
    have N := RgN.of false false (a := 0#64) (b := d) reg00 hd
    generalize B (tx false false (rxL false false 0#64 d) ⟨88#8 + BitVec.signExtend 8 (d.srem 8#64)⟩ (r)) = T at H ⊢
    have a0 : atB T (dI2 T) = BitVec.setWidth 64 (88#8 + BitVec.signExtend 8 (d.srem 8#64)) := H.at0
    rw [hq] at a0
    have hP := plN false (b := d) hd
    rw [hq] at hP
    have F : firF T (dI2 T) (XW false) false = (⟨18#64, 0#64, 0#64, 0#64, false, false, 0#64, 0#64, 0#32, 0#32, 0#64⟩ : MX) := by
      unfold firF
      simp [a0, XW, hq]
    unfold rgF dX1
    rw [H.two, H.half, H.hi, N.wd]
    rw [if_neg (by decide), F]
    simp [wid8, regF, a0, hP]
set_option maxRecDepth 100000 in
set_option maxHeartbeats 4000000 in
theorem rr_19 (al cc sz : BitVec 64) (w sh : Bool) (d s : BitVec 64) (dp rl : BitVec 32) (im : BitVec 64) (hv : v19 al cc sz w sh d s dp rl im = true) (r : List UInt8) : rgF (catB (en19 al cc sz w sh d s dp rl im) (B r)) = ⟨19#64, al, cc, sz, w, sh, d, s, dp, rl, im⟩ := by
  unfold v19 at hv
  simp only [Bool.and_eq_true, Bool.not_eq_true', Bool.or_eq_true, beq_iff_eq] at hv
  obtain ⟨⟨⟨⟨⟨⟨⟨⟨⟨⟨rfl, rfl⟩, rfl⟩, rfl⟩, rfl⟩, rfl⟩, rfl⟩, rfl⟩, rfl⟩, rfl⟩, hd, hs⟩ := hv
  · have e : catB (en19 0#64 0#64 0#64 false false 0#64 0#64 0#32 0#32 0#64) (B r) = B (tx false false (rxL false false 0#64 0#64) 195 (r)) := by
      unfold en19
      rw [rxB_B]
      show B (((([] ++ rxL false false 0#64 0#64) ++ [195]) ++ ([])) ++ [] ++ r) = _
      exact congrArg B (by simp [tx, c4, c8])
    rw [e]
    have H := Hr.of' (al := false) (w := false) (half := false) (r := (r)) reg00 reg00 (opOK_of (by decide) : opOK false 195)
    have N := RgN.of false false (a := 0#64) (b := 0#64) reg00 reg00
    generalize B (tx false false (rxL false false 0#64 0#64) 195 (r)) = T at H ⊢
    have a0 : atB T (dI2 T) = 195#64 := H.at0.trans (by rfl)
    have F : firF T (dI2 T) (XW false) false = (⟨19#64, 0#64, 0#64, 0#64, false, false, 0#64, 0#64, 0#32, 0#32, 0#64⟩ : MX) := by
      unfold firF
      simp [a0, XW]
    unfold rgF dX1
    rw [H.two, H.half, H.hi, N.wd]
    rw [if_neg (by decide), F]
    simp [wid8, regF, a0]
set_option maxRecDepth 100000 in
set_option maxHeartbeats 4000000 in
theorem rr_20 (al cc sz : BitVec 64) (w sh : Bool) (d s : BitVec 64) (dp rl : BitVec 32) (im : BitVec 64) (hv : v20 al cc sz w sh d s dp rl im = true) (r : List UInt8) : rgF (catB (en20 al cc sz w sh d s dp rl im) (B r)) = ⟨20#64, al, cc, sz, w, sh, d, s, dp, rl, im⟩ := by
  unfold v20 at hv
  simp only [Bool.and_eq_true, Bool.not_eq_true', Bool.or_eq_true, beq_iff_eq] at hv
  obtain ⟨⟨⟨⟨⟨⟨⟨⟨⟨rfl, rfl⟩, rfl⟩, rfl⟩, rfl⟩, rfl⟩, rfl⟩, rfl⟩, rfl⟩, hd, hs⟩ := hv
  · have e : catB (en20 0#64 0#64 0#64 false false 0#64 0#64 0#32 rl 0#64) (B r) = B (tx false false (rxL false false 0#64 0#64) 232 (c4 ((sx rl)) (r))) := by
      unfold en20
      rw [rxB_B]
      show B (((([] ++ rxL false false 0#64 0#64) ++ [232]) ++ (b4 (sx rl))) ++ [] ++ r) = _
      exact congrArg B (by simp [tx, c4, c8])
    rw [e]
    have H := Hr.of' (al := false) (w := false) (half := false) (r := (c4 ((sx rl)) (r))) reg00 reg00 (opOK_of (by decide) : opOK false 232)
    have N := RgN.of false false (a := 0#64) (b := 0#64) reg00 reg00
    generalize B (tx false false (rxL false false 0#64 0#64) 232 (c4 ((sx rl)) (r))) = T at H ⊢
    have a0 : atB T (dI2 T) = 232#64 := H.at0.trans (by rfl)
    have hL : BitVec.signExtend 32 (nmR 4 T (dI2 T + 1#64)) = rl := by rw [H.n4 1 (by decide) (v := sx rl) (r := r) rfl, dp_sx]
    have F : firF T (dI2 T) (XW false) false = (⟨20#64, 0#64, 0#64, 0#64, false, false, 0#64, 0#64, 0#32, rl, 0#64⟩ : MX) := by
      unfold firF
      simp [a0, XW, hL]
    unfold rgF dX1
    rw [H.two, H.half, H.hi, N.wd]
    rw [if_neg (by decide), F]
    simp [wid8, regF, hL]
set_option maxRecDepth 100000 in
set_option maxHeartbeats 4000000 in
theorem rr_21 (al cc sz : BitVec 64) (w sh : Bool) (d s : BitVec 64) (dp rl : BitVec 32) (im : BitVec 64) (hv : v21 al cc sz w sh d s dp rl im = true) (r : List UInt8) : rgF (catB (en21 al cc sz w sh d s dp rl im) (B r)) = ⟨21#64, al, cc, sz, w, sh, d, s, dp, rl, im⟩ := by
  unfold v21 at hv
  simp only [Bool.and_eq_true, Bool.not_eq_true', Bool.or_eq_true, beq_iff_eq] at hv
  obtain ⟨⟨⟨⟨⟨⟨⟨⟨⟨⟨rfl, rfl⟩, rfl⟩, rfl⟩, rfl⟩, rfl⟩, rfl⟩, rfl⟩, rfl⟩, rfl⟩, hd, hs⟩ := hv
  · have e : catB (en21 0#64 0#64 0#64 false false 0#64 0#64 0#32 0#32 0#64) (B r) = B (tx false true (rxL false false 0#64 0#64) 174 (232 :: r)) := by
      unfold en21
      rw [rxB_B]
      show B ((((([] ++ rxL false false 0#64 0#64) ++ [15, 174, 232]) ++ []) ++ []) ++ r) = _
      exact congrArg B (by simp [tx])
    rw [e]
    have H := Hr.of' (al := false) (w := false) (half := false) (r := (232 :: r)) reg00 reg00 (.inl rfl : opOK true 174)
    have N := RgN.of false false (a := 0#64) (b := 0#64) reg00 reg00
    generalize B (tx false true (rxL false false 0#64 0#64) 174 (232 :: r)) = T at H ⊢
    have a0 : atB T (dI2 T) = 174#64 := H.at0.trans (by rfl)
    have F : secF T (dI2 T) (XW false) = (⟨21#64, 0#64, 0#64, 0#64, false, false, 0#64, 0#64, 0#32, 0#32, 0#64⟩ : MX) := by
      unfold secF
      simp [a0, XW]
    unfold rgF dX1
    rw [H.two, H.half, H.hi, N.wd]
    rw [if_pos rfl, F]
    simp [wid8, regF, a0]
/-- The document takes bytes for what was put together, whatever stands behind. -/
theorem RTr {x : MX} (hv : vX x = true) (r : List UInt8) : rgF (catB (eX x) (B r)) = x := by
  obtain ⟨k, al, cc, sz, w, sh, d, s, dp, rl, im⟩ := x
  rcases ks k with rfl | rfl | rfl | rfl | rfl | rfl | rfl | rfl | rfl | rfl | rfl | rfl | rfl | rfl | rfl | rfl | rfl | rfl | rfl | rfl | rfl | hk
  rotate_right 1
  · exfalso
    have h : vld k al cc sz w sh d s dp rl im = false := vld_none hk
    have hv' : vld k al cc sz w sh d s dp rl im = true := hv
    rw [h] at hv'; cases hv'
  · exact rr_1 al cc sz w sh d s dp rl im hv r
  · exact rr_2 al cc sz w sh d s dp rl im hv r
  · exact rr_3 al cc sz w sh d s dp rl im hv r
  · exact rr_4 al cc sz w sh d s dp rl im hv r
  · exact rr_5 al cc sz w sh d s dp rl im hv r
  · exact rr_6 al cc sz w sh d s dp rl im hv r
  · exact rr_7 al cc sz w sh d s dp rl im hv r
  · exact rr_8 al cc sz w sh d s dp rl im hv r
  · exact rr_9 al cc sz w sh d s dp rl im hv r
  · exact rr_10 al cc sz w sh d s dp rl im hv r
  · exact rr_11 al cc sz w sh d s dp rl im hv r
  · exact rr_12 al cc sz w sh d s dp rl im hv r
  · exact rr_13 al cc sz w sh d s dp rl im hv r
  · exact rr_14 al cc sz w sh d s dp rl im hv r
  · exact rr_15 al cc sz w sh d s dp rl im hv r
  · exact rr_16 al cc sz w sh d s dp rl im hv r
  · exact rr_17 al cc sz w sh d s dp rl im hv r
  · exact rr_18 al cc sz w sh d s dp rl im hv r
  · exact rr_19 al cc sz w sh d s dp rl im hv r
  · exact rr_20 al cc sz w sh d s dp rl im hv r
  · exact rr_21 al cc sz w sh d s dp rl im hv r
end Go.Proofs.YtppankimieopiaaDoor
