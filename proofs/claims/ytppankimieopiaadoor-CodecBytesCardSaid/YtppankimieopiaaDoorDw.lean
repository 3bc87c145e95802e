/-
  Chapter 11: what Decode tells of bytes that an instruction's bytes begin. Conditions: as typed.
-/
import Derived.Test.YtppankimieopiaaDoorDv
import Derived.Test.YtppankimieopiaaDoorDe
namespace Go.Proofs.YtppankimieopiaaDoor
open Go.Ep Go.RowKit
set_option linter.unusedVariables false
set_option linter.unusedSimpArgs false
theorem pre_split {t p : ByteArray} (h : pre t p = true) : ∃ r, t = catB p (B r) := by
  obtain ⟨⟨l⟩⟩ := t
  obtain ⟨⟨q⟩⟩ := p
  rw [show pre (⟨⟨l⟩⟩ : ByteArray) ⟨⟨q⟩⟩ = decide (l.take q.length = q) from pre_B l q, decide_eq_true_eq] at h
  refine ⟨l.drop q.length, ?_⟩
  show B l = B (q ++ l.drop q.length)
  congr 1
  conv => lhs; rw [← List.take_append_drop q.length l, h]
theorem pre_cat (p : ByteArray) (r : List UInt8) : pre (catB p (B r)) p = true := by
  obtain ⟨⟨q⟩⟩ := p
  exact pre_yes q r
theorem fnd_0 {t : ByteArray} : ∀ {n k : Nat}, 1 ≤ k → fnd t n k = 0 → ∀ j, k ≤ j → j < k + n → hit j t = false
  | 0, k, _, _, j, h1, h2 => by omega
  | n + 1, k, hk, h, j, h1, h2 => by
    rw [fnd] at h
    cases hh : hit k t with
    | true => rw [hh, if_pos rfl] at h; omega
    | false =>
      rw [hh, if_neg (by decide)] at h
      by_cases e : j = k
      · rw [e]; exact hh
      · exact fnd_0 (by omega) h j (by omega) (by omega)
theorem fnd_1 {t : ByteArray} : ∀ {n k m : Nat}, fnd t n k = m + 1 → hit (m + 1) t = true
  | 0, k, m, h => by rw [fnd] at h; omega
  | n + 1, k, m, h => by
    rw [fnd] at h
    cases hh : hit k t with
    | true => rw [hh, if_pos rfl] at h; rw [← h]; exact hh
    | false => rw [hh, if_neg (by decide)] at h; exact fnd_1 h
/-- What Decode tells, is. -/
theorem dec_is {t : ByteArray} (h : decK t ≠ 0) : vX (XK (decK t) t) = true ∧ pre t (eX (XK (decK t) t)) = true := by
  obtain ⟨j, hj⟩ : ∃ j, decK t = j + 1 := ⟨decK t - 1, by omega⟩
  have hh := fnd_1 (show fnd t 21 1 = j + 1 from hj)
  rw [hj]
  unfold hit at hh
  rw [Bool.and_eq_true] at hh
  exact hh
theorem rg_dec {t : ByteArray} (h : decK t ≠ 0) : rgF t = XK (decK t) t := by
  obtain ⟨h1, h2⟩ := dec_is h
  obtain ⟨r, e⟩ := pre_split h2
  have := RTr h1 r
  rw [← e] at this
  exact this
/-- Bytes that begin with an instruction's are taken for it. -/
theorem dec_at {x : MX} (hv : vX x = true) (r : List UInt8) (hz : (catB (eX x) (B r)).size < 9223372036854775808) : decK (catB (eX x) (B r)) ≠ 0 ∧ XK (decK (catB (eX x) (B r))) (catB (eX x) (B r)) = x := by
  obtain ⟨k, h1, h2, h3, h4⟩ := RT hv r hz
  have hk : hit k (catB (eX x) (B r)) = true := by
    unfold hit
    rw [h4, hv, pre_cat]; rfl
  have hn : decK (catB (eX x) (B r)) ≠ 0 := by
    intro h0
    have := fnd_0 (t := catB (eX x) (B r)) (n := 21) (k := 1) (by decide) h0 k h1 (by omega)
    rw [this] at hk; cases hk
  exact ⟨hn, by rw [← rg_dec hn, RTr hv r]⟩
theorem dec_pre {t : ByteArray} {x : MX} (hv : vX x = true) (h : pre t (eX x) = true) (hz : t.size < 9223372036854775808) : decK t ≠ 0 ∧ XK (decK t) t = x := by
  obtain ⟨r, rfl⟩ := pre_split h
  exact dec_at hv r hz
theorem dec_0 {t : ByteArray} (hz : t.size < 9223372036854775808) (h : ∀ x, vX x = true → pre t (eX x) = false) : decK t = 0 := by
  cases e : decK t with
  | zero => rfl
  | succ j =>
    obtain ⟨h1, h2⟩ := dec_is (t := t) (by omega)
    rw [h _ h1] at h2; cases h2
/- The sizes. -/
theorem eX_pos {x : MX} (hv : vX x = true) : 1 ≤ (eX x).size ∧ (eX x).size ≤ 10 := by
  obtain ⟨k, al, cc, sz, w, sh, d, s, dp, rl, im⟩ := x
  have key : ∀ al w a b, (rxB al w a b).size ≤ 1 := by
    intro al w a b
    rw [rxB_B]; unfold rxL; split; exact Nat.zero_le _; exact Nat.le_refl _
  rcases ks k with rfl | rfl | rfl | rfl | rfl | rfl | rfl | rfl | rfl | rfl | rfl | rfl | rfl | rfl | rfl | rfl | rfl | rfl | rfl | rfl | rfl | hk
  rotate_right 1
  · exfalso
    have h : vld k al cc sz w sh d s dp rl im = false := vld_none hk
    have hv' : vld k al cc sz w sh d s dp rl im = true := hv
    rw [h] at hv'; cases hv'
  · have := key (1#64 == 14#64 && sz == 1#64) w s d
    show 1 ≤ (en1 al cc sz w sh d s dp rl im).size ∧ (en1 al cc sz w sh d s dp rl im).size ≤ 10
    unfold en1
    simp only [cat_sz2]
    show 1 ≤ 0 + _ + 1 + 1 + 0 ∧ 0 + _ + 1 + 1 + 0 ≤ 10
    omega
  · have := key (2#64 == 14#64 && sz == 1#64) w 0#64 d
    show 1 ≤ (en2 al cc sz w sh d s dp rl im).size ∧ (en2 al cc sz w sh d s dp rl im).size ≤ 10
    unfold en2
    simp only [cat_sz2]
    show 1 ≤ 0 + _ + 1 + 1 + 4 ∧ 0 + _ + 1 + 1 + 4 ≤ 10
    omega
  · have := key (3#64 == 14#64 && sz == 1#64) w 0#64 d
    show 1 ≤ (en3 al cc sz w sh d s dp rl im).size ∧ (en3 al cc sz w sh d s dp rl im).size ≤ 10
    unfold en3
    simp only [cat_sz2]
    show 1 ≤ 0 + _ + 1 + 0 + 8 ∧ 0 + _ + 1 + 0 + 8 ≤ 10
    omega
  · have := key (4#64 == 14#64 && sz == 1#64) w s d
    show 1 ≤ (en4 al cc sz w sh d s dp rl im).size ∧ (en4 al cc sz w sh d s dp rl im).size ≤ 10
    unfold en4
    simp only [cat_sz2]
    show 1 ≤ 0 + _ + 1 + 1 + 0 ∧ 0 + _ + 1 + 1 + 0 ≤ 10
    omega
  · have := key (5#64 == 14#64 && sz == 1#64) w 0#64 d
    show 1 ≤ (en5 al cc sz w sh d s dp rl im).size ∧ (en5 al cc sz w sh d s dp rl im).size ≤ 10
    unfold en5
    simp only [cat_sz2]
    show 1 ≤ 0 + _ + 1 + 1 + 4 ∧ 0 + _ + 1 + 1 + 4 ≤ 10
    omega
  · have := key (6#64 == 14#64 && sz == 1#64) w s d
    show 1 ≤ (en6 al cc sz w sh d s dp rl im).size ∧ (en6 al cc sz w sh d s dp rl im).size ≤ 10
    unfold en6
    simp only [cat_sz2]
    show 1 ≤ 0 + _ + 1 + 1 + 0 ∧ 0 + _ + 1 + 1 + 0 ≤ 10
    omega
  · have := key (7#64 == 14#64 && sz == 1#64) w 0#64 d
    show 1 ≤ (en7 al cc sz w sh d s dp rl im).size ∧ (en7 al cc sz w sh d s dp rl im).size ≤ 10
    unfold en7
    simp only [cat_sz2]
    show 1 ≤ 0 + _ + 1 + 1 + 0 ∧ 0 + _ + 1 + 1 + 0 ≤ 10
    omega
  · have := key (8#64 == 14#64 && sz == 1#64) w 0#64 d
    show 1 ≤ (en8 al cc sz w sh d s dp rl im).size ∧ (en8 al cc sz w sh d s dp rl im).size ≤ 10
    unfold en8
    simp only [cat_sz2]
    show 1 ≤ 0 + _ + 1 + 1 + 0 ∧ 0 + _ + 1 + 1 + 0 ≤ 10
    omega
  · have := key (9#64 == 14#64 && sz == 1#64) w 0#64 d
    show 1 ≤ (en9 al cc sz w sh d s dp rl im).size ∧ (en9 al cc sz w sh d s dp rl im).size ≤ 10
    unfold en9
    simp only [cat_sz2]
    show 1 ≤ 0 + _ + 1 + 1 + 0 ∧ 0 + _ + 1 + 1 + 0 ≤ 10
    omega
  · have := key (10#64 == 14#64 && sz == 1#64) w d s
    show 1 ≤ (en10 al cc sz w sh d s dp rl im).size ∧ (en10 al cc sz w sh d s dp rl im).size ≤ 10
    unfold en10
    simp only [cat_sz2]
    show 1 ≤ 0 + _ + 2 + 1 + 0 ∧ 0 + _ + 2 + 1 + 0 ≤ 10
    omega
  · have := key (11#64 == 14#64 && sz == 1#64) w 0#64 d
    show 1 ≤ (en11 al cc sz w sh d s dp rl im).size ∧ (en11 al cc sz w sh d s dp rl im).size ≤ 10
    unfold en11
    simp only [cat_sz2]
    show 1 ≤ 0 + _ + 1 + 1 + 1 ∧ 0 + _ + 1 + 1 + 1 ≤ 10
    omega
  · have := key (12#64 == 14#64 && sz == 1#64) w 0#64 d
    show 1 ≤ (en12 al cc sz w sh d s dp rl im).size ∧ (en12 al cc sz w sh d s dp rl im).size ≤ 10
    unfold en12
    simp only [cat_sz2]
    show 1 ≤ 0 + _ + 1 + 1 + 0 ∧ 0 + _ + 1 + 1 + 0 ≤ 10
    omega
  · have hZ : sizeB sz = true := by
      have h : v13 al cc sz w sh d s dp rl im = true := hv
      unfold v13 at h
      simp only [Bool.and_eq_true] at h
      exact h.1.1.2
    clear hv
    have hC : ∀ (c : Bool) (a b : ByteArray), a.size ≤ 2 → b.size ≤ 2 → (cond c a b).size ≤ 2 := fun c a b h1 h2 => by cases c <;> assumption
    have hD := hC (s.srem 8#64 == 4#64) (catB (mrB 2#64 d s) ⟨⟨[36]⟩⟩) (mrB 2#64 d s) (by show 2 ≤ 2; decide) (by show 1 ≤ 2; decide)
    rcases size_in' hZ with rfl | rfl | rfl | rfl
    · have := key (13#64 == 14#64 && 1#64 == 1#64) w d s
      show 1 ≤ (en13 al cc 1#64 w sh d s dp rl im).size ∧ (en13 al cc 1#64 w sh d s dp rl im).size ≤ 10
      unfold en13
      simp only [cat_sz2]
      show 1 ≤ 0 + _ + 2 + (_ + 4) + 0 ∧ 0 + _ + 2 + (_ + 4) + 0 ≤ 10
      omega
    · have := key (13#64 == 14#64 && 2#64 == 1#64) w d s
      show 1 ≤ (en13 al cc 2#64 w sh d s dp rl im).size ∧ (en13 al cc 2#64 w sh d s dp rl im).size ≤ 10
      unfold en13
      simp only [cat_sz2]
      show 1 ≤ 0 + _ + 2 + (_ + 4) + 0 ∧ 0 + _ + 2 + (_ + 4) + 0 ≤ 10
      omega
    · have := key (13#64 == 14#64 && 4#64 == 1#64) w d s
      show 1 ≤ (en13 al cc 4#64 w sh d s dp rl im).size ∧ (en13 al cc 4#64 w sh d s dp rl im).size ≤ 10
      unfold en13
      simp only [cat_sz2]
      show 1 ≤ 0 + _ + 1 + (_ + 4) + 0 ∧ 0 + _ + 1 + (_ + 4) + 0 ≤ 10
      omega
    · have := key (13#64 == 14#64 && 8#64 == 1#64) w d s
      show 1 ≤ (en13 al cc 8#64 w sh d s dp rl im).size ∧ (en13 al cc 8#64 w sh d s dp rl im).size ≤ 10
      unfold en13
      simp only [cat_sz2]
      show 1 ≤ 0 + _ + 1 + (_ + 4) + 0 ∧ 0 + _ + 1 + (_ + 4) + 0 ≤ 10
      omega
  · have hZ : sizeB sz = true := by
      have h : v14 al cc sz w sh d s dp rl im = true := hv
      unfold v14 at h
      simp only [Bool.and_eq_true] at h
      exact h.1.1.2
    clear hv
    have hC : ∀ (c : Bool) (a b : ByteArray), a.size ≤ 2 → b.size ≤ 2 → (cond c a b).size ≤ 2 := fun c a b h1 h2 => by cases c <;> assumption
    have hD := hC (d.srem 8#64 == 4#64) (catB (mrB 2#64 s d) ⟨⟨[36]⟩⟩) (mrB 2#64 s d) (by show 2 ≤ 2; decide) (by show 1 ≤ 2; decide)
    rcases size_in' hZ with rfl | rfl | rfl | rfl
    · have := key (14#64 == 14#64 && 1#64 == 1#64) w s d
      show 1 ≤ (en14 al cc 1#64 w sh d s dp rl im).size ∧ (en14 al cc 1#64 w sh d s dp rl im).size ≤ 10
      unfold en14
      simp only [cat_sz2]
      show 1 ≤ 0 + _ + 1 + (_ + 4) + 0 ∧ 0 + _ + 1 + (_ + 4) + 0 ≤ 10
      omega
    · have := key (14#64 == 14#64 && 2#64 == 1#64) w s d
      show 1 ≤ (en14 al cc 2#64 w sh d s dp rl im).size ∧ (en14 al cc 2#64 w sh d s dp rl im).size ≤ 10
      unfold en14
      simp only [cat_sz2]
      show 1 ≤ 1 + _ + 1 + (_ + 4) + 0 ∧ 1 + _ + 1 + (_ + 4) + 0 ≤ 10
      omega
    · have := key (14#64 == 14#64 && 4#64 == 1#64) w s d
      show 1 ≤ (en14 al cc 4#64 w sh d s dp rl im).size ∧ (en14 al cc 4#64 w sh d s dp rl im).size ≤ 10
      unfold en14
      simp only [cat_sz2]
      show 1 ≤ 0 + _ + 1 + (_ + 4) + 0 ∧ 0 + _ + 1 + (_ + 4) + 0 ≤ 10
      omega
    · have := key (14#64 == 14#64 && 8#64 == 1#64) w s d
      show 1 ≤ (en14 al cc 8#64 w sh d s dp rl im).size ∧ (en14 al cc 8#64 w sh d s dp rl im).size ≤ 10
      unfold en14
      simp only [cat_sz2]
      show 1 ≤ 0 + _ + 1 + (_ + 4) + 0 ∧ 0 + _ + 1 + (_ + 4) + 0 ≤ 10
      omega
  · cases sh
    · have := key (15#64 == 14#64 && sz == 1#64) w 0#64 0#64
      show 1 ≤ (en15 al cc sz w false d s dp rl im).size ∧ (en15 al cc sz w false d s dp rl im).size ≤ 10
      unfold en15
      simp only [cat_sz2]
      show 1 ≤ 0 + _ + 1 + 4 + 0 ∧ 0 + _ + 1 + 4 + 0 ≤ 10
      omega
    · have := key (15#64 == 14#64 && sz == 1#64) w 0#64 0#64
      show 1 ≤ (en15 al cc sz w true d s dp rl im).size ∧ (en15 al cc sz w true d s dp rl im).size ≤ 10
      unfold en15
      simp only [cat_sz2]
      show 1 ≤ 0 + _ + 1 + 1 + 0 ∧ 0 + _ + 1 + 1 + 0 ≤ 10
      omega
  · cases sh
    · have := key (16#64 == 14#64 && sz == 1#64) w 0#64 0#64
      show 1 ≤ (en16 al cc sz w false d s dp rl im).size ∧ (en16 al cc sz w false d s dp rl im).size ≤ 10
      unfold en16
      simp only [cat_sz2]
      show 1 ≤ 0 + _ + 2 + 4 + 0 ∧ 0 + _ + 2 + 4 + 0 ≤ 10
      omega
    · have := key (16#64 == 14#64 && sz == 1#64) w 0#64 0#64
      show 1 ≤ (en16 al cc sz w true d s dp rl im).size ∧ (en16 al cc sz w true d s dp rl im).size ≤ 10
      unfold en16
      simp only [cat_sz2]
      show 1 ≤ 0 + _ + 1 + 1 + 0 ∧ 0 + _ + 1 + 1 + 0 ≤ 10
      omega
  · have := key (17#64 == 14#64 && sz == 1#64) w 0#64 d
    show 1 ≤ (en17 al cc sz w sh d s dp rl im).size ∧ (en17 al cc sz w sh d s dp rl im).size ≤ 10
    unfold en17
    simp only [cat_sz2]
    show 1 ≤ 0 + _ + 1 + 0 + 0 ∧ 0 + _ + 1 + 0 + 0 ≤ 10
    omega
  · have := key (18#64 == 14#64 && sz == 1#64) w 0#64 d
    show 1 ≤ (en18 al cc sz w sh d s dp rl im).size ∧ (en18 al cc sz w sh d s dp rl im).size ≤ 10
    unfold en18
    simp only [cat_sz2]
    show 1 ≤ 0 + _ + 1 + 0 + 0 ∧ 0 + _ + 1 + 0 + 0 ≤ 10
    omega
  · have := key (19#64 == 14#64 && sz == 1#64) w 0#64 0#64
    show 1 ≤ (en19 al cc sz w sh d s dp rl im).size ∧ (en19 al cc sz w sh d s dp rl im).size ≤ 10
    unfold en19
    simp only [cat_sz2]
    show 1 ≤ 0 + _ + 1 + 0 + 0 ∧ 0 + _ + 1 + 0 + 0 ≤ 10
    omega
  · cases sh
    · have := key (20#64 == 14#64 && sz == 1#64) w 0#64 0#64
      show 1 ≤ (en20 al cc sz w false d s dp rl im).size ∧ (en20 al cc sz w false d s dp rl im).size ≤ 10
      unfold en20
      simp only [cat_sz2]
      show 1 ≤ 0 + _ + 1 + 4 + 0 ∧ 0 + _ + 1 + 4 + 0 ≤ 10
      omega
    · have := key (20#64 == 14#64 && sz == 1#64) w 0#64 0#64
      show 1 ≤ (en20 al cc sz w true d s dp rl im).size ∧ (en20 al cc sz w true d s dp rl im).size ≤ 10
      unfold en20
      simp only [cat_sz2]
      show 1 ≤ 0 + _ + 1 + 1 + 0 ∧ 0 + _ + 1 + 1 + 0 ≤ 10
      omega
  · have := key (21#64 == 14#64 && sz == 1#64) w 0#64 0#64
    show 1 ≤ (en21 al cc sz w sh d s dp rl im).size ∧ (en21 al cc sz w sh d s dp rl im).size ≤ 10
    unfold en21
    simp only [cat_sz2]
    show 1 ≤ 0 + _ + 3 + 0 + 0 ∧ 0 + _ + 3 + 0 + 0 ≤ 10
    omega
/- Decode's own answers. -/
theorem kA_at {s : ByteArray} {a : BitVec 64} (hb : badA s a = false) (hs : s.size < 9223372036854775808) {x : MX} (hv : vX x = true) (h : pre (exB s a.toNat s.size) (eX x) = true) : xA s a = x ∧ nA s a = BitVec.ofNat 64 (eX x).size ∧ eA s a = 0#64 := by
  obtain ⟨h1, h2⟩ := dec_pre hv h (exB_lt hs)
  have hk : kA s a = decK (exB s a.toNat s.size) := kA_eq hb
  have hx : xA s a = x := by unfold xA; rw [hk]; exact h2
  refine ⟨hx, ?_, ?_⟩
  · unfold nA; rw [hk, if_neg h1, hx]
  · unfold eA; rw [hk, if_neg h1]
theorem kA_no {s : ByteArray} {a : BitVec 64} (h : kA s a = 0) : xA s a = X0 ∧ nA s a = 0#64 ∧ eA s a = 110#64 := by
  have hx : xA s a = X0 := by unfold xA; rw [h]; rfl
  exact ⟨hx, by unfold nA; rw [h, if_pos rfl], by unfold eA; rw [h, if_pos rfl]⟩
theorem kA_is {s : ByteArray} {a : BitVec 64} (h : kA s a ≠ 0) : badA s a = false ∧ vX (xA s a) = true ∧ pre (exB s a.toNat s.size) (eX (xA s a)) = true ∧ nA s a = BitVec.ofNat 64 (eX (xA s a)).size ∧ eA s a = 0#64 := by
  have hb : badA s a = false := by
    cases e : badA s a with
    | false => rfl
    | true => exact absurd (by unfold kA; rw [e, if_pos rfl]) h
  have hk := kA_eq hb
  obtain ⟨h1, h2⟩ := dec_is (t := exB s a.toNat s.size) (by rw [← hk]; exact h)
  have hx : xA s a = XK (decK (exB s a.toNat s.size)) (exB s a.toNat s.size) := by unfold xA; rw [hk]
  exact ⟨hb, by rw [hx]; exact h1, by rw [hx]; exact h2, by unfold nA; rw [if_neg h], by unfold eA; rw [if_neg h]⟩
end Go.Proofs.YtppankimieopiaaDoor
