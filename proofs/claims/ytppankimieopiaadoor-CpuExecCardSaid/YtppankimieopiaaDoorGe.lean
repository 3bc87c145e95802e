/-
  The document's Exec, kind by kind. Conditions: as typed.
-/
import Derived.Test.YtppankimieopiaaDoorGd
namespace Go.Proofs.YtppankimieopiaaDoor
open Go.Ep Go.RowKit
set_option linter.unusedVariables false
set_option linter.unusedSimpArgs false

noncomputable abbrev FR : List (Nat × Func) := [(33, Tryd.f33)]
theorem fs_R : FsOK Tryd.prog FR := FsOK.cons Tryd.func33 (by kernel_rfl) (by kernel_rfl) FsOK.nil
theorem C_fr (G2 : World → Prop) (D2 : VData) (k2 : DataOK Tryd.prog G2 D2) (m : Nat → Nat) : CSound Tryd.prog (and2 (GB m) (and2 (GP m) G2)) (tabI Tryd.prog (or2 (DB m) (or2 (DP m) D2)) (tb_mvd m) FR 2) := CSound.tabI (C_mvd G2 D2 k2 m) (by kernel_rfl) fs_R 2
/- What the document reckons of the lowest bits is what the program reckons. -/
theorem lo_mod (b : BitVec 64) : lo32 b % 32#64 = b % 32#64 := by
  apply BitVec.eq_of_toNat_eq
  rw [BitVec.toNat_umod, BitVec.toNat_umod, lo32_nat]
  show b.toNat % 4294967296 % 32 = b.toNat % 32
  omega
theorem aluD_lo (o : BitVec 8) (a b : BitVec 64) : aluD o false (lo32 a) (lo32 b) = aluD o false a b := by
  show (aluW o ((lo32 a).setWidth 32) ((lo32 b).setWidth 32) (lo32 b % 32#64).toNat (((lo32 a).setWidth 32).sshiftRight (lo32 b % 32#64).toNat)).setWidth 64 = _
  rw [lo_sw, lo_sw, lo_mod]
  rfl
theorem aluD_lo1 (o : BitVec 8) (a b : BitVec 64) : aluD o false (lo32 a) b = aluD o false a b := by
  show (aluW o ((lo32 a).setWidth 32) (b.setWidth 32) (b % 32#64).toNat (((lo32 a).setWidth 32).sshiftRight (b % 32#64).toNat)).setWidth 64 = _
  rw [lo_sw]
  rfl
theorem mv_ar (o : BitVec 8) (w : Bool) (a b : BitVec 64) : mvA w (aluD o w a b) = aluD o w a b := by
  cases w
  · show (((aluW _ _ _ _ _ : BitVec 32).setWidth 64).setWidth 32).setWidth 64 = _
    rw [bb32]
    rfl
  · rfl
theorem arR_lo (op a b : BitVec 64) : arR false op (lo32 a) (lo32 b) = arR false op a b := aluD_lo _ a b
theorem fC_lo (op a b r : BitVec 64) : fC false op (lo32 a) (lo32 b) r = fC false op a b r := by
  unfold fC
  rw [lo_sw, lo_sw]
  simp only [Bool.false_eq_true, if_false]
theorem fO_lo (op a b r : BitVec 64) : fO false op (lo32 a) (lo32 b) r = fO false op a b r := by
  unfold fO
  rw [lo_sw, lo_sw]
  simp only [Bool.false_eq_true, if_false]
theorem arF_lo (op a b : BitVec 64) (S : MS) : arF false op (lo32 a) (lo32 b) S = arF false op a b S := by
  unfold arF
  rw [arR_lo, fC_lo, fO_lo]
theorem lo_0 : lo32 0#64 = 0#64 := by decide
theorem arR_0lo (op b : BitVec 64) : arR false op 0#64 (lo32 b) = arR false op 0#64 b := by have := arR_lo op 0#64 b; rwa [lo_0] at this
theorem arF_0lo (op b : BitVec 64) (S : MS) : arF false op 0#64 (lo32 b) S = arF false op 0#64 b S := by have := arF_lo op 0#64 b S; rwa [lo_0] at this
abbrev okA (U : MS) : AV := .tup [(true, LS U), (false, [.b64 true 0#64])]
theorem r45 {w : Bool} {al a b a' b' d : BitVec 64} {S : MS} (hF : arF w al a' b' S = arF w al a b S) (hR : arR w al a' b' = arR w al a b) (h : (!(al == 7#64)) = true) :
    okA (put (arF w al a' b' S) d (arR w al a' b')) = okA (if al == 7#64 then arF w al a b S else put (arF w al a b S) d (mvA w (arR w al a b))) := by
  have h' : (al == 7#64) = false := by simpa using h
  rw [hF, hR, h', if_neg Bool.false_ne_true]
  show _ = okA (put _ d (mvA w (aluD _ w a b)))
  rw [mv_ar]
  rfl
theorem r45c {w : Bool} {al a b a' b' d : BitVec 64} {S : MS} (hF : arF w al a' b' S = arF w al a b S) (h : (!(al == 7#64)) = false) :
    okA (arF w al a' b' S) = okA (if al == 7#64 then arF w al a b S else put (arF w al a b S) d (mvA w (arR w al a b))) := by
  have h' : (al == 7#64) = true := by simpa using h
  rw [hF, h', if_pos rfl]
theorem rq7 {d a : BitVec 64} {S : MS} : okA (put (arF false 5#64 0#64 (lo32 a) S) d (arR false 5#64 0#64 (lo32 a))) = okA (put (arF false 5#64 0#64 a S) d (mvA false (arR false 5#64 0#64 a))) := by
  rw [arF_0lo, arR_0lo]
  show _ = okA (put _ d (mvA false (aluD _ false _ _)))
  rw [mv_ar]
  rfl
theorem mod32 (x : BitVec 64) : x % 4294967296#64 = x &&& 4294967295#64 := by
  apply BitVec.eq_of_toNat_eq
  rw [BitVec.toNat_umod, half_lo]
  rfl
theorem div32 (x : BitVec 64) : x / 4294967296#64 = x >>> (32#64).toNat := by
  apply BitVec.eq_of_toNat_eq
  rw [BitVec.toNat_udiv, half_hi]
  rfl
theorem rq8 {a b : BitVec 64} {S : MS} : okA (two S (lo32 a * lo32 b % 4294967296#64) (lo32 a * lo32 b / 4294967296#64)) = okA (two S (tmL false a b) (tmH false a b)) := by
  rw [mod32, div32]
  rfl
theorem rq9 {h l y : BitVec 64} {S : MS} : okA (two S ((dQ ((lo32 h).setWidth 32) ((lo32 l).setWidth 32) ((lo32 y).setWidth 32)).setWidth 64) ((dR ((lo32 h).setWidth 32) ((lo32 l).setWidth 32) ((lo32 y).setWidth 32)).setWidth 64)) = okA (two S (ptQ2 false h l y) (ptR2 false h l y)) := by
  rw [lo_sw, lo_sw, lo_sw]
  rfl
theorem rq10 {a b d : BitVec 64} {S : MS} : okA (put S d (lo32 (lo32 a * lo32 b))) = okA (put S d (mvA false (aluD 32#8 false a b))) := by
  rw [mv_ar]
  have e : lo32 (lo32 a * lo32 b) = aluD 32#8 false a b := by
    show _ = (a.setWidth 32 * b.setWidth 32).setWidth 64
    apply BitVec.eq_of_toNat_eq
    rw [lo32_nat, BitVec.toNat_mul, lo32_nat, lo32_nat, BitVec.toNat_setWidth, BitVec.toNat_mul, BitVec.toNat_setWidth, BitVec.toNat_setWidth]
    show a.toNat % 4294967296 * (b.toNat % 4294967296) % 2 ^ 64 % 4294967296 = a.toNat % 4294967296 * (b.toNat % 4294967296) % 4294967296 % 2 ^ 64
    generalize a.toNat % 4294967296 * (b.toNat % 4294967296) = P
    omega
  rw [e]
theorem rq11 {o : BitVec 8} {a b d : BitVec 64} {S : MS} : okA (put S d (aluD o false (lo32 a) b)) = okA (put S d (mvA false (aluD o false a b))) := by rw [mv_ar, aluD_lo1]
theorem mod_mod (b : BitVec 64) : b % 64#64 % 64#64 = b % 64#64 := by
  apply BitVec.eq_of_toNat_eq
  rw [BitVec.toNat_umod, BitVec.toNat_umod]
  exact Nat.mod_mod _ _
theorem mod_mod32 (b : BitVec 64) : b % 32#64 % 32#64 = b % 32#64 := by
  apply BitVec.eq_of_toNat_eq
  rw [BitVec.toNat_umod, BitVec.toNat_umod]
  exact Nat.mod_mod _ _
theorem shl_w {al : BitVec 64} (h : shiftB al = true) (a b : BitVec 64) : aluD (sfV al) true a (b % 64#64) = aluD (sfV al) true a b := by
  rcases sh3 h with rfl | rfl | rfl
  · show a <<< (b % 64#64 % 64#64).toNat = a <<< (b % 64#64).toNat
    rw [mod_mod]
  · show a >>> (b % 64#64 % 64#64).toNat = a >>> (b % 64#64).toNat
    rw [mod_mod]
  · show a.sshiftRight (b % 64#64 % 64#64).toNat = a.sshiftRight (b % 64#64).toNat
    rw [mod_mod]
theorem shl_n {al : BitVec 64} (h : shiftB al = true) (a b : BitVec 64) : aluD (sfV al) false a (b % 32#64) = aluD (sfV al) false a b := by
  rcases sh3 h with rfl | rfl | rfl
  · show ((a.setWidth 32) <<< (b % 32#64 % 32#64).toNat).setWidth 64 = ((a.setWidth 32) <<< (b % 32#64).toNat).setWidth 64
    rw [mod_mod32]
  · show ((a.setWidth 32) >>> (b % 32#64 % 32#64).toNat).setWidth 64 = ((a.setWidth 32) >>> (b % 32#64).toNat).setWidth 64
    rw [mod_mod32]
  · show ((a.setWidth 32).sshiftRight (b % 32#64 % 32#64).toNat).setWidth 64 = ((a.setWidth 32).sshiftRight (b % 32#64).toNat).setWidth 64
    rw [mod_mod32]
theorem rq12w {al a b d : BitVec 64} {S : MS} (h : shiftB al = true) : okA (put S d (aluD (sfV al) true a (b % 64#64))) = okA (put S d (mvA true (aluD (sfV al) true a b))) := by rw [mv_ar, shl_w h]
theorem rq12n {al a b d : BitVec 64} {S : MS} (h : shiftB al = true) : okA (put S d (aluD (sfV al) false (lo32 a) (b % 32#64))) = okA (put S d (mvA false (aluD (sfV al) false a b))) := by rw [mv_ar, aluD_lo1, shl_n h]
theorem m64_lt (b : BitVec 64) : (b % 64#64).toNat < 64 := by rw [BitVec.toNat_umod]; exact Nat.mod_lt _ (by decide)
theorem m32_lt (b : BitVec 64) : (b % 32#64).toNat < 32 := by rw [BitVec.toNat_umod]; exact Nat.mod_lt _ (by decide)
set_option maxRecDepth 100000 in
set_option maxHeartbeats 4000000 in
theorem rx_1t (D2 : VData) (m : Nat → Nat) (al cc sz : BitVec 64) (sh : Bool) (d s : BitVec 64) (dp rl : BitVec 32) (im : BitVec 64) (r0 r1 r2 r3 r4 r5 r6 r7 r8 r9 r10 r11 r12 r13 r14 r15 : BitVec 64) (fz fs fc fo : Bool) (pc : BitVec 64) (hv : vld 1#64 al cc sz true sh d s dp rl im = true) (hd : 0 ≤ d.toInt ∧ d.toNat < 16) (hs : 0 ≤ s.toInt ∧ s.toNat < 16) : F Tryd.prog (tabI Tryd.prog (or2 (DB m) (or2 (DP m) D2)) (tb_mvd m) FR 2) Tryd.f14 [.agg [.b64 true 1#64, .b64 true al, .b64 true cc, .b64 true sz, .bool true, .bool sh, .b64 true d, .b64 true s, .b32 true dp, .b32 true rl, .b64 true im], .agg [.b64 false r0, .b64 false r1, .b64 false r2, .b64 false r3, .b64 false r4, .b64 false r5, .b64 false r6, .b64 false r7, .b64 false r8, .b64 false r9, .b64 false r10, .b64 false r11, .b64 false r12, .b64 false r13, .b64 false r14, .b64 false r15, .bool fz, .bool fs, .bool fc, .bool fo, .b64 false pc]] (fun r => r = okA (X_1 ⟨1#64, al, cc, sz, true, sh, d, s, dp, rl, im⟩ ⟨fun j => nthW [r0, r1, r2, r3, r4, r5, r6, r7, r8, r9, r10, r11, r12, r13, r14, r15] j, fz, fs, fc, fo, pc⟩)) := by
  repeat' ((conv => whnf); first
    | with_reducible apply Both.mk
    | (with_reducible apply Given.mk; intro h; (try simp only [hv, Bool.not_true, Bool.not_false, Bool.true_eq_false, Bool.false_eq_true] at h); (try exact absurd h (by decide)); (try exact no2 h (by with_reducible assumption)); (try exact no2 (by with_reducible assumption) h)))
  all_goals first
    | ((with_reducible apply Ob.mk); with_reducible exact hd)
    | ((with_reducible apply Ob.mk); with_reducible exact hs)
    | ((with_reducible apply Ob.mk); with_reducible exact hd.2)
    | ((with_reducible apply Ob.mk); with_reducible exact hs.2)
    | (with_reducible apply Ob.mk; kernel_rfl)
    | (with_reducible apply Ob.mk; decide)
    | ((conv => whnf); refine ⟨?_⟩; exact rfl)
set_option maxRecDepth 100000 in
set_option maxHeartbeats 4000000 in
theorem rx_1f (D2 : VData) (m : Nat → Nat) (al cc sz : BitVec 64) (sh : Bool) (d s : BitVec 64) (dp rl : BitVec 32) (im : BitVec 64) (r0 r1 r2 r3 r4 r5 r6 r7 r8 r9 r10 r11 r12 r13 r14 r15 : BitVec 64) (fz fs fc fo : Bool) (pc : BitVec 64) (hv : vld 1#64 al cc sz false sh d s dp rl im = true) (hd : 0 ≤ d.toInt ∧ d.toNat < 16) (hs : 0 ≤ s.toInt ∧ s.toNat < 16) : F Tryd.prog (tabI Tryd.prog (or2 (DB m) (or2 (DP m) D2)) (tb_mvd m) FR 2) Tryd.f14 [.agg [.b64 true 1#64, .b64 true al, .b64 true cc, .b64 true sz, .bool false, .bool sh, .b64 true d, .b64 true s, .b32 true dp, .b32 true rl, .b64 true im], .agg [.b64 false r0, .b64 false r1, .b64 false r2, .b64 false r3, .b64 false r4, .b64 false r5, .b64 false r6, .b64 false r7, .b64 false r8, .b64 false r9, .b64 false r10, .b64 false r11, .b64 false r12, .b64 false r13, .b64 false r14, .b64 false r15, .bool fz, .bool fs, .bool fc, .bool fo, .b64 false pc]] (fun r => r = okA (X_1 ⟨1#64, al, cc, sz, false, sh, d, s, dp, rl, im⟩ ⟨fun j => nthW [r0, r1, r2, r3, r4, r5, r6, r7, r8, r9, r10, r11, r12, r13, r14, r15] j, fz, fs, fc, fo, pc⟩)) := by
  repeat' ((conv => whnf); first
    | with_reducible apply Both.mk
    | (with_reducible apply Given.mk; intro h; (try simp only [hv, Bool.not_true, Bool.not_false, Bool.true_eq_false, Bool.false_eq_true] at h); (try exact absurd h (by decide)); (try exact no2 h (by with_reducible assumption)); (try exact no2 (by with_reducible assumption) h)))
  all_goals first
    | ((with_reducible apply Ob.mk); with_reducible exact hd)
    | ((with_reducible apply Ob.mk); with_reducible exact hs)
    | ((with_reducible apply Ob.mk); with_reducible exact hd.2)
    | ((with_reducible apply Ob.mk); with_reducible exact hs.2)
    | (with_reducible apply Ob.mk; kernel_rfl)
    | (with_reducible apply Ob.mk; decide)
    | ((conv => whnf); refine ⟨?_⟩; exact rfl)
set_option maxRecDepth 100000 in
set_option maxHeartbeats 4000000 in
theorem rx_2t (D2 : VData) (m : Nat → Nat) (al cc sz : BitVec 64) (sh : Bool) (d s : BitVec 64) (dp rl : BitVec 32) (im : BitVec 64) (r0 r1 r2 r3 r4 r5 r6 r7 r8 r9 r10 r11 r12 r13 r14 r15 : BitVec 64) (fz fs fc fo : Bool) (pc : BitVec 64) (hv : vld 2#64 al cc sz true sh d s dp rl im = true) (hd : 0 ≤ d.toInt ∧ d.toNat < 16) (hs : 0 ≤ s.toInt ∧ s.toNat < 16) : F Tryd.prog (tabI Tryd.prog (or2 (DB m) (or2 (DP m) D2)) (tb_mvd m) FR 2) Tryd.f14 [.agg [.b64 true 2#64, .b64 true al, .b64 true cc, .b64 true sz, .bool true, .bool sh, .b64 true d, .b64 true s, .b32 true dp, .b32 true rl, .b64 true im], .agg [.b64 false r0, .b64 false r1, .b64 false r2, .b64 false r3, .b64 false r4, .b64 false r5, .b64 false r6, .b64 false r7, .b64 false r8, .b64 false r9, .b64 false r10, .b64 false r11, .b64 false r12, .b64 false r13, .b64 false r14, .b64 false r15, .bool fz, .bool fs, .bool fc, .bool fo, .b64 false pc]] (fun r => r = okA (X_2 ⟨2#64, al, cc, sz, true, sh, d, s, dp, rl, im⟩ ⟨fun j => nthW [r0, r1, r2, r3, r4, r5, r6, r7, r8, r9, r10, r11, r12, r13, r14, r15] j, fz, fs, fc, fo, pc⟩)) := by
  repeat' ((conv => whnf); first
    | with_reducible apply Both.mk
    | (with_reducible apply Given.mk; intro h; (try simp only [hv, Bool.not_true, Bool.not_false, Bool.true_eq_false, Bool.false_eq_true] at h); (try exact absurd h (by decide)); (try exact no2 h (by with_reducible assumption)); (try exact no2 (by with_reducible assumption) h)))
  all_goals first
    | ((with_reducible apply Ob.mk); with_reducible exact hd)
    | ((with_reducible apply Ob.mk); with_reducible exact hs)
    | ((with_reducible apply Ob.mk); with_reducible exact hd.2)
    | ((with_reducible apply Ob.mk); with_reducible exact hs.2)
    | (with_reducible apply Ob.mk; kernel_rfl)
    | (with_reducible apply Ob.mk; decide)
    | ((conv => whnf); refine ⟨?_⟩; exact rfl)
set_option maxRecDepth 100000 in
set_option maxHeartbeats 4000000 in
theorem rx_2f (D2 : VData) (m : Nat → Nat) (al cc sz : BitVec 64) (sh : Bool) (d s : BitVec 64) (dp rl : BitVec 32) (im : BitVec 64) (r0 r1 r2 r3 r4 r5 r6 r7 r8 r9 r10 r11 r12 r13 r14 r15 : BitVec 64) (fz fs fc fo : Bool) (pc : BitVec 64) (hv : vld 2#64 al cc sz false sh d s dp rl im = true) (hd : 0 ≤ d.toInt ∧ d.toNat < 16) (hs : 0 ≤ s.toInt ∧ s.toNat < 16) : F Tryd.prog (tabI Tryd.prog (or2 (DB m) (or2 (DP m) D2)) (tb_mvd m) FR 2) Tryd.f14 [.agg [.b64 true 2#64, .b64 true al, .b64 true cc, .b64 true sz, .bool false, .bool sh, .b64 true d, .b64 true s, .b32 true dp, .b32 true rl, .b64 true im], .agg [.b64 false r0, .b64 false r1, .b64 false r2, .b64 false r3, .b64 false r4, .b64 false r5, .b64 false r6, .b64 false r7, .b64 false r8, .b64 false r9, .b64 false r10, .b64 false r11, .b64 false r12, .b64 false r13, .b64 false r14, .b64 false r15, .bool fz, .bool fs, .bool fc, .bool fo, .b64 false pc]] (fun r => r = okA (X_2 ⟨2#64, al, cc, sz, false, sh, d, s, dp, rl, im⟩ ⟨fun j => nthW [r0, r1, r2, r3, r4, r5, r6, r7, r8, r9, r10, r11, r12, r13, r14, r15] j, fz, fs, fc, fo, pc⟩)) := by
  repeat' ((conv => whnf); first
    | with_reducible apply Both.mk
    | (with_reducible apply Given.mk; intro h; (try simp only [hv, Bool.not_true, Bool.not_false, Bool.true_eq_false, Bool.false_eq_true] at h); (try exact absurd h (by decide)); (try exact no2 h (by with_reducible assumption)); (try exact no2 (by with_reducible assumption) h)))
  all_goals first
    | ((with_reducible apply Ob.mk); with_reducible exact hd)
    | ((with_reducible apply Ob.mk); with_reducible exact hs)
    | ((with_reducible apply Ob.mk); with_reducible exact hd.2)
    | ((with_reducible apply Ob.mk); with_reducible exact hs.2)
    | (with_reducible apply Ob.mk; kernel_rfl)
    | (with_reducible apply Ob.mk; decide)
    | ((conv => whnf); refine ⟨?_⟩; exact rfl)
set_option maxRecDepth 100000 in
set_option maxHeartbeats 4000000 in
theorem rx_3t (D2 : VData) (m : Nat → Nat) (al cc sz : BitVec 64) (sh : Bool) (d s : BitVec 64) (dp rl : BitVec 32) (im : BitVec 64) (r0 r1 r2 r3 r4 r5 r6 r7 r8 r9 r10 r11 r12 r13 r14 r15 : BitVec 64) (fz fs fc fo : Bool) (pc : BitVec 64) (hv : vld 3#64 al cc sz true sh d s dp rl im = true) (hd : 0 ≤ d.toInt ∧ d.toNat < 16) (hs : 0 ≤ s.toInt ∧ s.toNat < 16) : F Tryd.prog (tabI Tryd.prog (or2 (DB m) (or2 (DP m) D2)) (tb_mvd m) FR 2) Tryd.f14 [.agg [.b64 true 3#64, .b64 true al, .b64 true cc, .b64 true sz, .bool true, .bool sh, .b64 true d, .b64 true s, .b32 true dp, .b32 true rl, .b64 true im], .agg [.b64 false r0, .b64 false r1, .b64 false r2, .b64 false r3, .b64 false r4, .b64 false r5, .b64 false r6, .b64 false r7, .b64 false r8, .b64 false r9, .b64 false r10, .b64 false r11, .b64 false r12, .b64 false r13, .b64 false r14, .b64 false r15, .bool fz, .bool fs, .bool fc, .bool fo, .b64 false pc]] (fun r => r = okA (X_2 ⟨3#64, al, cc, sz, true, sh, d, s, dp, rl, im⟩ ⟨fun j => nthW [r0, r1, r2, r3, r4, r5, r6, r7, r8, r9, r10, r11, r12, r13, r14, r15] j, fz, fs, fc, fo, pc⟩)) := by
  repeat' ((conv => whnf); first
    | with_reducible apply Both.mk
    | (with_reducible apply Given.mk; intro h; (try simp only [hv, Bool.not_true, Bool.not_false, Bool.true_eq_false, Bool.false_eq_true] at h); (try exact absurd h (by decide)); (try exact no2 h (by with_reducible assumption)); (try exact no2 (by with_reducible assumption) h)))
  all_goals first
    | ((with_reducible apply Ob.mk); with_reducible exact hd)
    | ((with_reducible apply Ob.mk); with_reducible exact hs)
    | ((with_reducible apply Ob.mk); with_reducible exact hd.2)
    | ((with_reducible apply Ob.mk); with_reducible exact hs.2)
    | (with_reducible apply Ob.mk; kernel_rfl)
    | (with_reducible apply Ob.mk; decide)
    | ((conv => whnf); refine ⟨?_⟩; exact rfl)
set_option maxRecDepth 100000 in
set_option maxHeartbeats 4000000 in
theorem rx_3f (D2 : VData) (m : Nat → Nat) (al cc sz : BitVec 64) (sh : Bool) (d s : BitVec 64) (dp rl : BitVec 32) (im : BitVec 64) (r0 r1 r2 r3 r4 r5 r6 r7 r8 r9 r10 r11 r12 r13 r14 r15 : BitVec 64) (fz fs fc fo : Bool) (pc : BitVec 64) (hv : vld 3#64 al cc sz false sh d s dp rl im = true) (hd : 0 ≤ d.toInt ∧ d.toNat < 16) (hs : 0 ≤ s.toInt ∧ s.toNat < 16) : F Tryd.prog (tabI Tryd.prog (or2 (DB m) (or2 (DP m) D2)) (tb_mvd m) FR 2) Tryd.f14 [.agg [.b64 true 3#64, .b64 true al, .b64 true cc, .b64 true sz, .bool false, .bool sh, .b64 true d, .b64 true s, .b32 true dp, .b32 true rl, .b64 true im], .agg [.b64 false r0, .b64 false r1, .b64 false r2, .b64 false r3, .b64 false r4, .b64 false r5, .b64 false r6, .b64 false r7, .b64 false r8, .b64 false r9, .b64 false r10, .b64 false r11, .b64 false r12, .b64 false r13, .b64 false r14, .b64 false r15, .bool fz, .bool fs, .bool fc, .bool fo, .b64 false pc]] (fun r => r = okA (X_2 ⟨3#64, al, cc, sz, false, sh, d, s, dp, rl, im⟩ ⟨fun j => nthW [r0, r1, r2, r3, r4, r5, r6, r7, r8, r9, r10, r11, r12, r13, r14, r15] j, fz, fs, fc, fo, pc⟩)) := by
  repeat' ((conv => whnf); first
    | with_reducible apply Both.mk
    | (with_reducible apply Given.mk; intro h; (try simp only [hv, Bool.not_true, Bool.not_false, Bool.true_eq_false, Bool.false_eq_true] at h); (try exact absurd h (by decide)); (try exact no2 h (by with_reducible assumption)); (try exact no2 (by with_reducible assumption) h)))
  all_goals first
    | ((with_reducible apply Ob.mk); with_reducible exact hd)
    | ((with_reducible apply Ob.mk); with_reducible exact hs)
    | ((with_reducible apply Ob.mk); with_reducible exact hd.2)
    | ((with_reducible apply Ob.mk); with_reducible exact hs.2)
    | (with_reducible apply Ob.mk; kernel_rfl)
    | (with_reducible apply Ob.mk; decide)
    | ((conv => whnf); refine ⟨?_⟩; exact rfl)
set_option maxRecDepth 100000 in
set_option maxHeartbeats 4000000 in
theorem rx_4t (D2 : VData) (m : Nat → Nat) (al cc sz : BitVec 64) (sh : Bool) (d s : BitVec 64) (dp rl : BitVec 32) (im : BitVec 64) (r0 r1 r2 r3 r4 r5 r6 r7 r8 r9 r10 r11 r12 r13 r14 r15 : BitVec 64) (fz fs fc fo : Bool) (pc : BitVec 64) (hv : vld 4#64 al cc sz true sh d s dp rl im = true) (hd : 0 ≤ d.toInt ∧ d.toNat < 16) (hs : 0 ≤ s.toInt ∧ s.toNat < 16) (ha : aluB al = true) : F Tryd.prog (tabI Tryd.prog (or2 (DB m) (or2 (DP m) D2)) (tb_mvd m) FR 2) Tryd.f14 [.agg [.b64 true 4#64, .b64 true al, .b64 true cc, .b64 true sz, .bool true, .bool sh, .b64 true d, .b64 true s, .b32 true dp, .b32 true rl, .b64 true im], .agg [.b64 false r0, .b64 false r1, .b64 false r2, .b64 false r3, .b64 false r4, .b64 false r5, .b64 false r6, .b64 false r7, .b64 false r8, .b64 false r9, .b64 false r10, .b64 false r11, .b64 false r12, .b64 false r13, .b64 false r14, .b64 false r15, .bool fz, .bool fs, .bool fc, .bool fo, .b64 false pc]] (fun r => r = okA (X_4 ⟨4#64, al, cc, sz, true, sh, d, s, dp, rl, im⟩ ⟨fun j => nthW [r0, r1, r2, r3, r4, r5, r6, r7, r8, r9, r10, r11, r12, r13, r14, r15] j, fz, fs, fc, fo, pc⟩)) := by
  repeat' ((conv => whnf); first
    | with_reducible apply Both.mk
    | (with_reducible apply Given.mk; intro h; (try simp only [hv, Bool.not_true, Bool.not_false, Bool.true_eq_false, Bool.false_eq_true] at h); (try exact absurd h (by decide)); (try exact no2 h (by with_reducible assumption)); (try exact no2 (by with_reducible assumption) h)))
  all_goals first
    | ((with_reducible apply Ob.mk); with_reducible exact hd)
    | ((with_reducible apply Ob.mk); with_reducible exact hs)
    | ((with_reducible apply Ob.mk); with_reducible exact hd.2)
    | ((with_reducible apply Ob.mk); with_reducible exact hs.2)
    | ((with_reducible apply Ob.mk); exact ha)
    | (with_reducible apply Ob.mk; kernel_rfl)
    | (with_reducible apply Ob.mk; decide)
    | ((conv => whnf); refine ⟨?_⟩; first | exact r45 rfl rfl h | exact r45c rfl h)
set_option maxRecDepth 100000 in
set_option maxHeartbeats 4000000 in
theorem rx_4f (D2 : VData) (m : Nat → Nat) (al cc sz : BitVec 64) (sh : Bool) (d s : BitVec 64) (dp rl : BitVec 32) (im : BitVec 64) (r0 r1 r2 r3 r4 r5 r6 r7 r8 r9 r10 r11 r12 r13 r14 r15 : BitVec 64) (fz fs fc fo : Bool) (pc : BitVec 64) (hv : vld 4#64 al cc sz false sh d s dp rl im = true) (hd : 0 ≤ d.toInt ∧ d.toNat < 16) (hs : 0 ≤ s.toInt ∧ s.toNat < 16) (ha : aluB al = true) : F Tryd.prog (tabI Tryd.prog (or2 (DB m) (or2 (DP m) D2)) (tb_mvd m) FR 2) Tryd.f14 [.agg [.b64 true 4#64, .b64 true al, .b64 true cc, .b64 true sz, .bool false, .bool sh, .b64 true d, .b64 true s, .b32 true dp, .b32 true rl, .b64 true im], .agg [.b64 false r0, .b64 false r1, .b64 false r2, .b64 false r3, .b64 false r4, .b64 false r5, .b64 false r6, .b64 false r7, .b64 false r8, .b64 false r9, .b64 false r10, .b64 false r11, .b64 false r12, .b64 false r13, .b64 false r14, .b64 false r15, .bool fz, .bool fs, .bool fc, .bool fo, .b64 false pc]] (fun r => r = okA (X_4 ⟨4#64, al, cc, sz, false, sh, d, s, dp, rl, im⟩ ⟨fun j => nthW [r0, r1, r2, r3, r4, r5, r6, r7, r8, r9, r10, r11, r12, r13, r14, r15] j, fz, fs, fc, fo, pc⟩)) := by
  repeat' ((conv => whnf); first
    | with_reducible apply Both.mk
    | (with_reducible apply Given.mk; intro h; (try simp only [hv, Bool.not_true, Bool.not_false, Bool.true_eq_false, Bool.false_eq_true] at h); (try exact absurd h (by decide)); (try exact no2 h (by with_reducible assumption)); (try exact no2 (by with_reducible assumption) h)))
  all_goals first
    | ((with_reducible apply Ob.mk); with_reducible exact hd)
    | ((with_reducible apply Ob.mk); with_reducible exact hs)
    | ((with_reducible apply Ob.mk); with_reducible exact hd.2)
    | ((with_reducible apply Ob.mk); with_reducible exact hs.2)
    | ((with_reducible apply Ob.mk); exact ⟨ha, lo_lo _, lo_lo _⟩)
    | (with_reducible apply Ob.mk; kernel_rfl)
    | (with_reducible apply Ob.mk; decide)
    | ((conv => whnf); refine ⟨?_⟩; first | exact r45 (arF_lo _ _ _ _) (arR_lo _ _ _) h | exact r45c (arF_lo _ _ _ _) h)
set_option maxRecDepth 100000 in
set_option maxHeartbeats 4000000 in
theorem rx_5t (D2 : VData) (m : Nat → Nat) (al cc sz : BitVec 64) (sh : Bool) (d s : BitVec 64) (dp rl : BitVec 32) (im : BitVec 64) (r0 r1 r2 r3 r4 r5 r6 r7 r8 r9 r10 r11 r12 r13 r14 r15 : BitVec 64) (fz fs fc fo : Bool) (pc : BitVec 64) (hv : vld 5#64 al cc sz true sh d s dp rl im = true) (hd : 0 ≤ d.toInt ∧ d.toNat < 16) (hs : 0 ≤ s.toInt ∧ s.toNat < 16) (ha : aluB al = true) : F Tryd.prog (tabI Tryd.prog (or2 (DB m) (or2 (DP m) D2)) (tb_mvd m) FR 2) Tryd.f14 [.agg [.b64 true 5#64, .b64 true al, .b64 true cc, .b64 true sz, .bool true, .bool sh, .b64 true d, .b64 true s, .b32 true dp, .b32 true rl, .b64 true im], .agg [.b64 false r0, .b64 false r1, .b64 false r2, .b64 false r3, .b64 false r4, .b64 false r5, .b64 false r6, .b64 false r7, .b64 false r8, .b64 false r9, .b64 false r10, .b64 false r11, .b64 false r12, .b64 false r13, .b64 false r14, .b64 false r15, .bool fz, .bool fs, .bool fc, .bool fo, .b64 false pc]] (fun r => r = okA (X_5 ⟨5#64, al, cc, sz, true, sh, d, s, dp, rl, im⟩ ⟨fun j => nthW [r0, r1, r2, r3, r4, r5, r6, r7, r8, r9, r10, r11, r12, r13, r14, r15] j, fz, fs, fc, fo, pc⟩)) := by
  repeat' ((conv => whnf); first
    | with_reducible apply Both.mk
    | (with_reducible apply Given.mk; intro h; (try simp only [hv, Bool.not_true, Bool.not_false, Bool.true_eq_false, Bool.false_eq_true] at h); (try exact absurd h (by decide)); (try exact no2 h (by with_reducible assumption)); (try exact no2 (by with_reducible assumption) h)))
  all_goals first
    | ((with_reducible apply Ob.mk); with_reducible exact hd)
    | ((with_reducible apply Ob.mk); with_reducible exact hs)
    | ((with_reducible apply Ob.mk); with_reducible exact hd.2)
    | ((with_reducible apply Ob.mk); with_reducible exact hs.2)
    | ((with_reducible apply Ob.mk); exact ha)
    | (with_reducible apply Ob.mk; kernel_rfl)
    | (with_reducible apply Ob.mk; decide)
    | ((conv => whnf); refine ⟨?_⟩; first | exact r45 rfl rfl h | exact r45c rfl h)
set_option maxRecDepth 100000 in
set_option maxHeartbeats 4000000 in
theorem rx_5f (D2 : VData) (m : Nat → Nat) (al cc sz : BitVec 64) (sh : Bool) (d s : BitVec 64) (dp rl : BitVec 32) (im : BitVec 64) (r0 r1 r2 r3 r4 r5 r6 r7 r8 r9 r10 r11 r12 r13 r14 r15 : BitVec 64) (fz fs fc fo : Bool) (pc : BitVec 64) (hv : vld 5#64 al cc sz false sh d s dp rl im = true) (hd : 0 ≤ d.toInt ∧ d.toNat < 16) (hs : 0 ≤ s.toInt ∧ s.toNat < 16) (ha : aluB al = true) : F Tryd.prog (tabI Tryd.prog (or2 (DB m) (or2 (DP m) D2)) (tb_mvd m) FR 2) Tryd.f14 [.agg [.b64 true 5#64, .b64 true al, .b64 true cc, .b64 true sz, .bool false, .bool sh, .b64 true d, .b64 true s, .b32 true dp, .b32 true rl, .b64 true im], .agg [.b64 false r0, .b64 false r1, .b64 false r2, .b64 false r3, .b64 false r4, .b64 false r5, .b64 false r6, .b64 false r7, .b64 false r8, .b64 false r9, .b64 false r10, .b64 false r11, .b64 false r12, .b64 false r13, .b64 false r14, .b64 false r15, .bool fz, .bool fs, .bool fc, .bool fo, .b64 false pc]] (fun r => r = okA (X_5 ⟨5#64, al, cc, sz, false, sh, d, s, dp, rl, im⟩ ⟨fun j => nthW [r0, r1, r2, r3, r4, r5, r6, r7, r8, r9, r10, r11, r12, r13, r14, r15] j, fz, fs, fc, fo, pc⟩)) := by
  repeat' ((conv => whnf); first
    | with_reducible apply Both.mk
    | (with_reducible apply Given.mk; intro h; (try simp only [hv, Bool.not_true, Bool.not_false, Bool.true_eq_false, Bool.false_eq_true] at h); (try exact absurd h (by decide)); (try exact no2 h (by with_reducible assumption)); (try exact no2 (by with_reducible assumption) h)))
  all_goals first
    | ((with_reducible apply Ob.mk); with_reducible exact hd)
    | ((with_reducible apply Ob.mk); with_reducible exact hs)
    | ((with_reducible apply Ob.mk); with_reducible exact hd.2)
    | ((with_reducible apply Ob.mk); with_reducible exact hs.2)
    | ((with_reducible apply Ob.mk); exact ⟨ha, lo_lo _, lo_lo _⟩)
    | (with_reducible apply Ob.mk; kernel_rfl)
    | (with_reducible apply Ob.mk; decide)
    | ((conv => whnf); refine ⟨?_⟩; first | exact r45 (arF_lo _ _ _ _) (arR_lo _ _ _) h | exact r45c (arF_lo _ _ _ _) h)
set_option maxRecDepth 100000 in
set_option maxHeartbeats 4000000 in
theorem rx_6t (D2 : VData) (m : Nat → Nat) (al cc sz : BitVec 64) (sh : Bool) (d s : BitVec 64) (dp rl : BitVec 32) (im : BitVec 64) (r0 r1 r2 r3 r4 r5 r6 r7 r8 r9 r10 r11 r12 r13 r14 r15 : BitVec 64) (fz fs fc fo : Bool) (pc : BitVec 64) (hv : vld 6#64 al cc sz true sh d s dp rl im = true) (hd : 0 ≤ d.toInt ∧ d.toNat < 16) (hs : 0 ≤ s.toInt ∧ s.toNat < 16) : F Tryd.prog (tabI Tryd.prog (or2 (DB m) (or2 (DP m) D2)) (tb_mvd m) FR 2) Tryd.f14 [.agg [.b64 true 6#64, .b64 true al, .b64 true cc, .b64 true sz, .bool true, .bool sh, .b64 true d, .b64 true s, .b32 true dp, .b32 true rl, .b64 true im], .agg [.b64 false r0, .b64 false r1, .b64 false r2, .b64 false r3, .b64 false r4, .b64 false r5, .b64 false r6, .b64 false r7, .b64 false r8, .b64 false r9, .b64 false r10, .b64 false r11, .b64 false r12, .b64 false r13, .b64 false r14, .b64 false r15, .bool fz, .bool fs, .bool fc, .bool fo, .b64 false pc]] (fun r => r = okA (X_6 ⟨6#64, al, cc, sz, true, sh, d, s, dp, rl, im⟩ ⟨fun j => nthW [r0, r1, r2, r3, r4, r5, r6, r7, r8, r9, r10, r11, r12, r13, r14, r15] j, fz, fs, fc, fo, pc⟩)) := by
  repeat' ((conv => whnf); first
    | with_reducible apply Both.mk
    | (with_reducible apply Given.mk; intro h; (try simp only [hv, Bool.not_true, Bool.not_false, Bool.true_eq_false, Bool.false_eq_true] at h); (try exact absurd h (by decide)); (try exact no2 h (by with_reducible assumption)); (try exact no2 (by with_reducible assumption) h)))
  all_goals first
    | ((with_reducible apply Ob.mk); with_reducible exact hd)
    | ((with_reducible apply Ob.mk); with_reducible exact hs)
    | ((with_reducible apply Ob.mk); with_reducible exact hd.2)
    | ((with_reducible apply Ob.mk); with_reducible exact hs.2)
    | (with_reducible apply Ob.mk; kernel_rfl)
    | (with_reducible apply Ob.mk; decide)
    | ((conv => whnf); refine ⟨?_⟩; exact rfl)
set_option maxRecDepth 100000 in
set_option maxHeartbeats 4000000 in
theorem rx_6f (D2 : VData) (m : Nat → Nat) (al cc sz : BitVec 64) (sh : Bool) (d s : BitVec 64) (dp rl : BitVec 32) (im : BitVec 64) (r0 r1 r2 r3 r4 r5 r6 r7 r8 r9 r10 r11 r12 r13 r14 r15 : BitVec 64) (fz fs fc fo : Bool) (pc : BitVec 64) (hv : vld 6#64 al cc sz false sh d s dp rl im = true) (hd : 0 ≤ d.toInt ∧ d.toNat < 16) (hs : 0 ≤ s.toInt ∧ s.toNat < 16) : F Tryd.prog (tabI Tryd.prog (or2 (DB m) (or2 (DP m) D2)) (tb_mvd m) FR 2) Tryd.f14 [.agg [.b64 true 6#64, .b64 true al, .b64 true cc, .b64 true sz, .bool false, .bool sh, .b64 true d, .b64 true s, .b32 true dp, .b32 true rl, .b64 true im], .agg [.b64 false r0, .b64 false r1, .b64 false r2, .b64 false r3, .b64 false r4, .b64 false r5, .b64 false r6, .b64 false r7, .b64 false r8, .b64 false r9, .b64 false r10, .b64 false r11, .b64 false r12, .b64 false r13, .b64 false r14, .b64 false r15, .bool fz, .bool fs, .bool fc, .bool fo, .b64 false pc]] (fun r => r = okA (X_6 ⟨6#64, al, cc, sz, false, sh, d, s, dp, rl, im⟩ ⟨fun j => nthW [r0, r1, r2, r3, r4, r5, r6, r7, r8, r9, r10, r11, r12, r13, r14, r15] j, fz, fs, fc, fo, pc⟩)) := by
  repeat' ((conv => whnf); first
    | with_reducible apply Both.mk
    | (with_reducible apply Given.mk; intro h; (try simp only [hv, Bool.not_true, Bool.not_false, Bool.true_eq_false, Bool.false_eq_true] at h); (try exact absurd h (by decide)); (try exact no2 h (by with_reducible assumption)); (try exact no2 (by with_reducible assumption) h)))
  all_goals first
    | ((with_reducible apply Ob.mk); with_reducible exact hd)
    | ((with_reducible apply Ob.mk); with_reducible exact hs)
    | ((with_reducible apply Ob.mk); with_reducible exact hd.2)
    | ((with_reducible apply Ob.mk); with_reducible exact hs.2)
    | ((with_reducible apply Ob.mk); exact ⟨rfl, lo_lo _, lo_lo _⟩)
    | (with_reducible apply Ob.mk; kernel_rfl)
    | (with_reducible apply Ob.mk; decide)
    | ((conv => whnf); refine ⟨?_⟩; exact congrArg okA (arF_lo _ _ _ _))
set_option maxRecDepth 100000 in
set_option maxHeartbeats 4000000 in
theorem rx_7t (D2 : VData) (m : Nat → Nat) (al cc sz : BitVec 64) (sh : Bool) (d s : BitVec 64) (dp rl : BitVec 32) (im : BitVec 64) (r0 r1 r2 r3 r4 r5 r6 r7 r8 r9 r10 r11 r12 r13 r14 r15 : BitVec 64) (fz fs fc fo : Bool) (pc : BitVec 64) (hv : vld 7#64 al cc sz true sh d s dp rl im = true) (hd : 0 ≤ d.toInt ∧ d.toNat < 16) (hs : 0 ≤ s.toInt ∧ s.toNat < 16) : F Tryd.prog (tabI Tryd.prog (or2 (DB m) (or2 (DP m) D2)) (tb_mvd m) FR 2) Tryd.f14 [.agg [.b64 true 7#64, .b64 true al, .b64 true cc, .b64 true sz, .bool true, .bool sh, .b64 true d, .b64 true s, .b32 true dp, .b32 true rl, .b64 true im], .agg [.b64 false r0, .b64 false r1, .b64 false r2, .b64 false r3, .b64 false r4, .b64 false r5, .b64 false r6, .b64 false r7, .b64 false r8, .b64 false r9, .b64 false r10, .b64 false r11, .b64 false r12, .b64 false r13, .b64 false r14, .b64 false r15, .bool fz, .bool fs, .bool fc, .bool fo, .b64 false pc]] (fun r => r = okA (X_7 ⟨7#64, al, cc, sz, true, sh, d, s, dp, rl, im⟩ ⟨fun j => nthW [r0, r1, r2, r3, r4, r5, r6, r7, r8, r9, r10, r11, r12, r13, r14, r15] j, fz, fs, fc, fo, pc⟩)) := by
  repeat' ((conv => whnf); first
    | with_reducible apply Both.mk
    | (with_reducible apply Given.mk; intro h; (try simp only [hv, Bool.not_true, Bool.not_false, Bool.true_eq_false, Bool.false_eq_true] at h); (try exact absurd h (by decide)); (try exact no2 h (by with_reducible assumption)); (try exact no2 (by with_reducible assumption) h)))
  all_goals first
    | ((with_reducible apply Ob.mk); with_reducible exact hd)
    | ((with_reducible apply Ob.mk); with_reducible exact hs)
    | ((with_reducible apply Ob.mk); with_reducible exact hd.2)
    | ((with_reducible apply Ob.mk); with_reducible exact hs.2)
    | (with_reducible apply Ob.mk; kernel_rfl)
    | (with_reducible apply Ob.mk; decide)
    | ((conv => whnf); refine ⟨?_⟩; exact rfl)
set_option maxRecDepth 100000 in
set_option maxHeartbeats 4000000 in
theorem rx_7f (D2 : VData) (m : Nat → Nat) (al cc sz : BitVec 64) (sh : Bool) (d s : BitVec 64) (dp rl : BitVec 32) (im : BitVec 64) (r0 r1 r2 r3 r4 r5 r6 r7 r8 r9 r10 r11 r12 r13 r14 r15 : BitVec 64) (fz fs fc fo : Bool) (pc : BitVec 64) (hv : vld 7#64 al cc sz false sh d s dp rl im = true) (hd : 0 ≤ d.toInt ∧ d.toNat < 16) (hs : 0 ≤ s.toInt ∧ s.toNat < 16) : F Tryd.prog (tabI Tryd.prog (or2 (DB m) (or2 (DP m) D2)) (tb_mvd m) FR 2) Tryd.f14 [.agg [.b64 true 7#64, .b64 true al, .b64 true cc, .b64 true sz, .bool false, .bool sh, .b64 true d, .b64 true s, .b32 true dp, .b32 true rl, .b64 true im], .agg [.b64 false r0, .b64 false r1, .b64 false r2, .b64 false r3, .b64 false r4, .b64 false r5, .b64 false r6, .b64 false r7, .b64 false r8, .b64 false r9, .b64 false r10, .b64 false r11, .b64 false r12, .b64 false r13, .b64 false r14, .b64 false r15, .bool fz, .bool fs, .bool fc, .bool fo, .b64 false pc]] (fun r => r = okA (X_7 ⟨7#64, al, cc, sz, false, sh, d, s, dp, rl, im⟩ ⟨fun j => nthW [r0, r1, r2, r3, r4, r5, r6, r7, r8, r9, r10, r11, r12, r13, r14, r15] j, fz, fs, fc, fo, pc⟩)) := by
  repeat' ((conv => whnf); first
    | with_reducible apply Both.mk
    | (with_reducible apply Given.mk; intro h; (try simp only [hv, Bool.not_true, Bool.not_false, Bool.true_eq_false, Bool.false_eq_true] at h); (try exact absurd h (by decide)); (try exact no2 h (by with_reducible assumption)); (try exact no2 (by with_reducible assumption) h)))
  all_goals first
    | ((with_reducible apply Ob.mk); with_reducible exact hd)
    | ((with_reducible apply Ob.mk); with_reducible exact hs)
    | ((with_reducible apply Ob.mk); with_reducible exact hd.2)
    | ((with_reducible apply Ob.mk); with_reducible exact hs.2)
    | ((with_reducible apply Ob.mk); exact ⟨rfl, rfl, lo_lo _⟩)
    | (with_reducible apply Ob.mk; kernel_rfl)
    | (with_reducible apply Ob.mk; decide)
    | ((conv => whnf); refine ⟨?_⟩; exact rq7 (a := (nthW [r0, r1, r2, r3, r4, r5, r6, r7, r8, r9, r10, r11, r12, r13, r14, r15] d.toNat)) (d := d) (S := ⟨fun j => nthW [r0, r1, r2, r3, r4, r5, r6, r7, r8, r9, r10, r11, r12, r13, r14, r15] j, fz, fs, fc, fo, pc⟩))
set_option maxRecDepth 100000 in
set_option maxHeartbeats 4000000 in
theorem rx_8t (D2 : VData) (m : Nat → Nat) (al cc sz : BitVec 64) (sh : Bool) (d s : BitVec 64) (dp rl : BitVec 32) (im : BitVec 64) (r0 r1 r2 r3 r4 r5 r6 r7 r8 r9 r10 r11 r12 r13 r14 r15 : BitVec 64) (fz fs fc fo : Bool) (pc : BitVec 64) (hv : vld 8#64 al cc sz true sh d s dp rl im = true) (hd : 0 ≤ d.toInt ∧ d.toNat < 16) (hs : 0 ≤ s.toInt ∧ s.toNat < 16) : F Tryd.prog (tabI Tryd.prog (or2 (DB m) (or2 (DP m) D2)) (tb_mvd m) FR 2) Tryd.f14 [.agg [.b64 true 8#64, .b64 true al, .b64 true cc, .b64 true sz, .bool true, .bool sh, .b64 true d, .b64 true s, .b32 true dp, .b32 true rl, .b64 true im], .agg [.b64 false r0, .b64 false r1, .b64 false r2, .b64 false r3, .b64 false r4, .b64 false r5, .b64 false r6, .b64 false r7, .b64 false r8, .b64 false r9, .b64 false r10, .b64 false r11, .b64 false r12, .b64 false r13, .b64 false r14, .b64 false r15, .bool fz, .bool fs, .bool fc, .bool fo, .b64 false pc]] (fun r => r = okA (X_8 ⟨8#64, al, cc, sz, true, sh, d, s, dp, rl, im⟩ ⟨fun j => nthW [r0, r1, r2, r3, r4, r5, r6, r7, r8, r9, r10, r11, r12, r13, r14, r15] j, fz, fs, fc, fo, pc⟩)) := by
  repeat' ((conv => whnf); first
    | with_reducible apply Both.mk
    | (with_reducible apply Given.mk; intro h; (try simp only [hv, Bool.not_true, Bool.not_false, Bool.true_eq_false, Bool.false_eq_true] at h); (try exact absurd h (by decide)); (try exact no2 h (by with_reducible assumption)); (try exact no2 (by with_reducible assumption) h)))
  all_goals first
    | ((with_reducible apply Ob.mk); with_reducible exact hd)
    | ((with_reducible apply Ob.mk); with_reducible exact hs)
    | ((with_reducible apply Ob.mk); with_reducible exact hd.2)
    | ((with_reducible apply Ob.mk); with_reducible exact hs.2)
    | (with_reducible apply Ob.mk; kernel_rfl)
    | (with_reducible apply Ob.mk; decide)
    | ((conv => whnf); refine ⟨?_⟩; exact rfl)
set_option maxRecDepth 100000 in
set_option maxHeartbeats 4000000 in
theorem rx_8f (D2 : VData) (m : Nat → Nat) (al cc sz : BitVec 64) (sh : Bool) (d s : BitVec 64) (dp rl : BitVec 32) (im : BitVec 64) (r0 r1 r2 r3 r4 r5 r6 r7 r8 r9 r10 r11 r12 r13 r14 r15 : BitVec 64) (fz fs fc fo : Bool) (pc : BitVec 64) (hv : vld 8#64 al cc sz false sh d s dp rl im = true) (hd : 0 ≤ d.toInt ∧ d.toNat < 16) (hs : 0 ≤ s.toInt ∧ s.toNat < 16) : F Tryd.prog (tabI Tryd.prog (or2 (DB m) (or2 (DP m) D2)) (tb_mvd m) FR 2) Tryd.f14 [.agg [.b64 true 8#64, .b64 true al, .b64 true cc, .b64 true sz, .bool false, .bool sh, .b64 true d, .b64 true s, .b32 true dp, .b32 true rl, .b64 true im], .agg [.b64 false r0, .b64 false r1, .b64 false r2, .b64 false r3, .b64 false r4, .b64 false r5, .b64 false r6, .b64 false r7, .b64 false r8, .b64 false r9, .b64 false r10, .b64 false r11, .b64 false r12, .b64 false r13, .b64 false r14, .b64 false r15, .bool fz, .bool fs, .bool fc, .bool fo, .b64 false pc]] (fun r => r = okA (X_8 ⟨8#64, al, cc, sz, false, sh, d, s, dp, rl, im⟩ ⟨fun j => nthW [r0, r1, r2, r3, r4, r5, r6, r7, r8, r9, r10, r11, r12, r13, r14, r15] j, fz, fs, fc, fo, pc⟩)) := by
  repeat' ((conv => whnf); first
    | with_reducible apply Both.mk
    | (with_reducible apply Given.mk; intro h; (try simp only [hv, Bool.not_true, Bool.not_false, Bool.true_eq_false, Bool.false_eq_true] at h); (try exact absurd h (by decide)); (try exact no2 h (by with_reducible assumption)); (try exact no2 (by with_reducible assumption) h)))
  all_goals first
    | ((with_reducible apply Ob.mk); with_reducible exact hd)
    | ((with_reducible apply Ob.mk); with_reducible exact hs)
    | ((with_reducible apply Ob.mk); with_reducible exact hd.2)
    | ((with_reducible apply Ob.mk); with_reducible exact hs.2)
    | (with_reducible apply Ob.mk; kernel_rfl)
    | (with_reducible apply Ob.mk; decide)
    | ((conv => whnf); refine ⟨?_⟩; exact rq8 (a := r0) (b := (nthW [r0, r1, r2, r3, r4, r5, r6, r7, r8, r9, r10, r11, r12, r13, r14, r15] d.toNat)) (S := ⟨fun j => nthW [r0, r1, r2, r3, r4, r5, r6, r7, r8, r9, r10, r11, r12, r13, r14, r15] j, fz, fs, fc, fo, pc⟩))
set_option maxRecDepth 100000 in
set_option maxHeartbeats 4000000 in
theorem rx_9tt (D2 : VData) (m : Nat → Nat) (al cc sz : BitVec 64) (sh : Bool) (d s : BitVec 64) (dp rl : BitVec 32) (im : BitVec 64) (r0 r1 r2 r3 r4 r5 r6 r7 r8 r9 r10 r11 r12 r13 r14 r15 : BitVec 64) (fz fs fc fo : Bool) (pc : BitVec 64) (hv : vld 9#64 al cc sz true sh d s dp rl im = true) (hd : 0 ≤ d.toInt ∧ d.toNat < 16) (hs : 0 ≤ s.toInt ∧ s.toNat < 16) (hu : ((nthW [r0, r1, r2, r3, r4, r5, r6, r7, r8, r9, r10, r11, r12, r13, r14, r15] d.toNat)).ule r2 = false) : F Tryd.prog (tabI Tryd.prog (or2 (DB m) (or2 (DP m) D2)) (tb_mvd m) FR 2) Tryd.f14 [.agg [.b64 true 9#64, .b64 true al, .b64 true cc, .b64 true sz, .bool true, .bool sh, .b64 true d, .b64 true s, .b32 true dp, .b32 true rl, .b64 true im], .agg [.b64 false r0, .b64 false r1, .b64 false r2, .b64 false r3, .b64 false r4, .b64 false r5, .b64 false r6, .b64 false r7, .b64 false r8, .b64 false r9, .b64 false r10, .b64 false r11, .b64 false r12, .b64 false r13, .b64 false r14, .b64 false r15, .bool fz, .bool fs, .bool fc, .bool fo, .b64 false pc]] (fun r => r = okA (X_9 ⟨9#64, al, cc, sz, true, sh, d, s, dp, rl, im⟩ ⟨fun j => nthW [r0, r1, r2, r3, r4, r5, r6, r7, r8, r9, r10, r11, r12, r13, r14, r15] j, fz, fs, fc, fo, pc⟩)) := by
  repeat' ((conv => whnf); first
    | with_reducible apply Both.mk
    | (with_reducible apply Given.mk; intro h; (try simp only [hv, hu, Bool.not_true, Bool.not_false, Bool.true_eq_false, Bool.false_eq_true] at h); (try exact absurd h (by decide)); (try exact no2 h (by with_reducible assumption)); (try exact no2 (by with_reducible assumption) h)))
  all_goals first
    | ((with_reducible apply Ob.mk); with_reducible exact hd)
    | ((with_reducible apply Ob.mk); with_reducible exact hs)
    | ((with_reducible apply Ob.mk); with_reducible exact hd.2)
    | ((with_reducible apply Ob.mk); with_reducible exact hs.2)
    | ((with_reducible apply Ob.mk); exact hu)
    | (with_reducible apply Ob.mk; kernel_rfl)
    | (with_reducible apply Ob.mk; decide)
    | ((conv => whnf); refine ⟨?_⟩; exact rfl)
set_option maxRecDepth 100000 in
set_option maxHeartbeats 4000000 in
theorem rx_9tf (D2 : VData) (m : Nat → Nat) (al cc sz : BitVec 64) (sh : Bool) (d s : BitVec 64) (dp rl : BitVec 32) (im : BitVec 64) (r0 r1 r2 r3 r4 r5 r6 r7 r8 r9 r10 r11 r12 r13 r14 r15 : BitVec 64) (fz fs fc fo : Bool) (pc : BitVec 64) (hv : vld 9#64 al cc sz true sh d s dp rl im = true) (hd : 0 ≤ d.toInt ∧ d.toNat < 16) (hs : 0 ≤ s.toInt ∧ s.toNat < 16) (hu : ((nthW [r0, r1, r2, r3, r4, r5, r6, r7, r8, r9, r10, r11, r12, r13, r14, r15] d.toNat)).ule r2 = true) : F Tryd.prog (tabI Tryd.prog (or2 (DB m) (or2 (DP m) D2)) (tb_mvd m) FR 2) Tryd.f14 [.agg [.b64 true 9#64, .b64 true al, .b64 true cc, .b64 true sz, .bool true, .bool sh, .b64 true d, .b64 true s, .b32 true dp, .b32 true rl, .b64 true im], .agg [.b64 false r0, .b64 false r1, .b64 false r2, .b64 false r3, .b64 false r4, .b64 false r5, .b64 false r6, .b64 false r7, .b64 false r8, .b64 false r9, .b64 false r10, .b64 false r11, .b64 false r12, .b64 false r13, .b64 false r14, .b64 false r15, .bool fz, .bool fs, .bool fc, .bool fo, .b64 false pc]] (fun r => r = .tup [(true, LS S0), (false, [.b64 true 120#64])]) := by
  repeat' ((conv => whnf); first
    | with_reducible apply Both.mk
    | (with_reducible apply Given.mk; intro h; (try simp only [hv, hu, Bool.not_true, Bool.not_false, Bool.true_eq_false, Bool.false_eq_true] at h); (try exact absurd h (by decide)); (try exact no2 h (by with_reducible assumption)); (try exact no2 (by with_reducible assumption) h)))
  all_goals first
    | ((with_reducible apply Ob.mk); with_reducible exact hd)
    | ((with_reducible apply Ob.mk); with_reducible exact hs)
    | ((with_reducible apply Ob.mk); with_reducible exact hd.2)
    | ((with_reducible apply Ob.mk); with_reducible exact hs.2)
    | (with_reducible apply Ob.mk; kernel_rfl)
    | (with_reducible apply Ob.mk; decide)
    | ((conv => whnf); refine ⟨?_⟩; exact rfl)
set_option maxRecDepth 100000 in
set_option maxHeartbeats 4000000 in
theorem rx_9ft (D2 : VData) (m : Nat → Nat) (al cc sz : BitVec 64) (sh : Bool) (d s : BitVec 64) (dp rl : BitVec 32) (im : BitVec 64) (r0 r1 r2 r3 r4 r5 r6 r7 r8 r9 r10 r11 r12 r13 r14 r15 : BitVec 64) (fz fs fc fo : Bool) (pc : BitVec 64) (hv : vld 9#64 al cc sz false sh d s dp rl im = true) (hd : 0 ≤ d.toInt ∧ d.toNat < 16) (hs : 0 ≤ s.toInt ∧ s.toNat < 16) (hu : (lo32 (nthW [r0, r1, r2, r3, r4, r5, r6, r7, r8, r9, r10, r11, r12, r13, r14, r15] d.toNat)).ule (lo32 r2) = false) : F Tryd.prog (tabI Tryd.prog (or2 (DB m) (or2 (DP m) D2)) (tb_mvd m) FR 2) Tryd.f14 [.agg [.b64 true 9#64, .b64 true al, .b64 true cc, .b64 true sz, .bool false, .bool sh, .b64 true d, .b64 true s, .b32 true dp, .b32 true rl, .b64 true im], .agg [.b64 false r0, .b64 false r1, .b64 false r2, .b64 false r3, .b64 false r4, .b64 false r5, .b64 false r6, .b64 false r7, .b64 false r8, .b64 false r9, .b64 false r10, .b64 false r11, .b64 false r12, .b64 false r13, .b64 false r14, .b64 false r15, .bool fz, .bool fs, .bool fc, .bool fo, .b64 false pc]] (fun r => r = okA (X_9 ⟨9#64, al, cc, sz, false, sh, d, s, dp, rl, im⟩ ⟨fun j => nthW [r0, r1, r2, r3, r4, r5, r6, r7, r8, r9, r10, r11, r12, r13, r14, r15] j, fz, fs, fc, fo, pc⟩)) := by
  repeat' ((conv => whnf); first
    | with_reducible apply Both.mk
    | (with_reducible apply Given.mk; intro h; (try simp only [hv, hu, Bool.not_true, Bool.not_false, Bool.true_eq_false, Bool.false_eq_true] at h); (try exact absurd h (by decide)); (try exact no2 h (by with_reducible assumption)); (try exact no2 (by with_reducible assumption) h)))
  all_goals first
    | ((with_reducible apply Ob.mk); with_reducible exact hd)
    | ((with_reducible apply Ob.mk); with_reducible exact hs)
    | ((with_reducible apply Ob.mk); with_reducible exact hd.2)
    | ((with_reducible apply Ob.mk); with_reducible exact hs.2)
    | ((with_reducible apply Ob.mk); exact ⟨hu, lo_lo _, lo_lo _, lo_lo _⟩)
    | (with_reducible apply Ob.mk; kernel_rfl)
    | (with_reducible apply Ob.mk; decide)
    | ((conv => whnf); refine ⟨?_⟩; exact rq9 (h := r2) (l := r0) (y := (nthW [r0, r1, r2, r3, r4, r5, r6, r7, r8, r9, r10, r11, r12, r13, r14, r15] d.toNat)) (S := ⟨fun j => nthW [r0, r1, r2, r3, r4, r5, r6, r7, r8, r9, r10, r11, r12, r13, r14, r15] j, fz, fs, fc, fo, pc⟩))
set_option maxRecDepth 100000 in
set_option maxHeartbeats 4000000 in
theorem rx_9ff (D2 : VData) (m : Nat → Nat) (al cc sz : BitVec 64) (sh : Bool) (d s : BitVec 64) (dp rl : BitVec 32) (im : BitVec 64) (r0 r1 r2 r3 r4 r5 r6 r7 r8 r9 r10 r11 r12 r13 r14 r15 : BitVec 64) (fz fs fc fo : Bool) (pc : BitVec 64) (hv : vld 9#64 al cc sz false sh d s dp rl im = true) (hd : 0 ≤ d.toInt ∧ d.toNat < 16) (hs : 0 ≤ s.toInt ∧ s.toNat < 16) (hu : (lo32 (nthW [r0, r1, r2, r3, r4, r5, r6, r7, r8, r9, r10, r11, r12, r13, r14, r15] d.toNat)).ule (lo32 r2) = true) : F Tryd.prog (tabI Tryd.prog (or2 (DB m) (or2 (DP m) D2)) (tb_mvd m) FR 2) Tryd.f14 [.agg [.b64 true 9#64, .b64 true al, .b64 true cc, .b64 true sz, .bool false, .bool sh, .b64 true d, .b64 true s, .b32 true dp, .b32 true rl, .b64 true im], .agg [.b64 false r0, .b64 false r1, .b64 false r2, .b64 false r3, .b64 false r4, .b64 false r5, .b64 false r6, .b64 false r7, .b64 false r8, .b64 false r9, .b64 false r10, .b64 false r11, .b64 false r12, .b64 false r13, .b64 false r14, .b64 false r15, .bool fz, .bool fs, .bool fc, .bool fo, .b64 false pc]] (fun r => r = .tup [(true, LS S0), (false, [.b64 true 120#64])]) := by
  repeat' ((conv => whnf); first
    | with_reducible apply Both.mk
    | (with_reducible apply Given.mk; intro h; (try simp only [hv, hu, Bool.not_true, Bool.not_false, Bool.true_eq_false, Bool.false_eq_true] at h); (try exact absurd h (by decide)); (try exact no2 h (by with_reducible assumption)); (try exact no2 (by with_reducible assumption) h)))
  all_goals first
    | ((with_reducible apply Ob.mk); with_reducible exact hd)
    | ((with_reducible apply Ob.mk); with_reducible exact hs)
    | ((with_reducible apply Ob.mk); with_reducible exact hd.2)
    | ((with_reducible apply Ob.mk); with_reducible exact hs.2)
    | (with_reducible apply Ob.mk; kernel_rfl)
    | (with_reducible apply Ob.mk; decide)
    | ((conv => whnf); refine ⟨?_⟩; exact rfl)
set_option maxRecDepth 100000 in
set_option maxHeartbeats 4000000 in
theorem rx_10t (D2 : VData) (m : Nat → Nat) (al cc sz : BitVec 64) (sh : Bool) (d s : BitVec 64) (dp rl : BitVec 32) (im : BitVec 64) (r0 r1 r2 r3 r4 r5 r6 r7 r8 r9 r10 r11 r12 r13 r14 r15 : BitVec 64) (fz fs fc fo : Bool) (pc : BitVec 64) (hv : vld 10#64 al cc sz true sh d s dp rl im = true) (hd : 0 ≤ d.toInt ∧ d.toNat < 16) (hs : 0 ≤ s.toInt ∧ s.toNat < 16) : F Tryd.prog (tabI Tryd.prog (or2 (DB m) (or2 (DP m) D2)) (tb_mvd m) FR 2) Tryd.f14 [.agg [.b64 true 10#64, .b64 true al, .b64 true cc, .b64 true sz, .bool true, .bool sh, .b64 true d, .b64 true s, .b32 true dp, .b32 true rl, .b64 true im], .agg [.b64 false r0, .b64 false r1, .b64 false r2, .b64 false r3, .b64 false r4, .b64 false r5, .b64 false r6, .b64 false r7, .b64 false r8, .b64 false r9, .b64 false r10, .b64 false r11, .b64 false r12, .b64 false r13, .b64 false r14, .b64 false r15, .bool fz, .bool fs, .bool fc, .bool fo, .b64 false pc]] (fun r => r = okA (X_10 ⟨10#64, al, cc, sz, true, sh, d, s, dp, rl, im⟩ ⟨fun j => nthW [r0, r1, r2, r3, r4, r5, r6, r7, r8, r9, r10, r11, r12, r13, r14, r15] j, fz, fs, fc, fo, pc⟩)) := by
  repeat' ((conv => whnf); first
    | with_reducible apply Both.mk
    | (with_reducible apply Given.mk; intro h; (try simp only [hv, Bool.not_true, Bool.not_false, Bool.true_eq_false, Bool.false_eq_true] at h); (try exact absurd h (by decide)); (try exact no2 h (by with_reducible assumption)); (try exact no2 (by with_reducible assumption) h)))
  all_goals first
    | ((with_reducible apply Ob.mk); with_reducible exact hd)
    | ((with_reducible apply Ob.mk); with_reducible exact hs)
    | ((with_reducible apply Ob.mk); with_reducible exact hd.2)
    | ((with_reducible apply Ob.mk); with_reducible exact hs.2)
    | (with_reducible apply Ob.mk; kernel_rfl)
    | (with_reducible apply Ob.mk; decide)
    | ((conv => whnf); refine ⟨?_⟩; exact rfl)
set_option maxRecDepth 100000 in
set_option maxHeartbeats 4000000 in
theorem rx_10f (D2 : VData) (m : Nat → Nat) (al cc sz : BitVec 64) (sh : Bool) (d s : BitVec 64) (dp rl : BitVec 32) (im : BitVec 64) (r0 r1 r2 r3 r4 r5 r6 r7 r8 r9 r10 r11 r12 r13 r14 r15 : BitVec 64) (fz fs fc fo : Bool) (pc : BitVec 64) (hv : vld 10#64 al cc sz false sh d s dp rl im = true) (hd : 0 ≤ d.toInt ∧ d.toNat < 16) (hs : 0 ≤ s.toInt ∧ s.toNat < 16) : F Tryd.prog (tabI Tryd.prog (or2 (DB m) (or2 (DP m) D2)) (tb_mvd m) FR 2) Tryd.f14 [.agg [.b64 true 10#64, .b64 true al, .b64 true cc, .b64 true sz, .bool false, .bool sh, .b64 true d, .b64 true s, .b32 true dp, .b32 true rl, .b64 true im], .agg [.b64 false r0, .b64 false r1, .b64 false r2, .b64 false r3, .b64 false r4, .b64 false r5, .b64 false r6, .b64 false r7, .b64 false r8, .b64 false r9, .b64 false r10, .b64 false r11, .b64 false r12, .b64 false r13, .b64 false r14, .b64 false r15, .bool fz, .bool fs, .bool fc, .bool fo, .b64 false pc]] (fun r => r = okA (X_10 ⟨10#64, al, cc, sz, false, sh, d, s, dp, rl, im⟩ ⟨fun j => nthW [r0, r1, r2, r3, r4, r5, r6, r7, r8, r9, r10, r11, r12, r13, r14, r15] j, fz, fs, fc, fo, pc⟩)) := by
  repeat' ((conv => whnf); first
    | with_reducible apply Both.mk
    | (with_reducible apply Given.mk; intro h; (try simp only [hv, Bool.not_true, Bool.not_false, Bool.true_eq_false, Bool.false_eq_true] at h); (try exact absurd h (by decide)); (try exact no2 h (by with_reducible assumption)); (try exact no2 (by with_reducible assumption) h)))
  all_goals first
    | ((with_reducible apply Ob.mk); with_reducible exact hd)
    | ((with_reducible apply Ob.mk); with_reducible exact hs)
    | ((with_reducible apply Ob.mk); with_reducible exact hd.2)
    | ((with_reducible apply Ob.mk); with_reducible exact hs.2)
    | (with_reducible apply Ob.mk; kernel_rfl)
    | (with_reducible apply Ob.mk; decide)
    | ((conv => whnf); refine ⟨?_⟩; exact rq10 (a := (nthW [r0, r1, r2, r3, r4, r5, r6, r7, r8, r9, r10, r11, r12, r13, r14, r15] d.toNat)) (b := (nthW [r0, r1, r2, r3, r4, r5, r6, r7, r8, r9, r10, r11, r12, r13, r14, r15] s.toNat)) (d := d) (S := ⟨fun j => nthW [r0, r1, r2, r3, r4, r5, r6, r7, r8, r9, r10, r11, r12, r13, r14, r15] j, fz, fs, fc, fo, pc⟩))
set_option maxRecDepth 100000 in
set_option maxHeartbeats 4000000 in
theorem rx_11t (D2 : VData) (m : Nat → Nat) (al cc sz : BitVec 64) (sh : Bool) (d s : BitVec 64) (dp rl : BitVec 32) (im : BitVec 64) (r0 r1 r2 r3 r4 r5 r6 r7 r8 r9 r10 r11 r12 r13 r14 r15 : BitVec 64) (fz fs fc fo : Bool) (pc : BitVec 64) (hv : vld 11#64 al cc sz true sh d s dp rl im = true) (hd : 0 ≤ d.toInt ∧ d.toNat < 16) (hs : 0 ≤ s.toInt ∧ s.toNat < 16) (ha : shiftB al = true) (hi : im.toNat < 64) : F Tryd.prog (tabI Tryd.prog (or2 (DB m) (or2 (DP m) D2)) (tb_mvd m) FR 2) Tryd.f14 [.agg [.b64 true 11#64, .b64 true al, .b64 true cc, .b64 true sz, .bool true, .bool sh, .b64 true d, .b64 true s, .b32 true dp, .b32 true rl, .b64 true im], .agg [.b64 false r0, .b64 false r1, .b64 false r2, .b64 false r3, .b64 false r4, .b64 false r5, .b64 false r6, .b64 false r7, .b64 false r8, .b64 false r9, .b64 false r10, .b64 false r11, .b64 false r12, .b64 false r13, .b64 false r14, .b64 false r15, .bool fz, .bool fs, .bool fc, .bool fo, .b64 false pc]] (fun r => r = okA (X_11 ⟨11#64, al, cc, sz, true, sh, d, s, dp, rl, im⟩ ⟨fun j => nthW [r0, r1, r2, r3, r4, r5, r6, r7, r8, r9, r10, r11, r12, r13, r14, r15] j, fz, fs, fc, fo, pc⟩)) := by
  repeat' ((conv => whnf); first
    | with_reducible apply Both.mk
    | (with_reducible apply Given.mk; intro h; (try simp only [hv, Bool.not_true, Bool.not_false, Bool.true_eq_false, Bool.false_eq_true] at h); (try exact absurd h (by decide)); (try exact no2 h (by with_reducible assumption)); (try exact no2 (by with_reducible assumption) h)))
  all_goals first
    | ((with_reducible apply Ob.mk); with_reducible exact hd)
    | ((with_reducible apply Ob.mk); with_reducible exact hs)
    | ((with_reducible apply Ob.mk); with_reducible exact hd.2)
    | ((with_reducible apply Ob.mk); with_reducible exact hs.2)
    | ((with_reducible apply Ob.mk); exact ⟨ha, hi⟩)
    | (with_reducible apply Ob.mk; kernel_rfl)
    | (with_reducible apply Ob.mk; decide)
    | ((conv => whnf); refine ⟨?_⟩; exact rfl)
set_option maxRecDepth 100000 in
set_option maxHeartbeats 4000000 in
theorem rx_11f (D2 : VData) (m : Nat → Nat) (al cc sz : BitVec 64) (sh : Bool) (d s : BitVec 64) (dp rl : BitVec 32) (im : BitVec 64) (r0 r1 r2 r3 r4 r5 r6 r7 r8 r9 r10 r11 r12 r13 r14 r15 : BitVec 64) (fz fs fc fo : Bool) (pc : BitVec 64) (hv : vld 11#64 al cc sz false sh d s dp rl im = true) (hd : 0 ≤ d.toInt ∧ d.toNat < 16) (hs : 0 ≤ s.toInt ∧ s.toNat < 16) (ha : shiftB al = true) (hi : im.toNat < 32) : F Tryd.prog (tabI Tryd.prog (or2 (DB m) (or2 (DP m) D2)) (tb_mvd m) FR 2) Tryd.f14 [.agg [.b64 true 11#64, .b64 true al, .b64 true cc, .b64 true sz, .bool false, .bool sh, .b64 true d, .b64 true s, .b32 true dp, .b32 true rl, .b64 true im], .agg [.b64 false r0, .b64 false r1, .b64 false r2, .b64 false r3, .b64 false r4, .b64 false r5, .b64 false r6, .b64 false r7, .b64 false r8, .b64 false r9, .b64 false r10, .b64 false r11, .b64 false r12, .b64 false r13, .b64 false r14, .b64 false r15, .bool fz, .bool fs, .bool fc, .bool fo, .b64 false pc]] (fun r => r = okA (X_11 ⟨11#64, al, cc, sz, false, sh, d, s, dp, rl, im⟩ ⟨fun j => nthW [r0, r1, r2, r3, r4, r5, r6, r7, r8, r9, r10, r11, r12, r13, r14, r15] j, fz, fs, fc, fo, pc⟩)) := by
  repeat' ((conv => whnf); first
    | with_reducible apply Both.mk
    | (with_reducible apply Given.mk; intro h; (try simp only [hv, Bool.not_true, Bool.not_false, Bool.true_eq_false, Bool.false_eq_true] at h); (try exact absurd h (by decide)); (try exact no2 h (by with_reducible assumption)); (try exact no2 (by with_reducible assumption) h)))
  all_goals first
    | ((with_reducible apply Ob.mk); with_reducible exact hd)
    | ((with_reducible apply Ob.mk); with_reducible exact hs)
    | ((with_reducible apply Ob.mk); with_reducible exact hd.2)
    | ((with_reducible apply Ob.mk); with_reducible exact hs.2)
    | ((with_reducible apply Ob.mk); exact ⟨ha, lo_lo _, hi⟩)
    | (with_reducible apply Ob.mk; kernel_rfl)
    | (with_reducible apply Ob.mk; decide)
    | ((conv => whnf); refine ⟨?_⟩; exact rq11 (o := sfV al) (a := (nthW [r0, r1, r2, r3, r4, r5, r6, r7, r8, r9, r10, r11, r12, r13, r14, r15] d.toNat)) (b := im) (d := d) (S := ⟨fun j => nthW [r0, r1, r2, r3, r4, r5, r6, r7, r8, r9, r10, r11, r12, r13, r14, r15] j, fz, fs, fc, fo, pc⟩))
set_option maxRecDepth 100000 in
set_option maxHeartbeats 4000000 in
theorem rx_12t (D2 : VData) (m : Nat → Nat) (al cc sz : BitVec 64) (sh : Bool) (d s : BitVec 64) (dp rl : BitVec 32) (im : BitVec 64) (r0 r1 r2 r3 r4 r5 r6 r7 r8 r9 r10 r11 r12 r13 r14 r15 : BitVec 64) (fz fs fc fo : Bool) (pc : BitVec 64) (hv : vld 12#64 al cc sz true sh d s dp rl im = true) (hd : 0 ≤ d.toInt ∧ d.toNat < 16) (hs : 0 ≤ s.toInt ∧ s.toNat < 16) (ha : shiftB al = true) : F Tryd.prog (tabI Tryd.prog (or2 (DB m) (or2 (DP m) D2)) (tb_mvd m) FR 2) Tryd.f14 [.agg [.b64 true 12#64, .b64 true al, .b64 true cc, .b64 true sz, .bool true, .bool sh, .b64 true d, .b64 true s, .b32 true dp, .b32 true rl, .b64 true im], .agg [.b64 false r0, .b64 false r1, .b64 false r2, .b64 false r3, .b64 false r4, .b64 false r5, .b64 false r6, .b64 false r7, .b64 false r8, .b64 false r9, .b64 false r10, .b64 false r11, .b64 false r12, .b64 false r13, .b64 false r14, .b64 false r15, .bool fz, .bool fs, .bool fc, .bool fo, .b64 false pc]] (fun r => r = okA (X_12 ⟨12#64, al, cc, sz, true, sh, d, s, dp, rl, im⟩ ⟨fun j => nthW [r0, r1, r2, r3, r4, r5, r6, r7, r8, r9, r10, r11, r12, r13, r14, r15] j, fz, fs, fc, fo, pc⟩)) := by
  repeat' ((conv => whnf); first
    | with_reducible apply Both.mk
    | (with_reducible apply Given.mk; intro h; (try simp only [hv, Bool.not_true, Bool.not_false, Bool.true_eq_false, Bool.false_eq_true] at h); (try exact absurd h (by decide)); (try exact no2 h (by with_reducible assumption)); (try exact no2 (by with_reducible assumption) h)))
  all_goals first
    | ((with_reducible apply Ob.mk); with_reducible exact hd)
    | ((with_reducible apply Ob.mk); with_reducible exact hs)
    | ((with_reducible apply Ob.mk); with_reducible exact hd.2)
    | ((with_reducible apply Ob.mk); with_reducible exact hs.2)
    | ((with_reducible apply Ob.mk); exact ⟨ha, m64_lt _⟩)
    | (with_reducible apply Ob.mk; kernel_rfl)
    | (with_reducible apply Ob.mk; decide)
    | ((conv => whnf); refine ⟨?_⟩; exact rq12w (al := al) (a := (nthW [r0, r1, r2, r3, r4, r5, r6, r7, r8, r9, r10, r11, r12, r13, r14, r15] d.toNat)) (b := r1) (d := d) (S := ⟨fun j => nthW [r0, r1, r2, r3, r4, r5, r6, r7, r8, r9, r10, r11, r12, r13, r14, r15] j, fz, fs, fc, fo, pc⟩) ha)
set_option maxRecDepth 100000 in
set_option maxHeartbeats 4000000 in
theorem rx_12f (D2 : VData) (m : Nat → Nat) (al cc sz : BitVec 64) (sh : Bool) (d s : BitVec 64) (dp rl : BitVec 32) (im : BitVec 64) (r0 r1 r2 r3 r4 r5 r6 r7 r8 r9 r10 r11 r12 r13 r14 r15 : BitVec 64) (fz fs fc fo : Bool) (pc : BitVec 64) (hv : vld 12#64 al cc sz false sh d s dp rl im = true) (hd : 0 ≤ d.toInt ∧ d.toNat < 16) (hs : 0 ≤ s.toInt ∧ s.toNat < 16) (ha : shiftB al = true) : F Tryd.prog (tabI Tryd.prog (or2 (DB m) (or2 (DP m) D2)) (tb_mvd m) FR 2) Tryd.f14 [.agg [.b64 true 12#64, .b64 true al, .b64 true cc, .b64 true sz, .bool false, .bool sh, .b64 true d, .b64 true s, .b32 true dp, .b32 true rl, .b64 true im], .agg [.b64 false r0, .b64 false r1, .b64 false r2, .b64 false r3, .b64 false r4, .b64 false r5, .b64 false r6, .b64 false r7, .b64 false r8, .b64 false r9, .b64 false r10, .b64 false r11, .b64 false r12, .b64 false r13, .b64 false r14, .b64 false r15, .bool fz, .bool fs, .bool fc, .bool fo, .b64 false pc]] (fun r => r = okA (X_12 ⟨12#64, al, cc, sz, false, sh, d, s, dp, rl, im⟩ ⟨fun j => nthW [r0, r1, r2, r3, r4, r5, r6, r7, r8, r9, r10, r11, r12, r13, r14, r15] j, fz, fs, fc, fo, pc⟩)) := by
  repeat' ((conv => whnf); first
    | with_reducible apply Both.mk
    | (with_reducible apply Given.mk; intro h; (try simp only [hv, Bool.not_true, Bool.not_false, Bool.true_eq_false, Bool.false_eq_true] at h); (try exact absurd h (by decide)); (try exact no2 h (by with_reducible assumption)); (try exact no2 (by with_reducible assumption) h)))
  all_goals first
    | ((with_reducible apply Ob.mk); with_reducible exact hd)
    | ((with_reducible apply Ob.mk); with_reducible exact hs)
    | ((with_reducible apply Ob.mk); with_reducible exact hd.2)
    | ((with_reducible apply Ob.mk); with_reducible exact hs.2)
    | ((with_reducible apply Ob.mk); exact ⟨ha, lo_lo _, m32_lt _⟩)
    | (with_reducible apply Ob.mk; kernel_rfl)
    | (with_reducible apply Ob.mk; decide)
    | ((conv => whnf); refine ⟨?_⟩; exact rq12n (al := al) (a := (nthW [r0, r1, r2, r3, r4, r5, r6, r7, r8, r9, r10, r11, r12, r13, r14, r15] d.toNat)) (b := r1) (d := d) (S := ⟨fun j => nthW [r0, r1, r2, r3, r4, r5, r6, r7, r8, r9, r10, r11, r12, r13, r14, r15] j, fz, fs, fc, fo, pc⟩) ha)
end Go.Proofs.YtppankimieopiaaDoor
