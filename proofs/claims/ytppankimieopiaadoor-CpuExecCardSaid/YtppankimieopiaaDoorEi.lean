/-
  What cpu.Exec answers, kind by kind. Conditions: as typed.
-/
import Derived.Test.YtppankimieopiaaDoorEh
namespace Go.Proofs.YtppankimieopiaaDoor
open Go.Ep Go.RowKit
set_option linter.unusedVariables false
set_option linter.unusedSimpArgs false

noncomputable abbrev FE : List (Nat × Func) := [(29, Tryd.f29), (30, Tryd.f30), (74, Tryd.f74), (75, Tryd.f75)]
theorem fs_E : FsOK Tryd.prog FE := FsOK.cons Tryd.func29 (by kernel_rfl) (by kernel_rfl) (FsOK.cons Tryd.func30 (by kernel_rfl) (by kernel_rfl) (FsOK.cons Tryd.func74 (by kernel_rfl) (by kernel_rfl) (FsOK.cons Tryd.func75 (by kernel_rfl) (by kernel_rfl) FsOK.nil)))
theorem C_fe (G2 : World → Prop) (D2 : VData) (k2 : DataOK Tryd.prog G2 D2) (m : Nat → Nat) : CSound Tryd.prog (and2 (GB m) (and2 (GP m) G2)) (tabI Tryd.prog (or2 (DB m) (or2 (DP m) D2)) (tb_part2 m) FE 6) := CSound.tabI (C_part2 G2 D2 k2 m) (by kernel_rfl) fs_E 6
theorem reg_ix {x : BitVec 64} (h : regB x = true) : 0 ≤ x.toInt ∧ x.toNat < 16 := by
  simp only [regB, Bool.and_eq_true] at h
  obtain ⟨h1, h2⟩ := h
  have z : (0#64).toInt = 0 := rfl
  have z2 : (16#64).toInt = 16 := rfl
  rw [BitVec.sle_iff_toInt_le, z] at h1
  rw [BitVec.slt_iff_toInt_lt, z2] at h2
  refine ⟨h1, ?_⟩
  rw [BitVec.toInt_eq_toNat_cond] at h1 h2
  split at h1
  · rename_i g; rw [if_pos g] at h2; omega
  · rename_i g; have := x.isLt; omega
set_option maxRecDepth 100000 in
set_option maxHeartbeats 4000000 in
theorem ex_1 (D2 : VData) (m : Nat → Nat) (al : BitVec 64) (w : Bool) (cc sz : BitVec 64) (sh : Bool) (s : BitVec 64) (dp rl : BitVec 32) (im : BitVec 64) (d : BitVec 64) (r0 r1 r2 r3 r4 r5 r6 r7 r8 r9 r10 r11 r12 r13 r14 r15 : BitVec 64) (fz fs fc fo : Bool) (pc : BitVec 64) (hq : qld 1#64 al cc sz w sh d s dp rl im = true) (hd : 0 ≤ d.toInt ∧ d.toNat < 16) (hs : 0 ≤ s.toInt ∧ s.toNat < 16) : F Tryd.prog (tabI Tryd.prog (or2 (DB m) (or2 (DP m) D2)) (tb_part2 m) FE 6) Tryd.f13 [.agg [.b64 true 1#64, .b64 true al, .b64 true cc, .b64 true sz, .bool w, .bool sh, .b64 true d, .b64 true s, .b32 true dp, .b32 true rl, .b64 true im], .agg [.b64 false r0, .b64 false r1, .b64 false r2, .b64 false r3, .b64 false r4, .b64 false r5, .b64 false r6, .b64 false r7, .b64 false r8, .b64 false r9, .b64 false r10, .b64 false r11, .b64 false r12, .b64 false r13, .b64 false r14, .b64 false r15, .bool fz, .bool fs, .bool fc, .bool fo, .b64 false pc]] (fun r => r = .tup [(true, LS (X_1 ⟨1#64, al, cc, sz, w, sh, d, s, dp, rl, im⟩ ⟨fun j => nthW [r0, r1, r2, r3, r4, r5, r6, r7, r8, r9, r10, r11, r12, r13, r14, r15] j, fz, fs, fc, fo, pc⟩)), (false, [.b64 true 0#64])]) := by

  repeat' ((conv => whnf); first
    | with_reducible apply Both.mk
    | (with_reducible apply Given.mk; intro h; (try simp only [hq, Bool.not_true, Bool.not_false, Bool.true_eq_false, Bool.false_eq_true] at h); (try exact absurd h (by decide)); (try exact no2 h (by with_reducible assumption)); (try exact no2 (by with_reducible assumption) h)))
  all_goals first
    | ((with_reducible apply Ob.mk); with_reducible exact hd)
    | ((with_reducible apply Ob.mk); with_reducible exact hd.2)
    | ((with_reducible apply Ob.mk); with_reducible exact hs)
    | ((with_reducible apply Ob.mk); with_reducible exact hs.2)
    | (with_reducible apply Ob.mk; kernel_rfl)
    | (with_reducible apply Ob.mk; decide)
    | ((conv => whnf); exact ⟨rfl⟩)
    | ((conv => whnf); skip)
set_option maxRecDepth 100000 in
set_option maxHeartbeats 4000000 in
theorem ex_2 (D2 : VData) (m : Nat → Nat) (al : BitVec 64) (w : Bool) (cc sz : BitVec 64) (sh : Bool) (s : BitVec 64) (dp rl : BitVec 32) (im : BitVec 64) (d : BitVec 64) (r0 r1 r2 r3 r4 r5 r6 r7 r8 r9 r10 r11 r12 r13 r14 r15 : BitVec 64) (fz fs fc fo : Bool) (pc : BitVec 64) (hq : qld 2#64 al cc sz w sh d s dp rl im = true) (hd : 0 ≤ d.toInt ∧ d.toNat < 16) (hs : 0 ≤ s.toInt ∧ s.toNat < 16) : F Tryd.prog (tabI Tryd.prog (or2 (DB m) (or2 (DP m) D2)) (tb_part2 m) FE 6) Tryd.f13 [.agg [.b64 true 2#64, .b64 true al, .b64 true cc, .b64 true sz, .bool w, .bool sh, .b64 true d, .b64 true s, .b32 true dp, .b32 true rl, .b64 true im], .agg [.b64 false r0, .b64 false r1, .b64 false r2, .b64 false r3, .b64 false r4, .b64 false r5, .b64 false r6, .b64 false r7, .b64 false r8, .b64 false r9, .b64 false r10, .b64 false r11, .b64 false r12, .b64 false r13, .b64 false r14, .b64 false r15, .bool fz, .bool fs, .bool fc, .bool fo, .b64 false pc]] (fun r => r = .tup [(true, LS (X_2 ⟨2#64, al, cc, sz, w, sh, d, s, dp, rl, im⟩ ⟨fun j => nthW [r0, r1, r2, r3, r4, r5, r6, r7, r8, r9, r10, r11, r12, r13, r14, r15] j, fz, fs, fc, fo, pc⟩)), (false, [.b64 true 0#64])]) := by

  repeat' ((conv => whnf); first
    | with_reducible apply Both.mk
    | (with_reducible apply Given.mk; intro h; (try simp only [hq, Bool.not_true, Bool.not_false, Bool.true_eq_false, Bool.false_eq_true] at h); (try exact absurd h (by decide)); (try exact no2 h (by with_reducible assumption)); (try exact no2 (by with_reducible assumption) h)))
  all_goals first
    | ((with_reducible apply Ob.mk); with_reducible exact hd)
    | ((with_reducible apply Ob.mk); with_reducible exact hd.2)
    | ((with_reducible apply Ob.mk); with_reducible exact hs)
    | ((with_reducible apply Ob.mk); with_reducible exact hs.2)
    | (with_reducible apply Ob.mk; kernel_rfl)
    | (with_reducible apply Ob.mk; decide)
    | ((conv => whnf); exact ⟨rfl⟩)
    | ((conv => whnf); skip)
set_option maxRecDepth 100000 in
set_option maxHeartbeats 4000000 in
theorem ex_3 (D2 : VData) (m : Nat → Nat) (al : BitVec 64) (w : Bool) (cc sz : BitVec 64) (sh : Bool) (s : BitVec 64) (dp rl : BitVec 32) (im : BitVec 64) (d : BitVec 64) (r0 r1 r2 r3 r4 r5 r6 r7 r8 r9 r10 r11 r12 r13 r14 r15 : BitVec 64) (fz fs fc fo : Bool) (pc : BitVec 64) (hq : qld 3#64 al cc sz w sh d s dp rl im = true) (hd : 0 ≤ d.toInt ∧ d.toNat < 16) (hs : 0 ≤ s.toInt ∧ s.toNat < 16) : F Tryd.prog (tabI Tryd.prog (or2 (DB m) (or2 (DP m) D2)) (tb_part2 m) FE 6) Tryd.f13 [.agg [.b64 true 3#64, .b64 true al, .b64 true cc, .b64 true sz, .bool w, .bool sh, .b64 true d, .b64 true s, .b32 true dp, .b32 true rl, .b64 true im], .agg [.b64 false r0, .b64 false r1, .b64 false r2, .b64 false r3, .b64 false r4, .b64 false r5, .b64 false r6, .b64 false r7, .b64 false r8, .b64 false r9, .b64 false r10, .b64 false r11, .b64 false r12, .b64 false r13, .b64 false r14, .b64 false r15, .bool fz, .bool fs, .bool fc, .bool fo, .b64 false pc]] (fun r => r = .tup [(true, LS (X_2 ⟨3#64, al, cc, sz, w, sh, d, s, dp, rl, im⟩ ⟨fun j => nthW [r0, r1, r2, r3, r4, r5, r6, r7, r8, r9, r10, r11, r12, r13, r14, r15] j, fz, fs, fc, fo, pc⟩)), (false, [.b64 true 0#64])]) := by

  repeat' ((conv => whnf); first
    | with_reducible apply Both.mk
    | (with_reducible apply Given.mk; intro h; (try simp only [hq, Bool.not_true, Bool.not_false, Bool.true_eq_false, Bool.false_eq_true] at h); (try exact absurd h (by decide)); (try exact no2 h (by with_reducible assumption)); (try exact no2 (by with_reducible assumption) h)))
  all_goals first
    | ((with_reducible apply Ob.mk); with_reducible exact hd)
    | ((with_reducible apply Ob.mk); with_reducible exact hd.2)
    | ((with_reducible apply Ob.mk); with_reducible exact hs)
    | ((with_reducible apply Ob.mk); with_reducible exact hs.2)
    | (with_reducible apply Ob.mk; kernel_rfl)
    | (with_reducible apply Ob.mk; decide)
    | ((conv => whnf); exact ⟨rfl⟩)
    | ((conv => whnf); skip)
set_option maxRecDepth 100000 in
set_option maxHeartbeats 4000000 in
theorem ex_4_0 (D2 : VData) (m : Nat → Nat) (w : Bool) (cc sz : BitVec 64) (sh : Bool) (s : BitVec 64) (dp rl : BitVec 32) (im : BitVec 64) (d : BitVec 64) (r0 r1 r2 r3 r4 r5 r6 r7 r8 r9 r10 r11 r12 r13 r14 r15 : BitVec 64) (fz fs fc fo : Bool) (pc : BitVec 64) (hq : qld 4#64 0#64 cc sz w sh d s dp rl im = true) (hd : 0 ≤ d.toInt ∧ d.toNat < 16) (hs : 0 ≤ s.toInt ∧ s.toNat < 16) : F Tryd.prog (tabI Tryd.prog (or2 (DB m) (or2 (DP m) D2)) (tb_part2 m) FE 6) Tryd.f13 [.agg [.b64 true 4#64, .b64 true (0#64), .b64 true cc, .b64 true sz, .bool w, .bool sh, .b64 true d, .b64 true s, .b32 true dp, .b32 true rl, .b64 true im], .agg [.b64 false r0, .b64 false r1, .b64 false r2, .b64 false r3, .b64 false r4, .b64 false r5, .b64 false r6, .b64 false r7, .b64 false r8, .b64 false r9, .b64 false r10, .b64 false r11, .b64 false r12, .b64 false r13, .b64 false r14, .b64 false r15, .bool fz, .bool fs, .bool fc, .bool fo, .b64 false pc]] (fun r => r = .tup [(true, LS (X_4 ⟨4#64, 0#64, cc, sz, w, sh, d, s, dp, rl, im⟩ ⟨fun j => nthW [r0, r1, r2, r3, r4, r5, r6, r7, r8, r9, r10, r11, r12, r13, r14, r15] j, fz, fs, fc, fo, pc⟩)), (false, [.b64 true 0#64])]) := by
  cases w
  repeat' ((conv => whnf); first
    | with_reducible apply Both.mk
    | (with_reducible apply Given.mk; intro h; (try simp only [hq, Bool.not_true, Bool.not_false, Bool.true_eq_false, Bool.false_eq_true] at h); (try exact absurd h (by decide)); (try exact no2 h (by with_reducible assumption)); (try exact no2 (by with_reducible assumption) h)))
  all_goals first
    | ((with_reducible apply Ob.mk); with_reducible exact hd)
    | ((with_reducible apply Ob.mk); with_reducible exact hd.2)
    | ((with_reducible apply Ob.mk); with_reducible exact hs)
    | ((with_reducible apply Ob.mk); with_reducible exact hs.2)
    | (with_reducible apply Ob.mk; kernel_rfl)
    | (with_reducible apply Ob.mk; decide)
    | ((conv => whnf); exact ⟨rfl⟩)
    | ((conv => whnf); skip)
set_option maxRecDepth 100000 in
set_option maxHeartbeats 4000000 in
theorem ex_4_1 (D2 : VData) (m : Nat → Nat) (w : Bool) (cc sz : BitVec 64) (sh : Bool) (s : BitVec 64) (dp rl : BitVec 32) (im : BitVec 64) (d : BitVec 64) (r0 r1 r2 r3 r4 r5 r6 r7 r8 r9 r10 r11 r12 r13 r14 r15 : BitVec 64) (fz fs fc fo : Bool) (pc : BitVec 64) (hq : qld 4#64 1#64 cc sz w sh d s dp rl im = true) (hd : 0 ≤ d.toInt ∧ d.toNat < 16) (hs : 0 ≤ s.toInt ∧ s.toNat < 16) : F Tryd.prog (tabI Tryd.prog (or2 (DB m) (or2 (DP m) D2)) (tb_part2 m) FE 6) Tryd.f13 [.agg [.b64 true 4#64, .b64 true (1#64), .b64 true cc, .b64 true sz, .bool w, .bool sh, .b64 true d, .b64 true s, .b32 true dp, .b32 true rl, .b64 true im], .agg [.b64 false r0, .b64 false r1, .b64 false r2, .b64 false r3, .b64 false r4, .b64 false r5, .b64 false r6, .b64 false r7, .b64 false r8, .b64 false r9, .b64 false r10, .b64 false r11, .b64 false r12, .b64 false r13, .b64 false r14, .b64 false r15, .bool fz, .bool fs, .bool fc, .bool fo, .b64 false pc]] (fun r => r = .tup [(true, LS (X_4 ⟨4#64, 1#64, cc, sz, w, sh, d, s, dp, rl, im⟩ ⟨fun j => nthW [r0, r1, r2, r3, r4, r5, r6, r7, r8, r9, r10, r11, r12, r13, r14, r15] j, fz, fs, fc, fo, pc⟩)), (false, [.b64 true 0#64])]) := by
  cases w
  repeat' ((conv => whnf); first
    | with_reducible apply Both.mk
    | (with_reducible apply Given.mk; intro h; (try simp only [hq, Bool.not_true, Bool.not_false, Bool.true_eq_false, Bool.false_eq_true] at h); (try exact absurd h (by decide)); (try exact no2 h (by with_reducible assumption)); (try exact no2 (by with_reducible assumption) h)))
  all_goals first
    | ((with_reducible apply Ob.mk); with_reducible exact hd)
    | ((with_reducible apply Ob.mk); with_reducible exact hd.2)
    | ((with_reducible apply Ob.mk); with_reducible exact hs)
    | ((with_reducible apply Ob.mk); with_reducible exact hs.2)
    | (with_reducible apply Ob.mk; kernel_rfl)
    | (with_reducible apply Ob.mk; decide)
    | ((conv => whnf); exact ⟨rfl⟩)
    | ((conv => whnf); skip)
set_option maxRecDepth 100000 in
set_option maxHeartbeats 4000000 in
theorem ex_4_4 (D2 : VData) (m : Nat → Nat) (w : Bool) (cc sz : BitVec 64) (sh : Bool) (s : BitVec 64) (dp rl : BitVec 32) (im : BitVec 64) (d : BitVec 64) (r0 r1 r2 r3 r4 r5 r6 r7 r8 r9 r10 r11 r12 r13 r14 r15 : BitVec 64) (fz fs fc fo : Bool) (pc : BitVec 64) (hq : qld 4#64 4#64 cc sz w sh d s dp rl im = true) (hd : 0 ≤ d.toInt ∧ d.toNat < 16) (hs : 0 ≤ s.toInt ∧ s.toNat < 16) : F Tryd.prog (tabI Tryd.prog (or2 (DB m) (or2 (DP m) D2)) (tb_part2 m) FE 6) Tryd.f13 [.agg [.b64 true 4#64, .b64 true (4#64), .b64 true cc, .b64 true sz, .bool w, .bool sh, .b64 true d, .b64 true s, .b32 true dp, .b32 true rl, .b64 true im], .agg [.b64 false r0, .b64 false r1, .b64 false r2, .b64 false r3, .b64 false r4, .b64 false r5, .b64 false r6, .b64 false r7, .b64 false r8, .b64 false r9, .b64 false r10, .b64 false r11, .b64 false r12, .b64 false r13, .b64 false r14, .b64 false r15, .bool fz, .bool fs, .bool fc, .bool fo, .b64 false pc]] (fun r => r = .tup [(true, LS (X_4 ⟨4#64, 4#64, cc, sz, w, sh, d, s, dp, rl, im⟩ ⟨fun j => nthW [r0, r1, r2, r3, r4, r5, r6, r7, r8, r9, r10, r11, r12, r13, r14, r15] j, fz, fs, fc, fo, pc⟩)), (false, [.b64 true 0#64])]) := by
  cases w
  repeat' ((conv => whnf); first
    | with_reducible apply Both.mk
    | (with_reducible apply Given.mk; intro h; (try simp only [hq, Bool.not_true, Bool.not_false, Bool.true_eq_false, Bool.false_eq_true] at h); (try exact absurd h (by decide)); (try exact no2 h (by with_reducible assumption)); (try exact no2 (by with_reducible assumption) h)))
  all_goals first
    | ((with_reducible apply Ob.mk); with_reducible exact hd)
    | ((with_reducible apply Ob.mk); with_reducible exact hd.2)
    | ((with_reducible apply Ob.mk); with_reducible exact hs)
    | ((with_reducible apply Ob.mk); with_reducible exact hs.2)
    | (with_reducible apply Ob.mk; kernel_rfl)
    | (with_reducible apply Ob.mk; decide)
    | ((conv => whnf); exact ⟨rfl⟩)
    | ((conv => whnf); skip)
set_option maxRecDepth 100000 in
set_option maxHeartbeats 4000000 in
theorem ex_4_5 (D2 : VData) (m : Nat → Nat) (w : Bool) (cc sz : BitVec 64) (sh : Bool) (s : BitVec 64) (dp rl : BitVec 32) (im : BitVec 64) (d : BitVec 64) (r0 r1 r2 r3 r4 r5 r6 r7 r8 r9 r10 r11 r12 r13 r14 r15 : BitVec 64) (fz fs fc fo : Bool) (pc : BitVec 64) (hq : qld 4#64 5#64 cc sz w sh d s dp rl im = true) (hd : 0 ≤ d.toInt ∧ d.toNat < 16) (hs : 0 ≤ s.toInt ∧ s.toNat < 16) : F Tryd.prog (tabI Tryd.prog (or2 (DB m) (or2 (DP m) D2)) (tb_part2 m) FE 6) Tryd.f13 [.agg [.b64 true 4#64, .b64 true (5#64), .b64 true cc, .b64 true sz, .bool w, .bool sh, .b64 true d, .b64 true s, .b32 true dp, .b32 true rl, .b64 true im], .agg [.b64 false r0, .b64 false r1, .b64 false r2, .b64 false r3, .b64 false r4, .b64 false r5, .b64 false r6, .b64 false r7, .b64 false r8, .b64 false r9, .b64 false r10, .b64 false r11, .b64 false r12, .b64 false r13, .b64 false r14, .b64 false r15, .bool fz, .bool fs, .bool fc, .bool fo, .b64 false pc]] (fun r => r = .tup [(true, LS (X_4 ⟨4#64, 5#64, cc, sz, w, sh, d, s, dp, rl, im⟩ ⟨fun j => nthW [r0, r1, r2, r3, r4, r5, r6, r7, r8, r9, r10, r11, r12, r13, r14, r15] j, fz, fs, fc, fo, pc⟩)), (false, [.b64 true 0#64])]) := by
  cases w
  repeat' ((conv => whnf); first
    | with_reducible apply Both.mk
    | (with_reducible apply Given.mk; intro h; (try simp only [hq, Bool.not_true, Bool.not_false, Bool.true_eq_false, Bool.false_eq_true] at h); (try exact absurd h (by decide)); (try exact no2 h (by with_reducible assumption)); (try exact no2 (by with_reducible assumption) h)))
  all_goals first
    | ((with_reducible apply Ob.mk); with_reducible exact hd)
    | ((with_reducible apply Ob.mk); with_reducible exact hd.2)
    | ((with_reducible apply Ob.mk); with_reducible exact hs)
    | ((with_reducible apply Ob.mk); with_reducible exact hs.2)
    | (with_reducible apply Ob.mk; kernel_rfl)
    | (with_reducible apply Ob.mk; decide)
    | ((conv => whnf); exact ⟨rfl⟩)
    | ((conv => whnf); skip)
set_option maxRecDepth 100000 in
set_option maxHeartbeats 4000000 in
theorem ex_4_6 (D2 : VData) (m : Nat → Nat) (w : Bool) (cc sz : BitVec 64) (sh : Bool) (s : BitVec 64) (dp rl : BitVec 32) (im : BitVec 64) (d : BitVec 64) (r0 r1 r2 r3 r4 r5 r6 r7 r8 r9 r10 r11 r12 r13 r14 r15 : BitVec 64) (fz fs fc fo : Bool) (pc : BitVec 64) (hq : qld 4#64 6#64 cc sz w sh d s dp rl im = true) (hd : 0 ≤ d.toInt ∧ d.toNat < 16) (hs : 0 ≤ s.toInt ∧ s.toNat < 16) : F Tryd.prog (tabI Tryd.prog (or2 (DB m) (or2 (DP m) D2)) (tb_part2 m) FE 6) Tryd.f13 [.agg [.b64 true 4#64, .b64 true (6#64), .b64 true cc, .b64 true sz, .bool w, .bool sh, .b64 true d, .b64 true s, .b32 true dp, .b32 true rl, .b64 true im], .agg [.b64 false r0, .b64 false r1, .b64 false r2, .b64 false r3, .b64 false r4, .b64 false r5, .b64 false r6, .b64 false r7, .b64 false r8, .b64 false r9, .b64 false r10, .b64 false r11, .b64 false r12, .b64 false r13, .b64 false r14, .b64 false r15, .bool fz, .bool fs, .bool fc, .bool fo, .b64 false pc]] (fun r => r = .tup [(true, LS (X_4 ⟨4#64, 6#64, cc, sz, w, sh, d, s, dp, rl, im⟩ ⟨fun j => nthW [r0, r1, r2, r3, r4, r5, r6, r7, r8, r9, r10, r11, r12, r13, r14, r15] j, fz, fs, fc, fo, pc⟩)), (false, [.b64 true 0#64])]) := by
  cases w
  repeat' ((conv => whnf); first
    | with_reducible apply Both.mk
    | (with_reducible apply Given.mk; intro h; (try simp only [hq, Bool.not_true, Bool.not_false, Bool.true_eq_false, Bool.false_eq_true] at h); (try exact absurd h (by decide)); (try exact no2 h (by with_reducible assumption)); (try exact no2 (by with_reducible assumption) h)))
  all_goals first
    | ((with_reducible apply Ob.mk); with_reducible exact hd)
    | ((with_reducible apply Ob.mk); with_reducible exact hd.2)
    | ((with_reducible apply Ob.mk); with_reducible exact hs)
    | ((with_reducible apply Ob.mk); with_reducible exact hs.2)
    | (with_reducible apply Ob.mk; kernel_rfl)
    | (with_reducible apply Ob.mk; decide)
    | ((conv => whnf); exact ⟨rfl⟩)
    | ((conv => whnf); skip)
set_option maxRecDepth 100000 in
set_option maxHeartbeats 4000000 in
theorem ex_4_7 (D2 : VData) (m : Nat → Nat) (w : Bool) (cc sz : BitVec 64) (sh : Bool) (s : BitVec 64) (dp rl : BitVec 32) (im : BitVec 64) (d : BitVec 64) (r0 r1 r2 r3 r4 r5 r6 r7 r8 r9 r10 r11 r12 r13 r14 r15 : BitVec 64) (fz fs fc fo : Bool) (pc : BitVec 64) (hq : qld 4#64 7#64 cc sz w sh d s dp rl im = true) (hd : 0 ≤ d.toInt ∧ d.toNat < 16) (hs : 0 ≤ s.toInt ∧ s.toNat < 16) : F Tryd.prog (tabI Tryd.prog (or2 (DB m) (or2 (DP m) D2)) (tb_part2 m) FE 6) Tryd.f13 [.agg [.b64 true 4#64, .b64 true (7#64), .b64 true cc, .b64 true sz, .bool w, .bool sh, .b64 true d, .b64 true s, .b32 true dp, .b32 true rl, .b64 true im], .agg [.b64 false r0, .b64 false r1, .b64 false r2, .b64 false r3, .b64 false r4, .b64 false r5, .b64 false r6, .b64 false r7, .b64 false r8, .b64 false r9, .b64 false r10, .b64 false r11, .b64 false r12, .b64 false r13, .b64 false r14, .b64 false r15, .bool fz, .bool fs, .bool fc, .bool fo, .b64 false pc]] (fun r => r = .tup [(true, LS (X_4 ⟨4#64, 7#64, cc, sz, w, sh, d, s, dp, rl, im⟩ ⟨fun j => nthW [r0, r1, r2, r3, r4, r5, r6, r7, r8, r9, r10, r11, r12, r13, r14, r15] j, fz, fs, fc, fo, pc⟩)), (false, [.b64 true 0#64])]) := by
  cases w
  repeat' ((conv => whnf); first
    | with_reducible apply Both.mk
    | (with_reducible apply Given.mk; intro h; (try simp only [hq, Bool.not_true, Bool.not_false, Bool.true_eq_false, Bool.false_eq_true] at h); (try exact absurd h (by decide)); (try exact no2 h (by with_reducible assumption)); (try exact no2 (by with_reducible assumption) h)))
  all_goals first
    | ((with_reducible apply Ob.mk); with_reducible exact hd)
    | ((with_reducible apply Ob.mk); with_reducible exact hd.2)
    | ((with_reducible apply Ob.mk); with_reducible exact hs)
    | ((with_reducible apply Ob.mk); with_reducible exact hs.2)
    | (with_reducible apply Ob.mk; kernel_rfl)
    | (with_reducible apply Ob.mk; decide)
    | ((conv => whnf); exact ⟨rfl⟩)
    | ((conv => whnf); skip)
set_option maxRecDepth 100000 in
set_option maxHeartbeats 4000000 in
theorem ex_5_0 (D2 : VData) (m : Nat → Nat) (w : Bool) (cc sz : BitVec 64) (sh : Bool) (s : BitVec 64) (dp rl : BitVec 32) (im : BitVec 64) (d : BitVec 64) (r0 r1 r2 r3 r4 r5 r6 r7 r8 r9 r10 r11 r12 r13 r14 r15 : BitVec 64) (fz fs fc fo : Bool) (pc : BitVec 64) (hq : qld 5#64 0#64 cc sz w sh d s dp rl im = true) (hd : 0 ≤ d.toInt ∧ d.toNat < 16) (hs : 0 ≤ s.toInt ∧ s.toNat < 16) : F Tryd.prog (tabI Tryd.prog (or2 (DB m) (or2 (DP m) D2)) (tb_part2 m) FE 6) Tryd.f13 [.agg [.b64 true 5#64, .b64 true (0#64), .b64 true cc, .b64 true sz, .bool w, .bool sh, .b64 true d, .b64 true s, .b32 true dp, .b32 true rl, .b64 true im], .agg [.b64 false r0, .b64 false r1, .b64 false r2, .b64 false r3, .b64 false r4, .b64 false r5, .b64 false r6, .b64 false r7, .b64 false r8, .b64 false r9, .b64 false r10, .b64 false r11, .b64 false r12, .b64 false r13, .b64 false r14, .b64 false r15, .bool fz, .bool fs, .bool fc, .bool fo, .b64 false pc]] (fun r => r = .tup [(true, LS (X_5 ⟨5#64, 0#64, cc, sz, w, sh, d, s, dp, rl, im⟩ ⟨fun j => nthW [r0, r1, r2, r3, r4, r5, r6, r7, r8, r9, r10, r11, r12, r13, r14, r15] j, fz, fs, fc, fo, pc⟩)), (false, [.b64 true 0#64])]) := by
  cases w
  repeat' ((conv => whnf); first
    | with_reducible apply Both.mk
    | (with_reducible apply Given.mk; intro h; (try simp only [hq, Bool.not_true, Bool.not_false, Bool.true_eq_false, Bool.false_eq_true] at h); (try exact absurd h (by decide)); (try exact no2 h (by with_reducible assumption)); (try exact no2 (by with_reducible assumption) h)))
  all_goals first
    | ((with_reducible apply Ob.mk); with_reducible exact hd)
    | ((with_reducible apply Ob.mk); with_reducible exact hd.2)
    | ((with_reducible apply Ob.mk); with_reducible exact hs)
    | ((with_reducible apply Ob.mk); with_reducible exact hs.2)
    | (with_reducible apply Ob.mk; kernel_rfl)
    | (with_reducible apply Ob.mk; decide)
    | ((conv => whnf); exact ⟨rfl⟩)
    | ((conv => whnf); skip)
set_option maxRecDepth 100000 in
set_option maxHeartbeats 4000000 in
theorem ex_5_1 (D2 : VData) (m : Nat → Nat) (w : Bool) (cc sz : BitVec 64) (sh : Bool) (s : BitVec 64) (dp rl : BitVec 32) (im : BitVec 64) (d : BitVec 64) (r0 r1 r2 r3 r4 r5 r6 r7 r8 r9 r10 r11 r12 r13 r14 r15 : BitVec 64) (fz fs fc fo : Bool) (pc : BitVec 64) (hq : qld 5#64 1#64 cc sz w sh d s dp rl im = true) (hd : 0 ≤ d.toInt ∧ d.toNat < 16) (hs : 0 ≤ s.toInt ∧ s.toNat < 16) : F Tryd.prog (tabI Tryd.prog (or2 (DB m) (or2 (DP m) D2)) (tb_part2 m) FE 6) Tryd.f13 [.agg [.b64 true 5#64, .b64 true (1#64), .b64 true cc, .b64 true sz, .bool w, .bool sh, .b64 true d, .b64 true s, .b32 true dp, .b32 true rl, .b64 true im], .agg [.b64 false r0, .b64 false r1, .b64 false r2, .b64 false r3, .b64 false r4, .b64 false r5, .b64 false r6, .b64 false r7, .b64 false r8, .b64 false r9, .b64 false r10, .b64 false r11, .b64 false r12, .b64 false r13, .b64 false r14, .b64 false r15, .bool fz, .bool fs, .bool fc, .bool fo, .b64 false pc]] (fun r => r = .tup [(true, LS (X_5 ⟨5#64, 1#64, cc, sz, w, sh, d, s, dp, rl, im⟩ ⟨fun j => nthW [r0, r1, r2, r3, r4, r5, r6, r7, r8, r9, r10, r11, r12, r13, r14, r15] j, fz, fs, fc, fo, pc⟩)), (false, [.b64 true 0#64])]) := by
  cases w
  repeat' ((conv => whnf); first
    | with_reducible apply Both.mk
    | (with_reducible apply Given.mk; intro h; (try simp only [hq, Bool.not_true, Bool.not_false, Bool.true_eq_false, Bool.false_eq_true] at h); (try exact absurd h (by decide)); (try exact no2 h (by with_reducible assumption)); (try exact no2 (by with_reducible assumption) h)))
  all_goals first
    | ((with_reducible apply Ob.mk); with_reducible exact hd)
    | ((with_reducible apply Ob.mk); with_reducible exact hd.2)
    | ((with_reducible apply Ob.mk); with_reducible exact hs)
    | ((with_reducible apply Ob.mk); with_reducible exact hs.2)
    | (with_reducible apply Ob.mk; kernel_rfl)
    | (with_reducible apply Ob.mk; decide)
    | ((conv => whnf); exact ⟨rfl⟩)
    | ((conv => whnf); skip)
set_option maxRecDepth 100000 in
set_option maxHeartbeats 4000000 in
theorem ex_5_4 (D2 : VData) (m : Nat → Nat) (w : Bool) (cc sz : BitVec 64) (sh : Bool) (s : BitVec 64) (dp rl : BitVec 32) (im : BitVec 64) (d : BitVec 64) (r0 r1 r2 r3 r4 r5 r6 r7 r8 r9 r10 r11 r12 r13 r14 r15 : BitVec 64) (fz fs fc fo : Bool) (pc : BitVec 64) (hq : qld 5#64 4#64 cc sz w sh d s dp rl im = true) (hd : 0 ≤ d.toInt ∧ d.toNat < 16) (hs : 0 ≤ s.toInt ∧ s.toNat < 16) : F Tryd.prog (tabI Tryd.prog (or2 (DB m) (or2 (DP m) D2)) (tb_part2 m) FE 6) Tryd.f13 [.agg [.b64 true 5#64, .b64 true (4#64), .b64 true cc, .b64 true sz, .bool w, .bool sh, .b64 true d, .b64 true s, .b32 true dp, .b32 true rl, .b64 true im], .agg [.b64 false r0, .b64 false r1, .b64 false r2, .b64 false r3, .b64 false r4, .b64 false r5, .b64 false r6, .b64 false r7, .b64 false r8, .b64 false r9, .b64 false r10, .b64 false r11, .b64 false r12, .b64 false r13, .b64 false r14, .b64 false r15, .bool fz, .bool fs, .bool fc, .bool fo, .b64 false pc]] (fun r => r = .tup [(true, LS (X_5 ⟨5#64, 4#64, cc, sz, w, sh, d, s, dp, rl, im⟩ ⟨fun j => nthW [r0, r1, r2, r3, r4, r5, r6, r7, r8, r9, r10, r11, r12, r13, r14, r15] j, fz, fs, fc, fo, pc⟩)), (false, [.b64 true 0#64])]) := by
  cases w
  repeat' ((conv => whnf); first
    | with_reducible apply Both.mk
    | (with_reducible apply Given.mk; intro h; (try simp only [hq, Bool.not_true, Bool.not_false, Bool.true_eq_false, Bool.false_eq_true] at h); (try exact absurd h (by decide)); (try exact no2 h (by with_reducible assumption)); (try exact no2 (by with_reducible assumption) h)))
  all_goals first
    | ((with_reducible apply Ob.mk); with_reducible exact hd)
    | ((with_reducible apply Ob.mk); with_reducible exact hd.2)
    | ((with_reducible apply Ob.mk); with_reducible exact hs)
    | ((with_reducible apply Ob.mk); with_reducible exact hs.2)
    | (with_reducible apply Ob.mk; kernel_rfl)
    | (with_reducible apply Ob.mk; decide)
    | ((conv => whnf); exact ⟨rfl⟩)
    | ((conv => whnf); skip)
set_option maxRecDepth 100000 in
set_option maxHeartbeats 4000000 in
theorem ex_5_5 (D2 : VData) (m : Nat → Nat) (w : Bool) (cc sz : BitVec 64) (sh : Bool) (s : BitVec 64) (dp rl : BitVec 32) (im : BitVec 64) (d : BitVec 64) (r0 r1 r2 r3 r4 r5 r6 r7 r8 r9 r10 r11 r12 r13 r14 r15 : BitVec 64) (fz fs fc fo : Bool) (pc : BitVec 64) (hq : qld 5#64 5#64 cc sz w sh d s dp rl im = true) (hd : 0 ≤ d.toInt ∧ d.toNat < 16) (hs : 0 ≤ s.toInt ∧ s.toNat < 16) : F Tryd.prog (tabI Tryd.prog (or2 (DB m) (or2 (DP m) D2)) (tb_part2 m) FE 6) Tryd.f13 [.agg [.b64 true 5#64, .b64 true (5#64), .b64 true cc, .b64 true sz, .bool w, .bool sh, .b64 true d, .b64 true s, .b32 true dp, .b32 true rl, .b64 true im], .agg [.b64 false r0, .b64 false r1, .b64 false r2, .b64 false r3, .b64 false r4, .b64 false r5, .b64 false r6, .b64 false r7, .b64 false r8, .b64 false r9, .b64 false r10, .b64 false r11, .b64 false r12, .b64 false r13, .b64 false r14, .b64 false r15, .bool fz, .bool fs, .bool fc, .bool fo, .b64 false pc]] (fun r => r = .tup [(true, LS (X_5 ⟨5#64, 5#64, cc, sz, w, sh, d, s, dp, rl, im⟩ ⟨fun j => nthW [r0, r1, r2, r3, r4, r5, r6, r7, r8, r9, r10, r11, r12, r13, r14, r15] j, fz, fs, fc, fo, pc⟩)), (false, [.b64 true 0#64])]) := by
  cases w
  repeat' ((conv => whnf); first
    | with_reducible apply Both.mk
    | (with_reducible apply Given.mk; intro h; (try simp only [hq, Bool.not_true, Bool.not_false, Bool.true_eq_false, Bool.false_eq_true] at h); (try exact absurd h (by decide)); (try exact no2 h (by with_reducible assumption)); (try exact no2 (by with_reducible assumption) h)))
  all_goals first
    | ((with_reducible apply Ob.mk); with_reducible exact hd)
    | ((with_reducible apply Ob.mk); with_reducible exact hd.2)
    | ((with_reducible apply Ob.mk); with_reducible exact hs)
    | ((with_reducible apply Ob.mk); with_reducible exact hs.2)
    | (with_reducible apply Ob.mk; kernel_rfl)
    | (with_reducible apply Ob.mk; decide)
    | ((conv => whnf); exact ⟨rfl⟩)
    | ((conv => whnf); skip)
set_option maxRecDepth 100000 in
set_option maxHeartbeats 4000000 in
theorem ex_5_6 (D2 : VData) (m : Nat → Nat) (w : Bool) (cc sz : BitVec 64) (sh : Bool) (s : BitVec 64) (dp rl : BitVec 32) (im : BitVec 64) (d : BitVec 64) (r0 r1 r2 r3 r4 r5 r6 r7 r8 r9 r10 r11 r12 r13 r14 r15 : BitVec 64) (fz fs fc fo : Bool) (pc : BitVec 64) (hq : qld 5#64 6#64 cc sz w sh d s dp rl im = true) (hd : 0 ≤ d.toInt ∧ d.toNat < 16) (hs : 0 ≤ s.toInt ∧ s.toNat < 16) : F Tryd.prog (tabI Tryd.prog (or2 (DB m) (or2 (DP m) D2)) (tb_part2 m) FE 6) Tryd.f13 [.agg [.b64 true 5#64, .b64 true (6#64), .b64 true cc, .b64 true sz, .bool w, .bool sh, .b64 true d, .b64 true s, .b32 true dp, .b32 true rl, .b64 true im], .agg [.b64 false r0, .b64 false r1, .b64 false r2, .b64 false r3, .b64 false r4, .b64 false r5, .b64 false r6, .b64 false r7, .b64 false r8, .b64 false r9, .b64 false r10, .b64 false r11, .b64 false r12, .b64 false r13, .b64 false r14, .b64 false r15, .bool fz, .bool fs, .bool fc, .bool fo, .b64 false pc]] (fun r => r = .tup [(true, LS (X_5 ⟨5#64, 6#64, cc, sz, w, sh, d, s, dp, rl, im⟩ ⟨fun j => nthW [r0, r1, r2, r3, r4, r5, r6, r7, r8, r9, r10, r11, r12, r13, r14, r15] j, fz, fs, fc, fo, pc⟩)), (false, [.b64 true 0#64])]) := by
  cases w
  repeat' ((conv => whnf); first
    | with_reducible apply Both.mk
    | (with_reducible apply Given.mk; intro h; (try simp only [hq, Bool.not_true, Bool.not_false, Bool.true_eq_false, Bool.false_eq_true] at h); (try exact absurd h (by decide)); (try exact no2 h (by with_reducible assumption)); (try exact no2 (by with_reducible assumption) h)))
  all_goals first
    | ((with_reducible apply Ob.mk); with_reducible exact hd)
    | ((with_reducible apply Ob.mk); with_reducible exact hd.2)
    | ((with_reducible apply Ob.mk); with_reducible exact hs)
    | ((with_reducible apply Ob.mk); with_reducible exact hs.2)
    | (with_reducible apply Ob.mk; kernel_rfl)
    | (with_reducible apply Ob.mk; decide)
    | ((conv => whnf); exact ⟨rfl⟩)
    | ((conv => whnf); skip)
set_option maxRecDepth 100000 in
set_option maxHeartbeats 4000000 in
theorem ex_5_7 (D2 : VData) (m : Nat → Nat) (w : Bool) (cc sz : BitVec 64) (sh : Bool) (s : BitVec 64) (dp rl : BitVec 32) (im : BitVec 64) (d : BitVec 64) (r0 r1 r2 r3 r4 r5 r6 r7 r8 r9 r10 r11 r12 r13 r14 r15 : BitVec 64) (fz fs fc fo : Bool) (pc : BitVec 64) (hq : qld 5#64 7#64 cc sz w sh d s dp rl im = true) (hd : 0 ≤ d.toInt ∧ d.toNat < 16) (hs : 0 ≤ s.toInt ∧ s.toNat < 16) : F Tryd.prog (tabI Tryd.prog (or2 (DB m) (or2 (DP m) D2)) (tb_part2 m) FE 6) Tryd.f13 [.agg [.b64 true 5#64, .b64 true (7#64), .b64 true cc, .b64 true sz, .bool w, .bool sh, .b64 true d, .b64 true s, .b32 true dp, .b32 true rl, .b64 true im], .agg [.b64 false r0, .b64 false r1, .b64 false r2, .b64 false r3, .b64 false r4, .b64 false r5, .b64 false r6, .b64 false r7, .b64 false r8, .b64 false r9, .b64 false r10, .b64 false r11, .b64 false r12, .b64 false r13, .b64 false r14, .b64 false r15, .bool fz, .bool fs, .bool fc, .bool fo, .b64 false pc]] (fun r => r = .tup [(true, LS (X_5 ⟨5#64, 7#64, cc, sz, w, sh, d, s, dp, rl, im⟩ ⟨fun j => nthW [r0, r1, r2, r3, r4, r5, r6, r7, r8, r9, r10, r11, r12, r13, r14, r15] j, fz, fs, fc, fo, pc⟩)), (false, [.b64 true 0#64])]) := by
  cases w
  repeat' ((conv => whnf); first
    | with_reducible apply Both.mk
    | (with_reducible apply Given.mk; intro h; (try simp only [hq, Bool.not_true, Bool.not_false, Bool.true_eq_false, Bool.false_eq_true] at h); (try exact absurd h (by decide)); (try exact no2 h (by with_reducible assumption)); (try exact no2 (by with_reducible assumption) h)))
  all_goals first
    | ((with_reducible apply Ob.mk); with_reducible exact hd)
    | ((with_reducible apply Ob.mk); with_reducible exact hd.2)
    | ((with_reducible apply Ob.mk); with_reducible exact hs)
    | ((with_reducible apply Ob.mk); with_reducible exact hs.2)
    | (with_reducible apply Ob.mk; kernel_rfl)
    | (with_reducible apply Ob.mk; decide)
    | ((conv => whnf); exact ⟨rfl⟩)
    | ((conv => whnf); skip)
set_option maxRecDepth 100000 in
set_option maxHeartbeats 4000000 in
theorem ex_6 (D2 : VData) (m : Nat → Nat) (al : BitVec 64) (w : Bool) (cc sz : BitVec 64) (sh : Bool) (s : BitVec 64) (dp rl : BitVec 32) (im : BitVec 64) (d : BitVec 64) (r0 r1 r2 r3 r4 r5 r6 r7 r8 r9 r10 r11 r12 r13 r14 r15 : BitVec 64) (fz fs fc fo : Bool) (pc : BitVec 64) (hq : qld 6#64 al cc sz w sh d s dp rl im = true) (hd : 0 ≤ d.toInt ∧ d.toNat < 16) (hs : 0 ≤ s.toInt ∧ s.toNat < 16) : F Tryd.prog (tabI Tryd.prog (or2 (DB m) (or2 (DP m) D2)) (tb_part2 m) FE 6) Tryd.f13 [.agg [.b64 true 6#64, .b64 true al, .b64 true cc, .b64 true sz, .bool w, .bool sh, .b64 true d, .b64 true s, .b32 true dp, .b32 true rl, .b64 true im], .agg [.b64 false r0, .b64 false r1, .b64 false r2, .b64 false r3, .b64 false r4, .b64 false r5, .b64 false r6, .b64 false r7, .b64 false r8, .b64 false r9, .b64 false r10, .b64 false r11, .b64 false r12, .b64 false r13, .b64 false r14, .b64 false r15, .bool fz, .bool fs, .bool fc, .bool fo, .b64 false pc]] (fun r => r = .tup [(true, LS (X_6 ⟨6#64, al, cc, sz, w, sh, d, s, dp, rl, im⟩ ⟨fun j => nthW [r0, r1, r2, r3, r4, r5, r6, r7, r8, r9, r10, r11, r12, r13, r14, r15] j, fz, fs, fc, fo, pc⟩)), (false, [.b64 true 0#64])]) := by
  cases w
  repeat' ((conv => whnf); first
    | with_reducible apply Both.mk
    | (with_reducible apply Given.mk; intro h; (try simp only [hq, Bool.not_true, Bool.not_false, Bool.true_eq_false, Bool.false_eq_true] at h); (try exact absurd h (by decide)); (try exact no2 h (by with_reducible assumption)); (try exact no2 (by with_reducible assumption) h)))
  all_goals first
    | ((with_reducible apply Ob.mk); with_reducible exact hd)
    | ((with_reducible apply Ob.mk); with_reducible exact hd.2)
    | ((with_reducible apply Ob.mk); with_reducible exact hs)
    | ((with_reducible apply Ob.mk); with_reducible exact hs.2)
    | (with_reducible apply Ob.mk; kernel_rfl)
    | (with_reducible apply Ob.mk; decide)
    | ((conv => whnf); exact ⟨rfl⟩)
    | ((conv => whnf); skip)
set_option maxRecDepth 100000 in
set_option maxHeartbeats 4000000 in
theorem ex_7 (D2 : VData) (m : Nat → Nat) (al : BitVec 64) (w : Bool) (cc sz : BitVec 64) (sh : Bool) (s : BitVec 64) (dp rl : BitVec 32) (im : BitVec 64) (d : BitVec 64) (r0 r1 r2 r3 r4 r5 r6 r7 r8 r9 r10 r11 r12 r13 r14 r15 : BitVec 64) (fz fs fc fo : Bool) (pc : BitVec 64) (hq : qld 7#64 al cc sz w sh d s dp rl im = true) (hd : 0 ≤ d.toInt ∧ d.toNat < 16) (hs : 0 ≤ s.toInt ∧ s.toNat < 16) : F Tryd.prog (tabI Tryd.prog (or2 (DB m) (or2 (DP m) D2)) (tb_part2 m) FE 6) Tryd.f13 [.agg [.b64 true 7#64, .b64 true al, .b64 true cc, .b64 true sz, .bool w, .bool sh, .b64 true d, .b64 true s, .b32 true dp, .b32 true rl, .b64 true im], .agg [.b64 false r0, .b64 false r1, .b64 false r2, .b64 false r3, .b64 false r4, .b64 false r5, .b64 false r6, .b64 false r7, .b64 false r8, .b64 false r9, .b64 false r10, .b64 false r11, .b64 false r12, .b64 false r13, .b64 false r14, .b64 false r15, .bool fz, .bool fs, .bool fc, .bool fo, .b64 false pc]] (fun r => r = .tup [(true, LS (X_7 ⟨7#64, al, cc, sz, w, sh, d, s, dp, rl, im⟩ ⟨fun j => nthW [r0, r1, r2, r3, r4, r5, r6, r7, r8, r9, r10, r11, r12, r13, r14, r15] j, fz, fs, fc, fo, pc⟩)), (false, [.b64 true 0#64])]) := by
  cases w
  repeat' ((conv => whnf); first
    | with_reducible apply Both.mk
    | (with_reducible apply Given.mk; intro h; (try simp only [hq, Bool.not_true, Bool.not_false, Bool.true_eq_false, Bool.false_eq_true] at h); (try exact absurd h (by decide)); (try exact no2 h (by with_reducible assumption)); (try exact no2 (by with_reducible assumption) h)))
  all_goals first
    | ((with_reducible apply Ob.mk); with_reducible exact hd)
    | ((with_reducible apply Ob.mk); with_reducible exact hd.2)
    | ((with_reducible apply Ob.mk); with_reducible exact hs)
    | ((with_reducible apply Ob.mk); with_reducible exact hs.2)
    | (with_reducible apply Ob.mk; kernel_rfl)
    | (with_reducible apply Ob.mk; decide)
    | ((conv => whnf); exact ⟨rfl⟩)
    | ((conv => whnf); skip)
set_option maxRecDepth 100000 in
set_option maxHeartbeats 4000000 in
theorem ex_8 (D2 : VData) (m : Nat → Nat) (al : BitVec 64) (w : Bool) (cc sz : BitVec 64) (sh : Bool) (s : BitVec 64) (dp rl : BitVec 32) (im : BitVec 64) (d : BitVec 64) (r0 r1 r2 r3 r4 r5 r6 r7 r8 r9 r10 r11 r12 r13 r14 r15 : BitVec 64) (fz fs fc fo : Bool) (pc : BitVec 64) (hq : qld 8#64 al cc sz w sh d s dp rl im = true) (hd : 0 ≤ d.toInt ∧ d.toNat < 16) (hs : 0 ≤ s.toInt ∧ s.toNat < 16) : F Tryd.prog (tabI Tryd.prog (or2 (DB m) (or2 (DP m) D2)) (tb_part2 m) FE 6) Tryd.f13 [.agg [.b64 true 8#64, .b64 true al, .b64 true cc, .b64 true sz, .bool w, .bool sh, .b64 true d, .b64 true s, .b32 true dp, .b32 true rl, .b64 true im], .agg [.b64 false r0, .b64 false r1, .b64 false r2, .b64 false r3, .b64 false r4, .b64 false r5, .b64 false r6, .b64 false r7, .b64 false r8, .b64 false r9, .b64 false r10, .b64 false r11, .b64 false r12, .b64 false r13, .b64 false r14, .b64 false r15, .bool fz, .bool fs, .bool fc, .bool fo, .b64 false pc]] (fun r => r = .tup [(true, LS (X_8 ⟨8#64, al, cc, sz, w, sh, d, s, dp, rl, im⟩ ⟨fun j => nthW [r0, r1, r2, r3, r4, r5, r6, r7, r8, r9, r10, r11, r12, r13, r14, r15] j, fz, fs, fc, fo, pc⟩)), (false, [.b64 true 0#64])]) := by

  repeat' ((conv => whnf); first
    | with_reducible apply Both.mk
    | (with_reducible apply Given.mk; intro h; (try simp only [hq, Bool.not_true, Bool.not_false, Bool.true_eq_false, Bool.false_eq_true] at h); (try exact absurd h (by decide)); (try exact no2 h (by with_reducible assumption)); (try exact no2 (by with_reducible assumption) h)))
  all_goals first
    | ((with_reducible apply Ob.mk); with_reducible exact hd)
    | ((with_reducible apply Ob.mk); with_reducible exact hd.2)
    | ((with_reducible apply Ob.mk); with_reducible exact hs)
    | ((with_reducible apply Ob.mk); with_reducible exact hs.2)
    | (with_reducible apply Ob.mk; kernel_rfl)
    | (with_reducible apply Ob.mk; decide)
    | ((conv => whnf); exact ⟨rfl⟩)
    | ((conv => whnf); skip)
set_option maxRecDepth 100000 in
set_option maxHeartbeats 4000000 in
theorem ex_9t (D2 : VData) (m : Nat → Nat) (al : BitVec 64) (w : Bool) (cc sz : BitVec 64) (sh : Bool) (s : BitVec 64) (dp rl : BitVec 32) (im : BitVec 64) (d : BitVec 64) (r0 r1 r2 r3 r4 r5 r6 r7 r8 r9 r10 r11 r12 r13 r14 r15 : BitVec 64) (fz fs fc fo : Bool) (pc : BitVec 64) (hq : qld 9#64 al cc sz w sh d s dp rl im = true) (hd : 0 ≤ d.toInt ∧ d.toNat < 16) (hs : 0 ≤ s.toInt ∧ s.toNat < 16) (hk : ptK w r2 (nthW [r0, r1, r2, r3, r4, r5, r6, r7, r8, r9, r10, r11, r12, r13, r14, r15] d.toNat) = true) : F Tryd.prog (tabI Tryd.prog (or2 (DB m) (or2 (DP m) D2)) (tb_part2 m) FE 6) Tryd.f13 [.agg [.b64 true 9#64, .b64 true al, .b64 true cc, .b64 true sz, .bool w, .bool sh, .b64 true d, .b64 true s, .b32 true dp, .b32 true rl, .b64 true im], .agg [.b64 false r0, .b64 false r1, .b64 false r2, .b64 false r3, .b64 false r4, .b64 false r5, .b64 false r6, .b64 false r7, .b64 false r8, .b64 false r9, .b64 false r10, .b64 false r11, .b64 false r12, .b64 false r13, .b64 false r14, .b64 false r15, .bool fz, .bool fs, .bool fc, .bool fo, .b64 false pc]] (fun r => r = .tup [(true, LS (X_9 ⟨9#64, al, cc, sz, w, sh, d, s, dp, rl, im⟩ ⟨fun j => nthW [r0, r1, r2, r3, r4, r5, r6, r7, r8, r9, r10, r11, r12, r13, r14, r15] j, fz, fs, fc, fo, pc⟩)), (false, [.b64 true 0#64])]) := by

  repeat' ((conv => whnf); first
    | with_reducible apply Both.mk
    | (with_reducible apply Given.mk; intro h; (try simp only [hq, hk, Bool.not_true, Bool.not_false, Bool.true_eq_false, Bool.false_eq_true] at h); (try exact absurd h (by decide)); (try exact no2 h (by with_reducible assumption)); (try exact no2 (by with_reducible assumption) h)))
  all_goals first
    | ((with_reducible apply Ob.mk); with_reducible exact hd)
    | ((with_reducible apply Ob.mk); with_reducible exact hd.2)
    | ((with_reducible apply Ob.mk); with_reducible exact hs)
    | ((with_reducible apply Ob.mk); with_reducible exact hs.2)
    | (with_reducible apply Ob.mk; kernel_rfl)
    | (with_reducible apply Ob.mk; decide)
    | ((conv => whnf); refine ⟨?_⟩; rw [if_pos hk, if_pos hk]; rfl)
    | ((conv => whnf); exact ⟨rfl⟩)
    | ((conv => whnf); skip)
set_option maxRecDepth 100000 in
set_option maxHeartbeats 4000000 in
theorem ex_9f (D2 : VData) (m : Nat → Nat) (al : BitVec 64) (w : Bool) (cc sz : BitVec 64) (sh : Bool) (s : BitVec 64) (dp rl : BitVec 32) (im : BitVec 64) (d : BitVec 64) (r0 r1 r2 r3 r4 r5 r6 r7 r8 r9 r10 r11 r12 r13 r14 r15 : BitVec 64) (fz fs fc fo : Bool) (pc : BitVec 64) (hq : qld 9#64 al cc sz w sh d s dp rl im = true) (hd : 0 ≤ d.toInt ∧ d.toNat < 16) (hs : 0 ≤ s.toInt ∧ s.toNat < 16) (hk : ptK w r2 (nthW [r0, r1, r2, r3, r4, r5, r6, r7, r8, r9, r10, r11, r12, r13, r14, r15] d.toNat) = false) : F Tryd.prog (tabI Tryd.prog (or2 (DB m) (or2 (DP m) D2)) (tb_part2 m) FE 6) Tryd.f13 [.agg [.b64 true 9#64, .b64 true al, .b64 true cc, .b64 true sz, .bool w, .bool sh, .b64 true d, .b64 true s, .b32 true dp, .b32 true rl, .b64 true im], .agg [.b64 false r0, .b64 false r1, .b64 false r2, .b64 false r3, .b64 false r4, .b64 false r5, .b64 false r6, .b64 false r7, .b64 false r8, .b64 false r9, .b64 false r10, .b64 false r11, .b64 false r12, .b64 false r13, .b64 false r14, .b64 false r15, .bool fz, .bool fs, .bool fc, .bool fo, .b64 false pc]] (fun r => r = .tup [(true, LS S0), (false, [.b64 true 120#64])]) := by

  repeat' ((conv => whnf); first
    | with_reducible apply Both.mk
    | (with_reducible apply Given.mk; intro h; (try simp only [hq, hk, Bool.not_true, Bool.not_false, Bool.true_eq_false, Bool.false_eq_true] at h); (try exact absurd h (by decide)); (try exact no2 h (by with_reducible assumption)); (try exact no2 (by with_reducible assumption) h)))
  all_goals first
    | ((with_reducible apply Ob.mk); with_reducible exact hd)
    | ((with_reducible apply Ob.mk); with_reducible exact hd.2)
    | ((with_reducible apply Ob.mk); with_reducible exact hs)
    | ((with_reducible apply Ob.mk); with_reducible exact hs.2)
    | (with_reducible apply Ob.mk; kernel_rfl)
    | (with_reducible apply Ob.mk; decide)
    | ((conv => whnf); refine ⟨?_⟩; rw [if_pos hk, if_pos hk]; rfl)
    | ((conv => whnf); exact ⟨rfl⟩)
    | ((conv => whnf); skip)
set_option maxRecDepth 100000 in
set_option maxHeartbeats 4000000 in
theorem ex_10 (D2 : VData) (m : Nat → Nat) (al : BitVec 64) (w : Bool) (cc sz : BitVec 64) (sh : Bool) (s : BitVec 64) (dp rl : BitVec 32) (im : BitVec 64) (d : BitVec 64) (r0 r1 r2 r3 r4 r5 r6 r7 r8 r9 r10 r11 r12 r13 r14 r15 : BitVec 64) (fz fs fc fo : Bool) (pc : BitVec 64) (hq : qld 10#64 al cc sz w sh d s dp rl im = true) (hd : 0 ≤ d.toInt ∧ d.toNat < 16) (hs : 0 ≤ s.toInt ∧ s.toNat < 16) : F Tryd.prog (tabI Tryd.prog (or2 (DB m) (or2 (DP m) D2)) (tb_part2 m) FE 6) Tryd.f13 [.agg [.b64 true 10#64, .b64 true al, .b64 true cc, .b64 true sz, .bool w, .bool sh, .b64 true d, .b64 true s, .b32 true dp, .b32 true rl, .b64 true im], .agg [.b64 false r0, .b64 false r1, .b64 false r2, .b64 false r3, .b64 false r4, .b64 false r5, .b64 false r6, .b64 false r7, .b64 false r8, .b64 false r9, .b64 false r10, .b64 false r11, .b64 false r12, .b64 false r13, .b64 false r14, .b64 false r15, .bool fz, .bool fs, .bool fc, .bool fo, .b64 false pc]] (fun r => r = .tup [(true, LS (X_10 ⟨10#64, al, cc, sz, w, sh, d, s, dp, rl, im⟩ ⟨fun j => nthW [r0, r1, r2, r3, r4, r5, r6, r7, r8, r9, r10, r11, r12, r13, r14, r15] j, fz, fs, fc, fo, pc⟩)), (false, [.b64 true 0#64])]) := by

  repeat' ((conv => whnf); first
    | with_reducible apply Both.mk
    | (with_reducible apply Given.mk; intro h; (try simp only [hq, Bool.not_true, Bool.not_false, Bool.true_eq_false, Bool.false_eq_true] at h); (try exact absurd h (by decide)); (try exact no2 h (by with_reducible assumption)); (try exact no2 (by with_reducible assumption) h)))
  all_goals first
    | ((with_reducible apply Ob.mk); with_reducible exact hd)
    | ((with_reducible apply Ob.mk); with_reducible exact hd.2)
    | ((with_reducible apply Ob.mk); with_reducible exact hs)
    | ((with_reducible apply Ob.mk); with_reducible exact hs.2)
    | (with_reducible apply Ob.mk; kernel_rfl)
    | (with_reducible apply Ob.mk; decide)
    | ((conv => whnf); exact ⟨rfl⟩)
    | ((conv => whnf); skip)
set_option maxRecDepth 100000 in
set_option maxHeartbeats 4000000 in
theorem ex_11 (D2 : VData) (m : Nat → Nat) (al : BitVec 64) (w : Bool) (cc sz : BitVec 64) (sh : Bool) (s : BitVec 64) (dp rl : BitVec 32) (im : BitVec 64) (d : BitVec 64) (r0 r1 r2 r3 r4 r5 r6 r7 r8 r9 r10 r11 r12 r13 r14 r15 : BitVec 64) (fz fs fc fo : Bool) (pc : BitVec 64) (hq : qld 11#64 al cc sz w sh d s dp rl im = true) (hd : 0 ≤ d.toInt ∧ d.toNat < 16) (hs : 0 ≤ s.toInt ∧ s.toNat < 16) : F Tryd.prog (tabI Tryd.prog (or2 (DB m) (or2 (DP m) D2)) (tb_part2 m) FE 6) Tryd.f13 [.agg [.b64 true 11#64, .b64 true al, .b64 true cc, .b64 true sz, .bool w, .bool sh, .b64 true d, .b64 true s, .b32 true dp, .b32 true rl, .b64 true im], .agg [.b64 false r0, .b64 false r1, .b64 false r2, .b64 false r3, .b64 false r4, .b64 false r5, .b64 false r6, .b64 false r7, .b64 false r8, .b64 false r9, .b64 false r10, .b64 false r11, .b64 false r12, .b64 false r13, .b64 false r14, .b64 false r15, .bool fz, .bool fs, .bool fc, .bool fo, .b64 false pc]] (fun r => r = .tup [(true, LS (X_11 ⟨11#64, al, cc, sz, w, sh, d, s, dp, rl, im⟩ ⟨fun j => nthW [r0, r1, r2, r3, r4, r5, r6, r7, r8, r9, r10, r11, r12, r13, r14, r15] j, fz, fs, fc, fo, pc⟩)), (false, [.b64 true 0#64])]) := by

  repeat' ((conv => whnf); first
    | with_reducible apply Both.mk
    | (with_reducible apply Given.mk; intro h; (try simp only [hq, Bool.not_true, Bool.not_false, Bool.true_eq_false, Bool.false_eq_true] at h); (try exact absurd h (by decide)); (try exact no2 h (by with_reducible assumption)); (try exact no2 (by with_reducible assumption) h)))
  all_goals first
    | ((with_reducible apply Ob.mk); with_reducible exact hd)
    | ((with_reducible apply Ob.mk); with_reducible exact hd.2)
    | ((with_reducible apply Ob.mk); with_reducible exact hs)
    | ((with_reducible apply Ob.mk); with_reducible exact hs.2)
    | (with_reducible apply Ob.mk; kernel_rfl)
    | (with_reducible apply Ob.mk; decide)
    | ((conv => whnf); exact ⟨rfl⟩)
    | ((conv => whnf); skip)
set_option maxRecDepth 100000 in
set_option maxHeartbeats 4000000 in
theorem ex_12 (D2 : VData) (m : Nat → Nat) (al : BitVec 64) (w : Bool) (cc sz : BitVec 64) (sh : Bool) (s : BitVec 64) (dp rl : BitVec 32) (im : BitVec 64) (d : BitVec 64) (r0 r1 r2 r3 r4 r5 r6 r7 r8 r9 r10 r11 r12 r13 r14 r15 : BitVec 64) (fz fs fc fo : Bool) (pc : BitVec 64) (hq : qld 12#64 al cc sz w sh d s dp rl im = true) (hd : 0 ≤ d.toInt ∧ d.toNat < 16) (hs : 0 ≤ s.toInt ∧ s.toNat < 16) : F Tryd.prog (tabI Tryd.prog (or2 (DB m) (or2 (DP m) D2)) (tb_part2 m) FE 6) Tryd.f13 [.agg [.b64 true 12#64, .b64 true al, .b64 true cc, .b64 true sz, .bool w, .bool sh, .b64 true d, .b64 true s, .b32 true dp, .b32 true rl, .b64 true im], .agg [.b64 false r0, .b64 false r1, .b64 false r2, .b64 false r3, .b64 false r4, .b64 false r5, .b64 false r6, .b64 false r7, .b64 false r8, .b64 false r9, .b64 false r10, .b64 false r11, .b64 false r12, .b64 false r13, .b64 false r14, .b64 false r15, .bool fz, .bool fs, .bool fc, .bool fo, .b64 false pc]] (fun r => r = .tup [(true, LS (X_12 ⟨12#64, al, cc, sz, w, sh, d, s, dp, rl, im⟩ ⟨fun j => nthW [r0, r1, r2, r3, r4, r5, r6, r7, r8, r9, r10, r11, r12, r13, r14, r15] j, fz, fs, fc, fo, pc⟩)), (false, [.b64 true 0#64])]) := by

  repeat' ((conv => whnf); first
    | with_reducible apply Both.mk
    | (with_reducible apply Given.mk; intro h; (try simp only [hq, Bool.not_true, Bool.not_false, Bool.true_eq_false, Bool.false_eq_true] at h); (try exact absurd h (by decide)); (try exact no2 h (by with_reducible assumption)); (try exact no2 (by with_reducible assumption) h)))
  all_goals first
    | ((with_reducible apply Ob.mk); with_reducible exact hd)
    | ((with_reducible apply Ob.mk); with_reducible exact hd.2)
    | ((with_reducible apply Ob.mk); with_reducible exact hs)
    | ((with_reducible apply Ob.mk); with_reducible exact hs.2)
    | (with_reducible apply Ob.mk; kernel_rfl)
    | (with_reducible apply Ob.mk; decide)
    | ((conv => whnf); exact ⟨rfl⟩)
    | ((conv => whnf); skip)
set_option maxRecDepth 100000 in
set_option maxHeartbeats 4000000 in
theorem ex_21 (D2 : VData) (m : Nat → Nat) (al : BitVec 64) (w : Bool) (cc sz : BitVec 64) (sh : Bool) (s : BitVec 64) (dp rl : BitVec 32) (im : BitVec 64) (d : BitVec 64) (r0 r1 r2 r3 r4 r5 r6 r7 r8 r9 r10 r11 r12 r13 r14 r15 : BitVec 64) (fz fs fc fo : Bool) (pc : BitVec 64) (hq : qld 21#64 al cc sz w sh d s dp rl im = true) (hd : 0 ≤ d.toInt ∧ d.toNat < 16) (hs : 0 ≤ s.toInt ∧ s.toNat < 16) : F Tryd.prog (tabI Tryd.prog (or2 (DB m) (or2 (DP m) D2)) (tb_part2 m) FE 6) Tryd.f13 [.agg [.b64 true 21#64, .b64 true al, .b64 true cc, .b64 true sz, .bool w, .bool sh, .b64 true d, .b64 true s, .b32 true dp, .b32 true rl, .b64 true im], .agg [.b64 false r0, .b64 false r1, .b64 false r2, .b64 false r3, .b64 false r4, .b64 false r5, .b64 false r6, .b64 false r7, .b64 false r8, .b64 false r9, .b64 false r10, .b64 false r11, .b64 false r12, .b64 false r13, .b64 false r14, .b64 false r15, .bool fz, .bool fs, .bool fc, .bool fo, .b64 false pc]] (fun r => r = .tup [(true, LS (⟨fun j => nthW [r0, r1, r2, r3, r4, r5, r6, r7, r8, r9, r10, r11, r12, r13, r14, r15] j, fz, fs, fc, fo, pc⟩)), (false, [.b64 true 0#64])]) := by

  repeat' ((conv => whnf); first
    | with_reducible apply Both.mk
    | (with_reducible apply Given.mk; intro h; (try simp only [hq, Bool.not_true, Bool.not_false, Bool.true_eq_false, Bool.false_eq_true] at h); (try exact absurd h (by decide)); (try exact no2 h (by with_reducible assumption)); (try exact no2 (by with_reducible assumption) h)))
  all_goals first
    | ((with_reducible apply Ob.mk); with_reducible exact hd)
    | ((with_reducible apply Ob.mk); with_reducible exact hd.2)
    | ((with_reducible apply Ob.mk); with_reducible exact hs)
    | ((with_reducible apply Ob.mk); with_reducible exact hs.2)
    | (with_reducible apply Ob.mk; kernel_rfl)
    | (with_reducible apply Ob.mk; decide)
    | ((conv => whnf); exact ⟨rfl⟩)
    | ((conv => whnf); skip)
end Go.Proofs.YtppankimieopiaaDoor
