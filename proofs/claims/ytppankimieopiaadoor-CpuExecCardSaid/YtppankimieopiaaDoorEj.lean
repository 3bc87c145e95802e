/-
  cpu.Exec's contract. Conditions: as typed.
-/
import Derived.Test.YtppankimieopiaaDoorEi
namespace Go.Proofs.YtppankimieopiaaDoor
open Go.Ep Go.RowKit
set_option linter.unusedVariables false
set_option linter.unusedSimpArgs false
set_option maxRecDepth 100000 in
set_option maxHeartbeats 4000000 in
theorem ex_bad (D2 : VData) (m : Nat → Nat) (k : BitVec 64) (al cc sz : BitVec 64) (w sh : Bool) (d s : BitVec 64) (dp rl : BitVec 32) (im : BitVec 64) (r0 r1 r2 r3 r4 r5 r6 r7 r8 r9 r10 r11 r12 r13 r14 r15 : BitVec 64) (fz fs fc fo : Bool) (pc : BitVec 64) (hq : qld k al cc sz w sh d s dp rl im = false) : F Tryd.prog (tabI Tryd.prog (or2 (DB m) (or2 (DP m) D2)) (tb_part2 m) FE 6) Tryd.f13 [.agg [.b64 true k, .b64 true al, .b64 true cc, .b64 true sz, .bool w, .bool sh, .b64 true d, .b64 true s, .b32 true dp, .b32 true rl, .b64 true im], .agg [.b64 false r0, .b64 false r1, .b64 false r2, .b64 false r3, .b64 false r4, .b64 false r5, .b64 false r6, .b64 false r7, .b64 false r8, .b64 false r9, .b64 false r10, .b64 false r11, .b64 false r12, .b64 false r13, .b64 false r14, .b64 false r15, .bool fz, .bool fs, .bool fc, .bool fo, .b64 false pc]] (fun r => r = .tup [(true, LS S0), (false, [.b64 true 2#64])]) := by

  repeat' ((conv => whnf); first
    | with_reducible apply Both.mk
    | (with_reducible apply Given.mk; intro h; (try simp only [hq, Bool.not_true, Bool.not_false, Bool.true_eq_false, Bool.false_eq_true] at h); (try exact absurd h (by decide)); (try exact no2 h (by with_reducible assumption)); (try exact no2 (by with_reducible assumption) h)))
  all_goals first
    | (with_reducible apply Ob.mk; kernel_rfl)
    | (with_reducible apply Ob.mk; decide)
    | ((conv => whnf); exact ⟨rfl⟩)
    | ((conv => whnf); skip)
set_option maxRecDepth 100000 in
set_option maxHeartbeats 4000000 in
theorem ex_13 (D2 : VData) (m : Nat → Nat) (al cc sz : BitVec 64) (w sh : Bool) (d s : BitVec 64) (dp rl : BitVec 32) (im : BitVec 64) (r0 r1 r2 r3 r4 r5 r6 r7 r8 r9 r10 r11 r12 r13 r14 r15 : BitVec 64) (fz fs fc fo : Bool) (pc : BitVec 64) (hq : qld 13#64 al cc sz w sh d s dp rl im = true) (hd : 0 ≤ d.toInt ∧ d.toNat < 16) (hs : 0 ≤ s.toInt ∧ s.toNat < 16) : F Tryd.prog (tabI Tryd.prog (or2 (DB m) (or2 (DP m) D2)) (tb_part2 m) FE 6) Tryd.f13 [.agg [.b64 true 13#64, .b64 true al, .b64 true cc, .b64 true sz, .bool w, .bool sh, .b64 true d, .b64 true s, .b32 true dp, .b32 true rl, .b64 true im], .agg [.b64 false r0, .b64 false r1, .b64 false r2, .b64 false r3, .b64 false r4, .b64 false r5, .b64 false r6, .b64 false r7, .b64 false r8, .b64 false r9, .b64 false r10, .b64 false r11, .b64 false r12, .b64 false r13, .b64 false r14, .b64 false r15, .bool fz, .bool fs, .bool fc, .bool fo, .b64 false pc]] (fun r => r = .tup [(true, LS S0), (false, [.b64 true 2#64])]) := by

  repeat' ((conv => whnf); first
    | with_reducible apply Both.mk
    | (with_reducible apply Given.mk; intro h; (try simp only [hq, Bool.not_true, Bool.not_false, Bool.true_eq_false, Bool.false_eq_true] at h); (try exact absurd h (by decide)); (try exact no2 h (by with_reducible assumption)); (try exact no2 (by with_reducible assumption) h)))
  all_goals first
    | ((with_reducible apply Ob.mk); with_reducible exact hd)
    | ((with_reducible apply Ob.mk); with_reducible exact hd.2)
    | ((with_reducible apply Ob.mk); with_reducible exact hs)
    | ((with_reducible apply Ob.mk); with_reducible exact hs.2)
    | (with_reducible apply Ob.mk; kernel_rfl)
    | (with_reducible apply Ob.mk; decide)
    | ((conv => whnf); exact ⟨rfl⟩)
    | ((conv => whnf); skip)
set_option maxRecDepth 100000 in
set_option maxHeartbeats 4000000 in
theorem ex_14 (D2 : VData) (m : Nat → Nat) (al cc sz : BitVec 64) (w sh : Bool) (d s : BitVec 64) (dp rl : BitVec 32) (im : BitVec 64) (r0 r1 r2 r3 r4 r5 r6 r7 r8 r9 r10 r11 r12 r13 r14 r15 : BitVec 64) (fz fs fc fo : Bool) (pc : BitVec 64) (hq : qld 14#64 al cc sz w sh d s dp rl im = true) (hd : 0 ≤ d.toInt ∧ d.toNat < 16) (hs : 0 ≤ s.toInt ∧ s.toNat < 16) : F Tryd.prog (tabI Tryd.prog (or2 (DB m) (or2 (DP m) D2)) (tb_part2 m) FE 6) Tryd.f13 [.agg [.b64 true 14#64, .b64 true al, .b64 true cc, .b64 true sz, .bool w, .bool sh, .b64 true d, .b64 true s, .b32 true dp, .b32 true rl, .b64 true im], .agg [.b64 false r0, .b64 false r1, .b64 false r2, .b64 false r3, .b64 false r4, .b64 false r5, .b64 false r6, .b64 false r7, .b64 false r8, .b64 false r9, .b64 false r10, .b64 false r11, .b64 false r12, .b64 false r13, .b64 false r14, .b64 false r15, .bool fz, .bool fs, .bool fc, .bool fo, .b64 false pc]] (fun r => r = .tup [(true, LS S0), (false, [.b64 true 2#64])]) := by

  repeat' ((conv => whnf); first
    | with_reducible apply Both.mk
    | (with_reducible apply Given.mk; intro h; (try simp only [hq, Bool.not_true, Bool.not_false, Bool.true_eq_false, Bool.false_eq_true] at h); (try exact absurd h (by decide)); (try exact no2 h (by with_reducible assumption)); (try exact no2 (by with_reducible assumption) h)))
  all_goals first
    | ((with_reducible apply Ob.mk); with_reducible exact hd)
    | ((with_reducible apply Ob.mk); with_reducible exact hd.2)
    | ((with_reducible apply Ob.mk); with_reducible exact hs)
    | ((with_reducible apply Ob.mk); with_reducible exact hs.2)
    | (with_reducible apply Ob.mk; kernel_rfl)
    | (with_reducible apply Ob.mk; decide)
    | ((conv => whnf); exact ⟨rfl⟩)
    | ((conv => whnf); skip)
set_option maxRecDepth 100000 in
set_option maxHeartbeats 4000000 in
theorem ex_15 (D2 : VData) (m : Nat → Nat) (al cc sz : BitVec 64) (w sh : Bool) (d s : BitVec 64) (dp rl : BitVec 32) (im : BitVec 64) (r0 r1 r2 r3 r4 r5 r6 r7 r8 r9 r10 r11 r12 r13 r14 r15 : BitVec 64) (fz fs fc fo : Bool) (pc : BitVec 64) (hq : qld 15#64 al cc sz w sh d s dp rl im = true) (hd : 0 ≤ d.toInt ∧ d.toNat < 16) (hs : 0 ≤ s.toInt ∧ s.toNat < 16) : F Tryd.prog (tabI Tryd.prog (or2 (DB m) (or2 (DP m) D2)) (tb_part2 m) FE 6) Tryd.f13 [.agg [.b64 true 15#64, .b64 true al, .b64 true cc, .b64 true sz, .bool w, .bool sh, .b64 true d, .b64 true s, .b32 true dp, .b32 true rl, .b64 true im], .agg [.b64 false r0, .b64 false r1, .b64 false r2, .b64 false r3, .b64 false r4, .b64 false r5, .b64 false r6, .b64 false r7, .b64 false r8, .b64 false r9, .b64 false r10, .b64 false r11, .b64 false r12, .b64 false r13, .b64 false r14, .b64 false r15, .bool fz, .bool fs, .bool fc, .bool fo, .b64 false pc]] (fun r => r = .tup [(true, LS S0), (false, [.b64 true 2#64])]) := by

  repeat' ((conv => whnf); first
    | with_reducible apply Both.mk
    | (with_reducible apply Given.mk; intro h; (try simp only [hq, Bool.not_true, Bool.not_false, Bool.true_eq_false, Bool.false_eq_true] at h); (try exact absurd h (by decide)); (try exact no2 h (by with_reducible assumption)); (try exact no2 (by with_reducible assumption) h)))
  all_goals first
    | ((with_reducible apply Ob.mk); with_reducible exact hd)
    | ((with_reducible apply Ob.mk); with_reducible exact hd.2)
    | ((with_reducible apply Ob.mk); with_reducible exact hs)
    | ((with_reducible apply Ob.mk); with_reducible exact hs.2)
    | (with_reducible apply Ob.mk; kernel_rfl)
    | (with_reducible apply Ob.mk; decide)
    | ((conv => whnf); exact ⟨rfl⟩)
    | ((conv => whnf); skip)
set_option maxRecDepth 100000 in
set_option maxHeartbeats 4000000 in
theorem ex_16 (D2 : VData) (m : Nat → Nat) (al cc sz : BitVec 64) (w sh : Bool) (d s : BitVec 64) (dp rl : BitVec 32) (im : BitVec 64) (r0 r1 r2 r3 r4 r5 r6 r7 r8 r9 r10 r11 r12 r13 r14 r15 : BitVec 64) (fz fs fc fo : Bool) (pc : BitVec 64) (hq : qld 16#64 al cc sz w sh d s dp rl im = true) (hd : 0 ≤ d.toInt ∧ d.toNat < 16) (hs : 0 ≤ s.toInt ∧ s.toNat < 16) : F Tryd.prog (tabI Tryd.prog (or2 (DB m) (or2 (DP m) D2)) (tb_part2 m) FE 6) Tryd.f13 [.agg [.b64 true 16#64, .b64 true al, .b64 true cc, .b64 true sz, .bool w, .bool sh, .b64 true d, .b64 true s, .b32 true dp, .b32 true rl, .b64 true im], .agg [.b64 false r0, .b64 false r1, .b64 false r2, .b64 false r3, .b64 false r4, .b64 false r5, .b64 false r6, .b64 false r7, .b64 false r8, .b64 false r9, .b64 false r10, .b64 false r11, .b64 false r12, .b64 false r13, .b64 false r14, .b64 false r15, .bool fz, .bool fs, .bool fc, .bool fo, .b64 false pc]] (fun r => r = .tup [(true, LS S0), (false, [.b64 true 2#64])]) := by

  repeat' ((conv => whnf); first
    | with_reducible apply Both.mk
    | (with_reducible apply Given.mk; intro h; (try simp only [hq, Bool.not_true, Bool.not_false, Bool.true_eq_false, Bool.false_eq_true] at h); (try exact absurd h (by decide)); (try exact no2 h (by with_reducible assumption)); (try exact no2 (by with_reducible assumption) h)))
  all_goals first
    | ((with_reducible apply Ob.mk); with_reducible exact hd)
    | ((with_reducible apply Ob.mk); with_reducible exact hd.2)
    | ((with_reducible apply Ob.mk); with_reducible exact hs)
    | ((with_reducible apply Ob.mk); with_reducible exact hs.2)
    | (with_reducible apply Ob.mk; kernel_rfl)
    | (with_reducible apply Ob.mk; decide)
    | ((conv => whnf); exact ⟨rfl⟩)
    | ((conv => whnf); skip)
set_option maxRecDepth 100000 in
set_option maxHeartbeats 4000000 in
theorem ex_17 (D2 : VData) (m : Nat → Nat) (al cc sz : BitVec 64) (w sh : Bool) (d s : BitVec 64) (dp rl : BitVec 32) (im : BitVec 64) (r0 r1 r2 r3 r4 r5 r6 r7 r8 r9 r10 r11 r12 r13 r14 r15 : BitVec 64) (fz fs fc fo : Bool) (pc : BitVec 64) (hq : qld 17#64 al cc sz w sh d s dp rl im = true) (hd : 0 ≤ d.toInt ∧ d.toNat < 16) (hs : 0 ≤ s.toInt ∧ s.toNat < 16) : F Tryd.prog (tabI Tryd.prog (or2 (DB m) (or2 (DP m) D2)) (tb_part2 m) FE 6) Tryd.f13 [.agg [.b64 true 17#64, .b64 true al, .b64 true cc, .b64 true sz, .bool w, .bool sh, .b64 true d, .b64 true s, .b32 true dp, .b32 true rl, .b64 true im], .agg [.b64 false r0, .b64 false r1, .b64 false r2, .b64 false r3, .b64 false r4, .b64 false r5, .b64 false r6, .b64 false r7, .b64 false r8, .b64 false r9, .b64 false r10, .b64 false r11, .b64 false r12, .b64 false r13, .b64 false r14, .b64 false r15, .bool fz, .bool fs, .bool fc, .bool fo, .b64 false pc]] (fun r => r = .tup [(true, LS S0), (false, [.b64 true 2#64])]) := by

  repeat' ((conv => whnf); first
    | with_reducible apply Both.mk
    | (with_reducible apply Given.mk; intro h; (try simp only [hq, Bool.not_true, Bool.not_false, Bool.true_eq_false, Bool.false_eq_true] at h); (try exact absurd h (by decide)); (try exact no2 h (by with_reducible assumption)); (try exact no2 (by with_reducible assumption) h)))
  all_goals first
    | ((with_reducible apply Ob.mk); with_reducible exact hd)
    | ((with_reducible apply Ob.mk); with_reducible exact hd.2)
    | ((with_reducible apply Ob.mk); with_reducible exact hs)
    | ((with_reducible apply Ob.mk); with_reducible exact hs.2)
    | (with_reducible apply Ob.mk; kernel_rfl)
    | (with_reducible apply Ob.mk; decide)
    | ((conv => whnf); exact ⟨rfl⟩)
    | ((conv => whnf); skip)
set_option maxRecDepth 100000 in
set_option maxHeartbeats 4000000 in
theorem ex_18 (D2 : VData) (m : Nat → Nat) (al cc sz : BitVec 64) (w sh : Bool) (d s : BitVec 64) (dp rl : BitVec 32) (im : BitVec 64) (r0 r1 r2 r3 r4 r5 r6 r7 r8 r9 r10 r11 r12 r13 r14 r15 : BitVec 64) (fz fs fc fo : Bool) (pc : BitVec 64) (hq : qld 18#64 al cc sz w sh d s dp rl im = true) (hd : 0 ≤ d.toInt ∧ d.toNat < 16) (hs : 0 ≤ s.toInt ∧ s.toNat < 16) : F Tryd.prog (tabI Tryd.prog (or2 (DB m) (or2 (DP m) D2)) (tb_part2 m) FE 6) Tryd.f13 [.agg [.b64 true 18#64, .b64 true al, .b64 true cc, .b64 true sz, .bool w, .bool sh, .b64 true d, .b64 true s, .b32 true dp, .b32 true rl, .b64 true im], .agg [.b64 false r0, .b64 false r1, .b64 false r2, .b64 false r3, .b64 false r4, .b64 false r5, .b64 false r6, .b64 false r7, .b64 false r8, .b64 false r9, .b64 false r10, .b64 false r11, .b64 false r12, .b64 false r13, .b64 false r14, .b64 false r15, .bool fz, .bool fs, .bool fc, .bool fo, .b64 false pc]] (fun r => r = .tup [(true, LS S0), (false, [.b64 true 2#64])]) := by

  repeat' ((conv => whnf); first
    | with_reducible apply Both.mk
    | (with_reducible apply Given.mk; intro h; (try simp only [hq, Bool.not_true, Bool.not_false, Bool.true_eq_false, Bool.false_eq_true] at h); (try exact absurd h (by decide)); (try exact no2 h (by with_reducible assumption)); (try exact no2 (by with_reducible assumption) h)))
  all_goals first
    | ((with_reducible apply Ob.mk); with_reducible exact hd)
    | ((with_reducible apply Ob.mk); with_reducible exact hd.2)
    | ((with_reducible apply Ob.mk); with_reducible exact hs)
    | ((with_reducible apply Ob.mk); with_reducible exact hs.2)
    | (with_reducible apply Ob.mk; kernel_rfl)
    | (with_reducible apply Ob.mk; decide)
    | ((conv => whnf); exact ⟨rfl⟩)
    | ((conv => whnf); skip)
set_option maxRecDepth 100000 in
set_option maxHeartbeats 4000000 in
theorem ex_19 (D2 : VData) (m : Nat → Nat) (al cc sz : BitVec 64) (w sh : Bool) (d s : BitVec 64) (dp rl : BitVec 32) (im : BitVec 64) (r0 r1 r2 r3 r4 r5 r6 r7 r8 r9 r10 r11 r12 r13 r14 r15 : BitVec 64) (fz fs fc fo : Bool) (pc : BitVec 64) (hq : qld 19#64 al cc sz w sh d s dp rl im = true) (hd : 0 ≤ d.toInt ∧ d.toNat < 16) (hs : 0 ≤ s.toInt ∧ s.toNat < 16) : F Tryd.prog (tabI Tryd.prog (or2 (DB m) (or2 (DP m) D2)) (tb_part2 m) FE 6) Tryd.f13 [.agg [.b64 true 19#64, .b64 true al, .b64 true cc, .b64 true sz, .bool w, .bool sh, .b64 true d, .b64 true s, .b32 true dp, .b32 true rl, .b64 true im], .agg [.b64 false r0, .b64 false r1, .b64 false r2, .b64 false r3, .b64 false r4, .b64 false r5, .b64 false r6, .b64 false r7, .b64 false r8, .b64 false r9, .b64 false r10, .b64 false r11, .b64 false r12, .b64 false r13, .b64 false r14, .b64 false r15, .bool fz, .bool fs, .bool fc, .bool fo, .b64 false pc]] (fun r => r = .tup [(true, LS S0), (false, [.b64 true 2#64])]) := by

  repeat' ((conv => whnf); first
    | with_reducible apply Both.mk
    | (with_reducible apply Given.mk; intro h; (try simp only [hq, Bool.not_true, Bool.not_false, Bool.true_eq_false, Bool.false_eq_true] at h); (try exact absurd h (by decide)); (try exact no2 h (by with_reducible assumption)); (try exact no2 (by with_reducible assumption) h)))
  all_goals first
    | ((with_reducible apply Ob.mk); with_reducible exact hd)
    | ((with_reducible apply Ob.mk); with_reducible exact hd.2)
    | ((with_reducible apply Ob.mk); with_reducible exact hs)
    | ((with_reducible apply Ob.mk); with_reducible exact hs.2)
    | (with_reducible apply Ob.mk; kernel_rfl)
    | (with_reducible apply Ob.mk; decide)
    | ((conv => whnf); exact ⟨rfl⟩)
    | ((conv => whnf); skip)
set_option maxRecDepth 100000 in
set_option maxHeartbeats 4000000 in
theorem ex_20 (D2 : VData) (m : Nat → Nat) (al cc sz : BitVec 64) (w sh : Bool) (d s : BitVec 64) (dp rl : BitVec 32) (im : BitVec 64) (r0 r1 r2 r3 r4 r5 r6 r7 r8 r9 r10 r11 r12 r13 r14 r15 : BitVec 64) (fz fs fc fo : Bool) (pc : BitVec 64) (hq : qld 20#64 al cc sz w sh d s dp rl im = true) (hd : 0 ≤ d.toInt ∧ d.toNat < 16) (hs : 0 ≤ s.toInt ∧ s.toNat < 16) : F Tryd.prog (tabI Tryd.prog (or2 (DB m) (or2 (DP m) D2)) (tb_part2 m) FE 6) Tryd.f13 [.agg [.b64 true 20#64, .b64 true al, .b64 true cc, .b64 true sz, .bool w, .bool sh, .b64 true d, .b64 true s, .b32 true dp, .b32 true rl, .b64 true im], .agg [.b64 false r0, .b64 false r1, .b64 false r2, .b64 false r3, .b64 false r4, .b64 false r5, .b64 false r6, .b64 false r7, .b64 false r8, .b64 false r9, .b64 false r10, .b64 false r11, .b64 false r12, .b64 false r13, .b64 false r14, .b64 false r15, .bool fz, .bool fs, .bool fc, .bool fo, .b64 false pc]] (fun r => r = .tup [(true, LS S0), (false, [.b64 true 2#64])]) := by

  repeat' ((conv => whnf); first
    | with_reducible apply Both.mk
    | (with_reducible apply Given.mk; intro h; (try simp only [hq, Bool.not_true, Bool.not_false, Bool.true_eq_false, Bool.false_eq_true] at h); (try exact absurd h (by decide)); (try exact no2 h (by with_reducible assumption)); (try exact no2 (by with_reducible assumption) h)))
  all_goals first
    | ((with_reducible apply Ob.mk); with_reducible exact hd)
    | ((with_reducible apply Ob.mk); with_reducible exact hd.2)
    | ((with_reducible apply Ob.mk); with_reducible exact hs)
    | ((with_reducible apply Ob.mk); with_reducible exact hs.2)
    | (with_reducible apply Ob.mk; kernel_rfl)
    | (with_reducible apply Ob.mk; decide)
    | ((conv => whnf); exact ⟨rfl⟩)
    | ((conv => whnf); skip)
theorem exA_ok {x : MX} {S : MS} (hv : vX x = true) (hd : doB x.k = true) (h9 : (x.k.toNat == 9) = false) : exA x S = .tup [(true, LS (exD x S)), (false, [.b64 true 0#64])] := by
  have e : exE x S = 0#64 := by unfold exE; rw [hv, hd, h9]; rfl
  unfold exA exS
  rw [e]
  rfl
theorem exA_9t {x : MX} {S : MS} (hv : vX x = true) (h9 : x.k = 9#64) (hp : ptK x.w (S.R 2) (S.R x.d.toNat) = true) : exA x S = .tup [(true, LS (X_9 x S)), (false, [.b64 true 0#64])] := by
  have e : exE x S = 0#64 := by unfold exE; rw [hv, hp, h9]; rfl
  unfold exA exS exD
  rw [e, h9]
  rfl
theorem exA_9f {x : MX} {S : MS} (hv : vX x = true) (h9 : x.k = 9#64) (hp : ptK x.w (S.R 2) (S.R x.d.toNat) = false) : exA x S = .tup [(true, LS S0), (false, [.b64 true 120#64])] := by
  have e : exE x S = 120#64 := by unfold exE; rw [hv, hp, h9]; rfl
  unfold exA exS
  rw [e]
  rfl
theorem exA_bad {x : MX} {S : MS} (hv : (vX x && doB x.k) = false) : exA x S = .tup [(true, LS S0), (false, [.b64 true 2#64])] := by
  have e : exE x S = 2#64 := by unfold exE; rw [hv]; rfl
  unfold exA exS
  rw [e]
  rfl
theorem al6 {a : BitVec 64} (h : aluB a = true) : a = 0#64 ∨ a = 1#64 ∨ a = 4#64 ∨ a = 5#64 ∨ a = 6#64 ∨ a = 7#64 := by
  simp only [aluB, Bool.or_eq_true, beq_iff_eq] at h
  rcases h with ((((h | h) | h) | h) | h) | h <;> simp [h]
set_option maxRecDepth 100000 in
set_option maxHeartbeats 4000000 in
theorem e_Exec (G2 : World → Prop) (D2 : VData) (k2 : DataOK Tryd.prog G2 D2) (m : Nat → Nat) : EntryOK Tryd.prog (and2 (GB m) (and2 (GP m) G2)) 13 sp_Exec := by
  refine .of_F (C_fe G2 D2 k2 m) (by kernel_rfl) Tryd.func13 (by kernel_rfl) (by kernel_rfl) (fun args c v h hc => ?_)
  unfold sp_Exec at h
  split at h
  · rename_i k al cc sz w sh d s dp rl im r0 r1 r2 r3 r4 r5 r6 r7 r8 r9 r10 r11 r12 r13 r14 r15 fz fs fc fo pc
    cases h
    refine ⟨rfl, rfl, ?_⟩
    cases hv : vX ⟨k, al, cc, sz, w, sh, d, s, dp, rl, im⟩ with
    | false =>
      rw [exA_bad (x := ⟨k, al, cc, sz, w, sh, d, s, dp, rl, im⟩) (by rw [hv]; rfl)]
      exact ex_bad D2 m k al cc sz w sh d s dp rl im r0 r1 r2 r3 r4 r5 r6 r7 r8 r9 r10 r11 r12 r13 r14 r15 fz fs fc fo pc (by rw [qld_vld]; exact hv)
    | true =>
    have hq : qld k al cc sz w sh d s dp rl im = true := by rw [qld_vld]; exact hv
    rcases ks k with rfl | rfl | rfl | rfl | rfl | rfl | rfl | rfl | rfl | rfl | rfl | rfl | rfl | rfl | rfl | rfl | rfl | rfl | rfl | rfl | rfl | hk
    rotate_right 1
    · exact absurd (vld_none hk) (by rw [show vld k al cc sz w sh d s dp rl im = true from hv]; decide)
    · have hr : regB d = true ∧ regB s = true := by
        have g : v1 al cc sz w sh d s dp rl im = true := hv
        simp only [v1, Bool.and_eq_true] at g
        exact g.2
      have hd := reg_ix hr.1
      have hs := reg_ix hr.2
      rw [exA_ok (x := ⟨1#64, al, cc, sz, w, sh, d, s, dp, rl, im⟩) hv rfl rfl]
      exact ex_1 D2 m al w cc sz sh s dp rl im d r0 r1 r2 r3 r4 r5 r6 r7 r8 r9 r10 r11 r12 r13 r14 r15 fz fs fc fo pc hq hd hs
    · have hr : regB d = true ∧ regB s = true := by
        have g : v2 al cc sz w sh d s dp rl im = true := hv
        simp only [v2, Bool.and_eq_true] at g
        exact g.2
      have hd := reg_ix hr.1
      have hs := reg_ix hr.2
      rw [exA_ok (x := ⟨2#64, al, cc, sz, w, sh, d, s, dp, rl, im⟩) hv rfl rfl]
      exact ex_2 D2 m al w cc sz sh s dp rl im d r0 r1 r2 r3 r4 r5 r6 r7 r8 r9 r10 r11 r12 r13 r14 r15 fz fs fc fo pc hq hd hs
    · have hr : regB d = true ∧ regB s = true := by
        have g : v3 al cc sz w sh d s dp rl im = true := hv
        simp only [v3, Bool.and_eq_true] at g
        exact g.2
      have hd := reg_ix hr.1
      have hs := reg_ix hr.2
      rw [exA_ok (x := ⟨3#64, al, cc, sz, w, sh, d, s, dp, rl, im⟩) hv rfl rfl]
      exact ex_3 D2 m al w cc sz sh s dp rl im d r0 r1 r2 r3 r4 r5 r6 r7 r8 r9 r10 r11 r12 r13 r14 r15 fz fs fc fo pc hq hd hs
    · have hr : regB d = true ∧ regB s = true := by
        have g : v4 al cc sz w sh d s dp rl im = true := hv
        simp only [v4, Bool.and_eq_true] at g
        exact g.2
      have hd := reg_ix hr.1
      have hs := reg_ix hr.2
      have ha : aluB al = true := by
        have g : v4 al cc sz w sh d s dp rl im = true := hv
        simp only [v4, Bool.and_eq_true] at g
        exact g.1.2
      rw [exA_ok (x := ⟨4#64, al, cc, sz, w, sh, d, s, dp, rl, im⟩) hv rfl rfl]
      rcases al6 ha with rfl | rfl | rfl | rfl | rfl | rfl
      · exact ex_4_0 D2 m w cc sz sh s dp rl im d r0 r1 r2 r3 r4 r5 r6 r7 r8 r9 r10 r11 r12 r13 r14 r15 fz fs fc fo pc hq hd hs
      · exact ex_4_1 D2 m w cc sz sh s dp rl im d r0 r1 r2 r3 r4 r5 r6 r7 r8 r9 r10 r11 r12 r13 r14 r15 fz fs fc fo pc hq hd hs
      · exact ex_4_4 D2 m w cc sz sh s dp rl im d r0 r1 r2 r3 r4 r5 r6 r7 r8 r9 r10 r11 r12 r13 r14 r15 fz fs fc fo pc hq hd hs
      · exact ex_4_5 D2 m w cc sz sh s dp rl im d r0 r1 r2 r3 r4 r5 r6 r7 r8 r9 r10 r11 r12 r13 r14 r15 fz fs fc fo pc hq hd hs
      · exact ex_4_6 D2 m w cc sz sh s dp rl im d r0 r1 r2 r3 r4 r5 r6 r7 r8 r9 r10 r11 r12 r13 r14 r15 fz fs fc fo pc hq hd hs
      · exact ex_4_7 D2 m w cc sz sh s dp rl im d r0 r1 r2 r3 r4 r5 r6 r7 r8 r9 r10 r11 r12 r13 r14 r15 fz fs fc fo pc hq hd hs
    · have hr : regB d = true ∧ regB s = true := by
        have g : v5 al cc sz w sh d s dp rl im = true := hv
        simp only [v5, Bool.and_eq_true] at g
        exact g.2
      have hd := reg_ix hr.1
      have hs := reg_ix hr.2
      have ha : aluB al = true := by
        have g : v5 al cc sz w sh d s dp rl im = true := hv
        simp only [v5, Bool.and_eq_true] at g
        exact g.1.1.2
      rw [exA_ok (x := ⟨5#64, al, cc, sz, w, sh, d, s, dp, rl, im⟩) hv rfl rfl]
      rcases al6 ha with rfl | rfl | rfl | rfl | rfl | rfl
      · exact ex_5_0 D2 m w cc sz sh s dp rl im d r0 r1 r2 r3 r4 r5 r6 r7 r8 r9 r10 r11 r12 r13 r14 r15 fz fs fc fo pc hq hd hs
      · exact ex_5_1 D2 m w cc sz sh s dp rl im d r0 r1 r2 r3 r4 r5 r6 r7 r8 r9 r10 r11 r12 r13 r14 r15 fz fs fc fo pc hq hd hs
      · exact ex_5_4 D2 m w cc sz sh s dp rl im d r0 r1 r2 r3 r4 r5 r6 r7 r8 r9 r10 r11 r12 r13 r14 r15 fz fs fc fo pc hq hd hs
      · exact ex_5_5 D2 m w cc sz sh s dp rl im d r0 r1 r2 r3 r4 r5 r6 r7 r8 r9 r10 r11 r12 r13 r14 r15 fz fs fc fo pc hq hd hs
      · exact ex_5_6 D2 m w cc sz sh s dp rl im d r0 r1 r2 r3 r4 r5 r6 r7 r8 r9 r10 r11 r12 r13 r14 r15 fz fs fc fo pc hq hd hs
      · exact ex_5_7 D2 m w cc sz sh s dp rl im d r0 r1 r2 r3 r4 r5 r6 r7 r8 r9 r10 r11 r12 r13 r14 r15 fz fs fc fo pc hq hd hs
    · have hr : regB d = true ∧ regB s = true := by
        have g : v6 al cc sz w sh d s dp rl im = true := hv
        simp only [v6, Bool.and_eq_true] at g
        exact g.2
      have hd := reg_ix hr.1
      have hs := reg_ix hr.2
      rw [exA_ok (x := ⟨6#64, al, cc, sz, w, sh, d, s, dp, rl, im⟩) hv rfl rfl]
      exact ex_6 D2 m al w cc sz sh s dp rl im d r0 r1 r2 r3 r4 r5 r6 r7 r8 r9 r10 r11 r12 r13 r14 r15 fz fs fc fo pc hq hd hs
    · have hr : regB d = true ∧ regB s = true := by
        have g : v7 al cc sz w sh d s dp rl im = true := hv
        simp only [v7, Bool.and_eq_true] at g
        exact g.2
      have hd := reg_ix hr.1
      have hs := reg_ix hr.2
      rw [exA_ok (x := ⟨7#64, al, cc, sz, w, sh, d, s, dp, rl, im⟩) hv rfl rfl]
      exact ex_7 D2 m al w cc sz sh s dp rl im d r0 r1 r2 r3 r4 r5 r6 r7 r8 r9 r10 r11 r12 r13 r14 r15 fz fs fc fo pc hq hd hs
    · have hr : regB d = true ∧ regB s = true := by
        have g : v8 al cc sz w sh d s dp rl im = true := hv
        simp only [v8, Bool.and_eq_true] at g
        exact g.2
      have hd := reg_ix hr.1
      have hs := reg_ix hr.2
      rw [exA_ok (x := ⟨8#64, al, cc, sz, w, sh, d, s, dp, rl, im⟩) hv rfl rfl]
      exact ex_8 D2 m al w cc sz sh s dp rl im d r0 r1 r2 r3 r4 r5 r6 r7 r8 r9 r10 r11 r12 r13 r14 r15 fz fs fc fo pc hq hd hs
    · have hr : regB d = true ∧ regB s = true := by
        have g : v9 al cc sz w sh d s dp rl im = true := hv
        simp only [v9, Bool.and_eq_true] at g
        exact g.2
      have hd := reg_ix hr.1
      have hs := reg_ix hr.2
      cases hp : ptK w r2 (nthW [r0, r1, r2, r3, r4, r5, r6, r7, r8, r9, r10, r11, r12, r13, r14, r15] d.toNat) with
      | true => rw [exA_9t (x := ⟨9#64, al, cc, sz, w, sh, d, s, dp, rl, im⟩) (S := ⟨fun j => nthW [r0, r1, r2, r3, r4, r5, r6, r7, r8, r9, r10, r11, r12, r13, r14, r15] j, fz, fs, fc, fo, pc⟩) hv rfl hp]; exact ex_9t D2 m al w cc sz sh s dp rl im d r0 r1 r2 r3 r4 r5 r6 r7 r8 r9 r10 r11 r12 r13 r14 r15 fz fs fc fo pc hq hd hs hp
      | false => rw [exA_9f (x := ⟨9#64, al, cc, sz, w, sh, d, s, dp, rl, im⟩) (S := ⟨fun j => nthW [r0, r1, r2, r3, r4, r5, r6, r7, r8, r9, r10, r11, r12, r13, r14, r15] j, fz, fs, fc, fo, pc⟩) hv rfl hp]; exact ex_9f D2 m al w cc sz sh s dp rl im d r0 r1 r2 r3 r4 r5 r6 r7 r8 r9 r10 r11 r12 r13 r14 r15 fz fs fc fo pc hq hd hs hp
    · have hr : regB d = true ∧ regB s = true := by
        have g : v10 al cc sz w sh d s dp rl im = true := hv
        simp only [v10, Bool.and_eq_true] at g
        exact g.2
      have hd := reg_ix hr.1
      have hs := reg_ix hr.2
      rw [exA_ok (x := ⟨10#64, al, cc, sz, w, sh, d, s, dp, rl, im⟩) hv rfl rfl]
      exact ex_10 D2 m al w cc sz sh s dp rl im d r0 r1 r2 r3 r4 r5 r6 r7 r8 r9 r10 r11 r12 r13 r14 r15 fz fs fc fo pc hq hd hs
    · have hr : regB d = true ∧ regB s = true := by
        have g : v11 al cc sz w sh d s dp rl im = true := hv
        simp only [v11, Bool.and_eq_true] at g
        exact g.2
      have hd := reg_ix hr.1
      have hs := reg_ix hr.2
      rw [exA_ok (x := ⟨11#64, al, cc, sz, w, sh, d, s, dp, rl, im⟩) hv rfl rfl]
      exact ex_11 D2 m al w cc sz sh s dp rl im d r0 r1 r2 r3 r4 r5 r6 r7 r8 r9 r10 r11 r12 r13 r14 r15 fz fs fc fo pc hq hd hs
    · have hr : regB d = true ∧ regB s = true := by
        have g : v12 al cc sz w sh d s dp rl im = true := hv
        simp only [v12, Bool.and_eq_true] at g
        exact g.2
      have hd := reg_ix hr.1
      have hs := reg_ix hr.2
      rw [exA_ok (x := ⟨12#64, al, cc, sz, w, sh, d, s, dp, rl, im⟩) hv rfl rfl]
      exact ex_12 D2 m al w cc sz sh s dp rl im d r0 r1 r2 r3 r4 r5 r6 r7 r8 r9 r10 r11 r12 r13 r14 r15 fz fs fc fo pc hq hd hs
    · have hr : regB d = true ∧ regB s = true := by
        have g : v13 al cc sz w sh d s dp rl im = true := hv
        simp only [v13, Bool.and_eq_true] at g
        exact g.2
      have hd := reg_ix hr.1
      have hs := reg_ix hr.2
      rw [exA_bad (x := ⟨13#64, al, cc, sz, w, sh, d, s, dp, rl, im⟩) (by rw [Bool.and_eq_false_iff]; right; rfl)]
      exact ex_13 D2 m al cc sz w sh d s dp rl im r0 r1 r2 r3 r4 r5 r6 r7 r8 r9 r10 r11 r12 r13 r14 r15 fz fs fc fo pc hq hd hs
    · have hr : regB d = true ∧ regB s = true := by
        have g : v14 al cc sz w sh d s dp rl im = true := hv
        simp only [v14, Bool.and_eq_true] at g
        exact g.2
      have hd := reg_ix hr.1
      have hs := reg_ix hr.2
      rw [exA_bad (x := ⟨14#64, al, cc, sz, w, sh, d, s, dp, rl, im⟩) (by rw [Bool.and_eq_false_iff]; right; rfl)]
      exact ex_14 D2 m al cc sz w sh d s dp rl im r0 r1 r2 r3 r4 r5 r6 r7 r8 r9 r10 r11 r12 r13 r14 r15 fz fs fc fo pc hq hd hs
    · have hr : regB d = true ∧ regB s = true := by
        have g : v15 al cc sz w sh d s dp rl im = true := hv
        simp only [v15, Bool.and_eq_true] at g
        exact g.2
      have hd := reg_ix hr.1
      have hs := reg_ix hr.2
      rw [exA_bad (x := ⟨15#64, al, cc, sz, w, sh, d, s, dp, rl, im⟩) (by rw [Bool.and_eq_false_iff]; right; rfl)]
      exact ex_15 D2 m al cc sz w sh d s dp rl im r0 r1 r2 r3 r4 r5 r6 r7 r8 r9 r10 r11 r12 r13 r14 r15 fz fs fc fo pc hq hd hs
    · have hr : regB d = true ∧ regB s = true := by
        have g : v16 al cc sz w sh d s dp rl im = true := hv
        simp only [v16, Bool.and_eq_true] at g
        exact g.2
      have hd := reg_ix hr.1
      have hs := reg_ix hr.2
      rw [exA_bad (x := ⟨16#64, al, cc, sz, w, sh, d, s, dp, rl, im⟩) (by rw [Bool.and_eq_false_iff]; right; rfl)]
      exact ex_16 D2 m al cc sz w sh d s dp rl im r0 r1 r2 r3 r4 r5 r6 r7 r8 r9 r10 r11 r12 r13 r14 r15 fz fs fc fo pc hq hd hs
    · have hr : regB d = true ∧ regB s = true := by
        have g : v17 al cc sz w sh d s dp rl im = true := hv
        simp only [v17, Bool.and_eq_true] at g
        exact g.2
      have hd := reg_ix hr.1
      have hs := reg_ix hr.2
      rw [exA_bad (x := ⟨17#64, al, cc, sz, w, sh, d, s, dp, rl, im⟩) (by rw [Bool.and_eq_false_iff]; right; rfl)]
      exact ex_17 D2 m al cc sz w sh d s dp rl im r0 r1 r2 r3 r4 r5 r6 r7 r8 r9 r10 r11 r12 r13 r14 r15 fz fs fc fo pc hq hd hs
    · have hr : regB d = true ∧ regB s = true := by
        have g : v18 al cc sz w sh d s dp rl im = true := hv
        simp only [v18, Bool.and_eq_true] at g
        exact g.2
      have hd := reg_ix hr.1
      have hs := reg_ix hr.2
      rw [exA_bad (x := ⟨18#64, al, cc, sz, w, sh, d, s, dp, rl, im⟩) (by rw [Bool.and_eq_false_iff]; right; rfl)]
      exact ex_18 D2 m al cc sz w sh d s dp rl im r0 r1 r2 r3 r4 r5 r6 r7 r8 r9 r10 r11 r12 r13 r14 r15 fz fs fc fo pc hq hd hs
    · have hr : regB d = true ∧ regB s = true := by
        have g : v19 al cc sz w sh d s dp rl im = true := hv
        simp only [v19, Bool.and_eq_true] at g
        exact g.2
      have hd := reg_ix hr.1
      have hs := reg_ix hr.2
      rw [exA_bad (x := ⟨19#64, al, cc, sz, w, sh, d, s, dp, rl, im⟩) (by rw [Bool.and_eq_false_iff]; right; rfl)]
      exact ex_19 D2 m al cc sz w sh d s dp rl im r0 r1 r2 r3 r4 r5 r6 r7 r8 r9 r10 r11 r12 r13 r14 r15 fz fs fc fo pc hq hd hs
    · have hr : regB d = true ∧ regB s = true := by
        have g : v20 al cc sz w sh d s dp rl im = true := hv
        simp only [v20, Bool.and_eq_true] at g
        exact g.2
      have hd := reg_ix hr.1
      have hs := reg_ix hr.2
      rw [exA_bad (x := ⟨20#64, al, cc, sz, w, sh, d, s, dp, rl, im⟩) (by rw [Bool.and_eq_false_iff]; right; rfl)]
      exact ex_20 D2 m al cc sz w sh d s dp rl im r0 r1 r2 r3 r4 r5 r6 r7 r8 r9 r10 r11 r12 r13 r14 r15 fz fs fc fo pc hq hd hs
    · have hr : regB d = true ∧ regB s = true := by
        have g : v21 al cc sz w sh d s dp rl im = true := hv
        simp only [v21, Bool.and_eq_true] at g
        exact g.2
      have hd := reg_ix hr.1
      have hs := reg_ix hr.2
      rw [exA_ok (x := ⟨21#64, al, cc, sz, w, sh, d, s, dp, rl, im⟩) hv rfl rfl]
      exact ex_21 D2 m al w cc sz sh s dp rl im d r0 r1 r2 r3 r4 r5 r6 r7 r8 r9 r10 r11 r12 r13 r14 r15 fz fs fc fo pc hq hd hs
  · cases h
abbrev tb_Exec (m : Nat → Nat) : List (Nat × Sp) := (13, sp_Exec) :: tb_part2 m
theorem C_Exec (G2 : World → Prop) (D2 : VData) (k2 : DataOK Tryd.prog G2 D2) (m : Nat → Nat) : CSound Tryd.prog (and2 (GB m) (and2 (GP m) G2)) (tab (or2 (DB m) (or2 (DP m) D2)) (tb_Exec m)) := (C_part2 G2 D2 k2 m).cons (e_Exec G2 D2 k2 m)
end Go.Proofs.YtppankimieopiaaDoor
