/-
  The document's Exec: its contract. Conditions: as typed.
-/
import Derived.Test.YtppankimieopiaaDoorGe
namespace Go.Proofs.YtppankimieopiaaDoor
open Go.Ep Go.RowKit
set_option linter.unusedVariables false
set_option linter.unusedSimpArgs false
set_option maxRecDepth 100000 in
set_option maxHeartbeats 4000000 in
theorem rx_bad (D2 : VData) (m : Nat → Nat) (k : BitVec 64) (w : Bool) (al cc sz : BitVec 64) (sh : Bool) (d s : BitVec 64) (dp rl : BitVec 32) (im : BitVec 64) (r0 r1 r2 r3 r4 r5 r6 r7 r8 r9 r10 r11 r12 r13 r14 r15 : BitVec 64) (fz fs fc fo : Bool) (pc : BitVec 64) (hv : vld k al cc sz w sh d s dp rl im = false) : F Tryd.prog (tabI Tryd.prog (or2 (DB m) (or2 (DP m) D2)) (tb_mvd m) FR 2) Tryd.f14 [.agg [.b64 true k, .b64 true al, .b64 true cc, .b64 true sz, .bool w, .bool sh, .b64 true d, .b64 true s, .b32 true dp, .b32 true rl, .b64 true im], .agg [.b64 false r0, .b64 false r1, .b64 false r2, .b64 false r3, .b64 false r4, .b64 false r5, .b64 false r6, .b64 false r7, .b64 false r8, .b64 false r9, .b64 false r10, .b64 false r11, .b64 false r12, .b64 false r13, .b64 false r14, .b64 false r15, .bool fz, .bool fs, .bool fc, .bool fo, .b64 false pc]] (fun r => r = .tup [(true, LS S0), (false, [.b64 true 2#64])]) := by
  repeat' ((conv => whnf); first
    | with_reducible apply Both.mk
    | (with_reducible apply Given.mk; intro h; (try simp only [hv, Bool.not_true, Bool.not_false, Bool.true_eq_false, Bool.false_eq_true] at h); (try exact absurd h (by decide)); (try exact no2 h (by with_reducible assumption)); (try exact no2 (by with_reducible assumption) h)))
  all_goals first
    | (with_reducible apply Ob.mk; kernel_rfl)
    | (with_reducible apply Ob.mk; decide)
    | ((conv => whnf); refine ⟨?_⟩; exact rfl)
set_option maxRecDepth 100000 in
set_option maxHeartbeats 4000000 in
theorem rx_13t (D2 : VData) (m : Nat → Nat) (al cc sz : BitVec 64) (sh : Bool) (d s : BitVec 64) (dp rl : BitVec 32) (im : BitVec 64) (r0 r1 r2 r3 r4 r5 r6 r7 r8 r9 r10 r11 r12 r13 r14 r15 : BitVec 64) (fz fs fc fo : Bool) (pc : BitVec 64) (hv : vld 13#64 al cc sz true sh d s dp rl im = true) (hd : 0 ≤ d.toInt ∧ d.toNat < 16) (hs : 0 ≤ s.toInt ∧ s.toNat < 16) : F Tryd.prog (tabI Tryd.prog (or2 (DB m) (or2 (DP m) D2)) (tb_mvd m) FR 2) Tryd.f14 [.agg [.b64 true 13#64, .b64 true al, .b64 true cc, .b64 true sz, .bool true, .bool sh, .b64 true d, .b64 true s, .b32 true dp, .b32 true rl, .b64 true im], .agg [.b64 false r0, .b64 false r1, .b64 false r2, .b64 false r3, .b64 false r4, .b64 false r5, .b64 false r6, .b64 false r7, .b64 false r8, .b64 false r9, .b64 false r10, .b64 false r11, .b64 false r12, .b64 false r13, .b64 false r14, .b64 false r15, .bool fz, .bool fs, .bool fc, .bool fo, .b64 false pc]] (fun r => r = .tup [(true, LS S0), (false, [.b64 true 2#64])]) := by
  repeat' ((conv => whnf); first
    | with_reducible apply Both.mk
    | (with_reducible apply Given.mk; intro h; (try simp only [hv, Bool.not_true, Bool.not_false, Bool.true_eq_false, Bool.false_eq_true] at h); (try exact absurd h (by decide)); (try exact no2 h (by with_reducible assumption)); (try exact no2 (by with_reducible assumption) h)))
  all_goals first
    | ((with_reducible apply Ob.mk); with_reducible exact hd)
    | ((with_reducible apply Ob.mk); with_reducible exact hs)
    | ((with_reducible apply Ob.mk); with_reducible exact hd.2)
    | ((with_reducible apply Ob.mk); with_reducible exact hs.2)
    | (with_reducible apply Ob.mk; kernel_rfl)
    | (with_reducible apply Ob.mk; decide)
    | ((conv => whnf); refine ⟨?_⟩; exact rfl)
set_option maxRecDepth 100000 in
set_option maxHeartbeats 4000000 in
theorem rx_13f (D2 : VData) (m : Nat → Nat) (al cc sz : BitVec 64) (sh : Bool) (d s : BitVec 64) (dp rl : BitVec 32) (im : BitVec 64) (r0 r1 r2 r3 r4 r5 r6 r7 r8 r9 r10 r11 r12 r13 r14 r15 : BitVec 64) (fz fs fc fo : Bool) (pc : BitVec 64) (hv : vld 13#64 al cc sz false sh d s dp rl im = true) (hd : 0 ≤ d.toInt ∧ d.toNat < 16) (hs : 0 ≤ s.toInt ∧ s.toNat < 16) : F Tryd.prog (tabI Tryd.prog (or2 (DB m) (or2 (DP m) D2)) (tb_mvd m) FR 2) Tryd.f14 [.agg [.b64 true 13#64, .b64 true al, .b64 true cc, .b64 true sz, .bool false, .bool sh, .b64 true d, .b64 true s, .b32 true dp, .b32 true rl, .b64 true im], .agg [.b64 false r0, .b64 false r1, .b64 false r2, .b64 false r3, .b64 false r4, .b64 false r5, .b64 false r6, .b64 false r7, .b64 false r8, .b64 false r9, .b64 false r10, .b64 false r11, .b64 false r12, .b64 false r13, .b64 false r14, .b64 false r15, .bool fz, .bool fs, .bool fc, .bool fo, .b64 false pc]] (fun r => r = .tup [(true, LS S0), (false, [.b64 true 2#64])]) := by
  repeat' ((conv => whnf); first
    | with_reducible apply Both.mk
    | (with_reducible apply Given.mk; intro h; (try simp only [hv, Bool.not_true, Bool.not_false, Bool.true_eq_false, Bool.false_eq_true] at h); (try exact absurd h (by decide)); (try exact no2 h (by with_reducible assumption)); (try exact no2 (by with_reducible assumption) h)))
  all_goals first
    | ((with_reducible apply Ob.mk); with_reducible exact hd)
    | ((with_reducible apply Ob.mk); with_reducible exact hs)
    | ((with_reducible apply Ob.mk); with_reducible exact hd.2)
    | ((with_reducible apply Ob.mk); with_reducible exact hs.2)
    | (with_reducible apply Ob.mk; kernel_rfl)
    | (with_reducible apply Ob.mk; decide)
    | ((conv => whnf); refine ⟨?_⟩; exact rfl)
set_option maxRecDepth 100000 in
set_option maxHeartbeats 4000000 in
theorem rx_14t (D2 : VData) (m : Nat → Nat) (al cc sz : BitVec 64) (sh : Bool) (d s : BitVec 64) (dp rl : BitVec 32) (im : BitVec 64) (r0 r1 r2 r3 r4 r5 r6 r7 r8 r9 r10 r11 r12 r13 r14 r15 : BitVec 64) (fz fs fc fo : Bool) (pc : BitVec 64) (hv : vld 14#64 al cc sz true sh d s dp rl im = true) (hd : 0 ≤ d.toInt ∧ d.toNat < 16) (hs : 0 ≤ s.toInt ∧ s.toNat < 16) : F Tryd.prog (tabI Tryd.prog (or2 (DB m) (or2 (DP m) D2)) (tb_mvd m) FR 2) Tryd.f14 [.agg [.b64 true 14#64, .b64 true al, .b64 true cc, .b64 true sz, .bool true, .bool sh, .b64 true d, .b64 true s, .b32 true dp, .b32 true rl, .b64 true im], .agg [.b64 false r0, .b64 false r1, .b64 false r2, .b64 false r3, .b64 false r4, .b64 false r5, .b64 false r6, .b64 false r7, .b64 false r8, .b64 false r9, .b64 false r10, .b64 false r11, .b64 false r12, .b64 false r13, .b64 false r14, .b64 false r15, .bool fz, .bool fs, .bool fc, .bool fo, .b64 false pc]] (fun r => r = .tup [(true, LS S0), (false, [.b64 true 2#64])]) := by
  repeat' ((conv => whnf); first
    | with_reducible apply Both.mk
    | (with_reducible apply Given.mk; intro h; (try simp only [hv, Bool.not_true, Bool.not_false, Bool.true_eq_false, Bool.false_eq_true] at h); (try exact absurd h (by decide)); (try exact no2 h (by with_reducible assumption)); (try exact no2 (by with_reducible assumption) h)))
  all_goals first
    | ((with_reducible apply Ob.mk); with_reducible exact hd)
    | ((with_reducible apply Ob.mk); with_reducible exact hs)
    | ((with_reducible apply Ob.mk); with_reducible exact hd.2)
    | ((with_reducible apply Ob.mk); with_reducible exact hs.2)
    | (with_reducible apply Ob.mk; kernel_rfl)
    | (with_reducible apply Ob.mk; decide)
    | ((conv => whnf); refine ⟨?_⟩; exact rfl)
set_option maxRecDepth 100000 in
set_option maxHeartbeats 4000000 in
theorem rx_14f (D2 : VData) (m : Nat → Nat) (al cc sz : BitVec 64) (sh : Bool) (d s : BitVec 64) (dp rl : BitVec 32) (im : BitVec 64) (r0 r1 r2 r3 r4 r5 r6 r7 r8 r9 r10 r11 r12 r13 r14 r15 : BitVec 64) (fz fs fc fo : Bool) (pc : BitVec 64) (hv : vld 14#64 al cc sz false sh d s dp rl im = true) (hd : 0 ≤ d.toInt ∧ d.toNat < 16) (hs : 0 ≤ s.toInt ∧ s.toNat < 16) : F Tryd.prog (tabI Tryd.prog (or2 (DB m) (or2 (DP m) D2)) (tb_mvd m) FR 2) Tryd.f14 [.agg [.b64 true 14#64, .b64 true al, .b64 true cc, .b64 true sz, .bool false, .bool sh, .b64 true d, .b64 true s, .b32 true dp, .b32 true rl, .b64 true im], .agg [.b64 false r0, .b64 false r1, .b64 false r2, .b64 false r3, .b64 false r4, .b64 false r5, .b64 false r6, .b64 false r7, .b64 false r8, .b64 false r9, .b64 false r10, .b64 false r11, .b64 false r12, .b64 false r13, .b64 false r14, .b64 false r15, .bool fz, .bool fs, .bool fc, .bool fo, .b64 false pc]] (fun r => r = .tup [(true, LS S0), (false, [.b64 true 2#64])]) := by
  repeat' ((conv => whnf); first
    | with_reducible apply Both.mk
    | (with_reducible apply Given.mk; intro h; (try simp only [hv, Bool.not_true, Bool.not_false, Bool.true_eq_false, Bool.false_eq_true] at h); (try exact absurd h (by decide)); (try exact no2 h (by with_reducible assumption)); (try exact no2 (by with_reducible assumption) h)))
  all_goals first
    | ((with_reducible apply Ob.mk); with_reducible exact hd)
    | ((with_reducible apply Ob.mk); with_reducible exact hs)
    | ((with_reducible apply Ob.mk); with_reducible exact hd.2)
    | ((with_reducible apply Ob.mk); with_reducible exact hs.2)
    | (with_reducible apply Ob.mk; kernel_rfl)
    | (with_reducible apply Ob.mk; decide)
    | ((conv => whnf); refine ⟨?_⟩; exact rfl)
set_option maxRecDepth 100000 in
set_option maxHeartbeats 4000000 in
theorem rx_15t (D2 : VData) (m : Nat → Nat) (al cc sz : BitVec 64) (sh : Bool) (d s : BitVec 64) (dp rl : BitVec 32) (im : BitVec 64) (r0 r1 r2 r3 r4 r5 r6 r7 r8 r9 r10 r11 r12 r13 r14 r15 : BitVec 64) (fz fs fc fo : Bool) (pc : BitVec 64) (hv : vld 15#64 al cc sz true sh d s dp rl im = true) (hd : 0 ≤ d.toInt ∧ d.toNat < 16) (hs : 0 ≤ s.toInt ∧ s.toNat < 16) : F Tryd.prog (tabI Tryd.prog (or2 (DB m) (or2 (DP m) D2)) (tb_mvd m) FR 2) Tryd.f14 [.agg [.b64 true 15#64, .b64 true al, .b64 true cc, .b64 true sz, .bool true, .bool sh, .b64 true d, .b64 true s, .b32 true dp, .b32 true rl, .b64 true im], .agg [.b64 false r0, .b64 false r1, .b64 false r2, .b64 false r3, .b64 false r4, .b64 false r5, .b64 false r6, .b64 false r7, .b64 false r8, .b64 false r9, .b64 false r10, .b64 false r11, .b64 false r12, .b64 false r13, .b64 false r14, .b64 false r15, .bool fz, .bool fs, .bool fc, .bool fo, .b64 false pc]] (fun r => r = .tup [(true, LS S0), (false, [.b64 true 2#64])]) := by
  repeat' ((conv => whnf); first
    | with_reducible apply Both.mk
    | (with_reducible apply Given.mk; intro h; (try simp only [hv, Bool.not_true, Bool.not_false, Bool.true_eq_false, Bool.false_eq_true] at h); (try exact absurd h (by decide)); (try exact no2 h (by with_reducible assumption)); (try exact no2 (by with_reducible assumption) h)))
  all_goals first
    | ((with_reducible apply Ob.mk); with_reducible exact hd)
    | ((with_reducible apply Ob.mk); with_reducible exact hs)
    | ((with_reducible apply Ob.mk); with_reducible exact hd.2)
    | ((with_reducible apply Ob.mk); with_reducible exact hs.2)
    | (with_reducible apply Ob.mk; kernel_rfl)
    | (with_reducible apply Ob.mk; decide)
    | ((conv => whnf); refine ⟨?_⟩; exact rfl)
set_option maxRecDepth 100000 in
set_option maxHeartbeats 4000000 in
theorem rx_15f (D2 : VData) (m : Nat → Nat) (al cc sz : BitVec 64) (sh : Bool) (d s : BitVec 64) (dp rl : BitVec 32) (im : BitVec 64) (r0 r1 r2 r3 r4 r5 r6 r7 r8 r9 r10 r11 r12 r13 r14 r15 : BitVec 64) (fz fs fc fo : Bool) (pc : BitVec 64) (hv : vld 15#64 al cc sz false sh d s dp rl im = true) (hd : 0 ≤ d.toInt ∧ d.toNat < 16) (hs : 0 ≤ s.toInt ∧ s.toNat < 16) : F Tryd.prog (tabI Tryd.prog (or2 (DB m) (or2 (DP m) D2)) (tb_mvd m) FR 2) Tryd.f14 [.agg [.b64 true 15#64, .b64 true al, .b64 true cc, .b64 true sz, .bool false, .bool sh, .b64 true d, .b64 true s, .b32 true dp, .b32 true rl, .b64 true im], .agg [.b64 false r0, .b64 false r1, .b64 false r2, .b64 false r3, .b64 false r4, .b64 false r5, .b64 false r6, .b64 false r7, .b64 false r8, .b64 false r9, .b64 false r10, .b64 false r11, .b64 false r12, .b64 false r13, .b64 false r14, .b64 false r15, .bool fz, .bool fs, .bool fc, .bool fo, .b64 false pc]] (fun r => r = .tup [(true, LS S0), (false, [.b64 true 2#64])]) := by
  repeat' ((conv => whnf); first
    | with_reducible apply Both.mk
    | (with_reducible apply Given.mk; intro h; (try simp only [hv, Bool.not_true, Bool.not_false, Bool.true_eq_false, Bool.false_eq_true] at h); (try exact absurd h (by decide)); (try exact no2 h (by with_reducible assumption)); (try exact no2 (by with_reducible assumption) h)))
  all_goals first
    | ((with_reducible apply Ob.mk); with_reducible exact hd)
    | ((with_reducible apply Ob.mk); with_reducible exact hs)
    | ((with_reducible apply Ob.mk); with_reducible exact hd.2)
    | ((with_reducible apply Ob.mk); with_reducible exact hs.2)
    | (with_reducible apply Ob.mk; kernel_rfl)
    | (with_reducible apply Ob.mk; decide)
    | ((conv => whnf); refine ⟨?_⟩; exact rfl)
set_option maxRecDepth 100000 in
set_option maxHeartbeats 4000000 in
theorem rx_16t (D2 : VData) (m : Nat → Nat) (al cc sz : BitVec 64) (sh : Bool) (d s : BitVec 64) (dp rl : BitVec 32) (im : BitVec 64) (r0 r1 r2 r3 r4 r5 r6 r7 r8 r9 r10 r11 r12 r13 r14 r15 : BitVec 64) (fz fs fc fo : Bool) (pc : BitVec 64) (hv : vld 16#64 al cc sz true sh d s dp rl im = true) (hd : 0 ≤ d.toInt ∧ d.toNat < 16) (hs : 0 ≤ s.toInt ∧ s.toNat < 16) : F Tryd.prog (tabI Tryd.prog (or2 (DB m) (or2 (DP m) D2)) (tb_mvd m) FR 2) Tryd.f14 [.agg [.b64 true 16#64, .b64 true al, .b64 true cc, .b64 true sz, .bool true, .bool sh, .b64 true d, .b64 true s, .b32 true dp, .b32 true rl, .b64 true im], .agg [.b64 false r0, .b64 false r1, .b64 false r2, .b64 false r3, .b64 false r4, .b64 false r5, .b64 false r6, .b64 false r7, .b64 false r8, .b64 false r9, .b64 false r10, .b64 false r11, .b64 false r12, .b64 false r13, .b64 false r14, .b64 false r15, .bool fz, .bool fs, .bool fc, .bool fo, .b64 false pc]] (fun r => r = .tup [(true, LS S0), (false, [.b64 true 2#64])]) := by
  repeat' ((conv => whnf); first
    | with_reducible apply Both.mk
    | (with_reducible apply Given.mk; intro h; (try simp only [hv, Bool.not_true, Bool.not_false, Bool.true_eq_false, Bool.false_eq_true] at h); (try exact absurd h (by decide)); (try exact no2 h (by with_reducible assumption)); (try exact no2 (by with_reducible assumption) h)))
  all_goals first
    | ((with_reducible apply Ob.mk); with_reducible exact hd)
    | ((with_reducible apply Ob.mk); with_reducible exact hs)
    | ((with_reducible apply Ob.mk); with_reducible exact hd.2)
    | ((with_reducible apply Ob.mk); with_reducible exact hs.2)
    | (with_reducible apply Ob.mk; kernel_rfl)
    | (with_reducible apply Ob.mk; decide)
    | ((conv => whnf); refine ⟨?_⟩; exact rfl)
set_option maxRecDepth 100000 in
set_option maxHeartbeats 4000000 in
theorem rx_16f (D2 : VData) (m : Nat → Nat) (al cc sz : BitVec 64) (sh : Bool) (d s : BitVec 64) (dp rl : BitVec 32) (im : BitVec 64) (r0 r1 r2 r3 r4 r5 r6 r7 r8 r9 r10 r11 r12 r13 r14 r15 : BitVec 64) (fz fs fc fo : Bool) (pc : BitVec 64) (hv : vld 16#64 al cc sz false sh d s dp rl im = true) (hd : 0 ≤ d.toInt ∧ d.toNat < 16) (hs : 0 ≤ s.toInt ∧ s.toNat < 16) : F Tryd.prog (tabI Tryd.prog (or2 (DB m) (or2 (DP m) D2)) (tb_mvd m) FR 2) Tryd.f14 [.agg [.b64 true 16#64, .b64 true al, .b64 true cc, .b64 true sz, .bool false, .bool sh, .b64 true d, .b64 true s, .b32 true dp, .b32 true rl, .b64 true im], .agg [.b64 false r0, .b64 false r1, .b64 false r2, .b64 false r3, .b64 false r4, .b64 false r5, .b64 false r6, .b64 false r7, .b64 false r8, .b64 false r9, .b64 false r10, .b64 false r11, .b64 false r12, .b64 false r13, .b64 false r14, .b64 false r15, .bool fz, .bool fs, .bool fc, .bool fo, .b64 false pc]] (fun r => r = .tup [(true, LS S0), (false, [.b64 true 2#64])]) := by
  repeat' ((conv => whnf); first
    | with_reducible apply Both.mk
    | (with_reducible apply Given.mk; intro h; (try simp only [hv, Bool.not_true, Bool.not_false, Bool.true_eq_false, Bool.false_eq_true] at h); (try exact absurd h (by decide)); (try exact no2 h (by with_reducible assumption)); (try exact no2 (by with_reducible assumption) h)))
  all_goals first
    | ((with_reducible apply Ob.mk); with_reducible exact hd)
    | ((with_reducible apply Ob.mk); with_reducible exact hs)
    | ((with_reducible apply Ob.mk); with_reducible exact hd.2)
    | ((with_reducible apply Ob.mk); with_reducible exact hs.2)
    | (with_reducible apply Ob.mk; kernel_rfl)
    | (with_reducible apply Ob.mk; decide)
    | ((conv => whnf); refine ⟨?_⟩; exact rfl)
set_option maxRecDepth 100000 in
set_option maxHeartbeats 4000000 in
theorem rx_17t (D2 : VData) (m : Nat → Nat) (al cc sz : BitVec 64) (sh : Bool) (d s : BitVec 64) (dp rl : BitVec 32) (im : BitVec 64) (r0 r1 r2 r3 r4 r5 r6 r7 r8 r9 r10 r11 r12 r13 r14 r15 : BitVec 64) (fz fs fc fo : Bool) (pc : BitVec 64) (hv : vld 17#64 al cc sz true sh d s dp rl im = true) (hd : 0 ≤ d.toInt ∧ d.toNat < 16) (hs : 0 ≤ s.toInt ∧ s.toNat < 16) : F Tryd.prog (tabI Tryd.prog (or2 (DB m) (or2 (DP m) D2)) (tb_mvd m) FR 2) Tryd.f14 [.agg [.b64 true 17#64, .b64 true al, .b64 true cc, .b64 true sz, .bool true, .bool sh, .b64 true d, .b64 true s, .b32 true dp, .b32 true rl, .b64 true im], .agg [.b64 false r0, .b64 false r1, .b64 false r2, .b64 false r3, .b64 false r4, .b64 false r5, .b64 false r6, .b64 false r7, .b64 false r8, .b64 false r9, .b64 false r10, .b64 false r11, .b64 false r12, .b64 false r13, .b64 false r14, .b64 false r15, .bool fz, .bool fs, .bool fc, .bool fo, .b64 false pc]] (fun r => r = .tup [(true, LS S0), (false, [.b64 true 2#64])]) := by
  repeat' ((conv => whnf); first
    | with_reducible apply Both.mk
    | (with_reducible apply Given.mk; intro h; (try simp only [hv, Bool.not_true, Bool.not_false, Bool.true_eq_false, Bool.false_eq_true] at h); (try exact absurd h (by decide)); (try exact no2 h (by with_reducible assumption)); (try exact no2 (by with_reducible assumption) h)))
  all_goals first
    | ((with_reducible apply Ob.mk); with_reducible exact hd)
    | ((with_reducible apply Ob.mk); with_reducible exact hs)
    | ((with_reducible apply Ob.mk); with_reducible exact hd.2)
    | ((with_reducible apply Ob.mk); with_reducible exact hs.2)
    | (with_reducible apply Ob.mk; kernel_rfl)
    | (with_reducible apply Ob.mk; decide)
    | ((conv => whnf); refine ⟨?_⟩; exact rfl)
set_option maxRecDepth 100000 in
set_option maxHeartbeats 4000000 in
theorem rx_17f (D2 : VData) (m : Nat → Nat) (al cc sz : BitVec 64) (sh : Bool) (d s : BitVec 64) (dp rl : BitVec 32) (im : BitVec 64) (r0 r1 r2 r3 r4 r5 r6 r7 r8 r9 r10 r11 r12 r13 r14 r15 : BitVec 64) (fz fs fc fo : Bool) (pc : BitVec 64) (hv : vld 17#64 al cc sz false sh d s dp rl im = true) (hd : 0 ≤ d.toInt ∧ d.toNat < 16) (hs : 0 ≤ s.toInt ∧ s.toNat < 16) : F Tryd.prog (tabI Tryd.prog (or2 (DB m) (or2 (DP m) D2)) (tb_mvd m) FR 2) Tryd.f14 [.agg [.b64 true 17#64, .b64 true al, .b64 true cc, .b64 true sz, .bool false, .bool sh, .b64 true d, .b64 true s, .b32 true dp, .b32 true rl, .b64 true im], .agg [.b64 false r0, .b64 false r1, .b64 false r2, .b64 false r3, .b64 false r4, .b64 false r5, .b64 false r6, .b64 false r7, .b64 false r8, .b64 false r9, .b64 false r10, .b64 false r11, .b64 false r12, .b64 false r13, .b64 false r14, .b64 false r15, .bool fz, .bool fs, .bool fc, .bool fo, .b64 false pc]] (fun r => r = .tup [(true, LS S0), (false, [.b64 true 2#64])]) := by
  repeat' ((conv => whnf); first
    | with_reducible apply Both.mk
    | (with_reducible apply Given.mk; intro h; (try simp only [hv, Bool.not_true, Bool.not_false, Bool.true_eq_false, Bool.false_eq_true] at h); (try exact absurd h (by decide)); (try exact no2 h (by with_reducible assumption)); (try exact no2 (by with_reducible assumption) h)))
  all_goals first
    | ((with_reducible apply Ob.mk); with_reducible exact hd)
    | ((with_reducible apply Ob.mk); with_reducible exact hs)
    | ((with_reducible apply Ob.mk); with_reducible exact hd.2)
    | ((with_reducible apply Ob.mk); with_reducible exact hs.2)
    | (with_reducible apply Ob.mk; kernel_rfl)
    | (with_reducible apply Ob.mk; decide)
    | ((conv => whnf); refine ⟨?_⟩; exact rfl)
set_option maxRecDepth 100000 in
set_option maxHeartbeats 4000000 in
theorem rx_18t (D2 : VData) (m : Nat → Nat) (al cc sz : BitVec 64) (sh : Bool) (d s : BitVec 64) (dp rl : BitVec 32) (im : BitVec 64) (r0 r1 r2 r3 r4 r5 r6 r7 r8 r9 r10 r11 r12 r13 r14 r15 : BitVec 64) (fz fs fc fo : Bool) (pc : BitVec 64) (hv : vld 18#64 al cc sz true sh d s dp rl im = true) (hd : 0 ≤ d.toInt ∧ d.toNat < 16) (hs : 0 ≤ s.toInt ∧ s.toNat < 16) : F Tryd.prog (tabI Tryd.prog (or2 (DB m) (or2 (DP m) D2)) (tb_mvd m) FR 2) Tryd.f14 [.agg [.b64 true 18#64, .b64 true al, .b64 true cc, .b64 true sz, .bool true, .bool sh, .b64 true d, .b64 true s, .b32 true dp, .b32 true rl, .b64 true im], .agg [.b64 false r0, .b64 false r1, .b64 false r2, .b64 false r3, .b64 false r4, .b64 false r5, .b64 false r6, .b64 false r7, .b64 false r8, .b64 false r9, .b64 false r10, .b64 false r11, .b64 false r12, .b64 false r13, .b64 false r14, .b64 false r15, .bool fz, .bool fs, .bool fc, .bool fo, .b64 false pc]] (fun r => r = .tup [(true, LS S0), (false, [.b64 true 2#64])]) := by
  repeat' ((conv => whnf); first
    | with_reducible apply Both.mk
    | (with_reducible apply Given.mk; intro h; (try simp only [hv, Bool.not_true, Bool.not_false, Bool.true_eq_false, Bool.false_eq_true] at h); (try exact absurd h (by decide)); (try exact no2 h (by with_reducible assumption)); (try exact no2 (by with_reducible assumption) h)))
  all_goals first
    | ((with_reducible apply Ob.mk); with_reducible exact hd)
    | ((with_reducible apply Ob.mk); with_reducible exact hs)
    | ((with_reducible apply Ob.mk); with_reducible exact hd.2)
    | ((with_reducible apply Ob.mk); with_reducible exact hs.2)
    | (with_reducible apply Ob.mk; kernel_rfl)
    | (with_reducible apply Ob.mk; decide)
    | ((conv => whnf); refine ⟨?_⟩; exact rfl)
set_option maxRecDepth 100000 in
set_option maxHeartbeats 4000000 in
theorem rx_18f (D2 : VData) (m : Nat → Nat) (al cc sz : BitVec 64) (sh : Bool) (d s : BitVec 64) (dp rl : BitVec 32) (im : BitVec 64) (r0 r1 r2 r3 r4 r5 r6 r7 r8 r9 r10 r11 r12 r13 r14 r15 : BitVec 64) (fz fs fc fo : Bool) (pc : BitVec 64) (hv : vld 18#64 al cc sz false sh d s dp rl im = true) (hd : 0 ≤ d.toInt ∧ d.toNat < 16) (hs : 0 ≤ s.toInt ∧ s.toNat < 16) : F Tryd.prog (tabI Tryd.prog (or2 (DB m) (or2 (DP m) D2)) (tb_mvd m) FR 2) Tryd.f14 [.agg [.b64 true 18#64, .b64 true al, .b64 true cc, .b64 true sz, .bool false, .bool sh, .b64 true d, .b64 true s, .b32 true dp, .b32 true rl, .b64 true im], .agg [.b64 false r0, .b64 false r1, .b64 false r2, .b64 false r3, .b64 false r4, .b64 false r5, .b64 false r6, .b64 false r7, .b64 false r8, .b64 false r9, .b64 false r10, .b64 false r11, .b64 false r12, .b64 false r13, .b64 false r14, .b64 false r15, .bool fz, .bool fs, .bool fc, .bool fo, .b64 false pc]] (fun r => r = .tup [(true, LS S0), (false, [.b64 true 2#64])]) := by
  repeat' ((conv => whnf); first
    | with_reducible apply Both.mk
    | (with_reducible apply Given.mk; intro h; (try simp only [hv, Bool.not_true, Bool.not_false, Bool.true_eq_false, Bool.false_eq_true] at h); (try exact absurd h (by decide)); (try exact no2 h (by with_reducible assumption)); (try exact no2 (by with_reducible assumption) h)))
  all_goals first
    | ((with_reducible apply Ob.mk); with_reducible exact hd)
    | ((with_reducible apply Ob.mk); with_reducible exact hs)
    | ((with_reducible apply Ob.mk); with_reducible exact hd.2)
    | ((with_reducible apply Ob.mk); with_reducible exact hs.2)
    | (with_reducible apply Ob.mk; kernel_rfl)
    | (with_reducible apply Ob.mk; decide)
    | ((conv => whnf); refine ⟨?_⟩; exact rfl)
set_option maxRecDepth 100000 in
set_option maxHeartbeats 4000000 in
theorem rx_19t (D2 : VData) (m : Nat → Nat) (al cc sz : BitVec 64) (sh : Bool) (d s : BitVec 64) (dp rl : BitVec 32) (im : BitVec 64) (r0 r1 r2 r3 r4 r5 r6 r7 r8 r9 r10 r11 r12 r13 r14 r15 : BitVec 64) (fz fs fc fo : Bool) (pc : BitVec 64) (hv : vld 19#64 al cc sz true sh d s dp rl im = true) (hd : 0 ≤ d.toInt ∧ d.toNat < 16) (hs : 0 ≤ s.toInt ∧ s.toNat < 16) : F Tryd.prog (tabI Tryd.prog (or2 (DB m) (or2 (DP m) D2)) (tb_mvd m) FR 2) Tryd.f14 [.agg [.b64 true 19#64, .b64 true al, .b64 true cc, .b64 true sz, .bool true, .bool sh, .b64 true d, .b64 true s, .b32 true dp, .b32 true rl, .b64 true im], .agg [.b64 false r0, .b64 false r1, .b64 false r2, .b64 false r3, .b64 false r4, .b64 false r5, .b64 false r6, .b64 false r7, .b64 false r8, .b64 false r9, .b64 false r10, .b64 false r11, .b64 false r12, .b64 false r13, .b64 false r14, .b64 false r15, .bool fz, .bool fs, .bool fc, .bool fo, .b64 false pc]] (fun r => r = .tup [(true, LS S0), (false, [.b64 true 2#64])]) := by
  repeat' ((conv => whnf); first
    | with_reducible apply Both.mk
    | (with_reducible apply Given.mk; intro h; (try simp only [hv, Bool.not_true, Bool.not_false, Bool.true_eq_false, Bool.false_eq_true] at h); (try exact absurd h (by decide)); (try exact no2 h (by with_reducible assumption)); (try exact no2 (by with_reducible assumption) h)))
  all_goals first
    | ((with_reducible apply Ob.mk); with_reducible exact hd)
    | ((with_reducible apply Ob.mk); with_reducible exact hs)
    | ((with_reducible apply Ob.mk); with_reducible exact hd.2)
    | ((with_reducible apply Ob.mk); with_reducible exact hs.2)
    | (with_reducible apply Ob.mk; kernel_rfl)
    | (with_reducible apply Ob.mk; decide)
    | ((conv => whnf); refine ⟨?_⟩; exact rfl)
set_option maxRecDepth 100000 in
set_option maxHeartbeats 4000000 in
theorem rx_19f (D2 : VData) (m : Nat → Nat) (al cc sz : BitVec 64) (sh : Bool) (d s : BitVec 64) (dp rl : BitVec 32) (im : BitVec 64) (r0 r1 r2 r3 r4 r5 r6 r7 r8 r9 r10 r11 r12 r13 r14 r15 : BitVec 64) (fz fs fc fo : Bool) (pc : BitVec 64) (hv : vld 19#64 al cc sz false sh d s dp rl im = true) (hd : 0 ≤ d.toInt ∧ d.toNat < 16) (hs : 0 ≤ s.toInt ∧ s.toNat < 16) : F Tryd.prog (tabI Tryd.prog (or2 (DB m) (or2 (DP m) D2)) (tb_mvd m) FR 2) Tryd.f14 [.agg [.b64 true 19#64, .b64 true al, .b64 true cc, .b64 true sz, .bool false, .bool sh, .b64 true d, .b64 true s, .b32 true dp, .b32 true rl, .b64 true im], .agg [.b64 false r0, .b64 false r1, .b64 false r2, .b64 false r3, .b64 false r4, .b64 false r5, .b64 false r6, .b64 false r7, .b64 false r8, .b64 false r9, .b64 false r10, .b64 false r11, .b64 false r12, .b64 false r13, .b64 false r14, .b64 false r15, .bool fz, .bool fs, .bool fc, .bool fo, .b64 false pc]] (fun r => r = .tup [(true, LS S0), (false, [.b64 true 2#64])]) := by
  repeat' ((conv => whnf); first
    | with_reducible apply Both.mk
    | (with_reducible apply Given.mk; intro h; (try simp only [hv, Bool.not_true, Bool.not_false, Bool.true_eq_false, Bool.false_eq_true] at h); (try exact absurd h (by decide)); (try exact no2 h (by with_reducible assumption)); (try exact no2 (by with_reducible assumption) h)))
  all_goals first
    | ((with_reducible apply Ob.mk); with_reducible exact hd)
    | ((with_reducible apply Ob.mk); with_reducible exact hs)
    | ((with_reducible apply Ob.mk); with_reducible exact hd.2)
    | ((with_reducible apply Ob.mk); with_reducible exact hs.2)
    | (with_reducible apply Ob.mk; kernel_rfl)
    | (with_reducible apply Ob.mk; decide)
    | ((conv => whnf); refine ⟨?_⟩; exact rfl)
set_option maxRecDepth 100000 in
set_option maxHeartbeats 4000000 in
theorem rx_20t (D2 : VData) (m : Nat → Nat) (al cc sz : BitVec 64) (sh : Bool) (d s : BitVec 64) (dp rl : BitVec 32) (im : BitVec 64) (r0 r1 r2 r3 r4 r5 r6 r7 r8 r9 r10 r11 r12 r13 r14 r15 : BitVec 64) (fz fs fc fo : Bool) (pc : BitVec 64) (hv : vld 20#64 al cc sz true sh d s dp rl im = true) (hd : 0 ≤ d.toInt ∧ d.toNat < 16) (hs : 0 ≤ s.toInt ∧ s.toNat < 16) : F Tryd.prog (tabI Tryd.prog (or2 (DB m) (or2 (DP m) D2)) (tb_mvd m) FR 2) Tryd.f14 [.agg [.b64 true 20#64, .b64 true al, .b64 true cc, .b64 true sz, .bool true, .bool sh, .b64 true d, .b64 true s, .b32 true dp, .b32 true rl, .b64 true im], .agg [.b64 false r0, .b64 false r1, .b64 false r2, .b64 false r3, .b64 false r4, .b64 false r5, .b64 false r6, .b64 false r7, .b64 false r8, .b64 false r9, .b64 false r10, .b64 false r11, .b64 false r12, .b64 false r13, .b64 false r14, .b64 false r15, .bool fz, .bool fs, .bool fc, .bool fo, .b64 false pc]] (fun r => r = .tup [(true, LS S0), (false, [.b64 true 2#64])]) := by
  repeat' ((conv => whnf); first
    | with_reducible apply Both.mk
    | (with_reducible apply Given.mk; intro h; (try simp only [hv, Bool.not_true, Bool.not_false, Bool.true_eq_false, Bool.false_eq_true] at h); (try exact absurd h (by decide)); (try exact no2 h (by with_reducible assumption)); (try exact no2 (by with_reducible assumption) h)))
  all_goals first
    | ((with_reducible apply Ob.mk); with_reducible exact hd)
    | ((with_reducible apply Ob.mk); with_reducible exact hs)
    | ((with_reducible apply Ob.mk); with_reducible exact hd.2)
    | ((with_reducible apply Ob.mk); with_reducible exact hs.2)
    | (with_reducible apply Ob.mk; kernel_rfl)
    | (with_reducible apply Ob.mk; decide)
    | ((conv => whnf); refine ⟨?_⟩; exact rfl)
set_option maxRecDepth 100000 in
set_option maxHeartbeats 4000000 in
theorem rx_20f (D2 : VData) (m : Nat → Nat) (al cc sz : BitVec 64) (sh : Bool) (d s : BitVec 64) (dp rl : BitVec 32) (im : BitVec 64) (r0 r1 r2 r3 r4 r5 r6 r7 r8 r9 r10 r11 r12 r13 r14 r15 : BitVec 64) (fz fs fc fo : Bool) (pc : BitVec 64) (hv : vld 20#64 al cc sz false sh d s dp rl im = true) (hd : 0 ≤ d.toInt ∧ d.toNat < 16) (hs : 0 ≤ s.toInt ∧ s.toNat < 16) : F Tryd.prog (tabI Tryd.prog (or2 (DB m) (or2 (DP m) D2)) (tb_mvd m) FR 2) Tryd.f14 [.agg [.b64 true 20#64, .b64 true al, .b64 true cc, .b64 true sz, .bool false, .bool sh, .b64 true d, .b64 true s, .b32 true dp, .b32 true rl, .b64 true im], .agg [.b64 false r0, .b64 false r1, .b64 false r2, .b64 false r3, .b64 false r4, .b64 false r5, .b64 false r6, .b64 false r7, .b64 false r8, .b64 false r9, .b64 false r10, .b64 false r11, .b64 false r12, .b64 false r13, .b64 false r14, .b64 false r15, .bool fz, .bool fs, .bool fc, .bool fo, .b64 false pc]] (fun r => r = .tup [(true, LS S0), (false, [.b64 true 2#64])]) := by
  repeat' ((conv => whnf); first
    | with_reducible apply Both.mk
    | (with_reducible apply Given.mk; intro h; (try simp only [hv, Bool.not_true, Bool.not_false, Bool.true_eq_false, Bool.false_eq_true] at h); (try exact absurd h (by decide)); (try exact no2 h (by with_reducible assumption)); (try exact no2 (by with_reducible assumption) h)))
  all_goals first
    | ((with_reducible apply Ob.mk); with_reducible exact hd)
    | ((with_reducible apply Ob.mk); with_reducible exact hs)
    | ((with_reducible apply Ob.mk); with_reducible exact hd.2)
    | ((with_reducible apply Ob.mk); with_reducible exact hs.2)
    | (with_reducible apply Ob.mk; kernel_rfl)
    | (with_reducible apply Ob.mk; decide)
    | ((conv => whnf); refine ⟨?_⟩; exact rfl)
set_option maxRecDepth 100000 in
set_option maxHeartbeats 4000000 in
theorem rx_21t (D2 : VData) (m : Nat → Nat) (al cc sz : BitVec 64) (sh : Bool) (d s : BitVec 64) (dp rl : BitVec 32) (im : BitVec 64) (r0 r1 r2 r3 r4 r5 r6 r7 r8 r9 r10 r11 r12 r13 r14 r15 : BitVec 64) (fz fs fc fo : Bool) (pc : BitVec 64) (hv : vld 21#64 al cc sz true sh d s dp rl im = true) (hd : 0 ≤ d.toInt ∧ d.toNat < 16) (hs : 0 ≤ s.toInt ∧ s.toNat < 16) : F Tryd.prog (tabI Tryd.prog (or2 (DB m) (or2 (DP m) D2)) (tb_mvd m) FR 2) Tryd.f14 [.agg [.b64 true 21#64, .b64 true al, .b64 true cc, .b64 true sz, .bool true, .bool sh, .b64 true d, .b64 true s, .b32 true dp, .b32 true rl, .b64 true im], .agg [.b64 false r0, .b64 false r1, .b64 false r2, .b64 false r3, .b64 false r4, .b64 false r5, .b64 false r6, .b64 false r7, .b64 false r8, .b64 false r9, .b64 false r10, .b64 false r11, .b64 false r12, .b64 false r13, .b64 false r14, .b64 false r15, .bool fz, .bool fs, .bool fc, .bool fo, .b64 false pc]] (fun r => r = okA ⟨fun j => nthW [r0, r1, r2, r3, r4, r5, r6, r7, r8, r9, r10, r11, r12, r13, r14, r15] j, fz, fs, fc, fo, pc⟩) := by
  repeat' ((conv => whnf); first
    | with_reducible apply Both.mk
    | (with_reducible apply Given.mk; intro h; (try simp only [hv, Bool.not_true, Bool.not_false, Bool.true_eq_false, Bool.false_eq_true] at h); (try exact absurd h (by decide)); (try exact no2 h (by with_reducible assumption)); (try exact no2 (by with_reducible assumption) h)))
  all_goals first
    | ((with_reducible apply Ob.mk); with_reducible exact hd)
    | ((with_reducible apply Ob.mk); with_reducible exact hs)
    | ((with_reducible apply Ob.mk); with_reducible exact hd.2)
    | ((with_reducible apply Ob.mk); with_reducible exact hs.2)
    | (with_reducible apply Ob.mk; kernel_rfl)
    | (with_reducible apply Ob.mk; decide)
    | ((conv => whnf); refine ⟨?_⟩; exact rfl)
set_option maxRecDepth 100000 in
set_option maxHeartbeats 4000000 in
theorem rx_21f (D2 : VData) (m : Nat → Nat) (al cc sz : BitVec 64) (sh : Bool) (d s : BitVec 64) (dp rl : BitVec 32) (im : BitVec 64) (r0 r1 r2 r3 r4 r5 r6 r7 r8 r9 r10 r11 r12 r13 r14 r15 : BitVec 64) (fz fs fc fo : Bool) (pc : BitVec 64) (hv : vld 21#64 al cc sz false sh d s dp rl im = true) (hd : 0 ≤ d.toInt ∧ d.toNat < 16) (hs : 0 ≤ s.toInt ∧ s.toNat < 16) : F Tryd.prog (tabI Tryd.prog (or2 (DB m) (or2 (DP m) D2)) (tb_mvd m) FR 2) Tryd.f14 [.agg [.b64 true 21#64, .b64 true al, .b64 true cc, .b64 true sz, .bool false, .bool sh, .b64 true d, .b64 true s, .b32 true dp, .b32 true rl, .b64 true im], .agg [.b64 false r0, .b64 false r1, .b64 false r2, .b64 false r3, .b64 false r4, .b64 false r5, .b64 false r6, .b64 false r7, .b64 false r8, .b64 false r9, .b64 false r10, .b64 false r11, .b64 false r12, .b64 false r13, .b64 false r14, .b64 false r15, .bool fz, .bool fs, .bool fc, .bool fo, .b64 false pc]] (fun r => r = okA ⟨fun j => nthW [r0, r1, r2, r3, r4, r5, r6, r7, r8, r9, r10, r11, r12, r13, r14, r15] j, fz, fs, fc, fo, pc⟩) := by
  repeat' ((conv => whnf); first
    | with_reducible apply Both.mk
    | (with_reducible apply Given.mk; intro h; (try simp only [hv, Bool.not_true, Bool.not_false, Bool.true_eq_false, Bool.false_eq_true] at h); (try exact absurd h (by decide)); (try exact no2 h (by with_reducible assumption)); (try exact no2 (by with_reducible assumption) h)))
  all_goals first
    | ((with_reducible apply Ob.mk); with_reducible exact hd)
    | ((with_reducible apply Ob.mk); with_reducible exact hs)
    | ((with_reducible apply Ob.mk); with_reducible exact hd.2)
    | ((with_reducible apply Ob.mk); with_reducible exact hs.2)
    | (with_reducible apply Ob.mk; kernel_rfl)
    | (with_reducible apply Ob.mk; decide)
    | ((conv => whnf); refine ⟨?_⟩; exact rfl)
theorem sh_hi {w : Bool} {x : BitVec 64} (h : shB w x = true) : x.toNat < (if w then 64 else 32) := by
  unfold shB at h
  have e0 : (0#64).toInt = 0 := rfl
  have e32 : (32#64).toInt = 32 := rfl
  have e64 : (64#64).toInt = 64 := rfl
  rw [Bool.and_eq_true, Bool.or_eq_true, Bool.and_eq_true, BitVec.sle_iff_toInt_le, BitVec.slt_iff_toInt_lt, BitVec.slt_iff_toInt_lt, e0, e32, e64] at h
  obtain ⟨h1, h2⟩ := h
  have hl := x.isLt
  rw [BitVec.toInt_eq_toNat_cond] at h1 h2
  cases w
  · rcases h2 with h2 | ⟨h2, _⟩
    · split at h1
      · rename_i g; rw [if_pos g] at h2; simp only [Bool.false_eq_true, if_false]; omega
      · omega
    · cases h2
  · simp only [if_true]
    split at h1
    · rename_i g
      rw [if_pos g] at h2
      rcases h2 with h2 | ⟨_, h2⟩ <;> omega
    · omega
theorem pt_w (h y : BitVec 64) : ptK true h y = !(y.ule h) := rfl
theorem pt_n (h y : BitVec 64) : ptK false h y = !((lo32 y).ule (lo32 h)) := by
  show (!((y.setWidth 32).ule (h.setWidth 32))) = _
  have e : (lo32 y).ule (lo32 h) = (y.setWidth 32).ule (h.setWidth 32) := by
    rw [Bool.eq_iff_iff, BitVec.ule_iff_toNat_le, BitVec.ule_iff_toNat_le, lo32_nat, lo32_nat, BitVec.toNat_setWidth, BitVec.toNat_setWidth]
  rw [e]
set_option maxRecDepth 100000 in
set_option maxHeartbeats 4000000 in
theorem e_rExec (G2 : World → Prop) (D2 : VData) (k2 : DataOK Tryd.prog G2 D2) (m : Nat → Nat) : EntryOK Tryd.prog (and2 (GB m) (and2 (GP m) G2)) 14 sp_Exec := by
  refine .of_F (C_fr G2 D2 k2 m) (by kernel_rfl) Tryd.func14 (by kernel_rfl) (by kernel_rfl) (fun args c v h hc => ?_)
  unfold sp_Exec at h
  split at h
  · rename_i k al cc sz w sh d s dp rl im r0 r1 r2 r3 r4 r5 r6 r7 r8 r9 r10 r11 r12 r13 r14 r15 fz fs fc fo pc
    cases h
    refine ⟨rfl, rfl, ?_⟩
    cases hv : vX ⟨k, al, cc, sz, w, sh, d, s, dp, rl, im⟩ with
    | false =>
      rw [exA_bad (x := ⟨k, al, cc, sz, w, sh, d, s, dp, rl, im⟩) (by rw [hv]; rfl)]
      exact rx_bad D2 m k w al cc sz sh d s dp rl im r0 r1 r2 r3 r4 r5 r6 r7 r8 r9 r10 r11 r12 r13 r14 r15 fz fs fc fo pc hv
    | true =>
    rcases ks k with rfl | rfl | rfl | rfl | rfl | rfl | rfl | rfl | rfl | rfl | rfl | rfl | rfl | rfl | rfl | rfl | rfl | rfl | rfl | rfl | rfl | hk
    rotate_right 1
    · exact absurd (vld_none hk) (by rw [show vld k al cc sz w sh d s dp rl im = true from hv]; decide)
    · have hr : regB d = true ∧ regB s = true := by
        have g : v1 al cc sz w sh d s dp rl im = true := hv
        simp only [v1, Bool.and_eq_true] at g
        exact g.2
      have hd := reg_ix hr.1
      have hs := reg_ix hr.2
      rw [exA_ok (x := ⟨1#64, al, cc, sz, w, sh, d, s, dp, rl, im⟩) hv rfl rfl]
      cases w
      · exact rx_1f D2 m al cc sz sh d s dp rl im r0 r1 r2 r3 r4 r5 r6 r7 r8 r9 r10 r11 r12 r13 r14 r15 fz fs fc fo pc hv hd hs
      · exact rx_1t D2 m al cc sz sh d s dp rl im r0 r1 r2 r3 r4 r5 r6 r7 r8 r9 r10 r11 r12 r13 r14 r15 fz fs fc fo pc hv hd hs
    · have hr : regB d = true ∧ regB s = true := by
        have g : v2 al cc sz w sh d s dp rl im = true := hv
        simp only [v2, Bool.and_eq_true] at g
        exact g.2
      have hd := reg_ix hr.1
      have hs := reg_ix hr.2
      rw [exA_ok (x := ⟨2#64, al, cc, sz, w, sh, d, s, dp, rl, im⟩) hv rfl rfl]
      cases w
      · exact rx_2f D2 m al cc sz sh d s dp rl im r0 r1 r2 r3 r4 r5 r6 r7 r8 r9 r10 r11 r12 r13 r14 r15 fz fs fc fo pc hv hd hs
      · exact rx_2t D2 m al cc sz sh d s dp rl im r0 r1 r2 r3 r4 r5 r6 r7 r8 r9 r10 r11 r12 r13 r14 r15 fz fs fc fo pc hv hd hs
    · have hr : regB d = true ∧ regB s = true := by
        have g : v3 al cc sz w sh d s dp rl im = true := hv
        simp only [v3, Bool.and_eq_true] at g
        exact g.2
      have hd := reg_ix hr.1
      have hs := reg_ix hr.2
      rw [exA_ok (x := ⟨3#64, al, cc, sz, w, sh, d, s, dp, rl, im⟩) hv rfl rfl]
      cases w
      · exact rx_3f D2 m al cc sz sh d s dp rl im r0 r1 r2 r3 r4 r5 r6 r7 r8 r9 r10 r11 r12 r13 r14 r15 fz fs fc fo pc hv hd hs
      · exact rx_3t D2 m al cc sz sh d s dp rl im r0 r1 r2 r3 r4 r5 r6 r7 r8 r9 r10 r11 r12 r13 r14 r15 fz fs fc fo pc hv hd hs
    · have hr : regB d = true ∧ regB s = true := by
        have g : v4 al cc sz w sh d s dp rl im = true := hv
        simp only [v4, Bool.and_eq_true] at g
        exact g.2
      have hd := reg_ix hr.1
      have hs := reg_ix hr.2
      have ha : aluB al = true := by
        have g : v4 al cc sz w sh d s dp rl im = true := hv
        simp only [v4, Bool.and_eq_true] at g
        exact g.1.2
      rw [exA_ok (x := ⟨4#64, al, cc, sz, w, sh, d, s, dp, rl, im⟩) hv rfl rfl]
      cases w
      · exact rx_4f D2 m al cc sz sh d s dp rl im r0 r1 r2 r3 r4 r5 r6 r7 r8 r9 r10 r11 r12 r13 r14 r15 fz fs fc fo pc hv hd hs ha
      · exact rx_4t D2 m al cc sz sh d s dp rl im r0 r1 r2 r3 r4 r5 r6 r7 r8 r9 r10 r11 r12 r13 r14 r15 fz fs fc fo pc hv hd hs ha
    · have hr : regB d = true ∧ regB s = true := by
        have g : v5 al cc sz w sh d s dp rl im = true := hv
        simp only [v5, Bool.and_eq_true] at g
        exact g.2
      have hd := reg_ix hr.1
      have hs := reg_ix hr.2
      have ha : aluB al = true := by
        have g : v5 al cc sz w sh d s dp rl im = true := hv
        simp only [v5, Bool.and_eq_true] at g
        exact g.1.1.2
      rw [exA_ok (x := ⟨5#64, al, cc, sz, w, sh, d, s, dp, rl, im⟩) hv rfl rfl]
      cases w
      · exact rx_5f D2 m al cc sz sh d s dp rl im r0 r1 r2 r3 r4 r5 r6 r7 r8 r9 r10 r11 r12 r13 r14 r15 fz fs fc fo pc hv hd hs ha
      · exact rx_5t D2 m al cc sz sh d s dp rl im r0 r1 r2 r3 r4 r5 r6 r7 r8 r9 r10 r11 r12 r13 r14 r15 fz fs fc fo pc hv hd hs ha
    · have hr : regB d = true ∧ regB s = true := by
        have g : v6 al cc sz w sh d s dp rl im = true := hv
        simp only [v6, Bool.and_eq_true] at g
        exact g.2
      have hd := reg_ix hr.1
      have hs := reg_ix hr.2
      rw [exA_ok (x := ⟨6#64, al, cc, sz, w, sh, d, s, dp, rl, im⟩) hv rfl rfl]
      cases w
      · exact rx_6f D2 m al cc sz sh d s dp rl im r0 r1 r2 r3 r4 r5 r6 r7 r8 r9 r10 r11 r12 r13 r14 r15 fz fs fc fo pc hv hd hs
      · exact rx_6t D2 m al cc sz sh d s dp rl im r0 r1 r2 r3 r4 r5 r6 r7 r8 r9 r10 r11 r12 r13 r14 r15 fz fs fc fo pc hv hd hs
    · have hr : regB d = true ∧ regB s = true := by
        have g : v7 al cc sz w sh d s dp rl im = true := hv
        simp only [v7, Bool.and_eq_true] at g
        exact g.2
      have hd := reg_ix hr.1
      have hs := reg_ix hr.2
      rw [exA_ok (x := ⟨7#64, al, cc, sz, w, sh, d, s, dp, rl, im⟩) hv rfl rfl]
      cases w
      · exact rx_7f D2 m al cc sz sh d s dp rl im r0 r1 r2 r3 r4 r5 r6 r7 r8 r9 r10 r11 r12 r13 r14 r15 fz fs fc fo pc hv hd hs
      · exact rx_7t D2 m al cc sz sh d s dp rl im r0 r1 r2 r3 r4 r5 r6 r7 r8 r9 r10 r11 r12 r13 r14 r15 fz fs fc fo pc hv hd hs
    · have hr : regB d = true ∧ regB s = true := by
        have g : v8 al cc sz w sh d s dp rl im = true := hv
        simp only [v8, Bool.and_eq_true] at g
        exact g.2
      have hd := reg_ix hr.1
      have hs := reg_ix hr.2
      rw [exA_ok (x := ⟨8#64, al, cc, sz, w, sh, d, s, dp, rl, im⟩) hv rfl rfl]
      cases w
      · exact rx_8f D2 m al cc sz sh d s dp rl im r0 r1 r2 r3 r4 r5 r6 r7 r8 r9 r10 r11 r12 r13 r14 r15 fz fs fc fo pc hv hd hs
      · exact rx_8t D2 m al cc sz sh d s dp rl im r0 r1 r2 r3 r4 r5 r6 r7 r8 r9 r10 r11 r12 r13 r14 r15 fz fs fc fo pc hv hd hs
    · have hr : regB d = true ∧ regB s = true := by
        have g : v9 al cc sz w sh d s dp rl im = true := hv
        simp only [v9, Bool.and_eq_true] at g
        exact g.2
      have hd := reg_ix hr.1
      have hs := reg_ix hr.2
      cases w
      · cases hp : ptK false r2 (nthW [r0, r1, r2, r3, r4, r5, r6, r7, r8, r9, r10, r11, r12, r13, r14, r15] d.toNat) with
        | true => rw [exA_9t (x := ⟨9#64, al, cc, sz, false, sh, d, s, dp, rl, im⟩) (S := ⟨fun j => nthW [r0, r1, r2, r3, r4, r5, r6, r7, r8, r9, r10, r11, r12, r13, r14, r15] j, fz, fs, fc, fo, pc⟩) hv rfl hp]; exact rx_9ft D2 m al cc sz sh d s dp rl im r0 r1 r2 r3 r4 r5 r6 r7 r8 r9 r10 r11 r12 r13 r14 r15 fz fs fc fo pc hv hd hs (by rw [pt_n] at hp; simpa using hp)
        | false => rw [exA_9f (x := ⟨9#64, al, cc, sz, false, sh, d, s, dp, rl, im⟩) (S := ⟨fun j => nthW [r0, r1, r2, r3, r4, r5, r6, r7, r8, r9, r10, r11, r12, r13, r14, r15] j, fz, fs, fc, fo, pc⟩) hv rfl hp]; exact rx_9ff D2 m al cc sz sh d s dp rl im r0 r1 r2 r3 r4 r5 r6 r7 r8 r9 r10 r11 r12 r13 r14 r15 fz fs fc fo pc hv hd hs (by rw [pt_n] at hp; simpa using hp)
      · cases hp : ptK true r2 (nthW [r0, r1, r2, r3, r4, r5, r6, r7, r8, r9, r10, r11, r12, r13, r14, r15] d.toNat) with
        | true => rw [exA_9t (x := ⟨9#64, al, cc, sz, true, sh, d, s, dp, rl, im⟩) (S := ⟨fun j => nthW [r0, r1, r2, r3, r4, r5, r6, r7, r8, r9, r10, r11, r12, r13, r14, r15] j, fz, fs, fc, fo, pc⟩) hv rfl hp]; exact rx_9tt D2 m al cc sz sh d s dp rl im r0 r1 r2 r3 r4 r5 r6 r7 r8 r9 r10 r11 r12 r13 r14 r15 fz fs fc fo pc hv hd hs (by rw [pt_w] at hp; simpa using hp)
        | false => rw [exA_9f (x := ⟨9#64, al, cc, sz, true, sh, d, s, dp, rl, im⟩) (S := ⟨fun j => nthW [r0, r1, r2, r3, r4, r5, r6, r7, r8, r9, r10, r11, r12, r13, r14, r15] j, fz, fs, fc, fo, pc⟩) hv rfl hp]; exact rx_9tf D2 m al cc sz sh d s dp rl im r0 r1 r2 r3 r4 r5 r6 r7 r8 r9 r10 r11 r12 r13 r14 r15 fz fs fc fo pc hv hd hs (by rw [pt_w] at hp; simpa using hp)
    · have hr : regB d = true ∧ regB s = true := by
        have g : v10 al cc sz w sh d s dp rl im = true := hv
        simp only [v10, Bool.and_eq_true] at g
        exact g.2
      have hd := reg_ix hr.1
      have hs := reg_ix hr.2
      rw [exA_ok (x := ⟨10#64, al, cc, sz, w, sh, d, s, dp, rl, im⟩) hv rfl rfl]
      cases w
      · exact rx_10f D2 m al cc sz sh d s dp rl im r0 r1 r2 r3 r4 r5 r6 r7 r8 r9 r10 r11 r12 r13 r14 r15 fz fs fc fo pc hv hd hs
      · exact rx_10t D2 m al cc sz sh d s dp rl im r0 r1 r2 r3 r4 r5 r6 r7 r8 r9 r10 r11 r12 r13 r14 r15 fz fs fc fo pc hv hd hs
    · have hr : regB d = true ∧ regB s = true := by
        have g : v11 al cc sz w sh d s dp rl im = true := hv
        simp only [v11, Bool.and_eq_true] at g
        exact g.2
      have hd := reg_ix hr.1
      have hs := reg_ix hr.2
      have ha : shiftB al = true := by
        have g : v11 al cc sz w sh d s dp rl im = true := hv
        simp only [v11, Bool.and_eq_true] at g
        exact g.1.1.2
      have hi : im.toNat < (if w then 64 else 32) := by
        have g : v11 al cc sz w sh d s dp rl im = true := hv
        simp only [v11, Bool.and_eq_true] at g
        exact sh_hi g.1.2
      rw [exA_ok (x := ⟨11#64, al, cc, sz, w, sh, d, s, dp, rl, im⟩) hv rfl rfl]
      cases w
      · exact rx_11f D2 m al cc sz sh d s dp rl im r0 r1 r2 r3 r4 r5 r6 r7 r8 r9 r10 r11 r12 r13 r14 r15 fz fs fc fo pc hv hd hs ha hi
      · exact rx_11t D2 m al cc sz sh d s dp rl im r0 r1 r2 r3 r4 r5 r6 r7 r8 r9 r10 r11 r12 r13 r14 r15 fz fs fc fo pc hv hd hs ha hi
    · have hr : regB d = true ∧ regB s = true := by
        have g : v12 al cc sz w sh d s dp rl im = true := hv
        simp only [v12, Bool.and_eq_true] at g
        exact g.2
      have hd := reg_ix hr.1
      have hs := reg_ix hr.2
      have ha : shiftB al = true := by
        have g : v12 al cc sz w sh d s dp rl im = true := hv
        simp only [v12, Bool.and_eq_true] at g
        exact g.1.2
      rw [exA_ok (x := ⟨12#64, al, cc, sz, w, sh, d, s, dp, rl, im⟩) hv rfl rfl]
      cases w
      · exact rx_12f D2 m al cc sz sh d s dp rl im r0 r1 r2 r3 r4 r5 r6 r7 r8 r9 r10 r11 r12 r13 r14 r15 fz fs fc fo pc hv hd hs ha
      · exact rx_12t D2 m al cc sz sh d s dp rl im r0 r1 r2 r3 r4 r5 r6 r7 r8 r9 r10 r11 r12 r13 r14 r15 fz fs fc fo pc hv hd hs ha
    · have hr : regB d = true ∧ regB s = true := by
        have g : v13 al cc sz w sh d s dp rl im = true := hv
        simp only [v13, Bool.and_eq_true] at g
        exact g.2
      have hd := reg_ix hr.1
      have hs := reg_ix hr.2
      rw [exA_bad (x := ⟨13#64, al, cc, sz, w, sh, d, s, dp, rl, im⟩) (by rw [Bool.and_eq_false_iff]; right; rfl)]
      cases w
      · exact rx_13f D2 m al cc sz sh d s dp rl im r0 r1 r2 r3 r4 r5 r6 r7 r8 r9 r10 r11 r12 r13 r14 r15 fz fs fc fo pc hv hd hs
      · exact rx_13t D2 m al cc sz sh d s dp rl im r0 r1 r2 r3 r4 r5 r6 r7 r8 r9 r10 r11 r12 r13 r14 r15 fz fs fc fo pc hv hd hs
    · have hr : regB d = true ∧ regB s = true := by
        have g : v14 al cc sz w sh d s dp rl im = true := hv
        simp only [v14, Bool.and_eq_true] at g
        exact g.2
      have hd := reg_ix hr.1
      have hs := reg_ix hr.2
      rw [exA_bad (x := ⟨14#64, al, cc, sz, w, sh, d, s, dp, rl, im⟩) (by rw [Bool.and_eq_false_iff]; right; rfl)]
      cases w
      · exact rx_14f D2 m al cc sz sh d s dp rl im r0 r1 r2 r3 r4 r5 r6 r7 r8 r9 r10 r11 r12 r13 r14 r15 fz fs fc fo pc hv hd hs
      · exact rx_14t D2 m al cc sz sh d s dp rl im r0 r1 r2 r3 r4 r5 r6 r7 r8 r9 r10 r11 r12 r13 r14 r15 fz fs fc fo pc hv hd hs
    · have hr : regB d = true ∧ regB s = true := by
        have g : v15 al cc sz w sh d s dp rl im = true := hv
        simp only [v15, Bool.and_eq_true] at g
        exact g.2
      have hd := reg_ix hr.1
      have hs := reg_ix hr.2
      rw [exA_bad (x := ⟨15#64, al, cc, sz, w, sh, d, s, dp, rl, im⟩) (by rw [Bool.and_eq_false_iff]; right; rfl)]
      cases w
      · exact rx_15f D2 m al cc sz sh d s dp rl im r0 r1 r2 r3 r4 r5 r6 r7 r8 r9 r10 r11 r12 r13 r14 r15 fz fs fc fo pc hv hd hs
      · exact rx_15t D2 m al cc sz sh d s dp rl im r0 r1 r2 r3 r4 r5 r6 r7 r8 r9 r10 r11 r12 r13 r14 r15 fz fs fc fo pc hv hd hs
    · have hr : regB d = true ∧ regB s = true := by
        have g : v16 al cc sz w sh d s dp rl im = true := hv
        simp only [v16, Bool.and_eq_true] at g
        exact g.2
      have hd := reg_ix hr.1
      have hs := reg_ix hr.2
      rw [exA_bad (x := ⟨16#64, al, cc, sz, w, sh, d, s, dp, rl, im⟩) (by rw [Bool.and_eq_false_iff]; right; rfl)]
      cases w
      · exact rx_16f D2 m al cc sz sh d s dp rl im r0 r1 r2 r3 r4 r5 r6 r7 r8 r9 r10 r11 r12 r13 r14 r15 fz fs fc fo pc hv hd hs
      · exact rx_16t D2 m al cc sz sh d s dp rl im r0 r1 r2 r3 r4 r5 r6 r7 r8 r9 r10 r11 r12 r13 r14 r15 fz fs fc fo pc hv hd hs
    · have hr : regB d = true ∧ regB s = true := by
        have g : v17 al cc sz w sh d s dp rl im = true := hv
        simp only [v17, Bool.and_eq_true] at g
        exact g.2
      have hd := reg_ix hr.1
      have hs := reg_ix hr.2
      rw [exA_bad (x := ⟨17#64, al, cc, sz, w, sh, d, s, dp, rl, im⟩) (by rw [Bool.and_eq_false_iff]; right; rfl)]
      cases w
      · exact rx_17f D2 m al cc sz sh d s dp rl im r0 r1 r2 r3 r4 r5 r6 r7 r8 r9 r10 r11 r12 r13 r14 r15 fz fs fc fo pc hv hd hs
      · exact rx_17t D2 m al cc sz sh d s dp rl im r0 r1 r2 r3 r4 r5 r6 r7 r8 r9 r10 r11 r12 r13 r14 r15 fz fs fc fo pc hv hd hs
    · have hr : regB d = true ∧ regB s = true := by
        have g : v18 al cc sz w sh d s dp rl im = true := hv
        simp only [v18, Bool.and_eq_true] at g
        exact g.2
      have hd := reg_ix hr.1
      have hs := reg_ix hr.2
      rw [exA_bad (x := ⟨18#64, al, cc, sz, w, sh, d, s, dp, rl, im⟩) (by rw [Bool.and_eq_false_iff]; right; rfl)]
      cases w
      · exact rx_18f D2 m al cc sz sh d s dp rl im r0 r1 r2 r3 r4 r5 r6 r7 r8 r9 r10 r11 r12 r13 r14 r15 fz fs fc fo pc hv hd hs
      · exact rx_18t D2 m al cc sz sh d s dp rl im r0 r1 r2 r3 r4 r5 r6 r7 r8 r9 r10 r11 r12 r13 r14 r15 fz fs fc fo pc hv hd hs
    · have hr : regB d = true ∧ regB s = true := by
        have g : v19 al cc sz w sh d s dp rl im = true := hv
        simp only [v19, Bool.and_eq_true] at g
        exact g.2
      have hd := reg_ix hr.1
      have hs := reg_ix hr.2
      rw [exA_bad (x := ⟨19#64, al, cc, sz, w, sh, d, s, dp, rl, im⟩) (by rw [Bool.and_eq_false_iff]; right; rfl)]
      cases w
      · exact rx_19f D2 m al cc sz sh d s dp rl im r0 r1 r2 r3 r4 r5 r6 r7 r8 r9 r10 r11 r12 r13 r14 r15 fz fs fc fo pc hv hd hs
      · exact rx_19t D2 m al cc sz sh d s dp rl im r0 r1 r2 r3 r4 r5 r6 r7 r8 r9 r10 r11 r12 r13 r14 r15 fz fs fc fo pc hv hd hs
    · have hr : regB d = true ∧ regB s = true := by
        have g : v20 al cc sz w sh d s dp rl im = true := hv
        simp only [v20, Bool.and_eq_true] at g
        exact g.2
      have hd := reg_ix hr.1
      have hs := reg_ix hr.2
      rw [exA_bad (x := ⟨20#64, al, cc, sz, w, sh, d, s, dp, rl, im⟩) (by rw [Bool.and_eq_false_iff]; right; rfl)]
      cases w
      · exact rx_20f D2 m al cc sz sh d s dp rl im r0 r1 r2 r3 r4 r5 r6 r7 r8 r9 r10 r11 r12 r13 r14 r15 fz fs fc fo pc hv hd hs
      · exact rx_20t D2 m al cc sz sh d s dp rl im r0 r1 r2 r3 r4 r5 r6 r7 r8 r9 r10 r11 r12 r13 r14 r15 fz fs fc fo pc hv hd hs
    · have hr : regB d = true ∧ regB s = true := by
        have g : v21 al cc sz w sh d s dp rl im = true := hv
        simp only [v21, Bool.and_eq_true] at g
        exact g.2
      have hd := reg_ix hr.1
      have hs := reg_ix hr.2
      rw [exA_ok (x := ⟨21#64, al, cc, sz, w, sh, d, s, dp, rl, im⟩) hv rfl rfl]
      cases w
      · exact rx_21f D2 m al cc sz sh d s dp rl im r0 r1 r2 r3 r4 r5 r6 r7 r8 r9 r10 r11 r12 r13 r14 r15 fz fs fc fo pc hv hd hs
      · exact rx_21t D2 m al cc sz sh d s dp rl im r0 r1 r2 r3 r4 r5 r6 r7 r8 r9 r10 r11 r12 r13 r14 r15 fz fs fc fo pc hv hd hs
  · cases h
abbrev tb_rExec (m : Nat → Nat) : List (Nat × Sp) := (14, sp_Exec) :: tb_mvd m
theorem C_rExec (G2 : World → Prop) (D2 : VData) (k2 : DataOK Tryd.prog G2 D2) (m : Nat → Nat) : CSound Tryd.prog (and2 (GB m) (and2 (GP m) G2)) (tab (or2 (DB m) (or2 (DP m) D2)) (tb_rExec m)) := (C_mvd G2 D2 k2 m).cons (e_rExec G2 D2 k2 m)
end Go.Proofs.YtppankimieopiaaDoor
