/-
  Which conditions of the machine hold: what both Taken answer, by the evaluator. Conditions: none.
-/
import Derived.Test.YtppankimieopiaaDoorCpX
namespace Go.Proofs.YtppankimieopiaaDoor
open Go.Ep Go.RowKit
set_option linter.unusedVariables false
set_option linter.unusedSimpArgs false

def tk (c : BitVec 64) (z s k o : Bool) : Bool :=
  if c == 2#64 then k else if c == 3#64 then !k else if c == 4#64 then z else if c == 5#64 then !z else if c == 6#64 then k || z else if c == 7#64 then !(k || z)
  else if c == 12#64 then s != o else if c == 13#64 then !(s != o) else if c == 14#64 then (s != o) || z else if c == 15#64 then !((s != o) || z) else false

theorem C_bridge (G2 : World → Prop) (D2 : VData) (k2 : DataOK Tryd.prog G2 D2) (m : Nat → Nat) : CSound Tryd.prog (and2 (GB m) (and2 (GP m) G2)) (tab (or2 (DB m) (or2 (DP m) D2)) (tb_codec_Valid m)) := C_codec_Valid _ _ (ok2 (DP_ok m) k2) m
abbrev tb_bridge (m : Nat → Nat) : List (Nat × Sp) := tb_codec_Valid m

def sp_cpu_Taken : Sp
  | [.one (.b64 true c), .agg [.b64 false r0, .b64 false r1, .b64 false r2, .b64 false r3, .b64 false r4, .b64 false r5, .b64 false r6, .b64 false r7, .b64 false r8, .b64 false r9, .b64 false r10, .b64 false r11, .b64 false r12, .b64 false r13, .b64 false r14, .b64 false r15, .bool fz, .bool fs, .bool fc, .bool fo, .b64 false pc]] => some (Cond.t, .one (.bool (tk c fz fs fc fo)))
  | _ => none
theorem fs_cpu_Taken : FsOK Tryd.prog [(26, Tryd.f26)] := FsOK.cons Tryd.func26 (by kernel_rfl) (by kernel_rfl) (FsOK.nil)
set_option maxRecDepth 100000 in
set_option maxHeartbeats 4000000 in
theorem e_cpu_Taken (G2 : World → Prop) (D2 : VData) (k2 : DataOK Tryd.prog G2 D2) (m : Nat → Nat) : EntryOK Tryd.prog (and2 (GB m) (and2 (GP m) G2)) 26 sp_cpu_Taken := by
  refine .of_F (CSound.tabI (C_bridge G2 D2 k2 m) (by kernel_rfl) fs_cpu_Taken 2) (by kernel_rfl) Tryd.func26 (by kernel_rfl) (by kernel_rfl) (fun args c v h hc => ?_)
  unfold sp_cpu_Taken at h
  split at h
  · rename_i c r0 r1 r2 r3 r4 r5 r6 r7 r8 r9 r10 r11 r12 r13 r14 r15 fz fs fc fo pc; cases h
    refine ⟨rfl, rfl, ?_⟩
    by_cases h2 : c = 2#64
    · subst h2
      repeat' (first
        | (with_reducible apply Given.mk; intro h; (try simp only [eq_self, Bool.or_false, Bool.false_or, Bool.or_self, Bool.true_eq_false, Bool.false_eq_true, reduceCtorEq] at h); (try exact absurd h (by decide)); (try exact no2 h (by with_reducible assumption)); (try exact no2 (by with_reducible assumption) h))
        | ((conv => whnf); with_reducible apply Both.mk))
      all_goals first
        | (with_reducible apply Ob.mk; kernel_rfl)
        | (with_reducible apply Ob.mk; decide)
        | ((conv => whnf); refine ⟨?_⟩; first | with_reducible rfl | rfl | (refine congrArg (fun v => AV.one (.bool v)) ?_; first | (simp_all [tk]; done) | (cases fz <;> cases fs <;> cases fc <;> cases fo <;> simp_all [tk]; done)))
    by_cases h3 : c = 3#64
    · subst h3
      repeat' (first
        | (with_reducible apply Given.mk; intro h; (try simp only [eq_self, Bool.or_false, Bool.false_or, Bool.or_self, Bool.true_eq_false, Bool.false_eq_true, reduceCtorEq] at h); (try exact absurd h (by decide)); (try exact no2 h (by with_reducible assumption)); (try exact no2 (by with_reducible assumption) h))
        | ((conv => whnf); with_reducible apply Both.mk))
      all_goals first
        | (with_reducible apply Ob.mk; kernel_rfl)
        | (with_reducible apply Ob.mk; decide)
        | ((conv => whnf); refine ⟨?_⟩; first | with_reducible rfl | rfl | (refine congrArg (fun v => AV.one (.bool v)) ?_; first | (simp_all [tk]; done) | (cases fz <;> cases fs <;> cases fc <;> cases fo <;> simp_all [tk]; done)))
    by_cases h4 : c = 4#64
    · subst h4
      repeat' (first
        | (with_reducible apply Given.mk; intro h; (try simp only [eq_self, Bool.or_false, Bool.false_or, Bool.or_self, Bool.true_eq_false, Bool.false_eq_true, reduceCtorEq] at h); (try exact absurd h (by decide)); (try exact no2 h (by with_reducible assumption)); (try exact no2 (by with_reducible assumption) h))
        | ((conv => whnf); with_reducible apply Both.mk))
      all_goals first
        | (with_reducible apply Ob.mk; kernel_rfl)
        | (with_reducible apply Ob.mk; decide)
        | ((conv => whnf); refine ⟨?_⟩; first | with_reducible rfl | rfl | (refine congrArg (fun v => AV.one (.bool v)) ?_; first | (simp_all [tk]; done) | (cases fz <;> cases fs <;> cases fc <;> cases fo <;> simp_all [tk]; done)))
    by_cases h5 : c = 5#64
    · subst h5
      repeat' (first
        | (with_reducible apply Given.mk; intro h; (try simp only [eq_self, Bool.or_false, Bool.false_or, Bool.or_self, Bool.true_eq_false, Bool.false_eq_true, reduceCtorEq] at h); (try exact absurd h (by decide)); (try exact no2 h (by with_reducible assumption)); (try exact no2 (by with_reducible assumption) h))
        | ((conv => whnf); with_reducible apply Both.mk))
      all_goals first
        | (with_reducible apply Ob.mk; kernel_rfl)
        | (with_reducible apply Ob.mk; decide)
        | ((conv => whnf); refine ⟨?_⟩; first | with_reducible rfl | rfl | (refine congrArg (fun v => AV.one (.bool v)) ?_; first | (simp_all [tk]; done) | (cases fz <;> cases fs <;> cases fc <;> cases fo <;> simp_all [tk]; done)))
    by_cases h6 : c = 6#64
    · subst h6
      repeat' (first
        | (with_reducible apply Given.mk; intro h; (try simp only [eq_self, Bool.or_false, Bool.false_or, Bool.or_self, Bool.true_eq_false, Bool.false_eq_true, reduceCtorEq] at h); (try exact absurd h (by decide)); (try exact no2 h (by with_reducible assumption)); (try exact no2 (by with_reducible assumption) h))
        | ((conv => whnf); with_reducible apply Both.mk))
      all_goals first
        | (with_reducible apply Ob.mk; kernel_rfl)
        | (with_reducible apply Ob.mk; decide)
        | ((conv => whnf); refine ⟨?_⟩; first | with_reducible rfl | rfl | (refine congrArg (fun v => AV.one (.bool v)) ?_; first | (simp_all [tk]; done) | (cases fz <;> cases fs <;> cases fc <;> cases fo <;> simp_all [tk]; done)))
    by_cases h7 : c = 7#64
    · subst h7
      repeat' (first
        | (with_reducible apply Given.mk; intro h; (try simp only [eq_self, Bool.or_false, Bool.false_or, Bool.or_self, Bool.true_eq_false, Bool.false_eq_true, reduceCtorEq] at h); (try exact absurd h (by decide)); (try exact no2 h (by with_reducible assumption)); (try exact no2 (by with_reducible assumption) h))
        | ((conv => whnf); with_reducible apply Both.mk))
      all_goals first
        | (with_reducible apply Ob.mk; kernel_rfl)
        | (with_reducible apply Ob.mk; decide)
        | ((conv => whnf); refine ⟨?_⟩; first | with_reducible rfl | rfl | (refine congrArg (fun v => AV.one (.bool v)) ?_; first | (simp_all [tk]; done) | (cases fz <;> cases fs <;> cases fc <;> cases fo <;> simp_all [tk]; done)))
    by_cases h12 : c = 12#64
    · subst h12
      repeat' (first
        | (with_reducible apply Given.mk; intro h; (try simp only [eq_self, Bool.or_false, Bool.false_or, Bool.or_self, Bool.true_eq_false, Bool.false_eq_true, reduceCtorEq] at h); (try exact absurd h (by decide)); (try exact no2 h (by with_reducible assumption)); (try exact no2 (by with_reducible assumption) h))
        | ((conv => whnf); with_reducible apply Both.mk))
      all_goals first
        | (with_reducible apply Ob.mk; kernel_rfl)
        | (with_reducible apply Ob.mk; decide)
        | ((conv => whnf); refine ⟨?_⟩; first | with_reducible rfl | rfl | (refine congrArg (fun v => AV.one (.bool v)) ?_; first | (simp_all [tk]; done) | (cases fz <;> cases fs <;> cases fc <;> cases fo <;> simp_all [tk]; done)))
    by_cases h13 : c = 13#64
    · subst h13
      repeat' (first
        | (with_reducible apply Given.mk; intro h; (try simp only [eq_self, Bool.or_false, Bool.false_or, Bool.or_self, Bool.true_eq_false, Bool.false_eq_true, reduceCtorEq] at h); (try exact absurd h (by decide)); (try exact no2 h (by with_reducible assumption)); (try exact no2 (by with_reducible assumption) h))
        | ((conv => whnf); with_reducible apply Both.mk))
      all_goals first
        | (with_reducible apply Ob.mk; kernel_rfl)
        | (with_reducible apply Ob.mk; decide)
        | ((conv => whnf); refine ⟨?_⟩; first | with_reducible rfl | rfl | (refine congrArg (fun v => AV.one (.bool v)) ?_; first | (simp_all [tk]; done) | (cases fz <;> cases fs <;> cases fc <;> cases fo <;> simp_all [tk]; done)))
    by_cases h14 : c = 14#64
    · subst h14
      repeat' (first
        | (with_reducible apply Given.mk; intro h; (try simp only [eq_self, Bool.or_false, Bool.false_or, Bool.or_self, Bool.true_eq_false, Bool.false_eq_true, reduceCtorEq] at h); (try exact absurd h (by decide)); (try exact no2 h (by with_reducible assumption)); (try exact no2 (by with_reducible assumption) h))
        | ((conv => whnf); with_reducible apply Both.mk))
      all_goals first
        | (with_reducible apply Ob.mk; kernel_rfl)
        | (with_reducible apply Ob.mk; decide)
        | ((conv => whnf); refine ⟨?_⟩; first | with_reducible rfl | rfl | (refine congrArg (fun v => AV.one (.bool v)) ?_; first | (simp_all [tk]; done) | (cases fz <;> cases fs <;> cases fc <;> cases fo <;> simp_all [tk]; done)))
    by_cases h15 : c = 15#64
    · subst h15
      repeat' (first
        | (with_reducible apply Given.mk; intro h; (try simp only [eq_self, Bool.or_false, Bool.false_or, Bool.or_self, Bool.true_eq_false, Bool.false_eq_true, reduceCtorEq] at h); (try exact absurd h (by decide)); (try exact no2 h (by with_reducible assumption)); (try exact no2 (by with_reducible assumption) h))
        | ((conv => whnf); with_reducible apply Both.mk))
      all_goals first
        | (with_reducible apply Ob.mk; kernel_rfl)
        | (with_reducible apply Ob.mk; decide)
        | ((conv => whnf); refine ⟨?_⟩; first | with_reducible rfl | rfl | (refine congrArg (fun v => AV.one (.bool v)) ?_; first | (simp_all [tk]; done) | (cases fz <;> cases fs <;> cases fc <;> cases fo <;> simp_all [tk]; done)))
    have n2 : (c == 2#64) = false := by simpa using h2
    have n3 : (c == 3#64) = false := by simpa using h3
    have n4 : (c == 4#64) = false := by simpa using h4
    have n5 : (c == 5#64) = false := by simpa using h5
    have n6 : (c == 6#64) = false := by simpa using h6
    have n7 : (c == 7#64) = false := by simpa using h7
    have n12 : (c == 12#64) = false := by simpa using h12
    have n13 : (c == 13#64) = false := by simpa using h13
    have n14 : (c == 14#64) = false := by simpa using h14
    have n15 : (c == 15#64) = false := by simpa using h15
    · repeat' (first
        | (with_reducible apply Given.mk; intro h; (try simp only [n2, n3, n4, n5, n6, n7, n12, n13, n14, n15, Bool.or_false, Bool.false_or, Bool.or_self, Bool.true_eq_false, Bool.false_eq_true, reduceCtorEq] at h); (try exact absurd h (by decide)); (try exact no2 h (by with_reducible assumption)); (try exact no2 (by with_reducible assumption) h))
        | ((conv => whnf); with_reducible apply Both.mk))
      all_goals first
        | (with_reducible apply Ob.mk; kernel_rfl)
        | (with_reducible apply Ob.mk; decide)
        | ((conv => whnf); refine ⟨?_⟩; first | with_reducible rfl | rfl | (refine congrArg (fun v => AV.one (.bool v)) ?_; first | (simp_all [tk]; done) | (cases fz <;> cases fs <;> cases fc <;> cases fo <;> simp_all [tk]; done)))
  · cases h
abbrev tb_cpu_Taken (m : Nat → Nat) : List (Nat × Sp) := (26, sp_cpu_Taken) :: tb_bridge m
theorem C_cpu_Taken (G2 : World → Prop) (D2 : VData) (k2 : DataOK Tryd.prog G2 D2) (m : Nat → Nat) : CSound Tryd.prog (and2 (GB m) (and2 (GP m) G2)) (tab (or2 (DB m) (or2 (DP m) D2)) (tb_cpu_Taken m)) := (C_bridge G2 D2 k2 m).cons (e_cpu_Taken G2 D2 k2 m)

def sp_firewallref12_Taken : Sp
  | [.one (.b64 true c), .agg [.b64 false r0, .b64 false r1, .b64 false r2, .b64 false r3, .b64 false r4, .b64 false r5, .b64 false r6, .b64 false r7, .b64 false r8, .b64 false r9, .b64 false r10, .b64 false r11, .b64 false r12, .b64 false r13, .b64 false r14, .b64 false r15, .bool fz, .bool fs, .bool fc, .bool fo, .b64 false pc]] => some (Cond.t, .one (.bool (tk c fz fs fc fo)))
  | _ => none
set_option maxRecDepth 100000 in
set_option maxHeartbeats 4000000 in
theorem e_firewallref12_Taken (G2 : World → Prop) (D2 : VData) (k2 : DataOK Tryd.prog G2 D2) (m : Nat → Nat) : EntryOK Tryd.prog (and2 (GB m) (and2 (GP m) G2)) 27 sp_firewallref12_Taken := by
  refine .of_F (C_cpu_Taken G2 D2 k2 m) (by kernel_rfl) Tryd.func27 (by kernel_rfl) (by kernel_rfl) (fun args c v h hc => ?_)
  unfold sp_firewallref12_Taken at h
  split at h
  · rename_i c r0 r1 r2 r3 r4 r5 r6 r7 r8 r9 r10 r11 r12 r13 r14 r15 fz fs fc fo pc; cases h
    refine ⟨rfl, rfl, ?_⟩
    by_cases h2 : c = 2#64
    · subst h2
      repeat' (first
        | (with_reducible apply Given.mk; intro h; (try simp only [eq_self, Bool.or_false, Bool.false_or, Bool.or_self, Bool.true_eq_false, Bool.false_eq_true, reduceCtorEq] at h); (try exact absurd h (by decide)); (try exact no2 h (by with_reducible assumption)); (try exact no2 (by with_reducible assumption) h))
        | ((conv => whnf); with_reducible apply Both.mk))
      all_goals first
        | (with_reducible apply Ob.mk; kernel_rfl)
        | (with_reducible apply Ob.mk; decide)
        | ((conv => whnf); refine ⟨?_⟩; first | with_reducible rfl | rfl | (refine congrArg (fun v => AV.one (.bool v)) ?_; first | (simp_all [tk]; done) | (cases fz <;> cases fs <;> cases fc <;> cases fo <;> simp_all [tk]; done)))
    by_cases h3 : c = 3#64
    · subst h3
      repeat' (first
        | (with_reducible apply Given.mk; intro h; (try simp only [eq_self, Bool.or_false, Bool.false_or, Bool.or_self, Bool.true_eq_false, Bool.false_eq_true, reduceCtorEq] at h); (try exact absurd h (by decide)); (try exact no2 h (by with_reducible assumption)); (try exact no2 (by with_reducible assumption) h))
        | ((conv => whnf); with_reducible apply Both.mk))
      all_goals first
        | (with_reducible apply Ob.mk; kernel_rfl)
        | (with_reducible apply Ob.mk; decide)
        | ((conv => whnf); refine ⟨?_⟩; first | with_reducible rfl | rfl | (refine congrArg (fun v => AV.one (.bool v)) ?_; first | (simp_all [tk]; done) | (cases fz <;> cases fs <;> cases fc <;> cases fo <;> simp_all [tk]; done)))
    by_cases h4 : c = 4#64
    · subst h4
      repeat' (first
        | (with_reducible apply Given.mk; intro h; (try simp only [eq_self, Bool.or_false, Bool.false_or, Bool.or_self, Bool.true_eq_false, Bool.false_eq_true, reduceCtorEq] at h); (try exact absurd h (by decide)); (try exact no2 h (by with_reducible assumption)); (try exact no2 (by with_reducible assumption) h))
        | ((conv => whnf); with_reducible apply Both.mk))
      all_goals first
        | (with_reducible apply Ob.mk; kernel_rfl)
        | (with_reducible apply Ob.mk; decide)
        | ((conv => whnf); refine ⟨?_⟩; first | with_reducible rfl | rfl | (refine congrArg (fun v => AV.one (.bool v)) ?_; first | (simp_all [tk]; done) | (cases fz <;> cases fs <;> cases fc <;> cases fo <;> simp_all [tk]; done)))
    by_cases h5 : c = 5#64
    · subst h5
      repeat' (first
        | (with_reducible apply Given.mk; intro h; (try simp only [eq_self, Bool.or_false, Bool.false_or, Bool.or_self, Bool.true_eq_false, Bool.false_eq_true, reduceCtorEq] at h); (try exact absurd h (by decide)); (try exact no2 h (by with_reducible assumption)); (try exact no2 (by with_reducible assumption) h))
        | ((conv => whnf); with_reducible apply Both.mk))
      all_goals first
        | (with_reducible apply Ob.mk; kernel_rfl)
        | (with_reducible apply Ob.mk; decide)
        | ((conv => whnf); refine ⟨?_⟩; first | with_reducible rfl | rfl | (refine congrArg (fun v => AV.one (.bool v)) ?_; first | (simp_all [tk]; done) | (cases fz <;> cases fs <;> cases fc <;> cases fo <;> simp_all [tk]; done)))
    by_cases h6 : c = 6#64
    · subst h6
      repeat' (first
        | (with_reducible apply Given.mk; intro h; (try simp only [eq_self, Bool.or_false, Bool.false_or, Bool.or_self, Bool.true_eq_false, Bool.false_eq_true, reduceCtorEq] at h); (try exact absurd h (by decide)); (try exact no2 h (by with_reducible assumption)); (try exact no2 (by with_reducible assumption) h))
        | ((conv => whnf); with_reducible apply Both.mk))
      all_goals first
        | (with_reducible apply Ob.mk; kernel_rfl)
        | (with_reducible apply Ob.mk; decide)
        | ((conv => whnf); refine ⟨?_⟩; first | with_reducible rfl | rfl | (refine congrArg (fun v => AV.one (.bool v)) ?_; first | (simp_all [tk]; done) | (cases fz <;> cases fs <;> cases fc <;> cases fo <;> simp_all [tk]; done)))
    by_cases h7 : c = 7#64
    · subst h7
      repeat' (first
        | (with_reducible apply Given.mk; intro h; (try simp only [eq_self, Bool.or_false, Bool.false_or, Bool.or_self, Bool.true_eq_false, Bool.false_eq_true, reduceCtorEq] at h); (try exact absurd h (by decide)); (try exact no2 h (by with_reducible assumption)); (try exact no2 (by with_reducible assumption) h))
        | ((conv => whnf); with_reducible apply Both.mk))
      all_goals first
        | (with_reducible apply Ob.mk; kernel_rfl)
        | (with_reducible apply Ob.mk; decide)
        | ((conv => whnf); refine ⟨?_⟩; first | with_reducible rfl | rfl | (refine congrArg (fun v => AV.one (.bool v)) ?_; first | (simp_all [tk]; done) | (cases fz <;> cases fs <;> cases fc <;> cases fo <;> simp_all [tk]; done)))
    by_cases h12 : c = 12#64
    · subst h12
      repeat' (first
        | (with_reducible apply Given.mk; intro h; (try simp only [eq_self, Bool.or_false, Bool.false_or, Bool.or_self, Bool.true_eq_false, Bool.false_eq_true, reduceCtorEq] at h); (try exact absurd h (by decide)); (try exact no2 h (by with_reducible assumption)); (try exact no2 (by with_reducible assumption) h))
        | ((conv => whnf); with_reducible apply Both.mk))
      all_goals first
        | (with_reducible apply Ob.mk; kernel_rfl)
        | (with_reducible apply Ob.mk; decide)
        | ((conv => whnf); refine ⟨?_⟩; first | with_reducible rfl | rfl | (refine congrArg (fun v => AV.one (.bool v)) ?_; first | (simp_all [tk]; done) | (cases fz <;> cases fs <;> cases fc <;> cases fo <;> simp_all [tk]; done)))
    by_cases h13 : c = 13#64
    · subst h13
      repeat' (first
        | (with_reducible apply Given.mk; intro h; (try simp only [eq_self, Bool.or_false, Bool.false_or, Bool.or_self, Bool.true_eq_false, Bool.false_eq_true, reduceCtorEq] at h); (try exact absurd h (by decide)); (try exact no2 h (by with_reducible assumption)); (try exact no2 (by with_reducible assumption) h))
        | ((conv => whnf); with_reducible apply Both.mk))
      all_goals first
        | (with_reducible apply Ob.mk; kernel_rfl)
        | (with_reducible apply Ob.mk; decide)
        | ((conv => whnf); refine ⟨?_⟩; first | with_reducible rfl | rfl | (refine congrArg (fun v => AV.one (.bool v)) ?_; first | (simp_all [tk]; done) | (cases fz <;> cases fs <;> cases fc <;> cases fo <;> simp_all [tk]; done)))
    by_cases h14 : c = 14#64
    · subst h14
      repeat' (first
        | (with_reducible apply Given.mk; intro h; (try simp only [eq_self, Bool.or_false, Bool.false_or, Bool.or_self, Bool.true_eq_false, Bool.false_eq_true, reduceCtorEq] at h); (try exact absurd h (by decide)); (try exact no2 h (by with_reducible assumption)); (try exact no2 (by with_reducible assumption) h))
        | ((conv => whnf); with_reducible apply Both.mk))
      all_goals first
        | (with_reducible apply Ob.mk; kernel_rfl)
        | (with_reducible apply Ob.mk; decide)
        | ((conv => whnf); refine ⟨?_⟩; first | with_reducible rfl | rfl | (refine congrArg (fun v => AV.one (.bool v)) ?_; first | (simp_all [tk]; done) | (cases fz <;> cases fs <;> cases fc <;> cases fo <;> simp_all [tk]; done)))
    by_cases h15 : c = 15#64
    · subst h15
      repeat' (first
        | (with_reducible apply Given.mk; intro h; (try simp only [eq_self, Bool.or_false, Bool.false_or, Bool.or_self, Bool.true_eq_false, Bool.false_eq_true, reduceCtorEq] at h); (try exact absurd h (by decide)); (try exact no2 h (by with_reducible assumption)); (try exact no2 (by with_reducible assumption) h))
        | ((conv => whnf); with_reducible apply Both.mk))
      all_goals first
        | (with_reducible apply Ob.mk; kernel_rfl)
        | (with_reducible apply Ob.mk; decide)
        | ((conv => whnf); refine ⟨?_⟩; first | with_reducible rfl | rfl | (refine congrArg (fun v => AV.one (.bool v)) ?_; first | (simp_all [tk]; done) | (cases fz <;> cases fs <;> cases fc <;> cases fo <;> simp_all [tk]; done)))
    have n2 : (c == 2#64) = false := by simpa using h2
    have n3 : (c == 3#64) = false := by simpa using h3
    have n4 : (c == 4#64) = false := by simpa using h4
    have n5 : (c == 5#64) = false := by simpa using h5
    have n6 : (c == 6#64) = false := by simpa using h6
    have n7 : (c == 7#64) = false := by simpa using h7
    have n12 : (c == 12#64) = false := by simpa using h12
    have n13 : (c == 13#64) = false := by simpa using h13
    have n14 : (c == 14#64) = false := by simpa using h14
    have n15 : (c == 15#64) = false := by simpa using h15
    · repeat' (first
        | (with_reducible apply Given.mk; intro h; (try simp only [n2, n3, n4, n5, n6, n7, n12, n13, n14, n15, Bool.or_false, Bool.false_or, Bool.or_self, Bool.true_eq_false, Bool.false_eq_true, reduceCtorEq] at h); (try exact absurd h (by decide)); (try exact no2 h (by with_reducible assumption)); (try exact no2 (by with_reducible assumption) h))
        | ((conv => whnf); with_reducible apply Both.mk))
      all_goals first
        | (with_reducible apply Ob.mk; kernel_rfl)
        | (with_reducible apply Ob.mk; decide)
        | ((conv => whnf); refine ⟨?_⟩; first | with_reducible rfl | rfl | (refine congrArg (fun v => AV.one (.bool v)) ?_; first | (simp_all [tk]; done) | (cases fz <;> cases fs <;> cases fc <;> cases fo <;> simp_all [tk]; done)))
  · cases h
abbrev tb_firewallref12_Taken (m : Nat → Nat) : List (Nat × Sp) := (27, sp_firewallref12_Taken) :: tb_cpu_Taken m
theorem C_firewallref12_Taken (G2 : World → Prop) (D2 : VData) (k2 : DataOK Tryd.prog G2 D2) (m : Nat → Nat) : CSound Tryd.prog (and2 (GB m) (and2 (GP m) G2)) (tab (or2 (DB m) (or2 (DP m) D2)) (tb_firewallref12_Taken m)) := (C_cpu_Taken G2 D2 k2 m).cons (e_firewallref12_Taken G2 D2 k2 m)

end Go.Proofs.YtppankimieopiaaDoor

