/-
  CpuReckons: the maths, and what the evaluator leaves of it. Conditions: as typed.
-/
import Derived.Test.YtppankimieopiaaDoorCpH
namespace Go.Proofs.YtppankimieopiaaDoor
open Go.El Go.RowKit
set_option linter.unusedVariables false
set_option linter.unusedSimpArgs false

theorem b32 (y : BitVec 32) : (y.setWidth 64).setWidth 32 = y := by
  apply BitVec.eq_of_toNat_eq
  have := y.isLt
  simp
theorem w176 {w : Nat} (a b : BitVec w) (n : Nat) (m : BitVec w) : aluW 176#8 a b n m = b := by simp [aluW]
theorem w16 {w : Nat} (a b : BitVec w) (n : Nat) (m : BitVec w) : aluW 16#8 a b n m = a - b := by simp [aluW]
theorem w128 {w : Nat} (a b : BitVec w) (n : Nat) (m : BitVec w) : aluW 128#8 a b n m = -a := by simp [aluW]
theorem w32 {w : Nat} (a b : BitVec w) (n : Nat) (m : BitVec w) : aluW 32#8 a b n m = a * b := by simp [aluW]
theorem w48 {w : Nat} (a b : BitVec w) (n : Nat) (m : BitVec w) : aluW 48#8 a b n m = if b == 0#w then 0#w else a / b := by simp [aluW]
theorem w144 {w : Nat} (a b : BitVec w) (n : Nat) (m : BitVec w) : aluW 144#8 a b n m = if b == 0#w then a else a % b := by simp [aluW]
theorem aD_t (o : BitVec 8) (a b : BitVec 64) : aluD o true a b = aluW o a b (b % 64#64).toNat (a.sshiftRight (b % 64#64).toNat) := rfl
theorem aD_f (o : BitVec 8) (a b : BitVec 64) : aluD o false a b = (aluW o (a.setWidth 32) (b.setWidth 32) (b % 32#64).toNat ((a.setWidth 32).sshiftRight (b % 32#64).toNat)).setWidth 64 := rfl
theorem mov_t (a b : BitVec 64) : aluD 176#8 true a b = b := by rw [aD_t, w176]
theorem mov_f (a b : BitVec 64) : aluD 176#8 false a b = (b.setWidth 32).setWidth 64 := by rw [aD_f, w176]
theorem mov_any (w : Bool) (a c b : BitVec 64) : aluD 176#8 w a b = aluD 176#8 w c b := by
  cases w
  · rw [mov_f, mov_f]
  · rw [mov_t, mov_t]
theorem mov_alu (op : BitVec 8) (w : Bool) (c a b : BitVec 64) : aluD 176#8 w c (aluD op w a b) = aluD op w a b := by
  cases w
  · rw [mov_f, aD_f, b32]
  · rw [mov_t]
theorem neg_alu (w : Bool) (a b : BitVec 64) : aluD 16#8 w 0#64 a = aluD 128#8 w a b := by
  cases w
  · rw [aD_f, aD_f, w16, w128]
    congr 1
  · rw [aD_t, aD_t, w16, w128, BitVec.zero_sub]
theorem and32 (x : BitVec 64) : x &&& 4294967295#64 = (x.setWidth 32).setWidth 64 := by
  apply BitVec.eq_of_toNat_eq
  rw [BitVec.toNat_and, BitVec.toNat_setWidth, BitVec.toNat_setWidth]
  have := x.isLt
  have e : x.toNat &&& 4294967295 = x.toNat % 4294967296 := Nat.and_two_pow_sub_one_eq_mod x.toNat 32
  have e2 : (4294967295#64).toNat = 4294967295 := rfl
  rw [e2, e]
  omega
theorem mul_alu (w : Bool) (a b : BitVec 64) : tmL w a b = aluD 32#8 w a b := by
  cases w
  · rw [aD_f, w32]
    show _ &&& _ = (a.setWidth 32 * b.setWidth 32).setWidth 64
    rw [and32]
    congr 1
    apply BitVec.eq_of_toNat_eq
    simp [BitVec.toNat_mul, BitVec.toNat_setWidth]
  · rw [aD_t, w32]; rfl
theorem div_ok (w : Bool) (c b : BitVec 64) : (aluD 176#8 w c b == 0#64) = !(ptK w 0#64 b) := by
  cases w
  · rw [mov_f]
    have e : ptK false 0#64 b = !((b.setWidth 32).ule 0#32) := rfl
    rw [e, Bool.not_not, Bool.eq_iff_iff, beq_iff_eq]
    simp only [BitVec.ule, decide_eq_true_eq, ← BitVec.toNat_inj, BitVec.toNat_setWidth, BitVec.toNat_ofNat]
    omega
  · rw [mov_t]
    have e : ptK true 0#64 b = !(b.ule 0#64) := rfl
    rw [e, Bool.not_not, Bool.eq_iff_iff, beq_iff_eq]
    simp only [BitVec.ule, decide_eq_true_eq, ← BitVec.toNat_inj, BitVec.toNat_ofNat]
    omega
theorem dQ0 (l y : BitVec 32) : dQ 0#32 l y = l / y := by
  unfold dQ
  have e : ((0#32).setWidth 64 <<< 32 ||| l.setWidth 64) = l.setWidth 64 := by simp
  rw [e]
  apply BitVec.eq_of_toNat_eq
  have h := l.isLt
  have h3 : l.toNat / y.toNat ≤ l.toNat := Nat.div_le_self _ _
  simp only [BitVec.toNat_setWidth, BitVec.toNat_udiv]
  have hy := y.isLt
  rw [Nat.mod_eq_of_lt (show l.toNat < 2 ^ 64 by omega), Nat.mod_eq_of_lt (show y.toNat < 2 ^ 64 by omega), Nat.mod_eq_of_lt (by omega)]
theorem dR0 (l y : BitVec 32) : dR 0#32 l y = l % y := by
  unfold dR
  have e : ((0#32).setWidth 64 <<< 32 ||| l.setWidth 64) = l.setWidth 64 := by simp
  rw [e]
  apply BitVec.eq_of_toNat_eq
  have h := l.isLt
  have h3 : l.toNat % y.toNat ≤ l.toNat := Nat.mod_le _ _
  simp only [BitVec.toNat_setWidth, BitVec.toNat_umod]
  have hy := y.isLt
  rw [Nat.mod_eq_of_lt (show l.toNat < 2 ^ 64 by omega), Nat.mod_eq_of_lt (show y.toNat < 2 ^ 64 by omega), Nat.mod_eq_of_lt (by omega)]
theorem ne0 {w : Nat} {b : BitVec w} (h : (!(b.ule 0#w)) = true) : (b == 0#w) = false := by
  rw [beq_eq_false_iff_ne]
  rintro rfl
  simp [BitVec.ule] at h
theorem div_q (w : Bool) (a b : BitVec 64) (h : ptK w 0#64 b = true) : ptQ w 0#64 a b = aluD 48#8 w a b := by
  cases w
  · have hb := ne0 (b := b.setWidth 32) h
    have e : ptQ false 0#64 a b = (dQ 0#32 (a.setWidth 32) (b.setWidth 32)).setWidth 64 := rfl
    rw [e, aD_f, w48, hb, dQ0]; rfl
  · have hb := ne0 (b := b) h
    have e : ptQ true 0#64 a b = a / b := rfl
    rw [e, aD_t, w48, hb]; rfl
theorem div_r (w : Bool) (a b : BitVec 64) (h : ptK w 0#64 b = true) : ptR w 0#64 a b = aluD 144#8 w a b := by
  cases w
  · have hb := ne0 (b := b.setWidth 32) h
    have e : ptR false 0#64 a b = (dR 0#32 (a.setWidth 32) (b.setWidth 32)).setWidth 64 := rfl
    rw [e, aD_f, w144, hb, dR0]; rfl
  · have hb := ne0 (b := b) h
    have e : ptR true 0#64 a b = a % b := rfl
    rw [e, aD_t, w144, hb]; rfl

theorem shB_mod (w : Bool) (b : BitVec 64) : shB w (b % 32#64) = true := by
  have h : (b % 32#64).toNat < 32 := by
    rw [BitVec.toNat_umod]; exact Nat.mod_lt _ (by decide)
  have hi : (b % 32#64).toInt = ((b % 32#64).toNat : Int) := by rw [BitVec.toInt_eq_toNat_cond]; split <;> omega
  have e0 : (0#64).toInt = 0 := rfl
  have e1 : (32#64).toInt = 32 := rfl
  have h1 : (0#64).sle (b % 32#64) = true := by rw [BitVec.sle_iff_toInt_le, e0, hi]; omega
  have h2 : (b % 32#64).slt 32#64 = true := by rw [BitVec.slt_iff_toInt_lt, e1, hi]; omega
  rw [shB, h1, h2]; rfl
theorem qsh4 (w : Bool) (b : BitVec 64) : qld 11#64 4#64 0#64 0#64 w false 0#64 0#64 0#32 0#32 (b % 32#64) = true := by
  show q11 4#64 0#64 0#64 w false 0#64 0#64 0#32 0#32 (b % 32#64) = true
  cases w <;> simp [q11, shB_mod] <;> decide
theorem qsh5 (w : Bool) (b : BitVec 64) : qld 11#64 5#64 0#64 0#64 w false 0#64 0#64 0#32 0#32 (b % 32#64) = true := by
  show q11 5#64 0#64 0#64 w false 0#64 0#64 0#32 0#32 (b % 32#64) = true
  cases w <;> simp [q11, shB_mod] <;> decide
theorem qsh7 (w : Bool) (b : BitVec 64) : qld 11#64 7#64 0#64 0#64 w false 0#64 0#64 0#32 0#32 (b % 32#64) = true := by
  show q11 7#64 0#64 0#64 w false 0#64 0#64 0#32 0#32 (b % 32#64) = true
  cases w <;> simp [q11, shB_mod] <;> decide
theorem dz0 : dzV 0#64 = 0#8 := rfl
theorem dz1 : dzV 1#64 = 64#8 := rfl
theorem dz4 : dzV 4#64 = 80#8 := rfl
theorem dz5 : dzV 5#64 = 16#8 := rfl
theorem dz6 : dzV 6#64 = 160#8 := rfl
theorem dz7 : dzV 7#64 = 16#8 := rfl
theorem sf4 : sfV 4#64 = 96#8 := rfl
theorem sf5 : sfV 5#64 = 112#8 := rfl
theorem sf7 : sfV 7#64 = 192#8 := rfl
theorem absT {p q : Prop} (h : ¬ p) : p → q := fun e => absurd e h
theorem dropT {p q : Prop} (h : p) (k : q) : p → q := fun _ => k
theorem nth3 (a b c d r4 r5 r6 r7 r8 r9 r10 r11 r12 r13 r14 r15 : BitVec 64) : nthW [a, b, c, d, r4, r5, r6, r7, r8, r9, r10, r11, r12, r13, r14, r15] (3#64).toNat = d := rfl
theorem nth3' (a b c d r4 r5 r6 r7 r8 r9 r10 r11 r12 r13 r14 r15 : BitVec 64) : nthW [a, b, c, d, r4, r5, r6, r7, r8, r9, r10, r11, r12, r13, r14, r15] 3 = d := rfl
theorem div_qq {w : Bool} {a b : BitVec 64} (h : ptK w 0#64 b = true) : ((if ptK w 0#64 b = true then ptQ w 0#64 a b else 0#64) != aluD 48#8 w a b) = false := by
  rw [if_pos h, div_q w a b h]; simp
theorem div_rr {w : Bool} {a b : BitVec 64} (h : ptK w 0#64 b = true) : ((if ptK w 0#64 b = true then ptR w 0#64 a b else 0#64) != aluD 144#8 w a b) = false := by
  rw [if_pos h, div_r w a b h]; simp
theorem C_ui (m : Nat → Nat) : CSound Tryd.prog (GU m) (tabI Tryd.prog (DU m) (tb_exsh m) FU 6) := CSound.tabI (C_exsh m) (by kernel_rfl) fs_firewalllaw12_done 6
set_option maxRecDepth 100000 in
set_option maxHeartbeats 8000000 in
theorem CpuReckons_main (m : Nat → Nat) (r0 r1 r2 r3 r4 r5 r6 r7 r8 r9 r10 r11 r12 r13 r14 r15 : BitVec 64) (fz fs fc fo : Bool) (pc a b : BitVec 64) : F Tryd.prog (tabI Tryd.prog (DU m) (tb_exsh m) FU 6) Tryd.f4 [.agg [.b64 false r0, .b64 false r1, .b64 false r2, .b64 false r3, .b64 false r4, .b64 false r5, .b64 false r6, .b64 false r7, .b64 false r8, .b64 false r9, .b64 false r10, .b64 false r11, .b64 false r12, .b64 false r13, .b64 false r14, .b64 false r15, .bool fz, .bool fs, .bool fc, .bool fo, .b64 false pc], .one (.b64 false a), .one (.b64 false b)] (fun r => r = .one (.bool true)) := by
  repeat' (first
    | (with_reducible apply Given.mk; first | exact absT (by decide +kernel) | refine dropT (by decide +kernel) ?_ | (intro h; (try simp only [nth3, nth3', div_ok, Bool.not_not, Bool.not_eq_true', Bool.not_eq_false'] at h); (try exact no2 h (by with_reducible assumption)); (try exact no2 (by with_reducible assumption) h); (try exact no2 h (div_qq (by with_reducible assumption))); (try exact no2 h (div_rr (by with_reducible assumption))); (try (exfalso; revert h; simp [nthW, qsh4, qsh5, qsh7, dz0, dz1, dz4, dz5, dz6, dz7, sf4, sf5, sf7, mov_alu, neg_alu false a b, neg_alu true a b, mul_alu, mov_any _ 0#64 a b]; done))))
    | ((conv => whnf); first | with_reducible apply Both.mk | refine LoopP.times 11 ?_))
  all_goals first
    | (with_reducible apply Ob.mk; decide +kernel)
    | (with_reducible apply Ob.mk; first | with_reducible exact qsh4 _ _ | with_reducible exact qsh5 _ _ | with_reducible exact qsh7 _ _)
    | ((conv => whnf); exact ⟨rfl⟩)
end Go.Proofs.YtppankimieopiaaDoor
