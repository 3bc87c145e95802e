/-
  The document's arithmetic and its flags: contracts. Conditions: as typed.
-/
import Derived.Test.YtppankimieopiaaDoorGa
namespace Go.Proofs.YtppankimieopiaaDoor
open Go.Ep Go.RowKit
set_option linter.unusedVariables false
set_option linter.unusedSimpArgs false

def m64 (v : BitVec 64) : Bool := (9223372036854775808#64).ule v
def m32 (v : BitVec 64) : Bool := (2147483648#64).ule v
theorem n63 : (63#64 : BitVec 64).toNat < 64 := by decide
theorem n31 : (31#64 : BitVec 64).toNat < 64 := by decide
def sp_mi : Sp
  | [.one (.b64 false v), .one (.b64 true n)] => match n.toNat with
    | 64 => some (Cond.t, .one (.bool (m64 v)))
    | 32 => some (Cond.t, .one (.bool (m32 v)))
    | _ => none
  | _ => none
set_option maxRecDepth 100000 in
set_option maxHeartbeats 4000000 in
theorem e_mi (G2 : World → Prop) (D2 : VData) (k2 : DataOK Tryd.prog G2 D2) (m : Nat → Nat) : EntryOK Tryd.prog (and2 (GB m) (and2 (GP m) G2)) 80 sp_mi := by
  refine .of_F (C_Lo2 G2 D2 k2 m) (by kernel_rfl) Tryd.func80 (by kernel_rfl) (by kernel_rfl) (fun args c v h hc => ?_)
  unfold sp_mi at h
  split at h
  · rename_i v n
    split at h
    · rename_i e
      obtain rfl : n = 64#64 := BitVec.eq_of_toNat_eq e
      cases h
      refine ⟨rfl, rfl, ?_⟩
      repeat' (first
        | (with_reducible apply Given.mk; intro h; (try exact absurd h (by decide)))
        | ((conv => whnf); with_reducible apply Both.mk))
      all_goals first
        | (with_reducible apply Ob.mk; kernel_rfl)
        | (with_reducible apply Ob.mk; decide)
        | ((conv => whnf); exact ⟨rfl⟩)
        | ((conv => whnf); skip)
    · rename_i e
      obtain rfl : n = 32#64 := BitVec.eq_of_toNat_eq e
      cases h
      refine ⟨rfl, rfl, ?_⟩
      repeat' (first
        | (with_reducible apply Given.mk; intro h; (try exact absurd h (by decide)))
        | ((conv => whnf); with_reducible apply Both.mk))
      all_goals first
        | (with_reducible apply Ob.mk; kernel_rfl)
        | (with_reducible apply Ob.mk; decide)
        | ((conv => whnf); exact ⟨rfl⟩)
        | ((conv => whnf); skip)
    · cases h
  · cases h
abbrev tb_mi (m : Nat → Nat) : List (Nat × Sp) := (80, sp_mi) :: tb_Lo2 m
theorem C_mi (G2 : World → Prop) (D2 : VData) (k2 : DataOK Tryd.prog G2 D2) (m : Nat → Nat) : CSound Tryd.prog (and2 (GB m) (and2 (GP m) G2)) (tab (or2 (DB m) (or2 (DP m) D2)) (tb_mi m)) := (C_Lo2 G2 D2 k2 m).cons (e_mi G2 D2 k2 m)
theorem mi_wide (v : BitVec 64) : mi64 v = m64 v := by
  unfold mi64 m64
  rw [Bool.eq_iff_iff, BitVec.ult_iff_toNat_lt, BitVec.ule_iff_toNat_le]
  show 9223372036854775807 < v.toNat ↔ 9223372036854775808 ≤ v.toNat
  omega
theorem m64_msb (v : BitVec 64) : m64 v = v.msb := by
  unfold m64
  rw [Bool.eq_iff_iff, BitVec.ule_iff_toNat_le, BitVec.msb_eq_decide, decide_eq_true_eq]
  exact Iff.rfl
theorem mi32_msb (v : BitVec 32) : mi32 v = v.msb := by
  unfold mi32
  rw [Bool.eq_iff_iff, BitVec.ult_iff_toNat_lt, BitVec.msb_eq_decide, decide_eq_true_eq]
  show 2147483647 < v.toNat ↔ 2147483648 ≤ v.toNat
  omega
theorem m32_msb (v : BitVec 32) : m32 (v.setWidth 64) = v.msb := by
  unfold m32
  rw [Bool.eq_iff_iff, BitVec.ule_iff_toNat_le, BitVec.msb_eq_decide, decide_eq_true_eq, BitVec.toNat_setWidth]
  have := v.isLt
  show 2147483648 ≤ v.toNat % 2 ^ 64 ↔ 2147483648 ≤ v.toNat
  omega
theorem bb32 (y : BitVec 32) : (y.setWidth 64).setWidth 32 = y := by
  apply BitVec.eq_of_toNat_eq
  have := y.isLt
  simp
theorem msb_xor2 {n : Nat} (a b r : BitVec n) : ((a ^^^ r) &&& (b ^^^ r)).msb = ((a.msb ^^ r.msb) && (b.msb ^^ r.msb)) := by rw [BitVec.msb_and, BitVec.msb_xor, BitVec.msb_xor]
theorem msb_xor3 {n : Nat} (a b r : BitVec n) : ((a ^^^ b) &&& (a ^^^ r)).msb = ((a.msb ^^ b.msb) && (a.msb ^^ r.msb)) := by rw [BitVec.msb_and, BitVec.msb_xor, BitVec.msb_xor]
/- The flag of what is too great, of 64 bits. -/
theorem eoA64t {a b r : BitVec 64} (h : (m64 a == m64 b) = true) : (!(m64 r == m64 a)) = fO true 0#64 a b r := by
  show _ = mi64 _
  rw [mi_wide, m64_msb, m64_msb, m64_msb, msb_xor2]
  rw [m64_msb, m64_msb] at h
  revert h
  cases a.msb <;> cases b.msb <;> cases r.msb <;> decide
theorem eoA64f {a b r : BitVec 64} (h : (m64 a == m64 b) = false) : false = fO true 0#64 a b r := by
  show _ = mi64 _
  rw [mi_wide, m64_msb, msb_xor2]
  rw [m64_msb, m64_msb] at h
  revert h
  cases a.msb <;> cases b.msb <;> cases r.msb <;> decide
theorem eoS64t {o : BitVec 64} {a b r : BitVec 64} (ho : o = 5#64 ∨ o = 7#64) (h : (!(m64 a == m64 b)) = true) : (!(m64 r == m64 a)) = fO true o a b r := by
  have e : fO true o a b r = mi64 ((a ^^^ b) &&& (a ^^^ r)) := by rcases ho with rfl | rfl <;> rfl
  rw [e, mi_wide, m64_msb, m64_msb, m64_msb, msb_xor3]
  rw [m64_msb, m64_msb] at h
  revert h
  cases a.msb <;> cases b.msb <;> cases r.msb <;> decide
theorem eoS64f {o : BitVec 64} {a b r : BitVec 64} (ho : o = 5#64 ∨ o = 7#64) (h : (!(m64 a == m64 b)) = false) : false = fO true o a b r := by
  have e : fO true o a b r = mi64 ((a ^^^ b) &&& (a ^^^ r)) := by rcases ho with rfl | rfl <;> rfl
  rw [e, mi_wide, m64_msb, msb_xor3]
  rw [m64_msb, m64_msb] at h
  revert h
  cases a.msb <;> cases b.msb <;> cases r.msb <;> decide
/- And of 32. -/
theorem eoA32t {A B R : BitVec 32} (h : (m32 (A.setWidth 64) == m32 (B.setWidth 64)) = true) : (!(m32 (R.setWidth 64) == m32 (A.setWidth 64))) = fO false 0#64 (A.setWidth 64) (B.setWidth 64) (R.setWidth 64) := by
  show _ = mi32 _
  rw [bb32, bb32, bb32, mi32_msb, m32_msb, m32_msb, msb_xor2]
  rw [m32_msb, m32_msb] at h
  revert h
  cases A.msb <;> cases B.msb <;> cases R.msb <;> decide
theorem eoA32f {A B R : BitVec 32} (h : (m32 (A.setWidth 64) == m32 (B.setWidth 64)) = false) : false = fO false 0#64 (A.setWidth 64) (B.setWidth 64) (R.setWidth 64) := by
  show _ = mi32 _
  rw [bb32, bb32, bb32, mi32_msb, msb_xor2]
  rw [m32_msb, m32_msb] at h
  revert h
  cases A.msb <;> cases B.msb <;> cases R.msb <;> decide
theorem eoS32t {o : BitVec 64} {A B R : BitVec 32} (ho : o = 5#64 ∨ o = 7#64) (h : (!(m32 (A.setWidth 64) == m32 (B.setWidth 64))) = true) : (!(m32 (R.setWidth 64) == m32 (A.setWidth 64))) = fO false o (A.setWidth 64) (B.setWidth 64) (R.setWidth 64) := by
  have e : fO false o (A.setWidth 64) (B.setWidth 64) (R.setWidth 64) = mi32 (((A.setWidth 64).setWidth 32 ^^^ (B.setWidth 64).setWidth 32) &&& ((A.setWidth 64).setWidth 32 ^^^ (R.setWidth 64).setWidth 32)) := by rcases ho with rfl | rfl <;> rfl
  rw [e, bb32, bb32, bb32, mi32_msb, m32_msb, m32_msb, msb_xor3]
  rw [m32_msb, m32_msb] at h
  revert h
  cases A.msb <;> cases B.msb <;> cases R.msb <;> decide
theorem eoS32f {o : BitVec 64} {A B R : BitVec 32} (ho : o = 5#64 ∨ o = 7#64) (h : (!(m32 (A.setWidth 64) == m32 (B.setWidth 64))) = false) : false = fO false o (A.setWidth 64) (B.setWidth 64) (R.setWidth 64) := by
  have e : fO false o (A.setWidth 64) (B.setWidth 64) (R.setWidth 64) = mi32 (((A.setWidth 64).setWidth 32 ^^^ (B.setWidth 64).setWidth 32) &&& ((A.setWidth 64).setWidth 32 ^^^ (R.setWidth 64).setWidth 32)) := by rcases ho with rfl | rfl <;> rfl
  rw [e, bb32, bb32, bb32, mi32_msb, msb_xor3]
  rw [m32_msb, m32_msb] at h
  revert h
  cases A.msb <;> cases B.msb <;> cases R.msb <;> decide
theorem ult_w (A B : BitVec 32) : (A.setWidth 64).ult (B.setWidth 64) = ((A.setWidth 64).setWidth 32).ult ((B.setWidth 64).setWidth 32) := by
  rw [bb32, bb32, Bool.eq_iff_iff, BitVec.ult_iff_toNat_lt, BitVec.ult_iff_toNat_lt, BitVec.toNat_setWidth, BitVec.toNat_setWidth]
  have := A.isLt
  have := B.isLt
  omega
theorem ez32 (R : BitVec 32) : (R.setWidth 64 == 0#64) = fZ false (R.setWidth 64) := by
  show _ = ((R.setWidth 64).setWidth 32 == 0#32)
  rw [bb32, Bool.eq_iff_iff, beq_iff_eq, beq_iff_eq, ← BitVec.toNat_inj, ← BitVec.toNat_inj, BitVec.toNat_setWidth]
  have := R.isLt
  show R.toNat % 2 ^ 64 = 0 ↔ R.toNat = 0
  omega
theorem es32 (R : BitVec 32) : m32 (R.setWidth 64) = fS false (R.setWidth 64) := by
  show _ = mi32 ((R.setWidth 64).setWidth 32)
  rw [bb32, m32_msb, mi32_msb]
theorem lo_add (A B : BitVec 32) : lo32 (A.setWidth 64 + B.setWidth 64) = (A + B).setWidth 64 := by
  apply BitVec.eq_of_toNat_eq
  unfold lo32
  have := A.isLt
  have := B.isLt
  simp only [BitVec.toNat_setWidth, BitVec.toNat_add]
  omega
theorem lo_sub (A B : BitVec 32) : lo32 (A.setWidth 64 - B.setWidth 64) = (A - B).setWidth 64 := by
  apply BitVec.eq_of_toNat_eq
  unfold lo32
  have := A.isLt
  have := B.isLt
  simp only [BitVec.toNat_setWidth, BitVec.toNat_sub]
  omega
theorem lo_or (A B : BitVec 32) : A.setWidth 64 ||| B.setWidth 64 = (A ||| B).setWidth 64 := (BitVec.setWidth_or).symm
theorem lo_and (A B : BitVec 32) : A.setWidth 64 &&& B.setWidth 64 = (A &&& B).setWidth 64 := (BitVec.setWidth_and).symm
theorem lo_xor (A B : BitVec 32) : A.setWidth 64 ^^^ B.setWidth 64 = (A ^^^ B).setWidth 64 := (BitVec.setWidth_xor).symm
theorem ar_leaf {w : Bool} {op a b r0 r1 r2 r3 r4 r5 r6 r7 r8 r9 r10 r11 r12 r13 r14 r15 r pc : BitVec 64} {fz fs fc fo z s c o : Bool} (er : r = arR w op a b) (ez : z = fZ w r) (es : s = fS w r) (ec : c = fC w op a b r) (eo : o = fO w op a b r) :
    AV.tup [(false, [.b64 false r]), (true, [.b64 false r0, .b64 false r1, .b64 false r2, .b64 false r3, .b64 false r4, .b64 false r5, .b64 false r6, .b64 false r7, .b64 false r8, .b64 false r9, .b64 false r10, .b64 false r11, .b64 false r12, .b64 false r13, .b64 false r14, .b64 false r15, .bool z, .bool s, .bool c, .bool o, .b64 false pc])] = .tup [(false, [.b64 false (arR w op a b)]), (true, LS (arF w op a b ⟨fun j => nthW [r0, r1, r2, r3, r4, r5, r6, r7, r8, r9, r10, r11, r12, r13, r14, r15] j, fz, fs, fc, fo, pc⟩))] := by
  subst ez es ec eo er
  rfl
set_option maxRecDepth 100000 in
set_option maxHeartbeats 4000000 in
theorem ar_64_0 (D2 : VData) (m : Nat → Nat) (r0 r1 r2 r3 r4 r5 r6 r7 r8 r9 r10 r11 r12 r13 r14 r15 : BitVec 64) (fz fs fc fo : Bool) (pc : BitVec 64) (a b : BitVec 64) : F Tryd.prog (tab (or2 (DB m) (or2 (DP m) D2)) (tb_mi m)) Tryd.f35 [.agg [.b64 false r0, .b64 false r1, .b64 false r2, .b64 false r3, .b64 false r4, .b64 false r5, .b64 false r6, .b64 false r7, .b64 false r8, .b64 false r9, .b64 false r10, .b64 false r11, .b64 false r12, .b64 false r13, .b64 false r14, .b64 false r15, .bool fz, .bool fs, .bool fc, .bool fo, .b64 false pc], .one (.b64 true 64#64), .one (.b64 true 0#64), .one (.b64 false a), .one (.b64 false b)] (fun r => r = .tup [(false, [.b64 false (arR true 0#64 a b)]), (true, LS (arF true 0#64 a b ⟨fun j => nthW [r0, r1, r2, r3, r4, r5, r6, r7, r8, r9, r10, r11, r12, r13, r14, r15] j, fz, fs, fc, fo, pc⟩))]) := by
      repeat' (first
        | (with_reducible apply Given.mk; intro h; (try exact absurd h (by decide)))
        | ((conv => whnf); with_reducible apply Both.mk))
      all_goals first
        | (with_reducible apply Ob.mk; kernel_rfl)
        | (with_reducible apply Ob.mk; decide)
        | ((conv => whnf); refine ⟨?_⟩; refine ar_leaf rfl rfl (mi_wide _).symm rfl ?_; (first | exact eoA64t  h | exact eoA64f  h))
        | ((conv => whnf); skip)
set_option maxRecDepth 100000 in
set_option maxHeartbeats 4000000 in
theorem ar_64_1 (D2 : VData) (m : Nat → Nat) (r0 r1 r2 r3 r4 r5 r6 r7 r8 r9 r10 r11 r12 r13 r14 r15 : BitVec 64) (fz fs fc fo : Bool) (pc : BitVec 64) (a b : BitVec 64) : F Tryd.prog (tab (or2 (DB m) (or2 (DP m) D2)) (tb_mi m)) Tryd.f35 [.agg [.b64 false r0, .b64 false r1, .b64 false r2, .b64 false r3, .b64 false r4, .b64 false r5, .b64 false r6, .b64 false r7, .b64 false r8, .b64 false r9, .b64 false r10, .b64 false r11, .b64 false r12, .b64 false r13, .b64 false r14, .b64 false r15, .bool fz, .bool fs, .bool fc, .bool fo, .b64 false pc], .one (.b64 true 64#64), .one (.b64 true 1#64), .one (.b64 false a), .one (.b64 false b)] (fun r => r = .tup [(false, [.b64 false (arR true 1#64 a b)]), (true, LS (arF true 1#64 a b ⟨fun j => nthW [r0, r1, r2, r3, r4, r5, r6, r7, r8, r9, r10, r11, r12, r13, r14, r15] j, fz, fs, fc, fo, pc⟩))]) := by
      repeat' (first
        | (with_reducible apply Given.mk; intro h; (try exact absurd h (by decide)))
        | ((conv => whnf); with_reducible apply Both.mk))
      all_goals first
        | (with_reducible apply Ob.mk; kernel_rfl)
        | (with_reducible apply Ob.mk; decide)
        | ((conv => whnf); refine ⟨?_⟩; refine ar_leaf rfl rfl (mi_wide _).symm rfl ?_; (exact rfl))
        | ((conv => whnf); skip)
set_option maxRecDepth 100000 in
set_option maxHeartbeats 4000000 in
theorem ar_64_4 (D2 : VData) (m : Nat → Nat) (r0 r1 r2 r3 r4 r5 r6 r7 r8 r9 r10 r11 r12 r13 r14 r15 : BitVec 64) (fz fs fc fo : Bool) (pc : BitVec 64) (a b : BitVec 64) : F Tryd.prog (tab (or2 (DB m) (or2 (DP m) D2)) (tb_mi m)) Tryd.f35 [.agg [.b64 false r0, .b64 false r1, .b64 false r2, .b64 false r3, .b64 false r4, .b64 false r5, .b64 false r6, .b64 false r7, .b64 false r8, .b64 false r9, .b64 false r10, .b64 false r11, .b64 false r12, .b64 false r13, .b64 false r14, .b64 false r15, .bool fz, .bool fs, .bool fc, .bool fo, .b64 false pc], .one (.b64 true 64#64), .one (.b64 true 4#64), .one (.b64 false a), .one (.b64 false b)] (fun r => r = .tup [(false, [.b64 false (arR true 4#64 a b)]), (true, LS (arF true 4#64 a b ⟨fun j => nthW [r0, r1, r2, r3, r4, r5, r6, r7, r8, r9, r10, r11, r12, r13, r14, r15] j, fz, fs, fc, fo, pc⟩))]) := by
      repeat' (first
        | (with_reducible apply Given.mk; intro h; (try exact absurd h (by decide)))
        | ((conv => whnf); with_reducible apply Both.mk))
      all_goals first
        | (with_reducible apply Ob.mk; kernel_rfl)
        | (with_reducible apply Ob.mk; decide)
        | ((conv => whnf); refine ⟨?_⟩; refine ar_leaf rfl rfl (mi_wide _).symm rfl ?_; (exact rfl))
        | ((conv => whnf); skip)
set_option maxRecDepth 100000 in
set_option maxHeartbeats 4000000 in
theorem ar_64_5 (D2 : VData) (m : Nat → Nat) (r0 r1 r2 r3 r4 r5 r6 r7 r8 r9 r10 r11 r12 r13 r14 r15 : BitVec 64) (fz fs fc fo : Bool) (pc : BitVec 64) (a b : BitVec 64) : F Tryd.prog (tab (or2 (DB m) (or2 (DP m) D2)) (tb_mi m)) Tryd.f35 [.agg [.b64 false r0, .b64 false r1, .b64 false r2, .b64 false r3, .b64 false r4, .b64 false r5, .b64 false r6, .b64 false r7, .b64 false r8, .b64 false r9, .b64 false r10, .b64 false r11, .b64 false r12, .b64 false r13, .b64 false r14, .b64 false r15, .bool fz, .bool fs, .bool fc, .bool fo, .b64 false pc], .one (.b64 true 64#64), .one (.b64 true 5#64), .one (.b64 false a), .one (.b64 false b)] (fun r => r = .tup [(false, [.b64 false (arR true 5#64 a b)]), (true, LS (arF true 5#64 a b ⟨fun j => nthW [r0, r1, r2, r3, r4, r5, r6, r7, r8, r9, r10, r11, r12, r13, r14, r15] j, fz, fs, fc, fo, pc⟩))]) := by
      repeat' (first
        | (with_reducible apply Given.mk; intro h; (try exact absurd h (by decide)))
        | ((conv => whnf); with_reducible apply Both.mk))
      all_goals first
        | (with_reducible apply Ob.mk; kernel_rfl)
        | (with_reducible apply Ob.mk; decide)
        | ((conv => whnf); refine ⟨?_⟩; refine ar_leaf rfl rfl (mi_wide _).symm rfl ?_; (first | exact eoS64t (.inl rfl) h | exact eoS64f (.inl rfl) h))
        | ((conv => whnf); skip)
set_option maxRecDepth 100000 in
set_option maxHeartbeats 4000000 in
theorem ar_64_6 (D2 : VData) (m : Nat → Nat) (r0 r1 r2 r3 r4 r5 r6 r7 r8 r9 r10 r11 r12 r13 r14 r15 : BitVec 64) (fz fs fc fo : Bool) (pc : BitVec 64) (a b : BitVec 64) : F Tryd.prog (tab (or2 (DB m) (or2 (DP m) D2)) (tb_mi m)) Tryd.f35 [.agg [.b64 false r0, .b64 false r1, .b64 false r2, .b64 false r3, .b64 false r4, .b64 false r5, .b64 false r6, .b64 false r7, .b64 false r8, .b64 false r9, .b64 false r10, .b64 false r11, .b64 false r12, .b64 false r13, .b64 false r14, .b64 false r15, .bool fz, .bool fs, .bool fc, .bool fo, .b64 false pc], .one (.b64 true 64#64), .one (.b64 true 6#64), .one (.b64 false a), .one (.b64 false b)] (fun r => r = .tup [(false, [.b64 false (arR true 6#64 a b)]), (true, LS (arF true 6#64 a b ⟨fun j => nthW [r0, r1, r2, r3, r4, r5, r6, r7, r8, r9, r10, r11, r12, r13, r14, r15] j, fz, fs, fc, fo, pc⟩))]) := by
      repeat' (first
        | (with_reducible apply Given.mk; intro h; (try exact absurd h (by decide)))
        | ((conv => whnf); with_reducible apply Both.mk))
      all_goals first
        | (with_reducible apply Ob.mk; kernel_rfl)
        | (with_reducible apply Ob.mk; decide)
        | ((conv => whnf); refine ⟨?_⟩; refine ar_leaf rfl rfl (mi_wide _).symm rfl ?_; (exact rfl))
        | ((conv => whnf); skip)
set_option maxRecDepth 100000 in
set_option maxHeartbeats 4000000 in
theorem ar_64_7 (D2 : VData) (m : Nat → Nat) (r0 r1 r2 r3 r4 r5 r6 r7 r8 r9 r10 r11 r12 r13 r14 r15 : BitVec 64) (fz fs fc fo : Bool) (pc : BitVec 64) (a b : BitVec 64) : F Tryd.prog (tab (or2 (DB m) (or2 (DP m) D2)) (tb_mi m)) Tryd.f35 [.agg [.b64 false r0, .b64 false r1, .b64 false r2, .b64 false r3, .b64 false r4, .b64 false r5, .b64 false r6, .b64 false r7, .b64 false r8, .b64 false r9, .b64 false r10, .b64 false r11, .b64 false r12, .b64 false r13, .b64 false r14, .b64 false r15, .bool fz, .bool fs, .bool fc, .bool fo, .b64 false pc], .one (.b64 true 64#64), .one (.b64 true 7#64), .one (.b64 false a), .one (.b64 false b)] (fun r => r = .tup [(false, [.b64 false (arR true 7#64 a b)]), (true, LS (arF true 7#64 a b ⟨fun j => nthW [r0, r1, r2, r3, r4, r5, r6, r7, r8, r9, r10, r11, r12, r13, r14, r15] j, fz, fs, fc, fo, pc⟩))]) := by
      repeat' (first
        | (with_reducible apply Given.mk; intro h; (try exact absurd h (by decide)))
        | ((conv => whnf); with_reducible apply Both.mk))
      all_goals first
        | (with_reducible apply Ob.mk; kernel_rfl)
        | (with_reducible apply Ob.mk; decide)
        | ((conv => whnf); refine ⟨?_⟩; refine ar_leaf rfl rfl (mi_wide _).symm rfl ?_; (first | exact eoS64t (.inr rfl) h | exact eoS64f (.inr rfl) h))
        | ((conv => whnf); skip)
set_option maxRecDepth 100000 in
set_option maxHeartbeats 4000000 in
theorem ar_32_0 (D2 : VData) (m : Nat → Nat) (r0 r1 r2 r3 r4 r5 r6 r7 r8 r9 r10 r11 r12 r13 r14 r15 : BitVec 64) (fz fs fc fo : Bool) (pc : BitVec 64) (A B : BitVec 32) : F Tryd.prog (tab (or2 (DB m) (or2 (DP m) D2)) (tb_mi m)) Tryd.f35 [.agg [.b64 false r0, .b64 false r1, .b64 false r2, .b64 false r3, .b64 false r4, .b64 false r5, .b64 false r6, .b64 false r7, .b64 false r8, .b64 false r9, .b64 false r10, .b64 false r11, .b64 false r12, .b64 false r13, .b64 false r14, .b64 false r15, .bool fz, .bool fs, .bool fc, .bool fo, .b64 false pc], .one (.b64 true 32#64), .one (.b64 true 0#64), .one (.b64 false (A.setWidth 64)), .one (.b64 false (B.setWidth 64))] (fun r => r = .tup [(false, [.b64 false (arR false 0#64 (A.setWidth 64) (B.setWidth 64))]), (true, LS (arF false 0#64 (A.setWidth 64) (B.setWidth 64) ⟨fun j => nthW [r0, r1, r2, r3, r4, r5, r6, r7, r8, r9, r10, r11, r12, r13, r14, r15] j, fz, fs, fc, fo, pc⟩))]) := by
      repeat' (first
        | (with_reducible apply Given.mk; intro h; (try exact absurd h (by decide)))
        | ((conv => whnf); with_reducible apply Both.mk))
      all_goals first
        | (with_reducible apply Ob.mk; kernel_rfl)
        | (with_reducible apply Ob.mk; decide)
        | ((conv => whnf); refine ⟨?_⟩; simp only [lo_add]; refine ar_leaf (by show _ = (aluW _ ((A.setWidth 64).setWidth 32) ((B.setWidth 64).setWidth 32) _ _).setWidth 64; rw [bb32, bb32]; rfl) (ez32 _) (es32 _) (ult_w _ _) ?_; (first | exact eoA32t  h | exact eoA32f  h))
        | ((conv => whnf); skip)
set_option maxRecDepth 100000 in
set_option maxHeartbeats 4000000 in
theorem ar_32_1 (D2 : VData) (m : Nat → Nat) (r0 r1 r2 r3 r4 r5 r6 r7 r8 r9 r10 r11 r12 r13 r14 r15 : BitVec 64) (fz fs fc fo : Bool) (pc : BitVec 64) (A B : BitVec 32) : F Tryd.prog (tab (or2 (DB m) (or2 (DP m) D2)) (tb_mi m)) Tryd.f35 [.agg [.b64 false r0, .b64 false r1, .b64 false r2, .b64 false r3, .b64 false r4, .b64 false r5, .b64 false r6, .b64 false r7, .b64 false r8, .b64 false r9, .b64 false r10, .b64 false r11, .b64 false r12, .b64 false r13, .b64 false r14, .b64 false r15, .bool fz, .bool fs, .bool fc, .bool fo, .b64 false pc], .one (.b64 true 32#64), .one (.b64 true 1#64), .one (.b64 false (A.setWidth 64)), .one (.b64 false (B.setWidth 64))] (fun r => r = .tup [(false, [.b64 false (arR false 1#64 (A.setWidth 64) (B.setWidth 64))]), (true, LS (arF false 1#64 (A.setWidth 64) (B.setWidth 64) ⟨fun j => nthW [r0, r1, r2, r3, r4, r5, r6, r7, r8, r9, r10, r11, r12, r13, r14, r15] j, fz, fs, fc, fo, pc⟩))]) := by
      repeat' (first
        | (with_reducible apply Given.mk; intro h; (try exact absurd h (by decide)))
        | ((conv => whnf); with_reducible apply Both.mk))
      all_goals first
        | (with_reducible apply Ob.mk; kernel_rfl)
        | (with_reducible apply Ob.mk; decide)
        | ((conv => whnf); refine ⟨?_⟩; simp only [lo_or]; refine ar_leaf (by show _ = (aluW _ ((A.setWidth 64).setWidth 32) ((B.setWidth 64).setWidth 32) _ _).setWidth 64; rw [bb32, bb32]; rfl) (ez32 _) (es32 _) rfl ?_; (exact rfl))
        | ((conv => whnf); skip)
set_option maxRecDepth 100000 in
set_option maxHeartbeats 4000000 in
theorem ar_32_4 (D2 : VData) (m : Nat → Nat) (r0 r1 r2 r3 r4 r5 r6 r7 r8 r9 r10 r11 r12 r13 r14 r15 : BitVec 64) (fz fs fc fo : Bool) (pc : BitVec 64) (A B : BitVec 32) : F Tryd.prog (tab (or2 (DB m) (or2 (DP m) D2)) (tb_mi m)) Tryd.f35 [.agg [.b64 false r0, .b64 false r1, .b64 false r2, .b64 false r3, .b64 false r4, .b64 false r5, .b64 false r6, .b64 false r7, .b64 false r8, .b64 false r9, .b64 false r10, .b64 false r11, .b64 false r12, .b64 false r13, .b64 false r14, .b64 false r15, .bool fz, .bool fs, .bool fc, .bool fo, .b64 false pc], .one (.b64 true 32#64), .one (.b64 true 4#64), .one (.b64 false (A.setWidth 64)), .one (.b64 false (B.setWidth 64))] (fun r => r = .tup [(false, [.b64 false (arR false 4#64 (A.setWidth 64) (B.setWidth 64))]), (true, LS (arF false 4#64 (A.setWidth 64) (B.setWidth 64) ⟨fun j => nthW [r0, r1, r2, r3, r4, r5, r6, r7, r8, r9, r10, r11, r12, r13, r14, r15] j, fz, fs, fc, fo, pc⟩))]) := by
      repeat' (first
        | (with_reducible apply Given.mk; intro h; (try exact absurd h (by decide)))
        | ((conv => whnf); with_reducible apply Both.mk))
      all_goals first
        | (with_reducible apply Ob.mk; kernel_rfl)
        | (with_reducible apply Ob.mk; decide)
        | ((conv => whnf); refine ⟨?_⟩; simp only [lo_and]; refine ar_leaf (by show _ = (aluW _ ((A.setWidth 64).setWidth 32) ((B.setWidth 64).setWidth 32) _ _).setWidth 64; rw [bb32, bb32]; rfl) (ez32 _) (es32 _) rfl ?_; (exact rfl))
        | ((conv => whnf); skip)
set_option maxRecDepth 100000 in
set_option maxHeartbeats 4000000 in
theorem ar_32_5 (D2 : VData) (m : Nat → Nat) (r0 r1 r2 r3 r4 r5 r6 r7 r8 r9 r10 r11 r12 r13 r14 r15 : BitVec 64) (fz fs fc fo : Bool) (pc : BitVec 64) (A B : BitVec 32) : F Tryd.prog (tab (or2 (DB m) (or2 (DP m) D2)) (tb_mi m)) Tryd.f35 [.agg [.b64 false r0, .b64 false r1, .b64 false r2, .b64 false r3, .b64 false r4, .b64 false r5, .b64 false r6, .b64 false r7, .b64 false r8, .b64 false r9, .b64 false r10, .b64 false r11, .b64 false r12, .b64 false r13, .b64 false r14, .b64 false r15, .bool fz, .bool fs, .bool fc, .bool fo, .b64 false pc], .one (.b64 true 32#64), .one (.b64 true 5#64), .one (.b64 false (A.setWidth 64)), .one (.b64 false (B.setWidth 64))] (fun r => r = .tup [(false, [.b64 false (arR false 5#64 (A.setWidth 64) (B.setWidth 64))]), (true, LS (arF false 5#64 (A.setWidth 64) (B.setWidth 64) ⟨fun j => nthW [r0, r1, r2, r3, r4, r5, r6, r7, r8, r9, r10, r11, r12, r13, r14, r15] j, fz, fs, fc, fo, pc⟩))]) := by
      repeat' (first
        | (with_reducible apply Given.mk; intro h; (try exact absurd h (by decide)))
        | ((conv => whnf); with_reducible apply Both.mk))
      all_goals first
        | (with_reducible apply Ob.mk; kernel_rfl)
        | (with_reducible apply Ob.mk; decide)
        | ((conv => whnf); refine ⟨?_⟩; simp only [lo_sub]; refine ar_leaf (by show _ = (aluW _ ((A.setWidth 64).setWidth 32) ((B.setWidth 64).setWidth 32) _ _).setWidth 64; rw [bb32, bb32]; rfl) (ez32 _) (es32 _) (ult_w _ _) ?_; (first | exact eoS32t (.inl rfl) h | exact eoS32f (.inl rfl) h))
        | ((conv => whnf); skip)
set_option maxRecDepth 100000 in
set_option maxHeartbeats 4000000 in
theorem ar_32_6 (D2 : VData) (m : Nat → Nat) (r0 r1 r2 r3 r4 r5 r6 r7 r8 r9 r10 r11 r12 r13 r14 r15 : BitVec 64) (fz fs fc fo : Bool) (pc : BitVec 64) (A B : BitVec 32) : F Tryd.prog (tab (or2 (DB m) (or2 (DP m) D2)) (tb_mi m)) Tryd.f35 [.agg [.b64 false r0, .b64 false r1, .b64 false r2, .b64 false r3, .b64 false r4, .b64 false r5, .b64 false r6, .b64 false r7, .b64 false r8, .b64 false r9, .b64 false r10, .b64 false r11, .b64 false r12, .b64 false r13, .b64 false r14, .b64 false r15, .bool fz, .bool fs, .bool fc, .bool fo, .b64 false pc], .one (.b64 true 32#64), .one (.b64 true 6#64), .one (.b64 false (A.setWidth 64)), .one (.b64 false (B.setWidth 64))] (fun r => r = .tup [(false, [.b64 false (arR false 6#64 (A.setWidth 64) (B.setWidth 64))]), (true, LS (arF false 6#64 (A.setWidth 64) (B.setWidth 64) ⟨fun j => nthW [r0, r1, r2, r3, r4, r5, r6, r7, r8, r9, r10, r11, r12, r13, r14, r15] j, fz, fs, fc, fo, pc⟩))]) := by
      repeat' (first
        | (with_reducible apply Given.mk; intro h; (try exact absurd h (by decide)))
        | ((conv => whnf); with_reducible apply Both.mk))
      all_goals first
        | (with_reducible apply Ob.mk; kernel_rfl)
        | (with_reducible apply Ob.mk; decide)
        | ((conv => whnf); refine ⟨?_⟩; simp only [lo_xor]; refine ar_leaf (by show _ = (aluW _ ((A.setWidth 64).setWidth 32) ((B.setWidth 64).setWidth 32) _ _).setWidth 64; rw [bb32, bb32]; rfl) (ez32 _) (es32 _) rfl ?_; (exact rfl))
        | ((conv => whnf); skip)
set_option maxRecDepth 100000 in
set_option maxHeartbeats 4000000 in
theorem ar_32_7 (D2 : VData) (m : Nat → Nat) (r0 r1 r2 r3 r4 r5 r6 r7 r8 r9 r10 r11 r12 r13 r14 r15 : BitVec 64) (fz fs fc fo : Bool) (pc : BitVec 64) (A B : BitVec 32) : F Tryd.prog (tab (or2 (DB m) (or2 (DP m) D2)) (tb_mi m)) Tryd.f35 [.agg [.b64 false r0, .b64 false r1, .b64 false r2, .b64 false r3, .b64 false r4, .b64 false r5, .b64 false r6, .b64 false r7, .b64 false r8, .b64 false r9, .b64 false r10, .b64 false r11, .b64 false r12, .b64 false r13, .b64 false r14, .b64 false r15, .bool fz, .bool fs, .bool fc, .bool fo, .b64 false pc], .one (.b64 true 32#64), .one (.b64 true 7#64), .one (.b64 false (A.setWidth 64)), .one (.b64 false (B.setWidth 64))] (fun r => r = .tup [(false, [.b64 false (arR false 7#64 (A.setWidth 64) (B.setWidth 64))]), (true, LS (arF false 7#64 (A.setWidth 64) (B.setWidth 64) ⟨fun j => nthW [r0, r1, r2, r3, r4, r5, r6, r7, r8, r9, r10, r11, r12, r13, r14, r15] j, fz, fs, fc, fo, pc⟩))]) := by
      repeat' (first
        | (with_reducible apply Given.mk; intro h; (try exact absurd h (by decide)))
        | ((conv => whnf); with_reducible apply Both.mk))
      all_goals first
        | (with_reducible apply Ob.mk; kernel_rfl)
        | (with_reducible apply Ob.mk; decide)
        | ((conv => whnf); refine ⟨?_⟩; simp only [lo_sub]; refine ar_leaf (by show _ = (aluW _ ((A.setWidth 64).setWidth 32) ((B.setWidth 64).setWidth 32) _ _).setWidth 64; rw [bb32, bb32]; rfl) (ez32 _) (es32 _) (ult_w _ _) ?_; (first | exact eoS32t (.inr rfl) h | exact eoS32f (.inr rfl) h))
        | ((conv => whnf); skip)
theorem sw_lo {a : BitVec 64} (h : a = lo32 a) : ∃ A : BitVec 32, a = A.setWidth 64 := ⟨a.setWidth 32, h⟩
def sp_ari : Sp
  | [.agg [.b64 false r0, .b64 false r1, .b64 false r2, .b64 false r3, .b64 false r4, .b64 false r5, .b64 false r6, .b64 false r7, .b64 false r8, .b64 false r9, .b64 false r10, .b64 false r11, .b64 false r12, .b64 false r13, .b64 false r14, .b64 false r15, .bool fz, .bool fs, .bool fc, .bool fo, .b64 false pc], .one (.b64 true n), .one (.b64 true op), .one (.b64 false a), .one (.b64 false b)] => match n.toNat with
    | 64 => some (Cond.p (aluB op = true), .tup [(false, [.b64 false (arR true op a b)]), (true, LS (arF true op a b ⟨fun j => nthW [r0, r1, r2, r3, r4, r5, r6, r7, r8, r9, r10, r11, r12, r13, r14, r15] j, fz, fs, fc, fo, pc⟩))])
    | 32 => some (Cond.p (aluB op = true ∧ a = lo32 a ∧ b = lo32 b), .tup [(false, [.b64 false (arR false op a b)]), (true, LS (arF false op a b ⟨fun j => nthW [r0, r1, r2, r3, r4, r5, r6, r7, r8, r9, r10, r11, r12, r13, r14, r15] j, fz, fs, fc, fo, pc⟩))])
    | _ => none
  | _ => none
set_option maxRecDepth 100000 in
set_option maxHeartbeats 4000000 in
theorem e_ari (G2 : World → Prop) (D2 : VData) (k2 : DataOK Tryd.prog G2 D2) (m : Nat → Nat) : EntryOK Tryd.prog (and2 (GB m) (and2 (GP m) G2)) 35 sp_ari := by
  refine .of_F (C_mi G2 D2 k2 m) (by kernel_rfl) Tryd.func35 (by kernel_rfl) (by kernel_rfl) (fun args c v h hc => ?_)
  unfold sp_ari at h
  split at h
  · rename_i r0 r1 r2 r3 r4 r5 r6 r7 r8 r9 r10 r11 r12 r13 r14 r15 fz fs fc fo pc n op a b
    split at h
    · rename_i e
      obtain rfl : n = 64#64 := BitVec.eq_of_toNat_eq e
      cases h
      refine ⟨rfl, rfl, ?_⟩
      rcases al6 hc with rfl | rfl | rfl | rfl | rfl | rfl
      · exact ar_64_0 D2 m r0 r1 r2 r3 r4 r5 r6 r7 r8 r9 r10 r11 r12 r13 r14 r15 fz fs fc fo pc a b
      · exact ar_64_1 D2 m r0 r1 r2 r3 r4 r5 r6 r7 r8 r9 r10 r11 r12 r13 r14 r15 fz fs fc fo pc a b
      · exact ar_64_4 D2 m r0 r1 r2 r3 r4 r5 r6 r7 r8 r9 r10 r11 r12 r13 r14 r15 fz fs fc fo pc a b
      · exact ar_64_5 D2 m r0 r1 r2 r3 r4 r5 r6 r7 r8 r9 r10 r11 r12 r13 r14 r15 fz fs fc fo pc a b
      · exact ar_64_6 D2 m r0 r1 r2 r3 r4 r5 r6 r7 r8 r9 r10 r11 r12 r13 r14 r15 fz fs fc fo pc a b
      · exact ar_64_7 D2 m r0 r1 r2 r3 r4 r5 r6 r7 r8 r9 r10 r11 r12 r13 r14 r15 fz fs fc fo pc a b
    · rename_i e
      obtain rfl : n = 32#64 := BitVec.eq_of_toNat_eq e
      cases h
      refine ⟨rfl, rfl, ?_⟩
      obtain ⟨h1, h2, h3⟩ := hc
      obtain ⟨A, rfl⟩ := sw_lo h2
      obtain ⟨B, rfl⟩ := sw_lo h3
      rcases al6 h1 with rfl | rfl | rfl | rfl | rfl | rfl
      · exact ar_32_0 D2 m r0 r1 r2 r3 r4 r5 r6 r7 r8 r9 r10 r11 r12 r13 r14 r15 fz fs fc fo pc A B
      · exact ar_32_1 D2 m r0 r1 r2 r3 r4 r5 r6 r7 r8 r9 r10 r11 r12 r13 r14 r15 fz fs fc fo pc A B
      · exact ar_32_4 D2 m r0 r1 r2 r3 r4 r5 r6 r7 r8 r9 r10 r11 r12 r13 r14 r15 fz fs fc fo pc A B
      · exact ar_32_5 D2 m r0 r1 r2 r3 r4 r5 r6 r7 r8 r9 r10 r11 r12 r13 r14 r15 fz fs fc fo pc A B
      · exact ar_32_6 D2 m r0 r1 r2 r3 r4 r5 r6 r7 r8 r9 r10 r11 r12 r13 r14 r15 fz fs fc fo pc A B
      · exact ar_32_7 D2 m r0 r1 r2 r3 r4 r5 r6 r7 r8 r9 r10 r11 r12 r13 r14 r15 fz fs fc fo pc A B
    · cases h
  · cases h
abbrev tb_ari (m : Nat → Nat) : List (Nat × Sp) := (35, sp_ari) :: tb_mi m
theorem C_ari (G2 : World → Prop) (D2 : VData) (k2 : DataOK Tryd.prog G2 D2) (m : Nat → Nat) : CSound Tryd.prog (and2 (GB m) (and2 (GP m) G2)) (tab (or2 (DB m) (or2 (DP m) D2)) (tb_ari m)) := (C_mi G2 D2 k2 m).cons (e_ari G2 D2 k2 m)
end Go.Proofs.YtppankimieopiaaDoor
