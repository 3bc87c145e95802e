/-
  Chapter 04: ProgsStraight, as the evaluator leaves it. Conditions: as typed.
-/
import Derived.Test.YtdaioplfgbgggaaOf
import Derived.Test.YtdaioplfgbgggaaOs

namespace Go.Proofs.Ytdaioplfgbgggaa
open Go.Ep Go.RowKit
set_option linter.unusedVariables false
set_option linter.unusedSimpArgs false
noncomputable abbrev FSs : List (Nat × Func) := [(17, Try.f17), (15, Try.f15), (39, Try.f39), (69, Try.f69), (40, Try.f40)]
theorem fs_s : FsOK Try.prog FSs := FsOK.cons Try.func17 (by kernel_rfl) (by kernel_rfl) (FsOK.cons Try.func15 (by kernel_rfl) (by kernel_rfl) (FsOK.cons Try.func39 (by kernel_rfl) (by kernel_rfl) (FsOK.cons Try.func69 (by kernel_rfl) (by kernel_rfl) (FsOK.cons Try.func40 (by kernel_rfl) (by kernel_rfl) (FsOK.nil)))))
noncomputable abbrev C_s : Table := tabMI Try.prog noData tb_p ms_p FSs 5
theorem CI_s : CSound Try.prog anyWorld C_s := CSound.tabMI CM_p (by kernel_rfl) fs_s 5
abbrev v32 (v : Nat → BitVec 32) : Nat → List PL := fun k => [.b32 true (v k)]
abbrev mvI (v : Nat → BitVec 32) : IT := fun j => ⟨183#8, ((BitVec.ofNat 64 j).srem 10#64).signExtend 8, 0#8, 0#16, v j⟩
theorem mv_eq (v : Nat → BitVec 32) {j k : Nat} (h : j = k) : (⟨183#8, ((BitVec.ofNat 64 k).srem 10#64).signExtend 8, 0#8, 0#16, v j⟩ : IN) = mvI v k := by subst h; rfl
theorem lt60 {n k : Nat} (hn : n ≤ 60) (hk : k ≤ n) (h : (BitVec.ofNat 64 k).slt (BitVec.ofNat 64 n) = true) : k < n := lt_of_slt (by omega) (by omega) h
theorem ge60 {n k : Nat} (hn : n ≤ 60) (hk : k ≤ n) (h : (BitVec.ofNat 64 k).slt (BitVec.ofNat 64 n) = false) : n = k := Nat.le_antisymm (ge_of_slt (by omega) (by omega) h) hk
abbrev exL : List PL := [.b8 false 149#8, .b8 false 0#8, .b8 false 0#8, .b16 true 0#16, .b32 true 0#32]
theorem jn1 (n z : Nat) (y : IT) : joinF n (inF y) (cutN 1 z exL) = inF (fun j => if n ≤ j then exI else y j) := joinF_in n y exI
theorem jn1' (n z : Nat) (y : IT) : joinF n (inF y) (cutN 1 z exL) = inF (inOf (joinF n (inF y) (cutN 1 z exL))) := by rw [jn1]; rfl
theorem jn2' (n m z z' : Nat) (y : IT) : joinF m (joinF n (inF y) (cutN 1 z exL)) (cutN 1 z' exL) = inF (inOf (joinF m (joinF n (inF y) (cutN 1 z exL)) (cutN 1 z' exL))) := by rw [jn1, jn1]; rfl
def stE (v : Nat → BitVec 32) (n : Nat) : IT := fun j => if n ≤ j then exI else upT (mvI v) n j
theorem endB183 : endB 183#8 = false := by decide
theorem alwB183 : alwB 183#8 = false := by decide
theorem jmpB183 : jmpB 183#8 = false := by decide
theorem szV183 : szV 183#8 = 1#64 := by decide
theorem endB149 : endB 149#8 = true := by decide
theorem st_o (v : Nat → BitVec 32) {n k : Nat} (hn : n ≤ 60) (h : k < n) : (stE v n (BitVec.ofNat 64 k).toNat).o = 183#8 := by
  rw [nat_ofNat (by omega), stE, if_neg (by omega), upT_lt _ h]
theorem st_n (v : Nat → BitVec 32) {n : Nat} (hn : n ≤ 60) : (stE v n (BitVec.ofNat 64 n).toNat).o = 149#8 := by
  rw [nat_ofNat (by omega), stE, if_pos (Nat.le_refl _)]
theorem k60 {n k : Nat} (hn : n ≤ 60) (h : k ≤ n) : (BitVec.ofNat 64 k).slt 0#64 = false := (slt_nat (b := 0) (by omega) (by decide)).trans (decide_eq_false (by omega))
theorem kl60 {n k : Nat} (hn : n ≤ 60) (h : k ≤ n) : (BitVec.ofNat 64 (n + 1)).sle (BitVec.ofNat 64 k) = false := (sle_nat (by omega) (by omega)).trans (decide_eq_false (by omega))
theorem add60 (k : Nat) : BitVec.ofNat 64 k + 1#64 = BitVec.ofNat 64 (k + 1) := (BitVec.ofNat_add _ _).symm
theorem n60 {n k : Nat} (hn : n ≤ 60) (h : k < n) : (BitVec.ofNat 64 k + 1#64).slt 0#64 = false := by rw [add60]; exact k60 hn h
theorem nl60 {n k : Nat} (hn : n ≤ 60) (h : k < n) : (BitVec.ofNat 64 (n + 1)).sle (BitVec.ofNat 64 k + 1#64) = false := by rw [add60]; exact kl60 hn h
theorem ixk60 {n k : Nat} (hn : n ≤ 60) (h : k ≤ n) : 0 ≤ (BitVec.ofNat 64 k).toInt ∧ (BitVec.ofNat 64 k).toNat < n + 1 := ix_ofNat (by omega) (by omega)
theorem ix01 {n : Nat} (h : 0 < n) : 0 ≤ (0#64).toInt ∧ (0#64).toNat < n := ⟨by decide, h⟩
theorem ix60 {n k : Nat} (hn : n ≤ 60) (hk : k ≤ n) (h : (BitVec.ofNat 64 k).slt (BitVec.ofNat 64 n) = true) : 0 ≤ (BitVec.ofNat 64 k).toInt ∧ (BitVec.ofNat 64 k).toNat < n := ix_ofNat (by omega) (lt60 hn hk h)
set_option maxRecDepth 100000 in
set_option maxHeartbeats 8000000 in
theorem Str_B1 (T : TypeId) (len cap : Nat) (v : Nat → BitVec 32) (h0 : 0 < len) (hl : len ≤ 60) (f0 : (60#64).slt (BitVec.ofNat 64 len) = false) (fp : (0#64).slt (BitVec.ofNat 64 len) = true) (c1 : chk4 (upT (mvI v) len) len (0#64) false = (BitVec.ofNat 64 len - 1#64, 43#64)) (c2 : ∀ z, chk4 (inOf (joinF len (inF (upT (mvI v) len)) (cutN 1 z exL))) (len + 1) (0#64) false = (0#64, 0#64)) (c3 : ∀ z z', chk4 (inOf (joinF (len + 1) (joinF len (inF (upT (mvI v) len)) (cutN 1 z exL)) (cutN 1 z' exL))) (len + 1 + 1) (0#64) false = (BitVec.ofNat 64 len + 1#64, 42#64)) (fb : Nat.beq (len + 1) 0 = false) (sn : (stE v len (BitVec.ofNat 64 len).toNat).o = 149#8) :
    FI Try.prog C_s Try.f7 1 [.one (.slc 0 0 len cap)] [(0, .ro T [.seg 1 len (v32 v)])] (fun r _ => r = .one (.bool true)) := by
  repeat' (first
    | (with_reducible apply Given.mk; intro h; (try (have e1 : len = k := ge60 hl q1.2 h; subst e1)); (try ((fail_if_success (have _u := n1)); (with_reducible have lt2 := lt60 hl q2 h); have so := st_o v hl lt2; have k0 := k60 hl q2; have kl := kl60 hl q2; have n0 := n60 hl lt2; have n1 := nl60 hl lt2)); (try ((fail_if_success (have _u := lt2)); with_reducible have e2 : len = k2 := ge60 hl q2 h; subst e2)); (try (have _u := q2; first | exact absurd (show (0#64).slt 1#64 = false from h) (by decide) | exact absurd (show (0#64 + 1#64).slt 1#64 = true from h) (by decide) | exact absurd (show (0#64).slt 0#64 = true from h) (by decide) | exact absurd (show (0#64).slt 2#64 = false from h) (by decide) | exact absurd (show (0#64 + 1#64).slt 2#64 = false from h) (by decide) | exact absurd (show (0#64 + 1#64 + 1#64).slt 2#64 = true from h) (by decide) |  skip)); (try simp only [inOf_inF, f0, fp, c1, c2, c3, fb, BitVec.reduceBNe, BitVec.reduceBEq, beq_self_eq_true, bne_self_eq_false, decide_true, reduceCtorEq, Bool.true_eq_false, Bool.false_eq_true, Bool.not_true, Bool.not_false] at h); (try simp only [inOf_inF, so, endB183, alwB183, jmpB183, szV183] at h); (try simp only [inOf_inF, sn, endB149] at h); (try simp only [k0, kl, n0, n1, bne_self_eq_false, Bool.or_false, Bool.or_self, Bool.true_eq_false, Bool.false_eq_true, Bool.not_true, Bool.not_false, reduceCtorEq] at h); (try simp only [Bool.true_eq_false, Bool.false_eq_true, Bool.not_true, Bool.not_false, reduceCtorEq] at h); (try ((fail_if_success (have _q := q1)); exact absurd h (by decide))))
    | ((conv => whnf); first
      | with_reducible apply Both.mk
      | ((fail_if_success (have _q := q1)); refine LoopP.mk (Option Nat) (fun q => match q with | none => True | some k => 1 ≤ k ∧ k ≤ len) ((fun q => Option.rec (mkS (Try.f7).ntmps [(0, .one (.slc 0 0 len cap)), (3, .one (.raw (.slice none 0 0))), (4, .one (.b64 true 0#64))] [(0, .ro T [.seg 1 len (v32 v)])]) (fun k => mkS (Try.f7).ntmps [(0, .one (.slc 0 0 len cap)), (3, .one (.rsl 30 k)), (4, iN k)] [(30, .row 37 5 k (inF (upT (mvI v) k))), (0, .ro T [.seg 1 len (v32 v)])]) q)) (fun q => Option.rec (len + 1) (fun k => len - k) q) ⟨none, trivial, ⟨?_, ?_, ?_, ?_, ?_⟩⟩ ?_; (focus ((repeat' ((conv => whnf); first | exact trivial | refine Both.mk (by first | with_reducible rfl | exact iN_succ _ | rfl) ?_)); done)); (focus ((repeat' ((conv => whnf); first | exact trivial | refine Both.mk (by first | with_reducible rfl | exact iN_succ _ | rfl) ?_)); done)); (focus exact rfl); (focus exact rfl); (focus exact rfl); (rintro (_ | k) q1 <;> (try (replace q1 : 1 ≤ k ∧ k ≤ len := q1))))
      | ((have _q := q1); (fail_if_success (have _q := q2)); refine LoopP.mk (Nat) (fun k => k ≤ len) ((fun k => mkS (Try.f7).ntmps [(0, .one (.slc 0 0 len cap)), (3, .one (.rsl 30 (len + 1))), (5, .one (.b64 true (BitVec.ofNat 64 len + 1#64))), (6, .one (.b64 true 0#64)), (7, .one (.b64 true 42#64)), (8, iN k)] [(30, .row 37 5 (len + 1) (inF (stE v len))), (0, .ro T [.seg 1 len (v32 v)])])) (fun k => len - k) ⟨0, Nat.zero_le _, ⟨?_, ?_, ?_, ?_, ?_⟩⟩ ?_; (focus ((repeat' ((conv => whnf); first | exact trivial | refine Both.mk (by first | with_reducible rfl | exact iN_succ _ | exact congrArg (fun p => AV.one (.b64 true (Prod.fst p))) (c3 _ _) | exact congrArg (fun p => AV.one (.b64 true (Prod.snd p))) (c3 _ _) | exact congrArg (fun p => AV.one (.b64 true (Prod.snd p))) (c2 _) | exact congrArg (Blk.row 37 5 (len + 1)) (jn1 _ _ _) | rfl) ?_)); done)); (focus ((repeat' ((conv => whnf); first | exact trivial | refine Both.mk (by first | with_reducible rfl | exact iN_succ _ | exact congrArg (fun p => AV.one (.b64 true (Prod.fst p))) (c3 _ _) | exact congrArg (fun p => AV.one (.b64 true (Prod.snd p))) (c3 _ _) | exact congrArg (fun p => AV.one (.b64 true (Prod.snd p))) (c2 _) | exact congrArg (Blk.row 37 5 (len + 1)) (jn1 _ _ _) | rfl) ?_)); done)); (focus exact rfl); (focus exact rfl); (focus exact rfl); (rintro k2 q2))
      | ((have _q := q2); refine LoopP.times 3 ?_)
))
  all_goals first
    | (with_reducible apply Ob.mk; kernel_rfl)
    | ((with_reducible apply Ob.mk); exact ⟨Nat.le_refl _, by omega, .inr rfl⟩)
    | ((with_reducible apply Ob.mk); exact ⟨by decide, .inl rfl⟩)
    | ((with_reducible apply Ob.mk); exact ⟨Nat.le_refl _, by decide, .inr rfl⟩)
    | ((with_reducible apply Ob.mk); exact ⟨Nat.le_refl _, by decide, .inr (jn3' _ _)⟩)
    | ((with_reducible apply Ob.mk); show len < 9223372036854775808; omega)
    | ((with_reducible apply Ob.mk); exact fun _ => rfl)
    | ((with_reducible apply Ob.mk); exact ⟨rfl, fun _ => rfl, fun _ => rfl⟩)
    | (with_reducible apply Ob.mk; decide)
    | ((conv => whnf); exact rfl)
    | ((with_reducible apply Ob.mk); exact ix60 hl q1.2 (by with_reducible assumption))
    | ((with_reducible apply Ob.mk); exact (ix60 hl q1.2 (by with_reducible assumption)).2)
    | ((with_reducible apply Ob.mk); exact h0)
    | ((with_reducible apply Ob.mk); exact ⟨Nat.le_refl _, by omega, .inr (jn1' _ _ _)⟩)
    | ((with_reducible apply Ob.mk); exact ⟨Nat.le_refl _, by omega, .inr (jn2' _ _ _ _ _)⟩)
    | ((with_reducible apply Ob.mk); show 0 + (len + 1) < 65536; omega)
    | ((with_reducible apply Ob.mk); show len + 1 < 9223372036854775808; omega)
    | ((with_reducible apply Ob.mk); show len + 1 < 65536; omega)
    | ((with_reducible apply Ob.mk); show len + 1 + 1 < 65536; omega)
    | ((with_reducible apply Ob.mk); exact ixk60 hl q2)
    | ((with_reducible apply Ob.mk); exact (ixk60 hl q2).2)
    | ((with_reducible apply Ob.mk); exact ixk60 hl (Nat.le_refl _))
    | ((with_reducible apply Ob.mk); exact (ixk60 hl (Nat.le_refl _)).2)
    | ((with_reducible apply Ob.mk); with_reducible exact (show 0 ≤ (0#64).toInt ∧ (0#64).toNat < 1 by decide))
    | ((with_reducible apply Ob.mk); with_reducible exact (show (0#64).toNat < 1 by decide))
    | ((with_reducible apply Ob.mk); with_reducible exact (show 0 ≤ (0#64).toInt ∧ (0#64).toNat < 1 + 1 by decide))
    | ((with_reducible apply Ob.mk); with_reducible exact (show (0#64).toNat < 1 + 1 by decide))
    | ((with_reducible apply Ob.mk); with_reducible exact (show 0 ≤ (0#64 + 1#64).toInt ∧ (0#64 + 1#64).toNat < 1 + 1 by decide))
    | ((with_reducible apply Ob.mk); with_reducible exact (show (0#64 + 1#64).toNat < 1 + 1 by decide))
    | ((conv => whnf); refine ⟨k2 + 1, lt2, (by show len - (k2 + 1) < len - k2; omega), ⟨?_, ?_, ?_, ?_, ?_⟩⟩; (focus ((repeat' ((conv => whnf); first | exact trivial | refine Both.mk (by first | with_reducible rfl | exact iN_succ _ | rfl) ?_)); done)); (focus ((repeat' ((conv => whnf); first | exact trivial | refine Both.mk (by first | with_reducible rfl | exact iN_succ _ | rfl) ?_)); done)); (focus exact rfl); (focus exact rfl); (focus exact rfl))
    | ((with_reducible apply Ob.mk); exact Nat.le_refl _)
    | ((with_reducible apply Ob.mk); exact ix01 h0)
    | ((with_reducible apply Ob.mk); show k + 1 < 65536; omega)
    | ((conv => whnf); refine ⟨some 1, ⟨Nat.le_refl _, h0⟩, (by show len - 1 < len + 1; omega), ⟨?_, ?_, ?_, ?_, ?_⟩⟩; (focus ((repeat' ((conv => whnf); first | exact trivial | refine Both.mk (by first | with_reducible rfl | exact iN_succ _ | rfl) ?_)); done)); (focus ((repeat' ((conv => whnf); first | exact trivial | refine Both.mk (by first | with_reducible rfl | exact iN_succ _ | rfl) ?_)); done)); (focus exact rfl); (focus exact rfl); (focus exact rfl))
    | ((conv => whnf); refine ⟨some (k + 1), ⟨Nat.succ_le_succ (Nat.zero_le _), (lt60 hl q1.2 (by with_reducible assumption))⟩, (by have := (lt60 hl q1.2 (by with_reducible assumption)); show len - (k + 1) < len - k; omega), ⟨?_, ?_, ?_, ?_, ?_⟩⟩; (focus ((repeat' ((conv => whnf); first | exact trivial | refine Both.mk (by first | with_reducible rfl | exact iN_succ _ | exact congrArg (Blk.row 37 5 (k + 1)) (upT_go (mvI v) q1.1 _ (mv_eq v (nat_ofNat (by omega)))) | rfl) ?_)); done)); (focus ((repeat' ((conv => whnf); first | exact trivial | refine Both.mk (by first | with_reducible rfl | exact iN_succ _ | exact congrArg (Blk.row 37 5 (k + 1)) (upT_go (mvI v) q1.1 _ (mv_eq v (nat_ofNat (by omega)))) | rfl) ?_)); done)); (focus exact rfl); (focus exact rfl); (focus exact rfl))
    | (with_reducible apply Ob.mk; skip)
    | ((conv => whnf); skip)
set_option maxRecDepth 100000 in
set_option maxHeartbeats 8000000 in
theorem Str_A1 (T : TypeId) (len cap : Nat) (v : Nat → BitVec 32) (hl : len < 9223372036854775808) (f0 : (60#64).slt (BitVec.ofNat 64 len) = true) :
    FI Try.prog C_s Try.f7 1 [.one (.slc 0 0 len cap)] [(0, .ro T [.seg 1 len (v32 v)])] (fun r _ => r = .one (.bool true)) := by
  repeat' (first
    | (with_reducible apply Given.mk; intro h; (try (have e1 : len = k := ge60 hl q1.2 h; subst e1)); (try ((fail_if_success (have _u := n1)); (with_reducible have lt2 := lt60 hl q2 h); have so := st_o v hl lt2; have k0 := k60 hl q2; have kl := kl60 hl q2; have n0 := n60 hl lt2; have n1 := nl60 hl lt2)); (try ((fail_if_success (have _u := lt2)); with_reducible have e2 : len = k2 := ge60 hl q2 h; subst e2)); (try (have _u := q2; first | exact absurd (show (0#64).slt 1#64 = false from h) (by decide) | exact absurd (show (0#64 + 1#64).slt 1#64 = true from h) (by decide) | exact absurd (show (0#64).slt 0#64 = true from h) (by decide) | exact absurd (show (0#64).slt 2#64 = false from h) (by decide) | exact absurd (show (0#64 + 1#64).slt 2#64 = false from h) (by decide) | exact absurd (show (0#64 + 1#64 + 1#64).slt 2#64 = true from h) (by decide) |  skip)); (try simp only [inOf_inF, f0, BitVec.reduceBNe, BitVec.reduceBEq, beq_self_eq_true, bne_self_eq_false, decide_true, reduceCtorEq, Bool.true_eq_false, Bool.false_eq_true, Bool.not_true, Bool.not_false] at h); (try simp only [inOf_inF, so, endB183, alwB183, jmpB183, szV183] at h); (try simp only [inOf_inF, sn, endB149] at h); (try simp only [k0, kl, n0, n1, bne_self_eq_false, Bool.or_false, Bool.or_self, Bool.true_eq_false, Bool.false_eq_true, Bool.not_true, Bool.not_false, reduceCtorEq] at h); (try simp only [Bool.true_eq_false, Bool.false_eq_true, Bool.not_true, Bool.not_false, reduceCtorEq] at h); (try ((fail_if_success (have _q := q1)); exact absurd h (by decide))))
    | ((conv => whnf); first
      | with_reducible apply Both.mk

))
  all_goals first
    | (with_reducible apply Ob.mk; kernel_rfl)
    | ((with_reducible apply Ob.mk); exact ⟨Nat.le_refl _, by omega, .inr rfl⟩)
    | ((with_reducible apply Ob.mk); exact ⟨by decide, .inl rfl⟩)
    | ((with_reducible apply Ob.mk); exact ⟨Nat.le_refl _, by decide, .inr rfl⟩)
    | ((with_reducible apply Ob.mk); exact ⟨Nat.le_refl _, by decide, .inr (jn3' _ _)⟩)
    | ((with_reducible apply Ob.mk); show len < 9223372036854775808; omega)
    | ((with_reducible apply Ob.mk); exact fun _ => rfl)
    | ((with_reducible apply Ob.mk); exact ⟨rfl, fun _ => rfl, fun _ => rfl⟩)
    | (with_reducible apply Ob.mk; decide)
    | ((conv => whnf); exact rfl)
    | (with_reducible apply Ob.mk; skip)
    | ((conv => whnf); skip)
theorem jn3' (z z' : Nat) : joinF 1 (cutN 1 z exL) (cutN 1 z' exL) = inF (inOf (joinF 1 (cutN 1 z exL) (cutN 1 z' exL))) := by
  rw [show cutN 1 z exL = inF (fun _ => exI) from rfl, jn1]; rfl
set_option maxRecDepth 100000 in
set_option maxHeartbeats 8000000 in
theorem Str_B0 (ad : Option Addr) (cap : Nat) (d2 : ∀ z, chk4 (inOf (cutN 1 z exL)) 1 (0#64) false = (0#64, 0#64)) (d3 : ∀ z z', chk4 (inOf (joinF 1 (cutN 1 z exL) (cutN 1 z' exL))) (1 + 1) (0#64) false = (0#64 + 1#64, 42#64)) :
    FI Try.prog C_s Try.f7 1 [.one (.raw (.slice ad 0 cap))] [] (fun r _ => r = .one (.bool true)) := by
  repeat' (first
    | (with_reducible apply Given.mk; intro h; (try simp only [inOf_inF, d2, d3, BitVec.reduceBNe, BitVec.reduceBEq, beq_self_eq_true, bne_self_eq_false, decide_true, reduceCtorEq, Bool.true_eq_false, Bool.false_eq_true, Bool.not_true, Bool.not_false] at h); (try simp only [inOf_inF, so, endB183, alwB183, jmpB183, szV183] at h); (try simp only [inOf_inF, sn, endB149] at h); (try simp only [k0, kl, n0, n1, bne_self_eq_false, Bool.or_false, Bool.or_self, Bool.true_eq_false, Bool.false_eq_true, Bool.not_true, Bool.not_false, reduceCtorEq] at h); (try simp only [Bool.true_eq_false, Bool.false_eq_true, Bool.not_true, Bool.not_false, reduceCtorEq] at h); (try ((fail_if_success (have _q := q1)); exact absurd h (by decide))))
    | ((conv => whnf); first
      | with_reducible apply Both.mk
      | refine LoopP.times 2 ?_
))
  all_goals first
    | (with_reducible apply Ob.mk; kernel_rfl)
    | ((with_reducible apply Ob.mk); exact ⟨Nat.le_refl _, by omega, .inr rfl⟩)
    | ((with_reducible apply Ob.mk); exact ⟨by decide, .inl rfl⟩)
    | ((with_reducible apply Ob.mk); exact ⟨Nat.le_refl _, by decide, .inr rfl⟩)
    | ((with_reducible apply Ob.mk); exact ⟨Nat.le_refl _, by decide, .inr (jn3' _ _)⟩)
    | ((with_reducible apply Ob.mk); show len < 9223372036854775808; omega)
    | ((with_reducible apply Ob.mk); exact fun _ => rfl)
    | ((with_reducible apply Ob.mk); exact ⟨rfl, fun _ => rfl, fun _ => rfl⟩)
    | (with_reducible apply Ob.mk; decide)
    | ((conv => whnf); exact rfl)
    | (with_reducible apply Ob.mk; skip)
    | ((conv => whnf); skip)
theorem d10 (j : Nat) (h : j < 60) : (((BitVec.ofNat 64 j).srem 10#64).signExtend 8).toNat < 10 := by
  have key : ∀ j : Fin 60, (((BitVec.ofNat 64 j.val).srem 10#64).signExtend 8).toNat < 10 := by decide +kernel
  exact key ⟨j, h⟩
theorem mov_up (v : Nat → BitVec 32) {n : Nat} (hn : n ≤ 60) : Mov (upT (mvI v) n) n := fun j hj => ⟨_, _, upT_lt _ hj, d10 j (by omega)⟩
theorem mov_st (v : Nat → BitVec 32) {n : Nat} (hn : n ≤ 60) : Mov (stE v n) n := fun j hj => ⟨_, _, by rw [stE, if_neg (by omega), upT_lt _ hj], d10 j (by omega)⟩
theorem inOf_eq {f : Nat → List PL} {y : IT} (h : f = inF y) : inOf f = y := by rw [h]; rfl
theorem bv_pred {n : Nat} (h : 0 < n) (hn : n ≤ 60) : bv (n - 1) = BitVec.ofNat 64 n - 1#64 := by
  have : BitVec.ofNat 64 n = bv (n - 1) + 1#64 := by rw [add60]; congr 1; omega
  rw [this, BitVec.add_sub_cancel]
theorem c1_of (v : Nat → BitVec 32) {n : Nat} (h : 0 < n) (hn : n ≤ 60) : chk4 (upT (mvI v) n) n (0#64) false = (BitVec.ofNat 64 n - 1#64, 43#64) := by
  rw [straight1 (mov_up v hn) h hn, bv_pred h hn]
theorem c2_of (v : Nat → BitVec 32) {n : Nat} (hn : n ≤ 60) (z : Nat) : chk4 (inOf (joinF n (inF (upT (mvI v) n)) (cutN 1 z exL))) (n + 1) (0#64) false = (0#64, 0#64) := by
  rw [inOf_eq (jn1 n z _)]
  exact straight2 (mov_st v hn) (show stE v n n = exI by rw [stE, if_pos (Nat.le_refl _)]) hn
theorem c3_of (v : Nat → BitVec 32) {n : Nat} (hn : n ≤ 60) (z z' : Nat) : chk4 (inOf (joinF (n + 1) (joinF n (inF (upT (mvI v) n)) (cutN 1 z exL)) (cutN 1 z' exL))) (n + 1 + 1) (0#64) false = (BitVec.ofNat 64 n + 1#64, 42#64) := by
  have e : joinF (n + 1) (joinF n (inF (upT (mvI v) n)) (cutN 1 z exL)) (cutN 1 z' exL) = inF (fun j => if n + 1 ≤ j then exI else stE v n j) := by rw [jn1, jn1]; rfl
  rw [inOf_eq e, add60]
  refine straight3 (fun j hj => ?_) (fun j h1 h2 => ?_) hn
  · obtain ⟨d, w, e1, e2⟩ := mov_st v hn j hj
    exact ⟨d, w, by rw [if_neg (by omega)]; exact e1, e2⟩
  · by_cases h : n + 1 ≤ j
    · rw [if_pos h]
    · rw [if_neg h, stE, if_pos h1]
theorem d2_of (z : Nat) : chk4 (inOf (cutN 1 z exL)) 1 (0#64) false = (0#64, 0#64) := by
  rw [inOf_eq (show cutN 1 z exL = inF (fun _ => exI) from rfl)]
  exact straight2 (n := 0) (fun j hj => absurd hj (by omega)) rfl (by omega)
theorem d3_of (z z' : Nat) : chk4 (inOf (joinF 1 (cutN 1 z exL) (cutN 1 z' exL))) (1 + 1) (0#64) false = (0#64 + 1#64, 42#64) := by
  have e : joinF 1 (cutN 1 z exL) (cutN 1 z' exL) = inF (fun j => if 1 ≤ j then exI else exI) := by rw [show cutN 1 z exL = inF (fun _ => exI) from rfl, jn1]
  rw [inOf_eq e]
  exact straight3 (n := 0) (fun j hj => absurd hj (by omega)) (fun j h1 h2 => by split <;> rfl) (by omega)
set_option maxRecDepth 100000 in
theorem ProgsStraight_main1 (T : TypeId) (len cap : Nat) (v : Nat → BitVec 32) (hl : len < 9223372036854775808) (h0 : 0 < len) :
    FI Try.prog C_s Try.f7 1 [.one (.slc 0 0 len cap)] [(0, .ro T [.seg 1 len (v32 v)])] (fun r _ => r = .one (.bool true)) := by
  have g0 := slt_nat (a := 60) (b := len) (by decide) hl
  have g1 := slt_nat (a := 0) (b := len) (by decide) hl
  by_cases h60 : 60 < len
  · exact Str_A1 T len cap v hl (g0.trans (decide_eq_true h60))
  · have h60 : len ≤ 60 := by omega
    exact Str_B1 T len cap v h0 h60 (g0.trans (decide_eq_false (by omega))) (g1.trans (decide_eq_true h0)) (c1_of v h0 h60) (fun z => c2_of v h60 z) (fun z z' => c3_of v h60 z z') rfl (st_n v h60)
set_option maxRecDepth 100000 in
theorem ProgsStraight_main0 (ad : Option Addr) (cap : Nat) :
    FI Try.prog C_s Try.f7 1 [.one (.raw (.slice ad 0 cap))] [] (fun r _ => r = .one (.bool true)) := Str_B0 ad cap d2_of d3_of
end Go.Proofs.Ytdaioplfgbgggaa
