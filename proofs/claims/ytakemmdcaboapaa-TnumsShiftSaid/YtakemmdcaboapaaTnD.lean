/-
  What the looping functions of package tnums, and of the laws' own package, answer: by the evaluator. Conditions: none.
-/
import Derived.Test.YtakemmdcaboapaaTnC
import Derived.Test.YtakemmdcaboapaaEvW
namespace Go.Proofs.Ytakemmdcaboapaa
open Go.Ev Go.RowKit
set_option linter.unusedVariables false
set_option linter.unusedSimpArgs false

theorem bit_eq0 (y : BitVec 64) (k : Nat) : (y >>> k &&& 1#64 == 0#64) = !y.getLsbD k := by
  have h : y >>> k &&& 1#64 = if y.getLsbD k then 1#64 else 0#64 := by
    rw [BitVec.and_one_eq_setWidth_ofBool_getLsbD, BitVec.getLsbD_ushiftRight, Nat.add_zero]
    cases y.getLsbD k <;> rfl
  rw [h]
  cases y.getLsbD k <;> rfl
theorem bit_eq1 (y : BitVec 64) (k : Nat) : (y >>> k &&& 1#64 == 1#64) = y.getLsbD k := by
  have h : y >>> k &&& 1#64 = if y.getLsbD k then 1#64 else 0#64 := by
    rw [BitVec.and_one_eq_setWidth_ofBool_getLsbD, BitVec.getLsbD_ushiftRight, Nat.add_zero]
    cases y.getLsbD k <;> rfl
  rw [h]
  cases y.getLsbD k <;> rfl
theorem bit_ne (x y : BitVec 64) (k : Nat) : (x >>> k &&& 1#64 != y >>> k &&& 1#64) = (x.getLsbD k != y.getLsbD k) := by
  have h : ∀ y : BitVec 64, y >>> k &&& 1#64 = if y.getLsbD k then 1#64 else 0#64 := by
    intro y
    rw [BitVec.and_one_eq_setWidth_ofBool_getLsbD, BitVec.getLsbD_ushiftRight, Nat.add_zero]
    cases y.getLsbD k <;> rfl
  rw [h, h]
  cases x.getLsbD k <;> cases y.getLsbD k <;> rfl

theorem cnt_pos (n : BitVec 64) : 0 ≤ (n &&& 63#64).toInt := by
  rw [BitVec.toInt_eq_toNat_of_msb (by rw [BitVec.msb_and]; simp; intro _; decide)]
  omega
/-- The lowest bits. -/
def lowM (n : BitVec 64) : BitVec 64 := if (64#64).sle n then ~~~0#64 else (1#64 <<< (if n.slt 0#64 then 0#64 else n).toNat) - 1#64

def tMul (a b c d : BitVec 64) : Nat → BitVec 64 × BitVec 64
  | 0 => (0#64, 0#64)
  | n + 1 =>
    let o := tMul a b c d n
    if a.getLsbD n then (tAddV o.1 o.2 (c <<< (BitVec.ofNat 64 n &&& 63#64).toNat) (d <<< (BitVec.ofNat 64 n &&& 63#64).toNat), tAddM o.1 o.2 (c <<< (BitVec.ofNat 64 n &&& 63#64).toNat) (d <<< (BitVec.ofNat 64 n &&& 63#64).toNat))
    else if b.getLsbD n then
      (tAddV o.1 o.2 (tEitherV 0#64 0#64 (c <<< (BitVec.ofNat 64 n &&& 63#64).toNat) (d <<< (BitVec.ofNat 64 n &&& 63#64).toNat)) (tEitherM 0#64 0#64 (c <<< (BitVec.ofNat 64 n &&& 63#64).toNat) (d <<< (BitVec.ofNat 64 n &&& 63#64).toNat)),
       tAddM o.1 o.2 (tEitherV 0#64 0#64 (c <<< (BitVec.ofNat 64 n &&& 63#64).toNat) (d <<< (BitVec.ofNat 64 n &&& 63#64).toNat)) (tEitherM 0#64 0#64 (c <<< (BitVec.ofNat 64 n &&& 63#64).toNat) (d <<< (BitVec.ofNat 64 n &&& 63#64).toNat)))
    else o
theorem tMul_a (a b c d : BitVec 64) (n : Nat) (h : a.getLsbD n = true) : tMul a b c d (n + 1) =
    (tAddV (tMul a b c d n).1 (tMul a b c d n).2 (c <<< (BitVec.ofNat 64 n &&& 63#64).toNat) (d <<< (BitVec.ofNat 64 n &&& 63#64).toNat), tAddM (tMul a b c d n).1 (tMul a b c d n).2 (c <<< (BitVec.ofNat 64 n &&& 63#64).toNat) (d <<< (BitVec.ofNat 64 n &&& 63#64).toNat)) := by
  simp only [tMul]; rw [if_pos h]
theorem tMul_b (a b c d : BitVec 64) (n : Nat) (h : a.getLsbD n = false) (h' : b.getLsbD n = true) : tMul a b c d (n + 1) =
      (tAddV (tMul a b c d n).1 (tMul a b c d n).2 (tEitherV 0#64 0#64 (c <<< (BitVec.ofNat 64 n &&& 63#64).toNat) (d <<< (BitVec.ofNat 64 n &&& 63#64).toNat)) (tEitherM 0#64 0#64 (c <<< (BitVec.ofNat 64 n &&& 63#64).toNat) (d <<< (BitVec.ofNat 64 n &&& 63#64).toNat)),
       tAddM (tMul a b c d n).1 (tMul a b c d n).2 (tEitherV 0#64 0#64 (c <<< (BitVec.ofNat 64 n &&& 63#64).toNat) (d <<< (BitVec.ofNat 64 n &&& 63#64).toNat)) (tEitherM 0#64 0#64 (c <<< (BitVec.ofNat 64 n &&& 63#64).toNat) (d <<< (BitVec.ofNat 64 n &&& 63#64).toNat))) := by
  simp only [tMul]; rw [if_neg (by rw [h]; decide), if_pos h']
theorem tMul_n (a b c d : BitVec 64) (n : Nat) (h : a.getLsbD n = false) (h' : b.getLsbD n = false) : tMul a b c d (n + 1) = tMul a b c d n := by
  simp only [tMul]; rw [if_neg (by rw [h]; decide), if_neg (by rw [h']; decide)]
theorem bit_mask (a : BitVec 64) (k : Nat) (hk : k < 64) : (a &&& 1#64 <<< k != 0#64) = a.getLsbD k := by
  have h : a &&& 1#64 <<< k = if a.getLsbD k then 1#64 <<< k else 0#64 := by
    apply BitVec.eq_of_getLsbD_eq
    intro j hj
    rw [BitVec.getLsbD_and]
    by_cases e : j = k
    · subst e
      cases ha : a.getLsbD j <;> simp
    · have : (1#64 <<< k).getLsbD j = false := by
        rw [BitVec.getLsbD_shiftLeft]
        by_cases hjk : j < k
        · simp [hjk]
        · simp [hjk, BitVec.getLsbD_one]; omega
      cases ha : a.getLsbD k <;> simp [this]
  rw [h]
  cases a.getLsbD k
  · rfl
  · rw [if_pos rfl]
    have : (1#64 <<< k) ≠ 0#64 := by
      intro e
      have := congrArg (fun x => x.getLsbD k) e
      simp [BitVec.getLsbD_shiftLeft, hk] at this
    simpa [bne] using this

def sp_firewallref15_Has : Sp
  | [.one (.b64 false a), .one (.b64 false b), .one (.b64 false c)] => some (Cond.t, .one (.bool (tHas a b c)))
  | _ => none
set_option maxRecDepth 100000 in
set_option maxHeartbeats 4000000 in
theorem e_firewallref15_Has : EntryOK Try.prog anyWorld 53 sp_firewallref15_Has := by
  refine .of_F C_firewallref15_One (by kernel_rfl) Try.func53 (by kernel_rfl) (by kernel_rfl) (fun args c v h hc => ?_)
  unfold sp_firewallref15_Has at h
  split at h
  · rename_i a b c; cases h
    refine ⟨rfl, rfl, ?_⟩
    conv => whnf
    refine LoopP.mk Nat (fun k => k ≤ 64 ∧ ∀ j, j < k → okBit a b c j) (fun k => mkS 41 [(0, .one (.b64 false a)), (1, .one (.b64 false b)), (2, .one (.b64 false c)), (6, .one (.bool false)), (7, iN k)] []) (fun k => 64 - k) ⟨0, ⟨by omega, fun j hj => by omega⟩, ?_⟩ (fun k hk => ?_)
    · refine ⟨?_, trivial, rfl, rfl⟩
      repeat' ((conv => whnf); first | exact trivial | refine Both.mk (by with_reducible rfl) ?_)
    · obtain ⟨hk, hbits⟩ := hk
      have hkn : (BitVec.ofNat 64 k).toNat = k := toNat_ofNat (by omega)
      have hki : (BitVec.ofNat 64 k).toInt = (k : Int) := toInt_ofNat (by omega)
      conv => whnf
      refine Both.mk (Given.mk fun h => ?_) (Given.mk fun h => ?_)
      · have hlt := slt_yes (n := 64) (by omega) (by omega) h
        clear h
        repeat' ((conv => whnf); first | (refine Both.mk (Given.mk fun h => ?_) (Given.mk fun h => ?_) <;> (try simp only [hkn, bit_eq0, bit_eq1, bit_ne, Bool.false_eq_true, reduceCtorEq] at h)) | refine Both.mk (Ob.mk ?_) ?_)
        all_goals first
          | (rw [hki]; omega)
          | kernel_rfl
          | (have hno : ¬ okBit a b c k := by (unfold okBit; cases hb : b.getLsbD k <;> cases ha : a.getLsbD k <;> cases hc : c.getLsbD k <;> simp_all)
             have hf : tHas a b c = false := by
               cases hh : tHas a b c with
               | false => rfl
               | true => exact absurd ((okBits_has a b c).2 hh k hlt) hno
             conv => whnf
             refine ⟨?_⟩
             dsimp only
             rw [hf])
          | (have hyes : okBit a b c k := by (unfold okBit; cases hb : b.getLsbD k <;> cases ha : a.getLsbD k <;> cases hc : c.getLsbD k <;> simp_all)
             conv => whnf
             refine ⟨k + 1, ⟨by omega, fun j hj => ?_⟩, by omega, ?_⟩
             · rcases Nat.lt_or_ge j k with h | h
               · exact hbits j h
               · obtain rfl : j = k := by omega
                 exact hyes
             · refine ⟨?_, trivial, rfl, rfl⟩
               repeat' ((conv => whnf); first | exact trivial | refine Both.mk (by first | with_reducible rfl | exact iN_succ k) ?_))
      · have hge := slt_no (n := 64) (by omega) (by omega) h
        conv => whnf
        refine ⟨?_⟩
        dsimp only
        rw [(okBits_has a b c).1 fun j hj => hbits j (by omega)]
  · cases h
abbrev tb_firewallref15_Has : List (Nat × Sp) := (53, sp_firewallref15_Has) :: tb_firewallref15_One
theorem C_firewallref15_Has : CSound Try.prog anyWorld (tab tb_firewallref15_Has) := C_firewallref15_One.cons e_firewallref15_Has

def sp_firewalllaw15_has : Sp
  | [.agg [.b64 false a, .b64 false b], .one (.b64 false c)] => some (Cond.t, .one (.bool (tHas a b c)))
  | _ => none
set_option maxRecDepth 100000 in
set_option maxHeartbeats 4000000 in
theorem e_firewalllaw15_has : EntryOK Try.prog anyWorld 16 sp_firewalllaw15_has := by
  refine .of_F C_firewallref15_Has (by kernel_rfl) Try.func16 (by kernel_rfl) (by kernel_rfl) (fun args c v h hc => ?_)
  unfold sp_firewalllaw15_has at h
  split at h
  · rename_i a b c; cases h
    refine ⟨rfl, rfl, ?_⟩
    conv => whnf
    exact ⟨rfl⟩
  · cases h
abbrev tb_firewalllaw15_has : List (Nat × Sp) := (16, sp_firewalllaw15_has) :: tb_firewallref15_Has
theorem C_firewalllaw15_has : CSound Try.prog anyWorld (tab tb_firewalllaw15_has) := C_firewallref15_Has.cons e_firewalllaw15_has

def sp_tnums_Lsh : Sp
  | [.agg [.b64 false a, .b64 false b], .one (.b64 true n)] => some (Cond.t, .agg [.b64 false (a <<< (n &&& 63#64).toNat), .b64 false (b <<< (n &&& 63#64).toNat)])
  | _ => none
set_option maxRecDepth 100000 in
set_option maxHeartbeats 4000000 in
theorem e_tnums_Lsh : EntryOK Try.prog anyWorld 18 sp_tnums_Lsh := by
  refine .of_F C_firewalllaw15_has (by kernel_rfl) Try.func18 (by kernel_rfl) (by kernel_rfl) (fun args c v h hc => ?_)
  unfold sp_tnums_Lsh at h
  split at h
  · rename_i a b n; cases h
    refine ⟨rfl, rfl, ?_⟩
    repeat' ((conv => whnf); first | refine Both.mk (Ob.mk ?_) ?_)
    all_goals first | exact cnt_pos n | kernel_rfl | ((conv => whnf); exact ⟨rfl⟩)
  · cases h
abbrev tb_tnums_Lsh : List (Nat × Sp) := (18, sp_tnums_Lsh) :: tb_firewalllaw15_has
theorem C_tnums_Lsh : CSound Try.prog anyWorld (tab tb_tnums_Lsh) := C_firewalllaw15_has.cons e_tnums_Lsh

def sp_tnums_Rsh : Sp
  | [.agg [.b64 false a, .b64 false b], .one (.b64 true n)] => some (Cond.t, .agg [.b64 false (a >>> (n &&& 63#64).toNat), .b64 false (b >>> (n &&& 63#64).toNat)])
  | _ => none
set_option maxRecDepth 100000 in
set_option maxHeartbeats 4000000 in
theorem e_tnums_Rsh : EntryOK Try.prog anyWorld 19 sp_tnums_Rsh := by
  refine .of_F C_tnums_Lsh (by kernel_rfl) Try.func19 (by kernel_rfl) (by kernel_rfl) (fun args c v h hc => ?_)
  unfold sp_tnums_Rsh at h
  split at h
  · rename_i a b n; cases h
    refine ⟨rfl, rfl, ?_⟩
    repeat' ((conv => whnf); first | refine Both.mk (Ob.mk ?_) ?_)
    all_goals first | exact cnt_pos n | kernel_rfl | ((conv => whnf); exact ⟨rfl⟩)
  · cases h
abbrev tb_tnums_Rsh : List (Nat × Sp) := (19, sp_tnums_Rsh) :: tb_tnums_Lsh
theorem C_tnums_Rsh : CSound Try.prog anyWorld (tab tb_tnums_Rsh) := C_tnums_Lsh.cons e_tnums_Rsh

def sp_tnums_Arsh : Sp
  | [.agg [.b64 false a, .b64 false b], .one (.b64 true n)] => some (Cond.t, .agg [.b64 false (a.sshiftRight (n &&& 63#64).toNat), .b64 false (b.sshiftRight (n &&& 63#64).toNat)])
  | _ => none
set_option maxRecDepth 100000 in
set_option maxHeartbeats 4000000 in
theorem e_tnums_Arsh : EntryOK Try.prog anyWorld 20 sp_tnums_Arsh := by
  refine .of_F C_tnums_Rsh (by kernel_rfl) Try.func20 (by kernel_rfl) (by kernel_rfl) (fun args c v h hc => ?_)
  unfold sp_tnums_Arsh at h
  split at h
  · rename_i a b n; cases h
    refine ⟨rfl, rfl, ?_⟩
    repeat' ((conv => whnf); first | refine Both.mk (Ob.mk ?_) ?_)
    all_goals first | exact cnt_pos n | kernel_rfl | ((conv => whnf); exact ⟨rfl⟩)
  · cases h
abbrev tb_tnums_Arsh : List (Nat × Sp) := (20, sp_tnums_Arsh) :: tb_tnums_Rsh
theorem C_tnums_Arsh : CSound Try.prog anyWorld (tab tb_tnums_Arsh) := C_tnums_Rsh.cons e_tnums_Arsh

def sp_tnums_Low : Sp
  | [.agg [.b64 false a, .b64 false b], .one (.b64 true n)] => some (Cond.t, .agg [.b64 false (a &&& lowM n), .b64 false (b &&& lowM n)])
  | _ => none
set_option maxRecDepth 100000 in
set_option maxHeartbeats 4000000 in
theorem e_tnums_Low : EntryOK Try.prog anyWorld 21 sp_tnums_Low := by
  refine .of_F C_tnums_Arsh (by kernel_rfl) Try.func21 (by kernel_rfl) (by kernel_rfl) (fun args c v h hc => ?_)
  unfold sp_tnums_Low at h
  split at h
  · rename_i a b n; cases h
    refine ⟨rfl, rfl, ?_⟩
    conv => whnf
    refine Both.mk (Given.mk fun h => ?_) (Given.mk fun h => ?_)
    · conv => whnf
      refine ⟨?_⟩
      dsimp only
      rw [lowM, if_pos h]
      have e : ~~~0#64 = BitVec.allOnes 64 := by simp
      rw [e, BitVec.and_allOnes, BitVec.and_allOnes]
    · conv => whnf
      refine Both.mk (Ob.mk ?_) ?_
      · split
        · decide
        · rename_i h2
          rw [BitVec.slt] at h2
          simpa using h2
      · conv => whnf
        refine ⟨?_⟩
        show AV.agg _ = AV.agg _
        have e : lowM n = (1#64 <<< (if n.slt 0#64 then 0#64 else n).toNat) - 1#64 := by unfold lowM; rw [if_neg]; rw [h]; decide
        rw [e]
  · cases h
abbrev tb_tnums_Low : List (Nat × Sp) := (21, sp_tnums_Low) :: tb_tnums_Arsh
theorem C_tnums_Low : CSound Try.prog anyWorld (tab tb_tnums_Low) := C_tnums_Arsh.cons e_tnums_Low

def sp_tnums_Mul : Sp
  | [.agg [.b64 false a, .b64 false b], .agg [.b64 false c, .b64 false d]] => some (Cond.t, .agg [.b64 false ((tMul a b c d 64).1), .b64 false ((tMul a b c d 64).2)])
  | _ => none
set_option maxRecDepth 100000 in
set_option maxHeartbeats 4000000 in
theorem e_tnums_Mul : EntryOK Try.prog anyWorld 33 sp_tnums_Mul := by
  refine .of_F C_tnums_Low (by kernel_rfl) Try.func33 (by kernel_rfl) (by kernel_rfl) (fun args c v h hc => ?_)
  unfold sp_tnums_Mul at h
  split at h
  · rename_i a b c d; cases h
    refine ⟨rfl, rfl, ?_⟩
    conv => whnf
    refine LoopP.mk Nat (fun k => k ≤ 64) (fun k => mkS 40 [(2, .one (.ptr 2 0)), (3, .one (.ptr 3 0)), (4, .one (.ptr 4 0)), (5, .one (.ptr 5 0)), (6, iN k)]
      [(5, .cells 26 [.b64 false (tMul a b c d k).1, .b64 false (tMul a b c d k).2]), (4, .cells 26 [.b64 false 0#64, .b64 false 0#64]), (3, .cells 26 [.b64 false c, .b64 false d]), (2, .cells 26 [.b64 false a, .b64 false b])]) (fun k => 64 - k) ⟨0, by omega, ?_⟩ (fun k hk => ?_)
    · refine ⟨?_, ?_, rfl, rfl⟩ <;> repeat' ((conv => whnf); first | exact trivial | refine Both.mk (by first | with_reducible rfl | rfl) ?_)
    · have hkn : (BitVec.ofNat 64 k).toNat = k := toNat_ofNat (by omega)
      have hki : (BitVec.ofNat 64 k).toInt = (k : Int) := toInt_ofNat (by omega)
      conv => whnf
      refine Both.mk (Given.mk fun h => ?_) (Given.mk fun h => ?_)
      · have hlt := slt_yes (n := 64) (by omega) (by omega) h
        clear h
        repeat' ((conv => whnf); first | (refine Both.mk (Given.mk fun h => ?_) (Given.mk fun h => ?_) <;> (try simp only [hkn, bit_mask _ k hlt, Bool.false_eq_true, reduceCtorEq] at h)) | refine Both.mk (Ob.mk ?_) ?_)
        all_goals first
          | (rw [hki]; omega)
          | kernel_rfl
          | ((conv => whnf)
             refine ⟨k + 1, by omega, by omega, ?_⟩
             refine ⟨?_, ?_, rfl, rfl⟩ <;> repeat' ((conv => whnf); first | exact trivial | refine Both.mk (by first | with_reducible rfl | exact iN_succ k | rw [tMul_a a b c d k (by assumption)] | rw [tMul_b a b c d k (by assumption) (by assumption)] | rw [tMul_n a b c d k (by assumption) (by assumption)]) ?_))
      · have hge := slt_no (n := 64) (by omega) (by omega) h
        obtain rfl : k = 64 := by omega
        (conv => whnf)
        exact ⟨rfl⟩
  · cases h
abbrev tb_tnums_Mul : List (Nat × Sp) := (33, sp_tnums_Mul) :: tb_tnums_Low
theorem C_tnums_Mul : CSound Try.prog anyWorld (tab tb_tnums_Mul) := C_tnums_Low.cons e_tnums_Mul

def sp_firewalllaw15_bits : Sp
  | [] => some (Cond.t, .one (.bool (true)))
  | _ => none
set_option maxRecDepth 100000 in
set_option maxHeartbeats 4000000 in
theorem e_firewalllaw15_bits : EntryOK Try.prog anyWorld 17 sp_firewalllaw15_bits := by
  refine .of_F C_tnums_Mul (by kernel_rfl) Try.func17 (by kernel_rfl) (by kernel_rfl) (fun args c v h hc => ?_)
  unfold sp_firewalllaw15_bits at h
  split at h
  · cases h
    refine ⟨rfl, rfl, ?_⟩
    repeat' ((conv => whnf); first | (refine Both.mk (Given.mk fun h => ?_) (Given.mk fun h => ?_) <;> (try exact absurd h (by decide))) | refine Both.mk (Ob.mk ?_) ?_)
    all_goals first | kernel_rfl | ((conv => whnf); exact ⟨rfl⟩)
  · cases h
abbrev tb_firewalllaw15_bits : List (Nat × Sp) := (17, sp_firewalllaw15_bits) :: tb_tnums_Mul
theorem C_firewalllaw15_bits : CSound Try.prog anyWorld (tab tb_firewalllaw15_bits) := C_tnums_Mul.cons e_firewalllaw15_bits

