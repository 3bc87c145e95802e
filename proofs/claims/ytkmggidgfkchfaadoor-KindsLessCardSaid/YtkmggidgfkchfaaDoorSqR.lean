/-
  The document's answers that chapter 17 asks. Conditions: as typed.
-/
import Derived.Test.YtkmggidgfkchfaaDoorSqN
namespace Go.Proofs.YtkmggidgfkchfaaDoor
open Go.Ep Go.RowKit
set_option linter.unusedVariables false
set_option linter.unusedSimpArgs false




theorem pow_succ' (k : Nat) : (1#64 <<< k) * 2#64 = 1#64 <<< (k + 1) := by
  rw [BitVec.shiftLeft_add, BitVec.shiftLeft_eq_mul_twoPow _ 1]; rfl

def rLow (v n : BitVec 64) : BitVec 64 := if (64#64).sle n = true then v else if n.sle 0#64 = true then 0#64 else v % (1#64 <<< n.toNat)

theorem sle_lt {n : BitVec 64} (h : (64#64).sle n = false) (h' : n.sle 0#64 = false) : n.toNat < 64 := by
  have h1 : ¬ ((64#64).sle n = true) := by rw [h]; decide
  have h2 : ¬ (n.sle 0#64 = true) := by rw [h']; decide
  rw [sle_nat] at h1 h2
  have := sg_cases n
  rw [sg_zero] at h2
  have e : sg 64#64 = 9223372036854775872 := rfl
  rw [e] at h1
  omega

theorem pow_ne {m : Nat} (h : m < 64) : 1#64 <<< m ≠ 0#64 := by
  intro e
  have e2 := congrArg BitVec.toNat e
  have h2 : 2 ^ m < 2 ^ 64 := Nat.pow_lt_pow_right (by decide) h
  have h3 : 0 < 2 ^ m := Nat.two_pow_pos m
  rw [BitVec.toNat_shiftLeft, Nat.shiftLeft_eq] at e2
  simp only [BitVec.toNat_ofNat, Nat.one_mod, Nat.one_mul] at e2
  rw [Nat.mod_eq_of_lt (by simpa using h2)] at e2
  simp at e2

theorem sle_lt1 {n : BitVec 64} (h : (64#64).sle n = false) (h' : n.sle 0#64 = false) : (n - 1#64).toNat < 64 := by
  have h1 := sle_lt h h'
  have h2 : ¬ (n.sle 0#64 = true) := by rw [h']; decide
  rw [sle_nat, sg_zero] at h2
  have := sg_cases n
  rw [BitVec.toNat_sub]
  simp only [BitVec.toNat_ofNat]
  omega
def rSign (v n : BitVec 64) : BitVec 64 := if (n.sle 0#64 || (64#64).sle n || (rLow v n).ult (1#64 <<< (n - 1#64).toNat)) = true then rLow v n else rLow v n - 1#64 <<< n.toNat

theorem ult_ne {b : BitVec 64} (h : (0#64).ult b = true) : b ≠ 0#64 := by
  rintro rfl
  exact absurd h (by decide)
theorem rLow64 (v : BitVec 64) : rLow v 64#64 = v := rfl
theorem mod64 (b : BitVec 64) : (b % 64#64).toNat < 64 := by
  rw [BitVec.toNat_umod]
  exact Nat.mod_lt _ (by decide)
def rDo (o : BitVec 8) (a b : BitVec 64) : BitVec 64 :=
  if (o == 0#8) = true then a + b else if (o == 16#8) = true then a - b else if (o == 32#8) = true then a * b
  else if (o == 48#8 && (0#64).ult b) = true then a / b
  else if (o == 144#8) = true then (if (0#64).ult b = true then a % b else a)
  else if (o == 64#8) = true then a ||| b else if (o == 80#8) = true then a &&& b else if (o == 160#8) = true then a ^^^ b
  else if (o == 96#8) = true then a * 1#64 <<< (b % 64#64).toNat
  else if (o == 112#8) = true then a / 1#64 <<< (b % 64#64).toNat
  else if (o == 192#8) = true then rSign (a / 1#64 <<< (b % 64#64).toNat) (64#64 - b % 64#64)
  else if (o == 128#8) = true then 0#64 - a else if (o == 176#8) = true then b else 0#64



def sp_firewallref01_Power : Sp
  | [.one (.b64 true n)] => some (Cond.p (n.toNat < 64), .one (.b64 false (1#64 <<< n.toNat)))
  | _ => none
set_option maxRecDepth 100000 in
set_option maxHeartbeats 4000000 in
theorem e_firewallref01_Power (m : Nat → Nat) : EntryOK Tryd.prog (GS m) 43 sp_firewallref01_Power := by
  refine .of_F (C_firewallref16_Has m) (by kernel_rfl) Tryd.func43 (by kernel_rfl) (by kernel_rfl) (fun args c v h hc => ?_)
  unfold sp_firewallref01_Power at h
  split at h
  · rename_i n; cases h
    refine ⟨rfl, rfl, ?_⟩
    have hn : n.toNat < 64 := hc
    have hni : n.toInt = (n.toNat : Int) := by rw [BitVec.toInt_eq_toNat_cond]; split <;> omega
    conv => whnf
    refine LoopP.mk Nat (fun k => k ≤ n.toNat) (fun k => mkS 13 [(0, .one (.b64 true n)), (3, .one (.b64 false (1#64 <<< k))), (4, iN k)] []) (fun k => 64 - k) ⟨0, by omega, ?_⟩ (fun k hk => ?_)
    · refine ⟨?_, trivial, rfl, rfl, rfl⟩
      repeat' ((conv => whnf); first | exact trivial | refine Both.mk (by first | with_reducible rfl | rfl) ?_)
    · have hki : (BitVec.ofNat 64 k).toInt = (k : Int) := toInt_ofNat (by omega)
      conv => whnf
      refine Both.mk (Given.mk fun h => ?_) (Given.mk fun h => ?_)
      · have hlt : k < n.toNat := by
          rw [BitVec.slt_iff_toInt_lt, hki, hni] at h
          omega
        clear h
        repeat' ((conv => whnf); first | refine Both.mk (Ob.mk ?_) ?_)
        all_goals first
          | kernel_rfl
          | ((conv => whnf)
             refine ⟨k + 1, by omega, by omega, ?_⟩
             refine ⟨?_, trivial, rfl, rfl, rfl⟩
             repeat' ((conv => whnf); first | exact trivial | refine Both.mk (by first | with_reducible rfl | exact iN_succ k | rw [pow_succ']) ?_))
      · have hge : k = n.toNat := by
          have : ¬ ((BitVec.ofNat 64 k).slt n = true) := by rw [h]; decide
          rw [BitVec.slt_iff_toInt_lt, hki, hni] at this
          omega
        subst hge
        (conv => whnf)
        exact ⟨rfl⟩
  · cases h
abbrev tb_firewallref01_Power : List (Nat × Sp) := (43, sp_firewallref01_Power) :: tb_firewallref16_Has
theorem C_firewallref01_Power (m : Nat → Nat) : CSound Tryd.prog (GS m) (tab (DS m) tb_firewallref01_Power) := (C_firewallref16_Has m).cons (e_firewallref01_Power m)

def sp_firewallref01_Low : Sp
  | [.one (.b64 false v), .one (.b64 true n)] => some (Cond.t, .one (.b64 false (rLow v n)))
  | _ => none
set_option maxRecDepth 100000 in
set_option maxHeartbeats 4000000 in
theorem e_firewallref01_Low (m : Nat → Nat) : EntryOK Tryd.prog (GS m) 42 sp_firewallref01_Low := by
  refine .of_F (C_firewallref01_Power m) (by kernel_rfl) Tryd.func42 (by kernel_rfl) (by kernel_rfl) (fun args c v h hc => ?_)
  unfold sp_firewallref01_Low at h
  split at h
  · rename_i v n; cases h
    refine ⟨rfl, rfl, ?_⟩
    repeat' (first
      | (with_reducible apply Given.mk; intro h)
      | ((conv => whnf); with_reducible apply Both.mk))
    all_goals first
      | (with_reducible apply Ob.mk; kernel_rfl)
      | (with_reducible apply Ob.mk; exact sle_lt (by assumption) (by assumption))
      | (with_reducible apply Ob.mk; exact pow_ne (sle_lt (by assumption) (by assumption)))
      | ((conv => whnf); refine ⟨?_⟩; simp only [rLow, *, if_true, if_false, Bool.false_eq_true]; done)
  · cases h
abbrev tb_firewallref01_Low : List (Nat × Sp) := (42, sp_firewallref01_Low) :: tb_firewallref01_Power
theorem C_firewallref01_Low (m : Nat → Nat) : CSound Tryd.prog (GS m) (tab (DS m) tb_firewallref01_Low) := (C_firewallref01_Power m).cons (e_firewallref01_Low m)

def sp_firewallref01_Sign : Sp
  | [.one (.b64 false v), .one (.b64 true n)] => some (Cond.t, .one (.b64 false (rSign v n)))
  | _ => none
set_option maxRecDepth 100000 in
set_option maxHeartbeats 4000000 in
theorem e_firewallref01_Sign (m : Nat → Nat) : EntryOK Tryd.prog (GS m) 44 sp_firewallref01_Sign := by
  refine .of_F (C_firewallref01_Low m) (by kernel_rfl) Tryd.func44 (by kernel_rfl) (by kernel_rfl) (fun args c v h hc => ?_)
  unfold sp_firewallref01_Sign at h
  split at h
  · rename_i v n; cases h
    refine ⟨rfl, rfl, ?_⟩
    repeat' (first
      | (with_reducible apply Given.mk; intro h; (try exact absurd h (by decide)))
      | ((conv => whnf); with_reducible apply Both.mk))
    all_goals first
      | (with_reducible apply Ob.mk; kernel_rfl)
      | (with_reducible apply Ob.mk; exact sle_lt (by assumption) (by assumption))
      | (with_reducible apply Ob.mk; exact sle_lt1 (by assumption) (by assumption))
      | ((conv => whnf); refine ⟨?_⟩; simp only [rSign, *, if_true, if_false, Bool.false_eq_true, Bool.true_or, Bool.or_true, Bool.false_or, Bool.or_false]; done)
  · cases h
abbrev tb_firewallref01_Sign : List (Nat × Sp) := (44, sp_firewallref01_Sign) :: tb_firewallref01_Low
theorem C_firewallref01_Sign (m : Nat → Nat) : CSound Tryd.prog (GS m) (tab (DS m) tb_firewallref01_Sign) := (C_firewallref01_Low m).cons (e_firewallref01_Sign m)

/-- Arithmetic of 32 bits, of two numbers that are below 2^32, before the lowest bits are taken. -/
def rDoX (o : BitVec 8) (a b : BitVec 64) : BitVec 64 :=
  if (o == 0#8) = true then a + b else if (o == 16#8) = true then a - b else if (o == 32#8) = true then a * b
  else if (o == 48#8 && (0#64).ult b) = true then a / b
  else if (o == 144#8) = true then (if (0#64).ult b = true then a % b else a)
  else if (o == 64#8) = true then a ||| b else if (o == 80#8) = true then a &&& b else if (o == 160#8) = true then a ^^^ b
  else if (o == 96#8) = true then a * 1#64 <<< (b % 32#64).toNat
  else if (o == 112#8) = true then a / 1#64 <<< (b % 32#64).toNat
  else if (o == 192#8) = true then rSign (a / 1#64 <<< (b % 32#64).toNat) (32#64 - b % 32#64)
  else if (o == 128#8) = true then 0#64 - a else if (o == 176#8) = true then b else 0#64
def rDoW (o : BitVec 8) (w : Bool) (a b : BitVec 64) : BitVec 64 := if w = true then rDo o a b else rLow (rDoX o (rLow a 32#64) (rLow b 32#64)) 32#64
theorem mod32 (b : BitVec 64) : (b % 32#64).toNat < 64 := by
  rw [BitVec.toNat_umod]
  have : b.toNat % (32#64).toNat < (32#64).toNat := Nat.mod_lt _ (by decide)
  have e : (32#64).toNat = 32 := rfl
  omega

def sp_firewallref05_Do : Sp
  | [.one (.b8 false o), .one (.bool w), .one (.b64 false a), .one (.b64 false b)] => some (Cond.t, .one (.b64 false (rDoW o w a b)))
  | _ => none
set_option maxRecDepth 100000 in
set_option maxHeartbeats 4000000 in
theorem e_firewallref05_Do (m : Nat → Nat) : EntryOK Tryd.prog (GS m) 23 sp_firewallref05_Do := by
  refine .of_F (C_firewallref01_Sign m) (by kernel_rfl) Tryd.func23 (by kernel_rfl) (by kernel_rfl) (fun args c v h hc => ?_)
  unfold sp_firewallref05_Do at h
  split at h
  · rename_i o w a b; cases h
    refine ⟨rfl, rfl, ?_⟩
    cases w
    all_goals
      repeat' (first
        | (with_reducible apply Given.mk; intro h; (try exact absurd h (by decide)))
        | ((conv => whnf); with_reducible apply Both.mk))
      all_goals first
        | (with_reducible apply Ob.mk; kernel_rfl)
        | (with_reducible apply Ob.mk; decide)
        | ((conv => whnf); refine ⟨?_⟩; (try simp only [rLow64] at *); simp only [rDoW, rDo, rDoX, *, if_true, if_false, Bool.false_eq_true, Bool.true_and, Bool.false_and, Bool.and_true, Bool.and_false]; done)
        | (with_reducible apply Ob.mk; exact mod64 _)
        | (with_reducible apply Ob.mk; exact mod32 _)
        | (with_reducible apply Ob.mk; exact pow_ne (mod64 _))
        | (with_reducible apply Ob.mk; exact pow_ne (mod32 _))
        | (with_reducible apply Ob.mk; exact ult_ne (by assumption))
        | (exfalso; simp_all; done)
  · cases h
abbrev tb_firewallref05_Do : List (Nat × Sp) := (23, sp_firewallref05_Do) :: tb_firewallref01_Sign
theorem C_firewallref05_Do (m : Nat → Nat) : CSound Tryd.prog (GS m) (tab (DS m) tb_firewallref05_Do) := (C_firewallref01_Sign m).cons (e_firewallref05_Do m)


end Go.Proofs.YtkmggidgfkchfaaDoor

