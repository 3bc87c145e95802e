/-
  What arithmetic comes to: the contracts of package alu, by the evaluator. Conditions: none.
-/
import Derived.Test.YtaifibnpbkgaiaaEvW
import Derived.Test.YtaifibnpbkgaiaaProg
namespace Go.Proofs.Ytaifibnpbkgaiaa
open Go.Ev Go.RowKit
set_option linter.unusedVariables false
set_option linter.unusedSimpArgs false

/-- What arithmetic comes to; by: by how much is moved; minus: moved down with the sign told on. -/
def aluW {w : Nat} (op : BitVec 8) (a b : BitVec w) (n : Nat) (minus : BitVec w) : BitVec w :=
  if op == 0#8 then a + b else if op == 16#8 then a - b else if op == 32#8 then a * b
  else if op == 48#8 then (if b == 0#w then 0#w else a / b) else if op == 144#8 then (if b == 0#w then a else a % b)
  else if op == 64#8 then a ||| b else if op == 80#8 then a &&& b else if op == 160#8 then a ^^^ b
  else if op == 96#8 then a <<< n else if op == 112#8 then a >>> n else if op == 192#8 then minus
  else if op == 128#8 then -a else if op == 176#8 then b else 0#w
def aluD (op : BitVec 8) (wide : Bool) (a b : BitVec 64) : BitVec 64 :=
  if wide then aluW op a b (b % 64#64).toNat (a.sshiftRight (b % 64#64).toNat)
  else (aluW op (a.setWidth 32) (b.setWidth 32) (b % 32#64).toNat ((a.setWidth 32).sshiftRight (b % 32#64).toNat)).setWidth 64

abbrev tb_zero : List (Nat × Sp) := []
theorem C_zero : CSound Try.prog anyWorld (tab tb_zero) := CSound.start
def sp_alu_do_uint64 : Sp
  | [.one (.b8 false op), .one (.b64 false a), .one (.b64 false b), .one (.b64 false n), .one (.b64 false m)] => some (Cond.t, .one (.b64 false (aluW op a b n.toNat m)))
  | _ => none
set_option maxRecDepth 100000 in
set_option maxHeartbeats 4000000 in
theorem e_alu_do_uint64 : EntryOK Try.prog anyWorld 25 sp_alu_do_uint64 := by
  refine .of_F C_zero (by kernel_rfl) Try.func25 (by kernel_rfl) (by kernel_rfl) (fun args c v h hc => ?_)
  unfold sp_alu_do_uint64 at h
  split at h
  · rename_i op a b n m; cases h
    refine ⟨rfl, rfl, ?_⟩
    repeat' (first
      | (with_reducible apply Given.mk; intro h)
      | ((conv => whnf); with_reducible apply Both.mk))
    all_goals first
      | (with_reducible apply Ob.mk; simp_all; done)
      | ((conv => whnf); refine ⟨?_⟩; simp only [aluW, *, if_true, if_false, Bool.false_eq_true]; done)
  · cases h
abbrev tb_alu_do_uint64 : List (Nat × Sp) := (25, sp_alu_do_uint64) :: tb_zero
theorem C_alu_do_uint64 : CSound Try.prog anyWorld (tab tb_alu_do_uint64) := C_zero.cons e_alu_do_uint64

def sp_alu_do_uint32 : Sp
  | [.one (.b8 false op), .one (.b32 false a), .one (.b32 false b), .one (.b64 false n), .one (.b32 false m)] => some (Cond.t, .one (.b32 false (aluW op a b n.toNat m)))
  | _ => none
set_option maxRecDepth 100000 in
set_option maxHeartbeats 4000000 in
theorem e_alu_do_uint32 : EntryOK Try.prog anyWorld 26 sp_alu_do_uint32 := by
  refine .of_F C_alu_do_uint64 (by kernel_rfl) Try.func26 (by kernel_rfl) (by kernel_rfl) (fun args c v h hc => ?_)
  unfold sp_alu_do_uint32 at h
  split at h
  · rename_i op a b n m; cases h
    refine ⟨rfl, rfl, ?_⟩
    repeat' (first
      | (with_reducible apply Given.mk; intro h)
      | ((conv => whnf); with_reducible apply Both.mk))
    all_goals first
      | (with_reducible apply Ob.mk; simp_all; done)
      | ((conv => whnf); refine ⟨?_⟩; simp only [aluW, *, if_true, if_false, Bool.false_eq_true]; done)
  · cases h
abbrev tb_alu_do_uint32 : List (Nat × Sp) := (26, sp_alu_do_uint32) :: tb_alu_do_uint64
theorem C_alu_do_uint32 : CSound Try.prog anyWorld (tab tb_alu_do_uint32) := C_alu_do_uint64.cons e_alu_do_uint32

def sp_alu_Do : Sp
  | [.one (.b8 false op), .one (.bool wide), .one (.b64 false a), .one (.b64 false b)] => some (Cond.t, .one (.b64 false (aluD op wide a b)))
  | _ => none
set_option maxRecDepth 100000 in
set_option maxHeartbeats 4000000 in
theorem e_alu_Do : EntryOK Try.prog anyWorld 21 sp_alu_Do := by
  refine .of_F C_alu_do_uint32 (by kernel_rfl) Try.func21 (by kernel_rfl) (by kernel_rfl) (fun args c v h hc => ?_)
  unfold sp_alu_Do at h
  split at h
  · rename_i op wide a b; cases h
    refine ⟨rfl, rfl, ?_⟩
    repeat' (first
      | (with_reducible apply Given.mk; intro h)
      | ((conv => whnf); with_reducible apply Both.mk))
    all_goals first
      | (with_reducible apply Ob.mk; decide)
      | (with_reducible apply Ob.mk; kernel_rfl)
      | ((conv => whnf); refine ⟨?_⟩; simp only [aluD, *, if_true, if_false, Bool.false_eq_true]; done)
  · cases h
abbrev tb_alu_Do : List (Nat × Sp) := (21, sp_alu_Do) :: tb_alu_do_uint32
theorem C_alu_Do : CSound Try.prog anyWorld (tab tb_alu_Do) := C_alu_do_uint32.cons e_alu_Do

def sp_firewalllaw05_reckoned : Sp
  | [] => some (Cond.t, .one (.bool (true)))
  | _ => none
set_option maxRecDepth 100000 in
set_option maxHeartbeats 4000000 in
theorem e_firewalllaw05_reckoned : EntryOK Try.prog anyWorld 23 sp_firewalllaw05_reckoned := by
  refine .of_F C_alu_Do (by kernel_rfl) Try.func23 (by kernel_rfl) (by kernel_rfl) (fun args c v h hc => ?_)
  unfold sp_firewalllaw05_reckoned at h
  split at h
  · cases h
    refine ⟨rfl, rfl, ?_⟩
    repeat' (first
      | (with_reducible apply Given.mk; intro h; (try exact absurd h (by decide)))
      | ((conv => whnf); with_reducible apply Both.mk))
    all_goals first
      | (with_reducible apply Ob.mk; kernel_rfl)
      | ((conv => whnf); exact ⟨rfl⟩)
  · cases h
abbrev tb_firewalllaw05_reckoned : List (Nat × Sp) := (23, sp_firewalllaw05_reckoned) :: tb_alu_Do
theorem C_firewalllaw05_reckoned : CSound Try.prog anyWorld (tab tb_firewalllaw05_reckoned) := C_alu_Do.cons e_firewalllaw05_reckoned

end Go.Proofs.Ytaifibnpbkgaiaa

