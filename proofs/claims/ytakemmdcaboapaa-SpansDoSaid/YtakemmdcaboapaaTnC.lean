/-
  What the functions of package tnums, and of the laws' own package, answer: by the evaluator. Conditions: none.
-/
import Derived.Test.YtakemmdcaboapaaEvV
import Derived.Test.YtakemmdcaboapaaTnM
import Derived.Test.YtakemmdcaboapaaShelf
namespace Go.Proofs.Ytakemmdcaboapaa
open Go.Ev Go.RowKit
set_option linter.unusedVariables false
set_option linter.unusedSimpArgs false

abbrev tb_zero : List (Nat × Sp) := []
theorem C_zero : CSound Try.prog anyWorld (tab tb_zero) := CSound.start
def sp_bits_Len64 : Sp
  | [.one (.b64 false x)] => some (Cond.t, .one (.b64 true (BitVec.ofNat 64 (Lib.bitLen x.toNat))))
  | _ => none
theorem e_bits_Len64 : EntryOK Try.prog anyWorld 71 sp_bits_Len64 := by
  refine ⟨⟨_, Try.func71, by kernel_rfl, by kernel_rfl⟩, fun args c v h hc => ?_⟩
  unfold sp_bits_Len64 at h
  split at h
  · rename_i x; cases h
    refine ⟨rfl, fun us ρ hr w _ => ?_⟩
    obtain ⟨u, rfl, h1⟩ : ∃ u, us = [u] ∧ RelL ρ (.b64 false x) u := by
      match us, hr with
      | [u], ⟨h1, _⟩ => exact ⟨u, rfl, h1⟩
    obtain rfl := h1 (by simp)
    have h2 := x.isLt
    refine (Try.bits_Len64 (vI false x) w (by simp [vI]) (by simp only [vI]; omega)).mono ?_
    rintro e w' ⟨rfl, rfl⟩
    refine ⟨_, rfl, ?_, Below.refl _ _⟩
    intro _
    have := bitLen_le64 x.toNat
    simp only [gL, k64, vI_len (show Lib.bitLen x.toNat < 9223372036854775808 by omega)]
    simp [vI]
  · cases h
abbrev tb_bits_Len64 : List (Nat × Sp) := (71, sp_bits_Len64) :: tb_zero
theorem C_bits_Len64 : CSound Try.prog anyWorld (tab tb_bits_Len64) := C_zero.cons e_bits_Len64

def sp_tnums_Const : Sp
  | [.one (.b64 false v)] => some (Cond.t, .agg [.b64 false v, .b64 false (0#64)])
  | _ => none
set_option maxRecDepth 100000 in
set_option maxHeartbeats 4000000 in
theorem e_tnums_Const : EntryOK Try.prog anyWorld 22 sp_tnums_Const := by
  refine .of_F C_bits_Len64 (by kernel_rfl) Try.func22 (by kernel_rfl) (by kernel_rfl) (fun args c v h hc => ?_)
  unfold sp_tnums_Const at h
  split at h
  · rename_i v; cases h
    refine ⟨rfl, rfl, ?_⟩
    conv => whnf
    exact ⟨rfl⟩
  · cases h
abbrev tb_tnums_Const : List (Nat × Sp) := (22, sp_tnums_Const) :: tb_bits_Len64
theorem C_tnums_Const : CSound Try.prog anyWorld (tab tb_tnums_Const) := C_bits_Len64.cons e_tnums_Const

def sp_tnums_Any : Sp
  | [] => some (Cond.t, .agg [.b64 false (0#64), .b64 false (~~~0#64)])
  | _ => none
set_option maxRecDepth 100000 in
set_option maxHeartbeats 4000000 in
theorem e_tnums_Any : EntryOK Try.prog anyWorld 51 sp_tnums_Any := by
  refine .of_F C_tnums_Const (by kernel_rfl) Try.func51 (by kernel_rfl) (by kernel_rfl) (fun args c v h hc => ?_)
  unfold sp_tnums_Any at h
  split at h
  · cases h
    refine ⟨rfl, rfl, ?_⟩
    conv => whnf
    exact ⟨rfl⟩
  · cases h
abbrev tb_tnums_Any : List (Nat × Sp) := (51, sp_tnums_Any) :: tb_tnums_Const
theorem C_tnums_Any : CSound Try.prog anyWorld (tab tb_tnums_Any) := C_tnums_Const.cons e_tnums_Any

def sp_tnums_Valid : Sp
  | [.agg [.b64 false a, .b64 false b]] => some (Cond.t, .one (.bool (tValid a b)))
  | _ => none
set_option maxRecDepth 100000 in
set_option maxHeartbeats 4000000 in
theorem e_tnums_Valid : EntryOK Try.prog anyWorld 15 sp_tnums_Valid := by
  refine .of_F C_tnums_Any (by kernel_rfl) Try.func15 (by kernel_rfl) (by kernel_rfl) (fun args c v h hc => ?_)
  unfold sp_tnums_Valid at h
  split at h
  · rename_i a b; cases h
    refine ⟨rfl, rfl, ?_⟩
    conv => whnf
    exact ⟨rfl⟩
  · cases h
abbrev tb_tnums_Valid : List (Nat × Sp) := (15, sp_tnums_Valid) :: tb_tnums_Any
theorem C_tnums_Valid : CSound Try.prog anyWorld (tab tb_tnums_Valid) := C_tnums_Any.cons e_tnums_Valid

def sp_tnums_Has : Sp
  | [.agg [.b64 false a, .b64 false b], .one (.b64 false x)] => some (Cond.t, .one (.bool (tHas a b x)))
  | _ => none
set_option maxRecDepth 100000 in
set_option maxHeartbeats 4000000 in
theorem e_tnums_Has : EntryOK Try.prog anyWorld 54 sp_tnums_Has := by
  refine .of_F C_tnums_Valid (by kernel_rfl) Try.func54 (by kernel_rfl) (by kernel_rfl) (fun args c v h hc => ?_)
  unfold sp_tnums_Has at h
  split at h
  · rename_i a b x; cases h
    refine ⟨rfl, rfl, ?_⟩
    conv => whnf
    exact ⟨rfl⟩
  · cases h
abbrev tb_tnums_Has : List (Nat × Sp) := (54, sp_tnums_Has) :: tb_tnums_Valid
theorem C_tnums_Has : CSound Try.prog anyWorld (tab tb_tnums_Has) := C_tnums_Valid.cons e_tnums_Has

def sp_tnums_In : Sp
  | [.agg [.b64 false a, .b64 false b], .agg [.b64 false c, .b64 false d]] => some (Cond.t, .one (.bool (tIn a b c d)))
  | _ => none
set_option maxRecDepth 100000 in
set_option maxHeartbeats 4000000 in
theorem e_tnums_In : EntryOK Try.prog anyWorld 37 sp_tnums_In := by
  refine .of_F C_tnums_Has (by kernel_rfl) Try.func37 (by kernel_rfl) (by kernel_rfl) (fun args c v h hc => ?_)
  unfold sp_tnums_In at h
  split at h
  · rename_i a b c d; cases h
    refine ⟨rfl, rfl, ?_⟩
    conv => whnf
    refine Both.mk (Given.mk fun h => ?_) (Given.mk fun h => ?_)
    · conv => whnf
      refine ⟨?_⟩
      simp [tIn, h]
    · conv => whnf
      refine ⟨?_⟩
      simp [tIn, h]
  · cases h
abbrev tb_tnums_In : List (Nat × Sp) := (37, sp_tnums_In) :: tb_tnums_Has
theorem C_tnums_In : CSound Try.prog anyWorld (tab tb_tnums_In) := C_tnums_Has.cons e_tnums_In

def sp_tnums_below : Sp
  | [.one (.b64 false v)] => some (Cond.t, .one (.b64 false (belowB v)))
  | _ => none
set_option maxRecDepth 100000 in
set_option maxHeartbeats 4000000 in
theorem e_tnums_below : EntryOK Try.prog anyWorld 52 sp_tnums_below := by
  refine .of_F C_tnums_In (by kernel_rfl) Try.func52 (by kernel_rfl) (by kernel_rfl) (fun args c v h hc => ?_)
  unfold sp_tnums_below at h
  split at h
  · rename_i v; cases h
    refine ⟨rfl, rfl, ?_⟩
    have hl := bitLen_le64 v.toNat
    conv => whnf
    refine Both.mk (Ob.mk ?_) ?_
    · have : (BitVec.ofNat 64 (Lib.bitLen v.toNat)).toInt = vI true (BitVec.ofNat 64 (Lib.bitLen v.toNat)) := rfl
      rw [this, vI_len (by omega)]; omega
    · conv => whnf
      refine ⟨?_⟩
      have : (BitVec.ofNat 64 (Lib.bitLen v.toNat)).toNat = Lib.bitLen v.toNat := by rw [BitVec.toNat_ofNat]; omega
      rw [this]; rfl
  · cases h
abbrev tb_tnums_below : List (Nat × Sp) := (52, sp_tnums_below) :: tb_tnums_In
theorem C_tnums_below : CSound Try.prog anyWorld (tab tb_tnums_below) := C_tnums_In.cons e_tnums_below

def sp_tnums_Range : Sp
  | [.one (.b64 false a), .one (.b64 false b)] => some (Cond.t, .agg [.b64 false (if b.ult a then 0#64 else a &&& ~~~ belowB (a ^^^ b)), .b64 false (if b.ult a then ~~~0#64 else belowB (a ^^^ b))])
  | _ => none
set_option maxRecDepth 100000 in
set_option maxHeartbeats 4000000 in
theorem e_tnums_Range : EntryOK Try.prog anyWorld 10 sp_tnums_Range := by
  refine .of_F C_tnums_below (by kernel_rfl) Try.func10 (by kernel_rfl) (by kernel_rfl) (fun args c v h hc => ?_)
  unfold sp_tnums_Range at h
  split at h
  · rename_i a b; cases h
    refine ⟨rfl, rfl, ?_⟩
    conv => whnf
    refine Both.mk (Given.mk fun h => ?_) (Given.mk fun h => ?_)
    · conv => whnf
      refine ⟨?_⟩
      dsimp only
      rw [if_pos h, if_pos h]
    · conv => whnf
      refine ⟨?_⟩
      dsimp only
      rw [if_neg (by rw [h]; simp), if_neg (by rw [h]; simp)]
  · cases h
abbrev tb_tnums_Range : List (Nat × Sp) := (10, sp_tnums_Range) :: tb_tnums_below
theorem C_tnums_Range : CSound Try.prog anyWorld (tab tb_tnums_Range) := C_tnums_below.cons e_tnums_Range

def sp_tnums_Add : Sp
  | [.agg [.b64 false a, .b64 false b], .agg [.b64 false c, .b64 false d]] => some (Cond.t, .agg [.b64 false (tAddV a b c d), .b64 false (tAddM a b c d)])
  | _ => none
set_option maxRecDepth 100000 in
set_option maxHeartbeats 4000000 in
theorem e_tnums_Add : EntryOK Try.prog anyWorld 31 sp_tnums_Add := by
  refine .of_F C_tnums_Range (by kernel_rfl) Try.func31 (by kernel_rfl) (by kernel_rfl) (fun args c v h hc => ?_)
  unfold sp_tnums_Add at h
  split at h
  · rename_i a b c d; cases h
    refine ⟨rfl, rfl, ?_⟩
    conv => whnf
    exact ⟨rfl⟩
  · cases h
abbrev tb_tnums_Add : List (Nat × Sp) := (31, sp_tnums_Add) :: tb_tnums_Range
theorem C_tnums_Add : CSound Try.prog anyWorld (tab tb_tnums_Add) := C_tnums_Range.cons e_tnums_Add

def sp_tnums_Sub : Sp
  | [.agg [.b64 false a, .b64 false b], .agg [.b64 false c, .b64 false d]] => some (Cond.t, .agg [.b64 false (tSubV a b c d), .b64 false (tSubM a b c d)])
  | _ => none
set_option maxRecDepth 100000 in
set_option maxHeartbeats 4000000 in
theorem e_tnums_Sub : EntryOK Try.prog anyWorld 32 sp_tnums_Sub := by
  refine .of_F C_tnums_Add (by kernel_rfl) Try.func32 (by kernel_rfl) (by kernel_rfl) (fun args c v h hc => ?_)
  unfold sp_tnums_Sub at h
  split at h
  · rename_i a b c d; cases h
    refine ⟨rfl, rfl, ?_⟩
    conv => whnf
    exact ⟨rfl⟩
  · cases h
abbrev tb_tnums_Sub : List (Nat × Sp) := (32, sp_tnums_Sub) :: tb_tnums_Add
theorem C_tnums_Sub : CSound Try.prog anyWorld (tab tb_tnums_Sub) := C_tnums_Add.cons e_tnums_Sub

def sp_tnums_And : Sp
  | [.agg [.b64 false a, .b64 false b], .agg [.b64 false c, .b64 false d]] => some (Cond.t, .agg [.b64 false (tAndV a b c d), .b64 false (tAndM a b c d)])
  | _ => none
set_option maxRecDepth 100000 in
set_option maxHeartbeats 4000000 in
theorem e_tnums_And : EntryOK Try.prog anyWorld 34 sp_tnums_And := by
  refine .of_F C_tnums_Sub (by kernel_rfl) Try.func34 (by kernel_rfl) (by kernel_rfl) (fun args c v h hc => ?_)
  unfold sp_tnums_And at h
  split at h
  · rename_i a b c d; cases h
    refine ⟨rfl, rfl, ?_⟩
    conv => whnf
    exact ⟨rfl⟩
  · cases h
abbrev tb_tnums_And : List (Nat × Sp) := (34, sp_tnums_And) :: tb_tnums_Sub
theorem C_tnums_And : CSound Try.prog anyWorld (tab tb_tnums_And) := C_tnums_Sub.cons e_tnums_And

def sp_tnums_Or : Sp
  | [.agg [.b64 false a, .b64 false b], .agg [.b64 false c, .b64 false d]] => some (Cond.t, .agg [.b64 false (tOrV a b c d), .b64 false (tOrM a b c d)])
  | _ => none
set_option maxRecDepth 100000 in
set_option maxHeartbeats 4000000 in
theorem e_tnums_Or : EntryOK Try.prog anyWorld 35 sp_tnums_Or := by
  refine .of_F C_tnums_And (by kernel_rfl) Try.func35 (by kernel_rfl) (by kernel_rfl) (fun args c v h hc => ?_)
  unfold sp_tnums_Or at h
  split at h
  · rename_i a b c d; cases h
    refine ⟨rfl, rfl, ?_⟩
    conv => whnf
    exact ⟨rfl⟩
  · cases h
abbrev tb_tnums_Or : List (Nat × Sp) := (35, sp_tnums_Or) :: tb_tnums_And
theorem C_tnums_Or : CSound Try.prog anyWorld (tab tb_tnums_Or) := C_tnums_And.cons e_tnums_Or

def sp_tnums_Xor : Sp
  | [.agg [.b64 false a, .b64 false b], .agg [.b64 false c, .b64 false d]] => some (Cond.t, .agg [.b64 false (tXorV a b c d), .b64 false (tXorM a b c d)])
  | _ => none
set_option maxRecDepth 100000 in
set_option maxHeartbeats 4000000 in
theorem e_tnums_Xor : EntryOK Try.prog anyWorld 36 sp_tnums_Xor := by
  refine .of_F C_tnums_Or (by kernel_rfl) Try.func36 (by kernel_rfl) (by kernel_rfl) (fun args c v h hc => ?_)
  unfold sp_tnums_Xor at h
  split at h
  · rename_i a b c d; cases h
    refine ⟨rfl, rfl, ?_⟩
    conv => whnf
    exact ⟨rfl⟩
  · cases h
abbrev tb_tnums_Xor : List (Nat × Sp) := (36, sp_tnums_Xor) :: tb_tnums_Or
theorem C_tnums_Xor : CSound Try.prog anyWorld (tab tb_tnums_Xor) := C_tnums_Or.cons e_tnums_Xor

def sp_tnums_Either : Sp
  | [.agg [.b64 false a, .b64 false b], .agg [.b64 false c, .b64 false d]] => some (Cond.t, .agg [.b64 false (tEitherV a b c d), .b64 false (tEitherM a b c d)])
  | _ => none
set_option maxRecDepth 100000 in
set_option maxHeartbeats 4000000 in
theorem e_tnums_Either : EntryOK Try.prog anyWorld 13 sp_tnums_Either := by
  refine .of_F C_tnums_Xor (by kernel_rfl) Try.func13 (by kernel_rfl) (by kernel_rfl) (fun args c v h hc => ?_)
  unfold sp_tnums_Either at h
  split at h
  · rename_i a b c d; cases h
    refine ⟨rfl, rfl, ?_⟩
    conv => whnf
    exact ⟨rfl⟩
  · cases h
abbrev tb_tnums_Either : List (Nat × Sp) := (13, sp_tnums_Either) :: tb_tnums_Xor
theorem C_tnums_Either : CSound Try.prog anyWorld (tab tb_tnums_Either) := C_tnums_Xor.cons e_tnums_Either

def sp_tnums_Both : Sp
  | [.agg [.b64 false a, .b64 false b], .agg [.b64 false c, .b64 false d]] => some (Cond.t, .tup [(true, [.b64 false (if tBothOk a b c d then tBothV a b c d else 0#64), .b64 false (if tBothOk a b c d then tBothM a b c d else 0#64)]), (false, [.bool (tBothOk a b c d)])])
  | _ => none
set_option maxRecDepth 100000 in
set_option maxHeartbeats 4000000 in
theorem e_tnums_Both : EntryOK Try.prog anyWorld 14 sp_tnums_Both := by
  refine .of_F C_tnums_Either (by kernel_rfl) Try.func14 (by kernel_rfl) (by kernel_rfl) (fun args c v h hc => ?_)
  unfold sp_tnums_Both at h
  split at h
  · rename_i a b c d; cases h
    refine ⟨rfl, rfl, ?_⟩
    conv => whnf
    refine Both.mk (Given.mk fun h => ?_) (Given.mk fun h => ?_)
    · conv => whnf
      refine ⟨?_⟩
      have e : tBothOk a b c d = false := by simpa [tBothOk, bne] using h
      simp [e]
    · conv => whnf
      refine ⟨?_⟩
      have e : tBothOk a b c d = true := by simpa [tBothOk, bne] using h
      simp [e, tBothV, tBothM]
  · cases h
abbrev tb_tnums_Both : List (Nat × Sp) := (14, sp_tnums_Both) :: tb_tnums_Either
theorem C_tnums_Both : CSound Try.prog anyWorld (tab tb_tnums_Both) := C_tnums_Either.cons e_tnums_Both

def sp_tnums_count : Sp
  | [.one (.b64 true n)] => some (Cond.t, .one (.b64 true (n &&& 63#64)))
  | _ => none
set_option maxRecDepth 100000 in
set_option maxHeartbeats 4000000 in
theorem e_tnums_count : EntryOK Try.prog anyWorld 55 sp_tnums_count := by
  refine .of_F C_tnums_Both (by kernel_rfl) Try.func55 (by kernel_rfl) (by kernel_rfl) (fun args c v h hc => ?_)
  unfold sp_tnums_count at h
  split at h
  · rename_i n; cases h
    refine ⟨rfl, rfl, ?_⟩
    conv => whnf
    exact ⟨rfl⟩
  · cases h
abbrev tb_tnums_count : List (Nat × Sp) := (55, sp_tnums_count) :: tb_tnums_Both
theorem C_tnums_count : CSound Try.prog anyWorld (tab tb_tnums_count) := C_tnums_Both.cons e_tnums_count

def sp_firewalllaw15_made : Sp
  | [.agg [.b64 false a, .b64 false b]] => some (Cond.t, .agg [.b64 false (a &&& ~~~b), .b64 false b])
  | _ => none
set_option maxRecDepth 100000 in
set_option maxHeartbeats 4000000 in
theorem e_firewalllaw15_made : EntryOK Try.prog anyWorld 11 sp_firewalllaw15_made := by
  refine .of_F C_tnums_count (by kernel_rfl) Try.func11 (by kernel_rfl) (by kernel_rfl) (fun args c v h hc => ?_)
  unfold sp_firewalllaw15_made at h
  split at h
  · rename_i a b; cases h
    refine ⟨rfl, rfl, ?_⟩
    conv => whnf
    exact ⟨rfl⟩
  · cases h
abbrev tb_firewalllaw15_made : List (Nat × Sp) := (11, sp_firewalllaw15_made) :: tb_tnums_count
theorem C_firewalllaw15_made : CSound Try.prog anyWorld (tab tb_firewalllaw15_made) := C_tnums_count.cons e_firewalllaw15_made

def sp_firewallref15_One : Sp
  | [.one (.b64 false a), .one (.b64 false b), .one (.b64 false c)] => some (Cond.t, .one (.b64 false (a ||| b &&& c)))
  | _ => none
set_option maxRecDepth 100000 in
set_option maxHeartbeats 4000000 in
theorem e_firewallref15_One : EntryOK Try.prog anyWorld 12 sp_firewallref15_One := by
  refine .of_F C_firewalllaw15_made (by kernel_rfl) Try.func12 (by kernel_rfl) (by kernel_rfl) (fun args c v h hc => ?_)
  unfold sp_firewallref15_One at h
  split at h
  · rename_i a b c; cases h
    refine ⟨rfl, rfl, ?_⟩
    conv => whnf
    exact ⟨rfl⟩
  · cases h
abbrev tb_firewallref15_One : List (Nat × Sp) := (12, sp_firewallref15_One) :: tb_firewalllaw15_made
theorem C_firewallref15_One : CSound Try.prog anyWorld (tab tb_firewallref15_One) := C_firewalllaw15_made.cons e_firewallref15_One

