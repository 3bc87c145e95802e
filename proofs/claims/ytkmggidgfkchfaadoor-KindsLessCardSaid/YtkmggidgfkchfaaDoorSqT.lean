/-
  Package tnums. Conditions: as typed.
-/
import Derived.Test.YtkmggidgfkchfaaDoorSqW
import Derived.Test.YtkmggidgfkchfaaDoorTnM
import Derived.Test.YtkmggidgfkchfaaDoorShelf
namespace Go.Proofs.YtkmggidgfkchfaaDoor
open Go.Ep Go.RowKit
set_option linter.unusedVariables false
set_option linter.unusedSimpArgs false



def sp_bits_Len64 : Sp
  | [.one (.b64 false x)] => some (Cond.t, .one (.b64 true (BitVec.ofNat 64 (Lib.bitLen x.toNat))))
  | _ => none
set_option maxRecDepth 100000 in
theorem e_bits_Len64 (m : Nat → Nat) : EntryOK Tryd.prog (GS m) 82 sp_bits_Len64 := by
  refine ⟨⟨_, Tryd.func82, by kernel_rfl, by kernel_rfl⟩, fun args c v h hc => ?_⟩
  unfold sp_bits_Len64 at h
  split at h
  · rename_i x; cases h
    refine ⟨rfl, fun us ρ hr w _ => ?_⟩
    obtain ⟨u, rfl, h1⟩ : ∃ u, us = [u] ∧ RelL ρ (.b64 false x) u := by
      match us, hr with
      | [u], ⟨h1, _⟩ => exact ⟨u, rfl, h1⟩
    obtain rfl := h1 (by simp)
    have h2 := x.isLt
    refine (Tryd.bits_Len64 (vI false x) w (by simp [vI]) (by simp only [vI]; omega)).mono ?_
    rintro e w' ⟨rfl, rfl⟩
    refine ⟨_, rfl, ?_, Below.refl _ _⟩
    intro _
    have := bitLen_le64 x.toNat
    simp only [gL, k64, vI_len (show Lib.bitLen x.toNat < 9223372036854775808 by omega)]
    simp [vI]
  · cases h
abbrev tb_bits_Len64 : List (Nat × Sp) := (82, sp_bits_Len64) :: tb_start
theorem C_bits_Len64 (m : Nat → Nat) : CSound Tryd.prog (GS m) (tab (DS m) tb_bits_Len64) := (C_start m).cons (e_bits_Len64 m)

def sp_tnums_Const : Sp
  | [.one (.b64 false v)] => some (Cond.t, .agg [.b64 false v, .b64 false (0#64)])
  | _ => none
set_option maxRecDepth 100000 in
set_option maxHeartbeats 4000000 in
theorem e_tnums_Const (m : Nat → Nat) : EntryOK Tryd.prog (GS m) 32 sp_tnums_Const := by
  refine .of_F (C_bits_Len64 m) (by kernel_rfl) Tryd.func32 (by kernel_rfl) (by kernel_rfl) (fun args c v h hc => ?_)
  unfold sp_tnums_Const at h
  split at h
  · rename_i v; cases h
    refine ⟨rfl, rfl, ?_⟩
    repeat' (first
      | (with_reducible apply Given.mk; intro h; (try exact absurd h (by decide)))
      | ((conv => whnf); with_reducible apply Both.mk))
    all_goals first
      | (with_reducible apply Ob.mk; kernel_rfl)
      | (with_reducible apply Ob.mk; decide)
      | (with_reducible apply Ob.mk; simp [ByteArray.size, catB, exB]; done)
      | ((conv => whnf); refine ⟨?_⟩; first | with_reducible rfl | rfl)
  · cases h
abbrev tb_tnums_Const : List (Nat × Sp) := (32, sp_tnums_Const) :: tb_bits_Len64
theorem C_tnums_Const (m : Nat → Nat) : CSound Tryd.prog (GS m) (tab (DS m) tb_tnums_Const) := (C_bits_Len64 m).cons (e_tnums_Const m)

def sp_tnums_Any : Sp
  | [] => some (Cond.t, .agg [.b64 false (0#64), .b64 false (~~~0#64)])
  | _ => none
set_option maxRecDepth 100000 in
set_option maxHeartbeats 4000000 in
theorem e_tnums_Any (m : Nat → Nat) : EntryOK Tryd.prog (GS m) 38 sp_tnums_Any := by
  refine .of_F (C_tnums_Const m) (by kernel_rfl) Tryd.func38 (by kernel_rfl) (by kernel_rfl) (fun args c v h hc => ?_)
  unfold sp_tnums_Any at h
  split at h
  · cases h
    refine ⟨rfl, rfl, ?_⟩
    repeat' (first
      | (with_reducible apply Given.mk; intro h; (try exact absurd h (by decide)))
      | ((conv => whnf); with_reducible apply Both.mk))
    all_goals first
      | (with_reducible apply Ob.mk; kernel_rfl)
      | (with_reducible apply Ob.mk; decide)
      | (with_reducible apply Ob.mk; simp [ByteArray.size, catB, exB]; done)
      | ((conv => whnf); refine ⟨?_⟩; first | with_reducible rfl | rfl)
  · cases h
abbrev tb_tnums_Any : List (Nat × Sp) := (38, sp_tnums_Any) :: tb_tnums_Const
theorem C_tnums_Any (m : Nat → Nat) : CSound Tryd.prog (GS m) (tab (DS m) tb_tnums_Any) := (C_tnums_Const m).cons (e_tnums_Any m)

def sp_tnums_Valid : Sp
  | [.agg [.b64 false a, .b64 false b]] => some (Cond.t, .one (.bool (tValid a b)))
  | _ => none
set_option maxRecDepth 100000 in
set_option maxHeartbeats 4000000 in
theorem e_tnums_Valid (m : Nat → Nat) : EntryOK Tryd.prog (GS m) 48 sp_tnums_Valid := by
  refine .of_F (C_tnums_Any m) (by kernel_rfl) Tryd.func48 (by kernel_rfl) (by kernel_rfl) (fun args c v h hc => ?_)
  unfold sp_tnums_Valid at h
  split at h
  · rename_i a b; cases h
    refine ⟨rfl, rfl, ?_⟩
    repeat' (first
      | (with_reducible apply Given.mk; intro h; (try exact absurd h (by decide)))
      | ((conv => whnf); with_reducible apply Both.mk))
    all_goals first
      | (with_reducible apply Ob.mk; kernel_rfl)
      | (with_reducible apply Ob.mk; decide)
      | (with_reducible apply Ob.mk; simp [ByteArray.size, catB, exB]; done)
      | ((conv => whnf); refine ⟨?_⟩; first | with_reducible rfl | rfl)
  · cases h
abbrev tb_tnums_Valid : List (Nat × Sp) := (48, sp_tnums_Valid) :: tb_tnums_Any
theorem C_tnums_Valid (m : Nat → Nat) : CSound Tryd.prog (GS m) (tab (DS m) tb_tnums_Valid) := (C_tnums_Any m).cons (e_tnums_Valid m)

def sp_tnums_Has : Sp
  | [.agg [.b64 false a, .b64 false b], .one (.b64 false x)] => some (Cond.t, .one (.bool (tHas a b x)))
  | _ => none
set_option maxRecDepth 100000 in
set_option maxHeartbeats 4000000 in
theorem e_tnums_Has (m : Nat → Nat) : EntryOK Tryd.prog (GS m) 55 sp_tnums_Has := by
  refine .of_F (C_tnums_Valid m) (by kernel_rfl) Tryd.func55 (by kernel_rfl) (by kernel_rfl) (fun args c v h hc => ?_)
  unfold sp_tnums_Has at h
  split at h
  · rename_i a b x; cases h
    refine ⟨rfl, rfl, ?_⟩
    repeat' (first
      | (with_reducible apply Given.mk; intro h; (try exact absurd h (by decide)))
      | ((conv => whnf); with_reducible apply Both.mk))
    all_goals first
      | (with_reducible apply Ob.mk; kernel_rfl)
      | (with_reducible apply Ob.mk; decide)
      | (with_reducible apply Ob.mk; simp [ByteArray.size, catB, exB]; done)
      | ((conv => whnf); refine ⟨?_⟩; first | with_reducible rfl | rfl)
  · cases h
abbrev tb_tnums_Has : List (Nat × Sp) := (55, sp_tnums_Has) :: tb_tnums_Valid
theorem C_tnums_Has (m : Nat → Nat) : CSound Tryd.prog (GS m) (tab (DS m) tb_tnums_Has) := (C_tnums_Valid m).cons (e_tnums_Has m)

def sp_tnums_In : Sp
  | [.agg [.b64 false a, .b64 false b], .agg [.b64 false c, .b64 false d]] => some (Cond.t, .one (.bool (tIn a b c d)))
  | _ => none
set_option maxRecDepth 100000 in
set_option maxHeartbeats 4000000 in
theorem e_tnums_In (m : Nat → Nat) : EntryOK Tryd.prog (GS m) 53 sp_tnums_In := by
  refine .of_F (C_tnums_Has m) (by kernel_rfl) Tryd.func53 (by kernel_rfl) (by kernel_rfl) (fun args c v h hc => ?_)
  unfold sp_tnums_In at h
  split at h
  · rename_i a b c d; cases h
    refine ⟨rfl, rfl, ?_⟩
    conv => whnf
    refine Both.mk (Given.mk fun h => ?_) (Given.mk fun h => ?_)
    · conv => whnf
      refine ⟨?_⟩
      simp [tIn, h]
    · conv => whnf
      refine ⟨?_⟩
      simp [tIn, h]
  · cases h
abbrev tb_tnums_In : List (Nat × Sp) := (53, sp_tnums_In) :: tb_tnums_Has
theorem C_tnums_In (m : Nat → Nat) : CSound Tryd.prog (GS m) (tab (DS m) tb_tnums_In) := (C_tnums_Has m).cons (e_tnums_In m)

def sp_tnums_below : Sp
  | [.one (.b64 false v)] => some (Cond.t, .one (.b64 false (belowB v)))
  | _ => none
set_option maxRecDepth 100000 in
set_option maxHeartbeats 4000000 in
theorem e_tnums_below (m : Nat → Nat) : EntryOK Tryd.prog (GS m) 71 sp_tnums_below := by
  refine .of_F (C_tnums_In m) (by kernel_rfl) Tryd.func71 (by kernel_rfl) (by kernel_rfl) (fun args c v h hc => ?_)
  unfold sp_tnums_below at h
  split at h
  · rename_i v; cases h
    refine ⟨rfl, rfl, ?_⟩
    have hl := bitLen_le64 v.toNat
    conv => whnf
    refine Both.mk (Ob.mk ?_) ?_
    · have : (BitVec.ofNat 64 (Lib.bitLen v.toNat)).toInt = vI true (BitVec.ofNat 64 (Lib.bitLen v.toNat)) := rfl
      rw [this, vI_len (by omega)]; omega
    · conv => whnf
      refine ⟨?_⟩
      have : (BitVec.ofNat 64 (Lib.bitLen v.toNat)).toNat = Lib.bitLen v.toNat := by rw [BitVec.toNat_ofNat]; omega
      rw [this]; rfl
  · cases h
abbrev tb_tnums_below : List (Nat × Sp) := (71, sp_tnums_below) :: tb_tnums_In
theorem C_tnums_below (m : Nat → Nat) : CSound Tryd.prog (GS m) (tab (DS m) tb_tnums_below) := (C_tnums_In m).cons (e_tnums_below m)

def sp_tnums_Range : Sp
  | [.one (.b64 false a), .one (.b64 false b)] => some (Cond.t, .agg [.b64 false (if b.ult a then 0#64 else a &&& ~~~ belowB (a ^^^ b)), .b64 false (if b.ult a then ~~~0#64 else belowB (a ^^^ b))])
  | _ => none
set_option maxRecDepth 100000 in
set_option maxHeartbeats 4000000 in
theorem e_tnums_Range (m : Nat → Nat) : EntryOK Tryd.prog (GS m) 51 sp_tnums_Range := by
  refine .of_F (C_tnums_below m) (by kernel_rfl) Tryd.func51 (by kernel_rfl) (by kernel_rfl) (fun args c v h hc => ?_)
  unfold sp_tnums_Range at h
  split at h
  · rename_i a b; cases h
    refine ⟨rfl, rfl, ?_⟩
    conv => whnf
    refine Both.mk (Given.mk fun h => ?_) (Given.mk fun h => ?_)
    · conv => whnf
      refine ⟨?_⟩
      dsimp only
      rw [if_pos h, if_pos h]
    · conv => whnf
      refine ⟨?_⟩
      dsimp only
      rw [if_neg (by rw [h]; simp), if_neg (by rw [h]; simp)]
  · cases h
abbrev tb_tnums_Range : List (Nat × Sp) := (51, sp_tnums_Range) :: tb_tnums_below
theorem C_tnums_Range (m : Nat → Nat) : CSound Tryd.prog (GS m) (tab (DS m) tb_tnums_Range) := (C_tnums_below m).cons (e_tnums_Range m)

def sp_tnums_Add : Sp
  | [.agg [.b64 false a, .b64 false b], .agg [.b64 false c, .b64 false d]] => some (Cond.t, .agg [.b64 false (tAddV a b c d), .b64 false (tAddM a b c d)])
  | _ => none
set_option maxRecDepth 100000 in
set_option maxHeartbeats 4000000 in
theorem e_tnums_Add (m : Nat → Nat) : EntryOK Tryd.prog (GS m) 100 sp_tnums_Add := by
  refine .of_F (C_tnums_Range m) (by kernel_rfl) Tryd.func100 (by kernel_rfl) (by kernel_rfl) (fun args c v h hc => ?_)
  unfold sp_tnums_Add at h
  split at h
  · rename_i a b c d; cases h
    refine ⟨rfl, rfl, ?_⟩
    repeat' (first
      | (with_reducible apply Given.mk; intro h; (try exact absurd h (by decide)))
      | ((conv => whnf); with_reducible apply Both.mk))
    all_goals first
      | (with_reducible apply Ob.mk; kernel_rfl)
      | (with_reducible apply Ob.mk; decide)
      | (with_reducible apply Ob.mk; simp [ByteArray.size, catB, exB]; done)
      | ((conv => whnf); refine ⟨?_⟩; first | with_reducible rfl | rfl)
  · cases h
abbrev tb_tnums_Add : List (Nat × Sp) := (100, sp_tnums_Add) :: tb_tnums_Range
theorem C_tnums_Add (m : Nat → Nat) : CSound Tryd.prog (GS m) (tab (DS m) tb_tnums_Add) := (C_tnums_Range m).cons (e_tnums_Add m)

def sp_tnums_Sub : Sp
  | [.agg [.b64 false a, .b64 false b], .agg [.b64 false c, .b64 false d]] => some (Cond.t, .agg [.b64 false (tSubV a b c d), .b64 false (tSubM a b c d)])
  | _ => none
set_option maxRecDepth 100000 in
set_option maxHeartbeats 4000000 in
theorem e_tnums_Sub (m : Nat → Nat) : EntryOK Tryd.prog (GS m) 102 sp_tnums_Sub := by
  refine .of_F (C_tnums_Add m) (by kernel_rfl) Tryd.func102 (by kernel_rfl) (by kernel_rfl) (fun args c v h hc => ?_)
  unfold sp_tnums_Sub at h
  split at h
  · rename_i a b c d; cases h
    refine ⟨rfl, rfl, ?_⟩
    repeat' (first
      | (with_reducible apply Given.mk; intro h; (try exact absurd h (by decide)))
      | ((conv => whnf); with_reducible apply Both.mk))
    all_goals first
      | (with_reducible apply Ob.mk; kernel_rfl)
      | (with_reducible apply Ob.mk; decide)
      | (with_reducible apply Ob.mk; simp [ByteArray.size, catB, exB]; done)
      | ((conv => whnf); refine ⟨?_⟩; first | with_reducible rfl | rfl)
  · cases h
abbrev tb_tnums_Sub : List (Nat × Sp) := (102, sp_tnums_Sub) :: tb_tnums_Add
theorem C_tnums_Sub (m : Nat → Nat) : CSound Tryd.prog (GS m) (tab (DS m) tb_tnums_Sub) := (C_tnums_Add m).cons (e_tnums_Sub m)

def sp_tnums_And : Sp
  | [.agg [.b64 false a, .b64 false b], .agg [.b64 false c, .b64 false d]] => some (Cond.t, .agg [.b64 false (tAndV a b c d), .b64 false (tAndM a b c d)])
  | _ => none
set_option maxRecDepth 100000 in
set_option maxHeartbeats 4000000 in
theorem e_tnums_And (m : Nat → Nat) : EntryOK Tryd.prog (GS m) 106 sp_tnums_And := by
  refine .of_F (C_tnums_Sub m) (by kernel_rfl) Tryd.func106 (by kernel_rfl) (by kernel_rfl) (fun args c v h hc => ?_)
  unfold sp_tnums_And at h
  split at h
  · rename_i a b c d; cases h
    refine ⟨rfl, rfl, ?_⟩
    repeat' (first
      | (with_reducible apply Given.mk; intro h; (try exact absurd h (by decide)))
      | ((conv => whnf); with_reducible apply Both.mk))
    all_goals first
      | (with_reducible apply Ob.mk; kernel_rfl)
      | (with_reducible apply Ob.mk; decide)
      | (with_reducible apply Ob.mk; simp [ByteArray.size, catB, exB]; done)
      | ((conv => whnf); refine ⟨?_⟩; first | with_reducible rfl | rfl)
  · cases h
abbrev tb_tnums_And : List (Nat × Sp) := (106, sp_tnums_And) :: tb_tnums_Sub
theorem C_tnums_And (m : Nat → Nat) : CSound Tryd.prog (GS m) (tab (DS m) tb_tnums_And) := (C_tnums_Sub m).cons (e_tnums_And m)

def sp_tnums_Or : Sp
  | [.agg [.b64 false a, .b64 false b], .agg [.b64 false c, .b64 false d]] => some (Cond.t, .agg [.b64 false (tOrV a b c d), .b64 false (tOrM a b c d)])
  | _ => none
set_option maxRecDepth 100000 in
set_option maxHeartbeats 4000000 in
theorem e_tnums_Or (m : Nat → Nat) : EntryOK Tryd.prog (GS m) 108 sp_tnums_Or := by
  refine .of_F (C_tnums_And m) (by kernel_rfl) Tryd.func108 (by kernel_rfl) (by kernel_rfl) (fun args c v h hc => ?_)
  unfold sp_tnums_Or at h
  split at h
  · rename_i a b c d; cases h
    refine ⟨rfl, rfl, ?_⟩
    repeat' (first
      | (with_reducible apply Given.mk; intro h; (try exact absurd h (by decide)))
      | ((conv => whnf); with_reducible apply Both.mk))
    all_goals first
      | (with_reducible apply Ob.mk; kernel_rfl)
      | (with_reducible apply Ob.mk; decide)
      | (with_reducible apply Ob.mk; simp [ByteArray.size, catB, exB]; done)
      | ((conv => whnf); refine ⟨?_⟩; first | with_reducible rfl | rfl)
  · cases h
abbrev tb_tnums_Or : List (Nat × Sp) := (108, sp_tnums_Or) :: tb_tnums_And
theorem C_tnums_Or (m : Nat → Nat) : CSound Tryd.prog (GS m) (tab (DS m) tb_tnums_Or) := (C_tnums_And m).cons (e_tnums_Or m)

def sp_tnums_Xor : Sp
  | [.agg [.b64 false a, .b64 false b], .agg [.b64 false c, .b64 false d]] => some (Cond.t, .agg [.b64 false (tXorV a b c d), .b64 false (tXorM a b c d)])
  | _ => none
set_option maxRecDepth 100000 in
set_option maxHeartbeats 4000000 in
theorem e_tnums_Xor (m : Nat → Nat) : EntryOK Tryd.prog (GS m) 110 sp_tnums_Xor := by
  refine .of_F (C_tnums_Or m) (by kernel_rfl) Tryd.func110 (by kernel_rfl) (by kernel_rfl) (fun args c v h hc => ?_)
  unfold sp_tnums_Xor at h
  split at h
  · rename_i a b c d; cases h
    refine ⟨rfl, rfl, ?_⟩
    repeat' (first
      | (with_reducible apply Given.mk; intro h; (try exact absurd h (by decide)))
      | ((conv => whnf); with_reducible apply Both.mk))
    all_goals first
      | (with_reducible apply Ob.mk; kernel_rfl)
      | (with_reducible apply Ob.mk; decide)
      | (with_reducible apply Ob.mk; simp [ByteArray.size, catB, exB]; done)
      | ((conv => whnf); refine ⟨?_⟩; first | with_reducible rfl | rfl)
  · cases h
abbrev tb_tnums_Xor : List (Nat × Sp) := (110, sp_tnums_Xor) :: tb_tnums_Or
theorem C_tnums_Xor (m : Nat → Nat) : CSound Tryd.prog (GS m) (tab (DS m) tb_tnums_Xor) := (C_tnums_Or m).cons (e_tnums_Xor m)

def sp_tnums_Either : Sp
  | [.agg [.b64 false a, .b64 false b], .agg [.b64 false c, .b64 false d]] => some (Cond.t, .agg [.b64 false (tEitherV a b c d), .b64 false (tEitherM a b c d)])
  | _ => none
set_option maxRecDepth 100000 in
set_option maxHeartbeats 4000000 in
theorem e_tnums_Either (m : Nat → Nat) : EntryOK Tryd.prog (GS m) 116 sp_tnums_Either := by
  refine .of_F (C_tnums_Xor m) (by kernel_rfl) Tryd.func116 (by kernel_rfl) (by kernel_rfl) (fun args c v h hc => ?_)
  unfold sp_tnums_Either at h
  split at h
  · rename_i a b c d; cases h
    refine ⟨rfl, rfl, ?_⟩
    repeat' (first
      | (with_reducible apply Given.mk; intro h; (try exact absurd h (by decide)))
      | ((conv => whnf); with_reducible apply Both.mk))
    all_goals first
      | (with_reducible apply Ob.mk; kernel_rfl)
      | (with_reducible apply Ob.mk; decide)
      | (with_reducible apply Ob.mk; simp [ByteArray.size, catB, exB]; done)
      | ((conv => whnf); refine ⟨?_⟩; first | with_reducible rfl | rfl)
  · cases h
abbrev tb_tnums_Either : List (Nat × Sp) := (116, sp_tnums_Either) :: tb_tnums_Xor
theorem C_tnums_Either (m : Nat → Nat) : CSound Tryd.prog (GS m) (tab (DS m) tb_tnums_Either) := (C_tnums_Xor m).cons (e_tnums_Either m)

def sp_tnums_Both : Sp
  | [.agg [.b64 false a, .b64 false b], .agg [.b64 false c, .b64 false d]] => some (Cond.t, .tup [(true, [.b64 false (if tBothOk a b c d then tBothV a b c d else 0#64), .b64 false (if tBothOk a b c d then tBothM a b c d else 0#64)]), (false, [.bool (tBothOk a b c d)])])
  | _ => none
set_option maxRecDepth 100000 in
set_option maxHeartbeats 4000000 in
theorem e_tnums_Both (m : Nat → Nat) : EntryOK Tryd.prog (GS m) 50 sp_tnums_Both := by
  refine .of_F (C_tnums_Either m) (by kernel_rfl) Tryd.func50 (by kernel_rfl) (by kernel_rfl) (fun args c v h hc => ?_)
  unfold sp_tnums_Both at h
  split at h
  · rename_i a b c d; cases h
    refine ⟨rfl, rfl, ?_⟩
    conv => whnf
    refine Both.mk (Given.mk fun h => ?_) (Given.mk fun h => ?_)
    · conv => whnf
      refine ⟨?_⟩
      have e : tBothOk a b c d = false := by simpa [tBothOk, bne] using h
      simp [e]
    · conv => whnf
      refine ⟨?_⟩
      have e : tBothOk a b c d = true := by simpa [tBothOk, bne] using h
      simp [e, tBothV, tBothM]
  · cases h
abbrev tb_tnums_Both : List (Nat × Sp) := (50, sp_tnums_Both) :: tb_tnums_Either
theorem C_tnums_Both (m : Nat → Nat) : CSound Tryd.prog (GS m) (tab (DS m) tb_tnums_Both) := (C_tnums_Either m).cons (e_tnums_Both m)

def sp_tnums_count : Sp
  | [.one (.b64 true n)] => some (Cond.t, .one (.b64 true (n &&& 63#64)))
  | _ => none
set_option maxRecDepth 100000 in
set_option maxHeartbeats 4000000 in
theorem e_tnums_count (m : Nat → Nat) : EntryOK Tryd.prog (GS m) 83 sp_tnums_count := by
  refine .of_F (C_tnums_Both m) (by kernel_rfl) Tryd.func83 (by kernel_rfl) (by kernel_rfl) (fun args c v h hc => ?_)
  unfold sp_tnums_count at h
  split at h
  · rename_i n; cases h
    refine ⟨rfl, rfl, ?_⟩
    repeat' (first
      | (with_reducible apply Given.mk; intro h; (try exact absurd h (by decide)))
      | ((conv => whnf); with_reducible apply Both.mk))
    all_goals first
      | (with_reducible apply Ob.mk; kernel_rfl)
      | (with_reducible apply Ob.mk; decide)
      | (with_reducible apply Ob.mk; simp [ByteArray.size, catB, exB]; done)
      | ((conv => whnf); refine ⟨?_⟩; first | with_reducible rfl | rfl)
  · cases h
abbrev tb_tnums_count : List (Nat × Sp) := (83, sp_tnums_count) :: tb_tnums_Both
theorem C_tnums_count (m : Nat → Nat) : CSound Tryd.prog (GS m) (tab (DS m) tb_tnums_count) := (C_tnums_Both m).cons (e_tnums_count m)


theorem bit_eq0 (y : BitVec 64) (k : Nat) : (y >>> k &&& 1#64 == 0#64) = !y.getLsbD k := by
  have h : y >>> k &&& 1#64 = if y.getLsbD k then 1#64 else 0#64 := by
    rw [BitVec.and_one_eq_setWidth_ofBool_getLsbD, BitVec.getLsbD_ushiftRight, Nat.add_zero]
    cases y.getLsbD k <;> rfl
  rw [h]
  cases y.getLsbD k <;> rfl
theorem bit_eq1 (y : BitVec 64) (k : Nat) : (y >>> k &&& 1#64 == 1#64) = y.getLsbD k := by
  have h : y >>> k &&& 1#64 = if y.getLsbD k then 1#64 else 0#64 := by
    rw [BitVec.and_one_eq_setWidth_ofBool_getLsbD, BitVec.getLsbD_ushiftRight, Nat.add_zero]
    cases y.getLsbD k <;> rfl
  rw [h]
  cases y.getLsbD k <;> rfl
theorem bit_ne (x y : BitVec 64) (k : Nat) : (x >>> k &&& 1#64 != y >>> k &&& 1#64) = (x.getLsbD k != y.getLsbD k) := by
  have h : ∀ y : BitVec 64, y >>> k &&& 1#64 = if y.getLsbD k then 1#64 else 0#64 := by
    intro y
    rw [BitVec.and_one_eq_setWidth_ofBool_getLsbD, BitVec.getLsbD_ushiftRight, Nat.add_zero]
    cases y.getLsbD k <;> rfl
  rw [h, h]
  cases x.getLsbD k <;> cases y.getLsbD k <;> rfl

theorem cnt_pos (n : BitVec 64) : 0 ≤ (n &&& 63#64).toInt := by
  rw [BitVec.toInt_eq_toNat_of_msb (by rw [BitVec.msb_and]; simp; intro _; decide)]
  omega
/-- The lowest bits. -/
def lowM (n : BitVec 64) : BitVec 64 := if (64#64).sle n then ~~~0#64 else (1#64 <<< (if n.slt 0#64 then 0#64 else n).toNat) - 1#64

def tMul (a b c d : BitVec 64) : Nat → BitVec 64 × BitVec 64
  | 0 => (0#64, 0#64)
  | n + 1 =>
    let o := tMul a b c d n
    if a.getLsbD n then (tAddV o.1 o.2 (c <<< (BitVec.ofNat 64 n &&& 63#64).toNat) (d <<< (BitVec.ofNat 64 n &&& 63#64).toNat), tAddM o.1 o.2 (c <<< (BitVec.ofNat 64 n &&& 63#64).toNat) (d <<< (BitVec.ofNat 64 n &&& 63#64).toNat))
    else if b.getLsbD n then
      (tAddV o.1 o.2 (tEitherV 0#64 0#64 (c <<< (BitVec.ofNat 64 n &&& 63#64).toNat) (d <<< (BitVec.ofNat 64 n &&& 63#64).toNat)) (tEitherM 0#64 0#64 (c <<< (BitVec.ofNat 64 n &&& 63#64).toNat) (d <<< (BitVec.ofNat 64 n &&& 63#64).toNat)),
       tAddM o.1 o.2 (tEitherV 0#64 0#64 (c <<< (BitVec.ofNat 64 n &&& 63#64).toNat) (d <<< (BitVec.ofNat 64 n &&& 63#64).toNat)) (tEitherM 0#64 0#64 (c <<< (BitVec.ofNat 64 n &&& 63#64).toNat) (d <<< (BitVec.ofNat 64 n &&& 63#64).toNat)))
    else o
theorem tMul_a (a b c d : BitVec 64) (n : Nat) (h : a.getLsbD n = true) : tMul a b c d (n + 1) =
    (tAddV (tMul a b c d n).1 (tMul a b c d n).2 (c <<< (BitVec.ofNat 64 n &&& 63#64).toNat) (d <<< (BitVec.ofNat 64 n &&& 63#64).toNat), tAddM (tMul a b c d n).1 (tMul a b c d n).2 (c <<< (BitVec.ofNat 64 n &&& 63#64).toNat) (d <<< (BitVec.ofNat 64 n &&& 63#64).toNat)) := by
  simp only [tMul]; rw [if_pos h]
theorem tMul_b (a b c d : BitVec 64) (n : Nat) (h : a.getLsbD n = false) (h' : b.getLsbD n = true) : tMul a b c d (n + 1) =
      (tAddV (tMul a b c d n).1 (tMul a b c d n).2 (tEitherV 0#64 0#64 (c <<< (BitVec.ofNat 64 n &&& 63#64).toNat) (d <<< (BitVec.ofNat 64 n &&& 63#64).toNat)) (tEitherM 0#64 0#64 (c <<< (BitVec.ofNat 64 n &&& 63#64).toNat) (d <<< (BitVec.ofNat 64 n &&& 63#64).toNat)),
       tAddM (tMul a b c d n).1 (tMul a b c d n).2 (tEitherV 0#64 0#64 (c <<< (BitVec.ofNat 64 n &&& 63#64).toNat) (d <<< (BitVec.ofNat 64 n &&& 63#64).toNat)) (tEitherM 0#64 0#64 (c <<< (BitVec.ofNat 64 n &&& 63#64).toNat) (d <<< (BitVec.ofNat 64 n &&& 63#64).toNat))) := by
  simp only [tMul]; rw [if_neg (by rw [h]; decide), if_pos h']
theorem tMul_n (a b c d : BitVec 64) (n : Nat) (h : a.getLsbD n = false) (h' : b.getLsbD n = false) : tMul a b c d (n + 1) = tMul a b c d n := by
  simp only [tMul]; rw [if_neg (by rw [h]; decide), if_neg (by rw [h']; decide)]
theorem bit_mask (a : BitVec 64) (k : Nat) (hk : k < 64) : (a &&& 1#64 <<< k != 0#64) = a.getLsbD k := by
  have h : a &&& 1#64 <<< k = if a.getLsbD k then 1#64 <<< k else 0#64 := by
    apply BitVec.eq_of_getLsbD_eq
    intro j hj
    rw [BitVec.getLsbD_and]
    by_cases e : j = k
    · subst e
      cases ha : a.getLsbD j <;> simp
    · have : (1#64 <<< k).getLsbD j = false := by
        rw [BitVec.getLsbD_shiftLeft]
        by_cases hjk : j < k
        · simp [hjk]
        · simp [hjk, BitVec.getLsbD_one]; omega
      cases ha : a.getLsbD k <;> simp [this]
  rw [h]
  cases a.getLsbD k
  · rfl
  · rw [if_pos rfl]
    have : (1#64 <<< k) ≠ 0#64 := by
      intro e
      have := congrArg (fun x => x.getLsbD k) e
      simp [BitVec.getLsbD_shiftLeft, hk] at this
    simpa [bne] using this


def sp_firewallref15_Has : Sp
  | [.one (.b64 false a), .one (.b64 false b), .one (.b64 false c)] => some (Cond.t, .one (.bool (tHas a b c)))
  | _ => none
set_option maxRecDepth 100000 in
set_option maxHeartbeats 4000000 in
theorem e_firewallref15_Has (m : Nat → Nat) : EntryOK Tryd.prog (GS m) 58 sp_firewallref15_Has := by
  refine .of_F (C_tnums_count m) (by kernel_rfl) Tryd.func58 (by kernel_rfl) (by kernel_rfl) (fun args c v h hc => ?_)
  unfold sp_firewallref15_Has at h
  split at h
  · rename_i a b c; cases h
    refine ⟨rfl, rfl, ?_⟩
    conv => whnf
    refine LoopP.mk Nat (fun k => k ≤ 64 ∧ ∀ j, j < k → okBit a b c j) (fun k => mkS 41 [(0, .one (.b64 false a)), (1, .one (.b64 false b)), (2, .one (.b64 false c)), (6, .one (.bool false)), (7, iN k)] []) (fun k => 64 - k) ⟨0, ⟨by omega, fun j hj => by omega⟩, ?_⟩ (fun k hk => ?_)
    · refine ⟨?_, trivial, rfl, rfl, rfl⟩
      repeat' ((conv => whnf); first | exact trivial | refine Both.mk (by with_reducible rfl) ?_)
    · obtain ⟨hk, hbits⟩ := hk
      have hkn : (BitVec.ofNat 64 k).toNat = k := toNat_ofNat (by omega)
      have hki : (BitVec.ofNat 64 k).toInt = (k : Int) := toInt_ofNat (by omega)
      conv => whnf
      refine Both.mk (Given.mk fun h => ?_) (Given.mk fun h => ?_)
      · have hlt := slt_yes (n := 64) (by omega) (by omega) h
        clear h
        repeat' ((conv => whnf); first | (refine Both.mk (Given.mk fun h => ?_) (Given.mk fun h => ?_) <;> (try simp only [hkn, bit_eq0, bit_eq1, bit_ne, Bool.false_eq_true, reduceCtorEq] at h)) | refine Both.mk (Ob.mk ?_) ?_)
        all_goals first
          | (rw [hki]; omega)
          | kernel_rfl
          | (have hno : ¬ okBit a b c k := by (unfold okBit; cases hb : b.getLsbD k <;> cases ha : a.getLsbD k <;> cases hc : c.getLsbD k <;> simp_all)
             have hf : tHas a b c = false := by
               cases hh : tHas a b c with
               | false => rfl
               | true => exact absurd ((okBits_has a b c).2 hh k hlt) hno
             conv => whnf
             refine ⟨?_⟩
             dsimp only
             rw [hf])
          | (have hyes : okBit a b c k := by (unfold okBit; cases hb : b.getLsbD k <;> cases ha : a.getLsbD k <;> cases hc : c.getLsbD k <;> simp_all)
             conv => whnf
             refine ⟨k + 1, ⟨by omega, fun j hj => ?_⟩, by omega, ?_⟩
             · rcases Nat.lt_or_ge j k with h | h
               · exact hbits j h
               · obtain rfl : j = k := by omega
                 exact hyes
             · refine ⟨?_, trivial, rfl, rfl, rfl⟩
               repeat' ((conv => whnf); first | exact trivial | refine Both.mk (by first | with_reducible rfl | exact iN_succ k) ?_))
      · have hge := slt_no (n := 64) (by omega) (by omega) h
        conv => whnf
        refine ⟨?_⟩
        dsimp only
        rw [(okBits_has a b c).1 fun j hj => hbits j (by omega)]
  · cases h
abbrev tb_firewallref15_Has : List (Nat × Sp) := (58, sp_firewallref15_Has) :: tb_tnums_count
theorem C_firewallref15_Has (m : Nat → Nat) : CSound Tryd.prog (GS m) (tab (DS m) tb_firewallref15_Has) := (C_tnums_count m).cons (e_firewallref15_Has m)

def sp_tnums_Lsh : Sp
  | [.agg [.b64 false a, .b64 false b], .one (.b64 true n)] => some (Cond.t, .agg [.b64 false (a <<< (n &&& 63#64).toNat), .b64 false (b <<< (n &&& 63#64).toNat)])
  | _ => none
set_option maxRecDepth 100000 in
set_option maxHeartbeats 4000000 in
theorem e_tnums_Lsh (m : Nat → Nat) : EntryOK Tryd.prog (GS m) 73 sp_tnums_Lsh := by
  refine .of_F (C_firewallref15_Has m) (by kernel_rfl) Tryd.func73 (by kernel_rfl) (by kernel_rfl) (fun args c v h hc => ?_)
  unfold sp_tnums_Lsh at h
  split at h
  · rename_i a b n; cases h
    refine ⟨rfl, rfl, ?_⟩
    repeat' ((conv => whnf); first | refine Both.mk (Ob.mk ?_) ?_)
    all_goals first | exact cnt_pos n | kernel_rfl | ((conv => whnf); exact ⟨rfl⟩)
  · cases h
abbrev tb_tnums_Lsh : List (Nat × Sp) := (73, sp_tnums_Lsh) :: tb_firewallref15_Has
theorem C_tnums_Lsh (m : Nat → Nat) : CSound Tryd.prog (GS m) (tab (DS m) tb_tnums_Lsh) := (C_firewallref15_Has m).cons (e_tnums_Lsh m)

def sp_tnums_Rsh : Sp
  | [.agg [.b64 false a, .b64 false b], .one (.b64 true n)] => some (Cond.t, .agg [.b64 false (a >>> (n &&& 63#64).toNat), .b64 false (b >>> (n &&& 63#64).toNat)])
  | _ => none
set_option maxRecDepth 100000 in
set_option maxHeartbeats 4000000 in
theorem e_tnums_Rsh (m : Nat → Nat) : EntryOK Tryd.prog (GS m) 75 sp_tnums_Rsh := by
  refine .of_F (C_tnums_Lsh m) (by kernel_rfl) Tryd.func75 (by kernel_rfl) (by kernel_rfl) (fun args c v h hc => ?_)
  unfold sp_tnums_Rsh at h
  split at h
  · rename_i a b n; cases h
    refine ⟨rfl, rfl, ?_⟩
    repeat' ((conv => whnf); first | refine Both.mk (Ob.mk ?_) ?_)
    all_goals first | exact cnt_pos n | kernel_rfl | ((conv => whnf); exact ⟨rfl⟩)
  · cases h
abbrev tb_tnums_Rsh : List (Nat × Sp) := (75, sp_tnums_Rsh) :: tb_tnums_Lsh
theorem C_tnums_Rsh (m : Nat → Nat) : CSound Tryd.prog (GS m) (tab (DS m) tb_tnums_Rsh) := (C_tnums_Lsh m).cons (e_tnums_Rsh m)

def sp_tnums_Arsh : Sp
  | [.agg [.b64 false a, .b64 false b], .one (.b64 true n)] => some (Cond.t, .agg [.b64 false (a.sshiftRight (n &&& 63#64).toNat), .b64 false (b.sshiftRight (n &&& 63#64).toNat)])
  | _ => none
set_option maxRecDepth 100000 in
set_option maxHeartbeats 4000000 in
theorem e_tnums_Arsh (m : Nat → Nat) : EntryOK Tryd.prog (GS m) 77 sp_tnums_Arsh := by
  refine .of_F (C_tnums_Rsh m) (by kernel_rfl) Tryd.func77 (by kernel_rfl) (by kernel_rfl) (fun args c v h hc => ?_)
  unfold sp_tnums_Arsh at h
  split at h
  · rename_i a b n; cases h
    refine ⟨rfl, rfl, ?_⟩
    repeat' ((conv => whnf); first | refine Both.mk (Ob.mk ?_) ?_)
    all_goals first | exact cnt_pos n | kernel_rfl | ((conv => whnf); exact ⟨rfl⟩)
  · cases h
abbrev tb_tnums_Arsh : List (Nat × Sp) := (77, sp_tnums_Arsh) :: tb_tnums_Rsh
theorem C_tnums_Arsh (m : Nat → Nat) : CSound Tryd.prog (GS m) (tab (DS m) tb_tnums_Arsh) := (C_tnums_Rsh m).cons (e_tnums_Arsh m)

def sp_tnums_Low : Sp
  | [.agg [.b64 false a, .b64 false b], .one (.b64 true n)] => some (Cond.t, .agg [.b64 false (a &&& lowM n), .b64 false (b &&& lowM n)])
  | _ => none
set_option maxRecDepth 100000 in
set_option maxHeartbeats 4000000 in
theorem e_tnums_Low (m : Nat → Nat) : EntryOK Tryd.prog (GS m) 62 sp_tnums_Low := by
  refine .of_F (C_tnums_Arsh m) (by kernel_rfl) Tryd.func62 (by kernel_rfl) (by kernel_rfl) (fun args c v h hc => ?_)
  unfold sp_tnums_Low at h
  split at h
  · rename_i a b n; cases h
    refine ⟨rfl, rfl, ?_⟩
    conv => whnf
    refine Both.mk (Given.mk fun h => ?_) (Given.mk fun h => ?_)
    · conv => whnf
      refine ⟨?_⟩
      dsimp only
      rw [lowM, if_pos h]
      have e : ~~~0#64 = BitVec.allOnes 64 := by simp
      rw [e, BitVec.and_allOnes, BitVec.and_allOnes]
    · conv => whnf
      refine Both.mk (Ob.mk ?_) ?_
      · split
        · decide
        · rename_i h2
          rw [BitVec.slt] at h2
          simpa using h2
      · conv => whnf
        refine ⟨?_⟩
        show AV.agg _ = AV.agg _
        have e : lowM n = (1#64 <<< (if n.slt 0#64 then 0#64 else n).toNat) - 1#64 := by unfold lowM; rw [if_neg]; rw [h]; decide
        rw [e]
  · cases h
abbrev tb_tnums_Low : List (Nat × Sp) := (62, sp_tnums_Low) :: tb_tnums_Arsh
theorem C_tnums_Low (m : Nat → Nat) : CSound Tryd.prog (GS m) (tab (DS m) tb_tnums_Low) := (C_tnums_Arsh m).cons (e_tnums_Low m)

def sp_tnums_Mul : Sp
  | [.agg [.b64 false a, .b64 false b], .agg [.b64 false c, .b64 false d]] => some (Cond.t, .agg [.b64 false ((tMul a b c d 64).1), .b64 false ((tMul a b c d 64).2)])
  | _ => none
set_option maxRecDepth 100000 in
set_option maxHeartbeats 4000000 in
theorem e_tnums_Mul (m : Nat → Nat) : EntryOK Tryd.prog (GS m) 104 sp_tnums_Mul := by
  refine .of_F (C_tnums_Low m) (by kernel_rfl) Tryd.func104 (by kernel_rfl) (by kernel_rfl) (fun args c v h hc => ?_)
  unfold sp_tnums_Mul at h
  split at h
  · rename_i a b c d; cases h
    refine ⟨rfl, rfl, ?_⟩
    conv => whnf
    refine LoopP.mk Nat (fun k => k ≤ 64) (fun k => mkS 40 [(2, .one (.ptr 2 0)), (3, .one (.ptr 3 0)), (4, .one (.ptr 4 0)), (5, .one (.ptr 5 0)), (6, iN k)]
      [(5, .cells 29 [.b64 false (tMul a b c d k).1, .b64 false (tMul a b c d k).2]), (4, .cells 29 [.b64 false 0#64, .b64 false 0#64]), (3, .cells 29 [.b64 false c, .b64 false d]), (2, .cells 29 [.b64 false a, .b64 false b])]) (fun k => 64 - k) ⟨0, by omega, ?_⟩ (fun k hk => ?_)
    · refine ⟨?_, ?_, rfl, rfl, rfl⟩ <;> repeat' ((conv => whnf); first | exact trivial | refine Both.mk (by first | with_reducible rfl | rfl) ?_)
    · have hkn : (BitVec.ofNat 64 k).toNat = k := toNat_ofNat (by omega)
      have hki : (BitVec.ofNat 64 k).toInt = (k : Int) := toInt_ofNat (by omega)
      conv => whnf
      refine Both.mk (Given.mk fun h => ?_) (Given.mk fun h => ?_)
      · have hlt := slt_yes (n := 64) (by omega) (by omega) h
        clear h
        repeat' ((conv => whnf); first | (refine Both.mk (Given.mk fun h => ?_) (Given.mk fun h => ?_) <;> (try simp only [hkn, bit_mask _ k hlt, Bool.false_eq_true, reduceCtorEq] at h)) | refine Both.mk (Ob.mk ?_) ?_)
        all_goals first
          | (rw [hki]; omega)
          | kernel_rfl
          | ((conv => whnf)
             refine ⟨k + 1, by omega, by omega, ?_⟩
             refine ⟨?_, ?_, rfl, rfl, rfl⟩ <;> repeat' ((conv => whnf); first | exact trivial | refine Both.mk (by first | with_reducible rfl | exact iN_succ k | rw [tMul_a a b c d k (by assumption)] | rw [tMul_b a b c d k (by assumption) (by assumption)] | rw [tMul_n a b c d k (by assumption) (by assumption)]) ?_))
      · have hge := slt_no (n := 64) (by omega) (by omega) h
        obtain rfl : k = 64 := by omega
        (conv => whnf)
        exact ⟨rfl⟩
  · cases h
abbrev tb_tnums_Mul : List (Nat × Sp) := (104, sp_tnums_Mul) :: tb_tnums_Low
theorem C_tnums_Mul (m : Nat → Nat) : CSound Tryd.prog (GS m) (tab (DS m) tb_tnums_Mul) := (C_tnums_Low m).cons (e_tnums_Mul m)

end Go.Proofs.YtkmggidgfkchfaaDoor

