/-
  What the functions of package insns answer: by the evaluator. Conditions: none.
-/
import Derived.Test.YtdaioplfgbgggaaInE
import Derived.Test.YtdaioplfgbgggaaProg
namespace Go.Proofs.Ytdaioplfgbgggaa
open Go.Ep Go.RowKit
set_option linter.unusedVariables false
set_option linter.unusedSimpArgs false

abbrev tb_start : List (Nat × Sp) := []
theorem C_start : CSound Try.prog anyWorld (tab noData tb_start) := CSound.start

def sp_insns_jump : Sp
  | [.one (.b8 false o)] => some (Cond.t, .tup [(true, [.bool (jD o), .bool (jS o), .bool (jO o), .bool (jI o), .bool false]), (false, [.bool (jK o)])])
  | _ => none
set_option maxRecDepth 100000 in
set_option maxHeartbeats 4000000 in
theorem e_insns_jump : EntryOK Try.prog anyWorld 70 sp_insns_jump := by
  refine .of_F (C_start) (by kernel_rfl) Try.func70 (by kernel_rfl) (by kernel_rfl) (fun args c v h hc => ?_)
  unfold sp_insns_jump at h
  split at h
  · rename_i o; cases h
    refine ⟨rfl, rfl, ?_⟩
    repeat' (first
      | (with_reducible apply Given.mk; intro h; (try exact absurd h (by decide)))
      | ((conv => whnf); with_reducible apply Both.mk))
    all_goals first
      | (with_reducible apply Ob.mk; kernel_rfl)
      | (with_reducible apply Ob.mk; decide)
      | (with_reducible apply Ob.mk; simp [ByteArray.size, catB, exB, jD, jS, jO, jI, jK, jSp, jAl, oc, orr]; done)
      | ((conv => whnf); refine ⟨?_⟩; first | with_reducible rfl | (simp only [jD, jS, jO, jI, jK, jSp, jAl, oc, orr, *, Bool.true_and, Bool.and_true, Bool.false_and, Bool.and_false, Bool.true_or, Bool.or_true, Bool.false_or, Bool.or_false, Bool.not_true, Bool.not_false, Bool.false_eq_true, Bool.true_eq_false, if_true, if_false, reduceCtorEq]; done) | (simp_all [jD, jS, jO, jI, jK, jSp, jAl, oc, orr]; done) | rfl)
  · cases h
abbrev tb_insns_jump : List (Nat × Sp) := (70, sp_insns_jump) :: tb_start
theorem C_insns_jump : CSound Try.prog anyWorld (tab noData (tb_insns_jump)) := (C_start).cons (e_insns_jump)

def sp_insns_form : Sp
  | [.one (.b8 false o), .one (.bool w)] => some (Cond.t, .tup [(true, [.bool (fD o), .bool (fS o), .bool (fO o), .bool (fI o), .bool (fW o)]), (false, [.bool (fK o w)])])
  | _ => none
set_option maxRecDepth 100000 in
set_option maxHeartbeats 4000000 in
theorem e_insns_form : EntryOK Try.prog anyWorld 41 sp_insns_form := by
  refine .of_F (C_insns_jump) (by kernel_rfl) Try.func41 (by kernel_rfl) (by kernel_rfl) (fun args c v h hc => ?_)
  unfold sp_insns_form at h
  split at h
  · rename_i o w; cases h
    refine ⟨rfl, rfl, ?_⟩
    repeat' (first
      | (with_reducible apply Given.mk; intro h; (try exact absurd h (by decide)))
      | ((conv => whnf); with_reducible apply Both.mk))
    all_goals first
      | (with_reducible apply Ob.mk; kernel_rfl)
      | (with_reducible apply Ob.mk; decide)
      | ((conv => whnf); refine ⟨?_⟩; (try dsimp only); simp only [AV.tup.injEq, List.cons.injEq, Prod.mk.injEq, L.bool.injEq, true_and, and_true, AV.one.injEq]; (try cases w) <;> (revert o; decide +kernel))
  · cases h
abbrev tb_insns_form : List (Nat × Sp) := (41, sp_insns_form) :: tb_insns_jump
theorem C_insns_form : CSound Try.prog anyWorld (tab noData (tb_insns_form)) := (C_insns_jump).cons (e_insns_form)

def sp_insns_number : Sp
  | [.agg [.b8 false o, .b8 false d, .b8 false s, .b16 true f, .b32 true i]] => some (Cond.t, .one (.bool (iN' o i)))
  | _ => none
set_option maxRecDepth 100000 in
set_option maxHeartbeats 4000000 in
theorem e_insns_number : EntryOK Try.prog anyWorld 42 sp_insns_number := by
  refine .of_F (C_insns_form) (by kernel_rfl) Try.func42 (by kernel_rfl) (by kernel_rfl) (fun args c v h hc => ?_)
  unfold sp_insns_number at h
  split at h
  · rename_i o d s f i; cases h
    refine ⟨rfl, rfl, ?_⟩
    repeat' (first
      | (with_reducible apply Given.mk; intro h; (try exact absurd h (by decide)))
      | ((conv => whnf); with_reducible apply Both.mk))
    all_goals first
      | (with_reducible apply Ob.mk; kernel_rfl)
      | (with_reducible apply Ob.mk; decide)
      | (with_reducible apply Ob.mk; simp [ByteArray.size, catB, exB, iN', isA, oc, Bool.or_assoc]; done)
      | ((conv => whnf); refine ⟨?_⟩; first | with_reducible rfl | (simp only [iN', isA, oc, Bool.or_assoc, *, Bool.true_and, Bool.and_true, Bool.false_and, Bool.and_false, Bool.true_or, Bool.or_true, Bool.false_or, Bool.or_false, Bool.not_true, Bool.not_false, Bool.false_eq_true, Bool.true_eq_false, if_true, if_false, reduceCtorEq]; done) | (simp_all [iN', isA, oc, Bool.or_assoc]; done) | rfl)
  · cases h
abbrev tb_insns_number : List (Nat × Sp) := (42, sp_insns_number) :: tb_insns_form
theorem C_insns_number : CSound Try.prog anyWorld (tab noData (tb_insns_number)) := (C_insns_form).cons (e_insns_number)

def sp_insns_Check : Sp
  | [.agg [.b8 false o, .b8 false d, .b8 false s, .b16 true f, .b32 true i], .one (.bool w)] => some (Cond.t, .one (.b64 true (iCheck o d s f i w)))
  | _ => none
set_option maxRecDepth 100000 in
set_option maxHeartbeats 4000000 in
theorem e_insns_Check : EntryOK Try.prog anyWorld 16 sp_insns_Check := by
  refine .of_F (C_insns_number) (by kernel_rfl) Try.func16 (by kernel_rfl) (by kernel_rfl) (fun args c v h hc => ?_)
  unfold sp_insns_Check at h
  split at h
  · rename_i o d s f i w; cases h
    refine ⟨rfl, rfl, ?_⟩
    repeat' (first
      | (with_reducible apply Given.mk; intro h; (try exact absurd h (by decide)))
      | ((conv => whnf); with_reducible apply Both.mk))
    all_goals first
      | (with_reducible apply Ob.mk; kernel_rfl)
      | (with_reducible apply Ob.mk; decide)
      | (with_reducible apply Ob.mk; simp [ByteArray.size, catB, exB, iCheck]; done)
      | ((conv => whnf); refine ⟨?_⟩; first | with_reducible rfl | (simp only [iCheck, *, Bool.true_and, Bool.and_true, Bool.false_and, Bool.and_false, Bool.true_or, Bool.or_true, Bool.false_or, Bool.or_false, Bool.not_true, Bool.not_false, Bool.false_eq_true, Bool.true_eq_false, if_true, if_false, reduceCtorEq]; done) | (simp_all [iCheck]; done) | rfl)
  · cases h
abbrev tb_insns_Check : List (Nat × Sp) := (16, sp_insns_Check) :: tb_insns_number
theorem C_insns_Check : CSound Try.prog anyWorld (tab noData (tb_insns_Check)) := (C_insns_number).cons (e_insns_Check)

def sp_nums_Bytes : Sp
  | [.one (.b64 false v), .one (.b64 true n)] => match n.toNat with
    | 2 => some (Cond.t, .one (.str (bytes2 v)))
    | 4 => some (Cond.t, .one (.str (bytes4 v)))
    | _ => none
  | _ => none
set_option maxRecDepth 100000 in
set_option maxHeartbeats 4000000 in
theorem e_nums_Bytes : EntryOK Try.prog anyWorld 74 sp_nums_Bytes := by
  refine .of_F C_insns_Check (by kernel_rfl) Try.func74 (by kernel_rfl) (by kernel_rfl) (fun args c v h hc => ?_)
  unfold sp_nums_Bytes at h
  split at h
  · rename_i v n
    split at h
    · rename_i hn
      obtain rfl : n = 2#64 := BitVec.eq_of_toNat_eq hn
      cases h
      refine ⟨rfl, rfl, ?_⟩
      repeat' (first
        | (with_reducible apply Given.mk; intro h; (try exact absurd h (by decide)))
        | ((conv => whnf); first | with_reducible apply Both.mk | refine LoopP.times 9 ?_))
      all_goals first
        | ((with_reducible apply Ob.mk); refine ⟨Nat.le_refl _, fun k hk => ?_⟩; rcases k with _ | _ | _ | _ | k <;> first | rfl | (exfalso; revert hk; decide) | (exfalso; replace hk : k + 1 + 1 + 1 + 1 < 4 := hk; omega) | (exfalso; replace hk : k + 1 + 1 + 1 + 1 < 2 := hk; omega))
        | (with_reducible apply Ob.mk; kernel_rfl)
        | (with_reducible apply Ob.mk; decide)
        | ((conv => whnf); exact ⟨rfl⟩)
    · rename_i hn
      obtain rfl : n = 4#64 := BitVec.eq_of_toNat_eq hn
      cases h
      refine ⟨rfl, rfl, ?_⟩
      repeat' (first
        | (with_reducible apply Given.mk; intro h; (try exact absurd h (by decide)))
        | ((conv => whnf); first | with_reducible apply Both.mk | refine LoopP.times 9 ?_))
      all_goals first
        | ((with_reducible apply Ob.mk); refine ⟨Nat.le_refl _, fun k hk => ?_⟩; rcases k with _ | _ | _ | _ | k <;> first | rfl | (exfalso; revert hk; decide) | (exfalso; replace hk : k + 1 + 1 + 1 + 1 < 4 := hk; omega) | (exfalso; replace hk : k + 1 + 1 + 1 + 1 < 2 := hk; omega))
        | (with_reducible apply Ob.mk; kernel_rfl)
        | (with_reducible apply Ob.mk; decide)
        | ((conv => whnf); exact ⟨rfl⟩)
    · cases h
  · cases h
abbrev tb_nums_Bytes : List (Nat × Sp) := (74, sp_nums_Bytes) :: tb_insns_Check
theorem C_nums_Bytes : CSound Try.prog anyWorld (tab noData tb_nums_Bytes) := C_insns_Check.cons e_nums_Bytes

def sp_insns_Encode : Sp
  | [.agg [.b8 false o, .b8 false d, .b8 false s, .b16 true f, .b32 true i]] => some (Cond.t, .one (.str (iEnc o d s f i)))
  | _ => none
set_option maxRecDepth 100000 in
set_option maxHeartbeats 4000000 in
theorem e_insns_Encode : EntryOK Try.prog anyWorld 45 sp_insns_Encode := by
  refine .of_F (C_nums_Bytes) (by kernel_rfl) Try.func45 (by kernel_rfl) (by kernel_rfl) (fun args c v h hc => ?_)
  unfold sp_insns_Encode at h
  split at h
  · rename_i o d s f i; cases h
    refine ⟨rfl, rfl, ?_⟩
    repeat' (first
      | (with_reducible apply Given.mk; intro h; (try exact absurd h (by decide)))
      | ((conv => whnf); with_reducible apply Both.mk))
    all_goals first
      | (with_reducible apply Ob.mk; kernel_rfl)
      | (with_reducible apply Ob.mk; decide)
      | (with_reducible apply Ob.mk; simp [ByteArray.size, catB, exB, bytes2, bytes4, iEnc]; done)
      | ((conv => whnf); refine ⟨?_⟩; first | with_reducible rfl | (simp only [bytes2, bytes4, iEnc, *, Bool.true_and, Bool.and_true, Bool.false_and, Bool.and_false, Bool.true_or, Bool.or_true, Bool.false_or, Bool.or_false, Bool.not_true, Bool.not_false, Bool.false_eq_true, Bool.true_eq_false, if_true, if_false, reduceCtorEq]; done) | (simp_all [bytes2, bytes4, iEnc]; done) | rfl)
  · cases h
abbrev tb_insns_Encode : List (Nat × Sp) := (45, sp_insns_Encode) :: tb_nums_Bytes
theorem C_insns_Encode : CSound Try.prog anyWorld (tab noData (tb_insns_Encode)) := (C_nums_Bytes).cons (e_insns_Encode)

end Go.Proofs.Ytdaioplfgbgggaa
