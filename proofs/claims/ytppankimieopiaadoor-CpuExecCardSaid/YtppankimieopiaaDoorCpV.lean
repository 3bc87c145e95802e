/-
  Which instructions of the machine may be: what both Valid answer, by the evaluator. Conditions: none.
-/
import Derived.Test.YtppankimieopiaaDoorCpW
import Derived.Test.YtppankimieopiaaDoorShelf
namespace Go.Proofs.YtppankimieopiaaDoor
open Go.Ep Go.RowKit
set_option linter.unusedVariables false
set_option linter.unusedSimpArgs false

def regB (x : BitVec 64) : Bool := (0#64).sle x && x.slt 16#64
def aluB (x : BitVec 64) : Bool := x == 0#64 || x == 1#64 || x == 4#64 || x == 5#64 || x == 6#64 || x == 7#64
def shiftB (x : BitVec 64) : Bool := x == 4#64 || x == 5#64 || x == 7#64
def sizeB (x : BitVec 64) : Bool := x == 1#64 || x == 2#64 || x == 4#64 || x == 8#64
abbrev mWord : BitVec 64 := BitVec.ofInt 64 (Int.negSucc 2147483647)
abbrev mByte : BitVec 32 := BitVec.ofInt 32 (Int.negSucc 127)
def wordB (x : BitVec 64) : Bool := mWord.sle x && x.sle 2147483647#64
def relB (x : BitVec 32) : Bool := mByte.sle x && x.sle 127#32
def shB (w : Bool) (x : BitVec 64) : Bool := (0#64).sle x && (x.slt 32#64 || w && x.slt 64#64)
def v1 (al cc sz : BitVec 64) (w sh : Bool) (d s : BitVec 64) (dp rl : BitVec 32) (im : BitVec 64) : Bool := al == 0#64 && cc == 0#64 && sz == 0#64 && !sh && dp == 0#32 && rl == 0#32 && im == 0#64 && (regB d && regB s)
def v2 (al cc sz : BitVec 64) (w sh : Bool) (d s : BitVec 64) (dp rl : BitVec 32) (im : BitVec 64) : Bool := al == 0#64 && cc == 0#64 && sz == 0#64 && !sh && s == 0#64 && dp == 0#32 && rl == 0#32 && wordB im && w && (regB d && regB s)
def v3 (al cc sz : BitVec 64) (w sh : Bool) (d s : BitVec 64) (dp rl : BitVec 32) (im : BitVec 64) : Bool := al == 0#64 && cc == 0#64 && sz == 0#64 && !sh && s == 0#64 && dp == 0#32 && rl == 0#32 && w && (regB d && regB s)
def v4 (al cc sz : BitVec 64) (w sh : Bool) (d s : BitVec 64) (dp rl : BitVec 32) (im : BitVec 64) : Bool := cc == 0#64 && sz == 0#64 && !sh && dp == 0#32 && rl == 0#32 && im == 0#64 && aluB al && (regB d && regB s)
def v5 (al cc sz : BitVec 64) (w sh : Bool) (d s : BitVec 64) (dp rl : BitVec 32) (im : BitVec 64) : Bool := cc == 0#64 && sz == 0#64 && !sh && s == 0#64 && dp == 0#32 && rl == 0#32 && aluB al && wordB im && (regB d && regB s)
def v6 (al cc sz : BitVec 64) (w sh : Bool) (d s : BitVec 64) (dp rl : BitVec 32) (im : BitVec 64) : Bool := al == 0#64 && cc == 0#64 && sz == 0#64 && !sh && dp == 0#32 && rl == 0#32 && im == 0#64 && (regB d && regB s)
def v7 (al cc sz : BitVec 64) (w sh : Bool) (d s : BitVec 64) (dp rl : BitVec 32) (im : BitVec 64) : Bool := al == 0#64 && cc == 0#64 && sz == 0#64 && !sh && s == 0#64 && dp == 0#32 && rl == 0#32 && im == 0#64 && (regB d && regB s)
def v8 (al cc sz : BitVec 64) (w sh : Bool) (d s : BitVec 64) (dp rl : BitVec 32) (im : BitVec 64) : Bool := al == 0#64 && cc == 0#64 && sz == 0#64 && !sh && s == 0#64 && dp == 0#32 && rl == 0#32 && im == 0#64 && (regB d && regB s)
def v9 (al cc sz : BitVec 64) (w sh : Bool) (d s : BitVec 64) (dp rl : BitVec 32) (im : BitVec 64) : Bool := al == 0#64 && cc == 0#64 && sz == 0#64 && !sh && s == 0#64 && dp == 0#32 && rl == 0#32 && im == 0#64 && (regB d && regB s)
def v10 (al cc sz : BitVec 64) (w sh : Bool) (d s : BitVec 64) (dp rl : BitVec 32) (im : BitVec 64) : Bool := al == 0#64 && cc == 0#64 && sz == 0#64 && !sh && dp == 0#32 && rl == 0#32 && im == 0#64 && (regB d && regB s)
def v11 (al cc sz : BitVec 64) (w sh : Bool) (d s : BitVec 64) (dp rl : BitVec 32) (im : BitVec 64) : Bool := cc == 0#64 && sz == 0#64 && !sh && s == 0#64 && dp == 0#32 && rl == 0#32 && shiftB al && shB w im && (regB d && regB s)
def v12 (al cc sz : BitVec 64) (w sh : Bool) (d s : BitVec 64) (dp rl : BitVec 32) (im : BitVec 64) : Bool := cc == 0#64 && sz == 0#64 && !sh && s == 0#64 && dp == 0#32 && rl == 0#32 && im == 0#64 && shiftB al && (regB d && regB s)
def v13 (al cc sz : BitVec 64) (w sh : Bool) (d s : BitVec 64) (dp rl : BitVec 32) (im : BitVec 64) : Bool := al == 0#64 && cc == 0#64 && !sh && rl == 0#32 && im == 0#64 && sizeB sz && (w == (sz == 8#64)) && (regB d && regB s)
def v14 (al cc sz : BitVec 64) (w sh : Bool) (d s : BitVec 64) (dp rl : BitVec 32) (im : BitVec 64) : Bool := al == 0#64 && cc == 0#64 && !sh && rl == 0#32 && im == 0#64 && sizeB sz && (w == (sz == 8#64)) && (regB d && regB s)
def v15 (al cc sz : BitVec 64) (w sh : Bool) (d s : BitVec 64) (dp rl : BitVec 32) (im : BitVec 64) : Bool := al == 0#64 && cc == 0#64 && sz == 0#64 && !w && d == 0#64 && s == 0#64 && dp == 0#32 && im == 0#64 && (!sh || relB rl) && (regB d && regB s)
def v16 (al cc sz : BitVec 64) (w sh : Bool) (d s : BitVec 64) (dp rl : BitVec 32) (im : BitVec 64) : Bool := al == 0#64 && sz == 0#64 && !w && d == 0#64 && s == 0#64 && dp == 0#32 && im == 0#64 && (!sh || relB rl) && condB cc && (regB d && regB s)
def v17 (al cc sz : BitVec 64) (w sh : Bool) (d s : BitVec 64) (dp rl : BitVec 32) (im : BitVec 64) : Bool := al == 0#64 && cc == 0#64 && sz == 0#64 && !w && !sh && s == 0#64 && dp == 0#32 && rl == 0#32 && im == 0#64 && (regB d && regB s)
def v18 (al cc sz : BitVec 64) (w sh : Bool) (d s : BitVec 64) (dp rl : BitVec 32) (im : BitVec 64) : Bool := al == 0#64 && cc == 0#64 && sz == 0#64 && !w && !sh && s == 0#64 && dp == 0#32 && rl == 0#32 && im == 0#64 && (regB d && regB s)
def v19 (al cc sz : BitVec 64) (w sh : Bool) (d s : BitVec 64) (dp rl : BitVec 32) (im : BitVec 64) : Bool := al == 0#64 && cc == 0#64 && sz == 0#64 && !w && !sh && d == 0#64 && s == 0#64 && dp == 0#32 && rl == 0#32 && im == 0#64 && (regB d && regB s)
def v20 (al cc sz : BitVec 64) (w sh : Bool) (d s : BitVec 64) (dp rl : BitVec 32) (im : BitVec 64) : Bool := al == 0#64 && cc == 0#64 && sz == 0#64 && !w && !sh && d == 0#64 && s == 0#64 && dp == 0#32 && im == 0#64 && (regB d && regB s)
def v21 (al cc sz : BitVec 64) (w sh : Bool) (d s : BitVec 64) (dp rl : BitVec 32) (im : BitVec 64) : Bool := al == 0#64 && cc == 0#64 && sz == 0#64 && !w && !sh && d == 0#64 && s == 0#64 && dp == 0#32 && rl == 0#32 && im == 0#64 && (regB d && regB s)
/-- Which instructions may be. -/
def vld (k al cc sz : BitVec 64) (w sh : Bool) (d s : BitVec 64) (dp rl : BitVec 32) (im : BitVec 64) : Bool :=
  if k == 1#64 then v1 al cc sz w sh d s dp rl im else if k == 2#64 then v2 al cc sz w sh d s dp rl im else if k == 3#64 then v3 al cc sz w sh d s dp rl im else if k == 4#64 then v4 al cc sz w sh d s dp rl im else if k == 5#64 then v5 al cc sz w sh d s dp rl im else if k == 6#64 then v6 al cc sz w sh d s dp rl im else if k == 7#64 then v7 al cc sz w sh d s dp rl im else if k == 8#64 then v8 al cc sz w sh d s dp rl im else if k == 9#64 then v9 al cc sz w sh d s dp rl im else if k == 10#64 then v10 al cc sz w sh d s dp rl im else if k == 11#64 then v11 al cc sz w sh d s dp rl im else if k == 12#64 then v12 al cc sz w sh d s dp rl im else if k == 13#64 then v13 al cc sz w sh d s dp rl im else if k == 14#64 then v14 al cc sz w sh d s dp rl im else if k == 15#64 then v15 al cc sz w sh d s dp rl im else if k == 16#64 then v16 al cc sz w sh d s dp rl im else if k == 17#64 then v17 al cc sz w sh d s dp rl im else if k == 18#64 then v18 al cc sz w sh d s dp rl im else if k == 19#64 then v19 al cc sz w sh d s dp rl im else if k == 20#64 then v20 al cc sz w sh d s dp rl im else if k == 21#64 then v21 al cc sz w sh d s dp rl im else false
theorem sle_not (x y : BitVec 64) : x.sle y = !(y.slt x) := by
  rw [Bool.eq_iff_iff]; simp only [BitVec.sle_iff_toInt_le, Bool.not_eq_true', ← Bool.not_eq_true, BitVec.slt_iff_toInt_lt]; omega
theorem sle_not32 (x y : BitVec 32) : x.sle y = !(y.slt x) := by
  rw [Bool.eq_iff_iff]; simp only [BitVec.sle_iff_toInt_le, Bool.not_eq_true', ← Bool.not_eq_true, BitVec.slt_iff_toInt_lt]; omega
theorem slt16 (x : BitVec 64) : x.slt 16#64 = !((15#64).slt x) := by
  have e1 : (16#64).toInt = 16 := rfl
  have e2 : (15#64).toInt = 15 := rfl
  rw [Bool.eq_iff_iff]; simp only [Bool.not_eq_true', ← Bool.not_eq_true, BitVec.slt_iff_toInt_lt, e1, e2]; omega
def fBh (k : BitVec 64) : BitVec 64 := if k == 1#64 then 1#64 else if k == 6#64 then 1#64 else if k == 10#64 then 2#64 else if k == 4#64 then 1#64 else if k == 5#64 then 3#64 else if k == 2#64 then 3#64 else if k == 3#64 then 4#64 else if k == 7#64 then 3#64 else if k == 8#64 then 3#64 else if k == 9#64 then 3#64 else if k == 11#64 then 3#64 else if k == 12#64 then 3#64 else if k == 13#64 then 5#64 else if k == 14#64 then 6#64 else if k == 15#64 then 7#64 else if k == 16#64 then 7#64 else if k == 17#64 then 4#64 else if k == 18#64 then 4#64 else if k == 19#64 then 0#64 else if k == 20#64 then 7#64 else if k == 21#64 then 0#64 else 0#64
def fAu (k : BitVec 64) : BitVec 64 := if k == 4#64 then 1#64 else if k == 5#64 then 1#64 else if k == 11#64 then 2#64 else if k == 12#64 then 2#64 else 0#64
def fIm (k : BitVec 64) : BitVec 64 := if k == 5#64 then 4#64 else if k == 2#64 then 4#64 else if k == 3#64 then 8#64 else if k == 11#64 then 1#64 else 0#64
/-- slices.Contains, of the conditions that there are. -/
def sp_Contains (m : Nat → Nat) : Sp
  | [.one (.raw v), .one (.b64 true x)] => some (.p (v = cdS m), .one (.bool (condB x)))
  | _ => none
theorem e_Contains (G1 : World → Prop) (D1 : VData) (k1 : DataOK Tryd.prog G1 D1) (m : Nat → Nat) : EntryOK Tryd.prog (and2 (GB m) G1) 54 (sp_Contains m) := by
  refine ⟨⟨_, Tryd.func54, by kernel_rfl, by kernel_rfl⟩, fun args c v h hc => ?_⟩
  unfold sp_Contains at h
  split at h
  · rename_i v x
    simp only [Option.some.injEq, Prod.mk.injEq] at h
    obtain ⟨rfl, rfl⟩ := h
    obtain rfl : v = cdS m := hc
    refine ⟨rfl, fun us ρ hr w hw => ?_⟩
    obtain ⟨u1, us1, rfl⟩ : ∃ a b, us = a :: b := by cases us with
      | nil => exact hr.elim
      | cons a b => exact ⟨a, b, rfl⟩
    obtain ⟨u2, us2, rfl⟩ : ∃ a b, us1 = a :: b := by cases us1 with
      | nil => exact hr.2.elim
      | cons a b => exact ⟨a, b, rfl⟩
    obtain rfl : us2 = [] := by cases us2 with
      | nil => rfl
      | cons a b => exact hr.2.2.elim
    obtain rfl := hr.1 (by simp)
    obtain rfl := hr.2.1 (by simp)
    have hcd := hw.1.2.2
    refine (Tryd.slices_Contains_int (m gCd) (m (gCd + 1000)) 10 10 condZ x.toInt w (by decide) (by decide) hcd.2.2.2).mono ?_
    rintro e w' ⟨rfl, rfl⟩
    refine ⟨_, rfl, fun _ => ?_, Below.refl _ _⟩
    show Value.bool _ = Value.bool _
    rw [← condB_eq]
    rfl
  · cases h
abbrev tb_Contains (m : Nat → Nat) : List (Nat × Sp) := (54, sp_Contains m) :: tb_start
theorem C_Contains (G1 : World → Prop) (D1 : VData) (k1 : DataOK Tryd.prog G1 D1) (m : Nat → Nat) : CSound Tryd.prog (and2 (GB m) G1) (tab (or2 (DB m) D1) (tb_Contains m)) := (C_start G1 D1 k1 m).cons (e_Contains G1 D1 k1 m)
theorem ks (k : BitVec 64) : k = 1#64 ∨ k = 2#64 ∨ k = 3#64 ∨ k = 4#64 ∨ k = 5#64 ∨ k = 6#64 ∨ k = 7#64 ∨ k = 8#64 ∨ k = 9#64 ∨ k = 10#64 ∨ k = 11#64 ∨ k = 12#64 ∨ k = 13#64 ∨ k = 14#64 ∨ k = 15#64 ∨ k = 16#64 ∨ k = 17#64 ∨ k = 18#64 ∨ k = 19#64 ∨ k = 20#64 ∨ k = 21#64 ∨ (k.slt 1#64 = true ∨ (22#64).sle k = true) := by
  by_cases h1 : k.slt 1#64 = true
  · simp [h1]
  by_cases h2 : (22#64).sle k = true
  · simp [h2]
  have e1 : (1#64).toInt = 1 := rfl
  have e2 : (22#64).toInt = 22 := rfl
  rw [BitVec.slt_iff_toInt_lt, e1] at h1
  rw [BitVec.sle_iff_toInt_le, e2] at h2
  have key : ∀ n : Nat, n < 22 → k.toInt = n → k = BitVec.ofNat 64 n := fun n hn h => BitVec.eq_of_toInt_eq (by rw [h, toInt_ofNat (by omega)])
  obtain ⟨n, hn⟩ : ∃ n : Nat, k.toInt = n := ⟨k.toInt.toNat, by omega⟩
  have hn2 : n < 22 := by omega
  have hk := key n hn2 hn
  have hn1 : 1 ≤ n := by omega
  clear key hn h1 h2 e1 e2
  rcases n with _ | _ | _ | _ | _ | _ | _ | _ | _ | _ | _ | _ | _ | _ | _ | _ | _ | _ | _ | _ | _ | _ | n
  all_goals first | (exfalso; omega) | simp [hk]
theorem vld_none {k al cc sz : BitVec 64} {w sh : Bool} {d s : BitVec 64} {dp rl : BitVec 32} {im : BitVec 64} (h : k.slt 1#64 = true ∨ (22#64).sle k = true) : vld k al cc sz w sh d s dp rl im = false := by
  have hne : ∀ n : Nat, 1 ≤ n → n < 22 → (k == BitVec.ofNat 64 n) = false := by
    intro n h1 h2
    rw [beq_eq_false_iff_ne]
    rintro rfl
    have e1 : (1#64).toInt = 1 := rfl
    have e2 : (22#64).toInt = 22 := rfl
    rw [BitVec.slt_iff_toInt_lt, BitVec.sle_iff_toInt_le, e1, e2, toInt_ofNat (by omega)] at h
    omega
  unfold vld
  rw [hne 1 (by decide) (by decide), hne 2 (by decide) (by decide), hne 3 (by decide) (by decide), hne 4 (by decide) (by decide), hne 5 (by decide) (by decide), hne 6 (by decide) (by decide), hne 7 (by decide) (by decide), hne 8 (by decide) (by decide), hne 9 (by decide) (by decide), hne 10 (by decide) (by decide), hne 11 (by decide) (by decide), hne 12 (by decide) (by decide), hne 13 (by decide) (by decide), hne 14 (by decide) (by decide), hne 15 (by decide) (by decide), hne 16 (by decide) (by decide), hne 17 (by decide) (by decide), hne 18 (by decide) (by decide), hne 19 (by decide) (by decide), hne 20 (by decide) (by decide), hne 21 (by decide) (by decide)]
  rfl

def sp_codec_used : Sp
  | [.agg [.b64 true k, .b64 true al, .b64 true cc, .b64 true sz, .bool w, .bool sh, .b64 true d, .b64 true s, .b32 true dp, .b32 true rl, .b64 true im], .agg [.str op, .b64 true bh, .b64 true dg, .b64 true au, .b64 true fi, .bool fw, .bool fn]] => some (Cond.p ((k.slt 1#64 = false ∧ (22#64).sle k = false) ∧ bh = fBh k ∧ au = fAu k ∧ fi = fIm k), .agg [.b64 true k, .b64 true (if k == 4#64 || k == 5#64 || k == 11#64 || k == 12#64 then al else 0#64), .b64 true (if k == 16#64 then cc else 0#64), .b64 true (if k == 13#64 || k == 14#64 then sz else 0#64), .bool w, .bool (if k == 15#64 || k == 16#64 then sh else false), .b64 true (if k == 1#64 || k == 2#64 || k == 3#64 || k == 4#64 || k == 5#64 || k == 6#64 || k == 7#64 || k == 8#64 || k == 9#64 || k == 10#64 || k == 11#64 || k == 12#64 || k == 13#64 || k == 14#64 || k == 17#64 || k == 18#64 then d else 0#64), .b64 true (if k == 1#64 || k == 4#64 || k == 6#64 || k == 10#64 || k == 13#64 || k == 14#64 then s else 0#64), .b32 true (if k == 13#64 || k == 14#64 then dp else 0#32), .b32 true (if k == 15#64 || k == 16#64 || k == 20#64 then rl else 0#32), .b64 true (if k == 2#64 || k == 3#64 || k == 5#64 || k == 11#64 then im else 0#64)])
  | _ => none
set_option maxRecDepth 100000 in
set_option maxHeartbeats 4000000 in
theorem e_codec_used (G1 : World → Prop) (D1 : VData) (k1 : DataOK Tryd.prog G1 D1) (m : Nat → Nat) : EntryOK Tryd.prog (and2 (GB m) G1) 52 sp_codec_used := by
  refine .of_F (C_Contains G1 D1 k1 m) (by kernel_rfl) Tryd.func52 (by kernel_rfl) (by kernel_rfl) (fun args c v h hc => ?_)
  unfold sp_codec_used at h
  split at h
  · rename_i k al cc sz w sh d s dp rl im op bh dg au fi fw fn; cases h
    refine ⟨rfl, rfl, ?_⟩
    obtain ⟨⟨hk1, hk2⟩, rfl, rfl, rfl⟩ := hc
    rcases ks k with rfl | rfl | rfl | rfl | rfl | rfl | rfl | rfl | rfl | rfl | rfl | rfl | rfl | rfl | rfl | rfl | rfl | rfl | rfl | rfl | rfl | hk
    rotate_right 1
    · exfalso; rcases hk with hk | hk
      · rw [hk] at hk1; cases hk1
      · rw [hk] at hk2; cases hk2
    all_goals
      clear hk1 hk2
      repeat' (first
        | (with_reducible apply Given.mk; intro h; (try exact absurd h (by decide)))
        | ((conv => whnf); with_reducible apply Both.mk))
      all_goals first
        | (with_reducible apply Ob.mk; kernel_rfl)
        | (with_reducible apply Ob.mk; decide)
        | ((conv => whnf); exact ⟨rfl⟩)
  · cases h
abbrev tb_codec_used (m : Nat → Nat) : List (Nat × Sp) := (52, sp_codec_used) :: tb_Contains m
theorem C_codec_used (G1 : World → Prop) (D1 : VData) (k1 : DataOK Tryd.prog G1 D1) (m : Nat → Nat) : CSound Tryd.prog (and2 (GB m) G1) (tab (or2 (DB m) D1) (tb_codec_used m)) := (C_Contains G1 D1 k1 m).cons (e_codec_used G1 D1 k1 m)


end Go.Proofs.YtppankimieopiaaDoor

