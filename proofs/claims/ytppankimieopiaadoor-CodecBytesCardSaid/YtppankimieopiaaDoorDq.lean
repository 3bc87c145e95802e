/-
  Chapter 11: coded(), its examples, over the contracts of Encode and Decode. Conditions: none.
-/
import Derived.Test.YtppankimieopiaaDoorDw
namespace Go.Proofs.YtppankimieopiaaDoor
open Go.Ep Go.RowKit
set_option linter.unusedVariables false
set_option linter.unusedSimpArgs false
abbrev tb_Dec (m : Nat → Nat) : List (Nat × Sp) := (23, sp_Decode) :: tb_D m
theorem C_Dec (G2 : World → Prop) (D2 : VData) (k2 : DataOK Tryd.prog G2 D2) (m : Nat → Nat) : CSound Tryd.prog (GN m G2) (tab (DN m D2) (tb_Dec m)) := (C_D G2 D2 k2 m).cons (e_Decode G2 D2 k2 m)
/-- An instruction and its bytes. -/
def sp_is : Sp
  | [.one (.str t), .agg [.b64 true k, .b64 true al, .b64 true cc, .b64 true sz, .bool w, .bool sh, .b64 true d, .b64 true s, .b32 true dp, .b32 true rl, .b64 true im]] => some (Cond.p (vld k al cc sz w sh d s dp rl im = true ∧ encB k al cc sz w sh d s dp rl im = t), .one (.bool true))
  | _ => none
abbrev tI (t : ByteArray) : ByteArray := catB (catB ⟨#[63]⟩ t) ⟨#[63]⟩
theorem bad_no {s : ByteArray} {a : BitVec 64} (hs : s.size < 9223372036854775808) (h : a.toNat < s.size) (hi : a.toInt = (a.toNat : Int)) : badA s a = false := by
  unfold badA
  rw [Bool.or_eq_false_iff, BitVec.slt_eq_decide, BitVec.sle_eq_decide, decide_eq_false_iff_not, decide_eq_false_iff_not, toInt_ofNat hs, hi]
  have z : (0#64).toInt = 0 := rfl
  rw [z]
  omega
theorem tI_ok {x : MX} (hv : vX x = true) : ((catB ⟨#[63]⟩ (eX x)).size < 9223372036854775808 ∧ (tI (eX x)).size < 9223372036854775808) ∧ xA (tI (eX x)) 1#64 = x ∧ nA (tI (eX x)) 1#64 = BitVec.ofNat 64 (eX x).size ∧ eA (tI (eX x)) 1#64 = 0#64 := by
  obtain ⟨p1, p2⟩ := eX_pos hv
  have s1 : (catB ⟨#[63]⟩ (eX x)).size = 1 + (eX x).size := by rw [cat_sz2]; rfl
  have s2 : (tI (eX x)).size = 1 + (eX x).size + 1 := by rw [cat_sz2, s1]; rfl
  have hb : badA (tI (eX x)) 1#64 = false := bad_no (by rw [s2]; omega) (by rw [s2]; show 1 < _; omega) rfl
  have e : exB (tI (eX x)) (1#64).toNat (tI (eX x)).size = catB (eX x) (B [63]) := by
    rw [s2]
    generalize eX x = y
    obtain ⟨⟨l⟩⟩ := y
    have h : exB (B (([63] ++ l) ++ [63])) 1 (1 + l.length + 1) = B (((([63] ++ l) ++ [63]).drop 1).take (1 + l.length + 1 - 1)) := ex_B _ _ _
    refine Eq.trans h ?_
    show B _ = B (l ++ [63])
    refine congrArg B ?_
    simp only [List.cons_append, List.nil_append, List.drop_succ_cons, List.drop_zero]
    exact List.take_of_length_le (by simp; omega)
  refine ⟨⟨by rw [s1]; omega, by rw [s2]; omega⟩, kA_at hb (by rw [s2]; omega) hv (by rw [e]; exact pre_cat _ _)⟩
set_option maxRecDepth 100000 in
set_option maxHeartbeats 4000000 in
theorem is_walk (D2 : VData) (m : Nat → Nat) (x : MX) (t : ByteArray) (hv : vld x.k x.al x.cc x.sz x.w x.sh x.d x.s x.dp x.rl x.im = true) (he : encB x.k x.al x.cc x.sz x.w x.sh x.d x.s x.dp x.rl x.im = t) (c1 : (catB ⟨#[63]⟩ t).size < 9223372036854775808) (c2 : (tI t).size < 9223372036854775808) (hx : xA (tI t) 1#64 = x) (hn : nA (tI t) 1#64 = BitVec.ofNat 64 t.size) (hz : eA (tI t) 1#64 = 0#64) (c0 : t.size < 9223372036854775808) :
    F Tryd.prog (tab (DN m D2) (tb_Dec m)) Tryd.f61 [.one (.str t), .agg (LX x)] (fun r => r = .one (.bool true)) := by
  repeat' (first
    | (with_reducible apply Given.mk; intro h; (try simp only [hv, he, hx, hn, hz, if_true, BitVec.reduceBEq, decide_true, beq_self_eq_true, Bool.and_self, Bool.not_true, Bool.true_eq_false, Bool.false_eq_true, eq_self] at h); (try exact absurd h (by decide)))
    | ((conv => whnf); with_reducible apply Both.mk))
  all_goals first
    | ((with_reducible apply Ob.mk); first | with_reducible exact c1 | with_reducible exact c2 | with_reducible exact c0)
    | ((with_reducible apply Ob.mk); rw [cat_sz2] at c1; exact c1)
    | ((with_reducible apply Ob.mk); rw [cat_sz2] at c2; exact c2)
    | (with_reducible apply Ob.mk; kernel_rfl)
    | ((conv => whnf); exact ⟨rfl⟩)
    | ((conv => whnf); refine ⟨?_⟩; simp only [hv, he, hx, hn, hz, if_true, BitVec.reduceBEq, decide_true, beq_self_eq_true, Bool.and_self, Bool.not_true, Bool.true_eq_false, Bool.false_eq_true, eq_self]; done)
    | ((conv => whnf); skip)
set_option maxRecDepth 100000 in
theorem e_is (G2 : World → Prop) (D2 : VData) (k2 : DataOK Tryd.prog G2 D2) (m : Nat → Nat) : EntryOK Tryd.prog (GN m G2) 61 sp_is := by
  refine .of_F (C_Dec G2 D2 k2 m) (by kernel_rfl) Tryd.func61 (by kernel_rfl) (by kernel_rfl) (fun args c v h hc => ?_)
  unfold sp_is at h
  split at h
  · rename_i t k al cc sz w sh d s dp rl im; cases h
    refine ⟨rfl, rfl, ?_⟩
    obtain ⟨hv, rfl⟩ := hc
    obtain ⟨⟨c1, c2⟩, h1, h2, h3⟩ := tI_ok (x := ⟨k, al, cc, sz, w, sh, d, s, dp, rl, im⟩) hv
    exact is_walk D2 m ⟨k, al, cc, sz, w, sh, d, s, dp, rl, im⟩ _ hv rfl c1 c2 h1 h2 h3 (Nat.lt_of_le_of_lt (eX_pos (x := ⟨k, al, cc, sz, w, sh, d, s, dp, rl, im⟩) hv).2 (by decide))
  · cases h
/-- Bytes of no instruction. -/
def sp_no : Sp
  | [.one (.str t)] => some (Cond.p (t.size < 100 ∧ 0 < t.size ∧ (vX (rgF t) && pre t (eX (rgF t))) = false), .one (.bool true))
  | _ => none
theorem no_ok {t : ByteArray} (h1 : t.size < 100) (h2 : 0 < t.size) (h : (vX (rgF t) && pre t (eX (rgF t))) = false) : kA t 0#64 = 0 := by
  have hb : badA t 0#64 = false := bad_no (by omega) h2 rfl
  have e : exB t (0#64).toNat t.size = t := by
    obtain ⟨⟨l⟩⟩ := t
    rw [show exB (⟨⟨l⟩⟩ : ByteArray) (0#64).toNat (⟨⟨l⟩⟩ : ByteArray).size = B ((l.drop 0).take (l.length - 0)) from ex_B l 0 l.length]
    simp
  rw [kA_eq hb, e]
  refine dec_0 (by omega) (fun x hv => ?_)
  cases hp : pre t (eX x) with
  | false => rfl
  | true =>
    obtain ⟨r, hr⟩ := pre_split hp
    have := RTr hv r
    rw [← hr] at this
    rw [this, hv, hp] at h
    cases h
set_option maxRecDepth 100000 in
set_option maxHeartbeats 4000000 in
theorem no_walk (D2 : VData) (m : Nat → Nat) (t : ByteArray) (c0 : t.size < 9223372036854775808) (hx : xA t 0#64 = X0) (hn : nA t 0#64 = 0#64) (hz : eA t 0#64 = 110#64) :
    F Tryd.prog (tab (DN m D2) (tb_Dec m)) Tryd.f62 [.one (.str t)] (fun r => r = .one (.bool true)) := by
  repeat' (first
    | (with_reducible apply Given.mk; intro h; (try simp only [hx, hn, hz, X0, BitVec.reduceBEq, beq_self_eq_true, Bool.and_self, Bool.not_true, Bool.true_eq_false, Bool.false_eq_true, eq_self] at h); (try exact absurd h (by decide)))
    | ((conv => whnf); with_reducible apply Both.mk))
  all_goals first
    | ((with_reducible apply Ob.mk); with_reducible exact c0)
    | (with_reducible apply Ob.mk; kernel_rfl)
    | ((conv => whnf); exact ⟨rfl⟩)
    | ((conv => whnf); refine ⟨?_⟩; simp only [hx, hn, hz, X0, BitVec.reduceBEq, beq_self_eq_true, Bool.and_self]; done)
    | ((conv => whnf); skip)
set_option maxRecDepth 100000 in
theorem e_no (G2 : World → Prop) (D2 : VData) (k2 : DataOK Tryd.prog G2 D2) (m : Nat → Nat) : EntryOK Tryd.prog (GN m G2) 62 sp_no := by
  refine .of_F (C_Dec G2 D2 k2 m) (by kernel_rfl) Tryd.func62 (by kernel_rfl) (by kernel_rfl) (fun args c v h hc => ?_)
  unfold sp_no at h
  split at h
  · rename_i t; cases h
    refine ⟨rfl, rfl, ?_⟩
    obtain ⟨h1, h2, h3⟩ := hc
    obtain ⟨x1, x2, x3⟩ := kA_no (no_ok h1 h2 h3)
    exact no_walk D2 m t (by omega) x1 x2 x3
  · cases h
abbrev tb_isno (m : Nat → Nat) : List (Nat × Sp) := (62, sp_no) :: (61, sp_is) :: tb_Dec m
theorem C_isno (G2 : World → Prop) (D2 : VData) (k2 : DataOK Tryd.prog G2 D2) (m : Nat → Nat) : CSound Tryd.prog (GN m G2) (tab (DN m D2) (tb_isno m)) := ((C_Dec G2 D2 k2 m).cons (e_is G2 D2 k2 m)).cons (e_no G2 D2 k2 m)
def sp_true : Sp
  | [] => some (Cond.t, .one (.bool true))
  | _ => none
set_option maxRecDepth 100000 in
set_option maxHeartbeats 8000000 in
theorem e_coded (G2 : World → Prop) (D2 : VData) (k2 : DataOK Tryd.prog G2 D2) (m : Nat → Nat) : EntryOK Tryd.prog (GN m G2) 22 sp_true := by
  refine .of_F (C_isno G2 D2 k2 m) (by kernel_rfl) Tryd.func22 (by kernel_rfl) (by kernel_rfl) (fun args c v h hc => ?_)
  unfold sp_true at h
  split at h
  · cases h
    refine ⟨rfl, rfl, ?_⟩
    repeat' (first
      | (with_reducible apply Given.mk; intro h; (try exact absurd h (by decide)))
      | ((conv => whnf); with_reducible apply Both.mk))
    all_goals first
      | ((with_reducible apply Ob.mk); exact ⟨by decide +kernel, by decide +kernel⟩)
      | ((with_reducible apply Ob.mk); exact ⟨by decide +kernel, by decide +kernel, by decide +kernel⟩)
      | (with_reducible apply Ob.mk; kernel_rfl)
      | ((conv => whnf); exact ⟨rfl⟩)
      | ((conv => whnf); skip)
  · cases h
abbrev tb_O (m : Nat → Nat) : List (Nat × Sp) := (22, sp_true) :: tb_Dec m
theorem C_O (G2 : World → Prop) (D2 : VData) (k2 : DataOK Tryd.prog G2 D2) (m : Nat → Nat) : CSound Tryd.prog (GN m G2) (tab (DN m D2) (tb_O m)) := (C_Dec G2 D2 k2 m).cons (e_coded G2 D2 k2 m)
end Go.Proofs.YtppankimieopiaaDoor
