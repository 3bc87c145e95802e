/-
  Chapter 11: what the document's Decode does: contracts of its parts. Conditions: as typed.
-/
import Derived.Test.YtppankimieopiaaDoorDt
import Derived.Test.YtppankimieopiaaDoorCx
namespace Go.Proofs.YtppankimieopiaaDoor
open Go.Ep Go.RowKit
set_option linter.unusedVariables false
set_option linter.unusedSimpArgs false
theorem i_nat {i : BitVec 64} (hi : i.slt 0#64 = false) : i.toInt = (i.toNat : Int) := by
  have z : (0#64).toInt = 0 := rfl
  rw [BitVec.slt_eq_decide, decide_eq_false_iff_not, z] at hi
  rw [BitVec.toInt_eq_toNat_cond] at hi ⊢
  split
  · rfl
  · rename_i hn; rw [if_neg hn] at hi; have := i.isLt; omega
theorem atB_out {t : ByteArray} {i : BitVec 64} (ht : t.size < 9223372036854775808) (hi : i.slt 0#64 = false) (h : (BitVec.ofNat 64 t.size).sle i = true) : atB t i = 0#64 := by
  rw [BitVec.sle_iff_toInt_le, toInt_ofNat ht, i_nat hi] at h
  have hl : t.data.toList.length ≤ i.toNat := by
    show t.size ≤ _
    omega
  unfold atB byteAt
  rw [nthB_eq, List.getElem?_eq_none hl]
  rfl
theorem at_in {t : ByteArray} {i : BitVec 64} (ht : t.size < 9223372036854775808) (hi : i.slt 0#64 = false) (h : (BitVec.ofNat 64 t.size).sle i = false) : 0 ≤ i.toInt ∧ i.toNat < t.size := by
  rw [BitVec.sle_eq_decide, decide_eq_false_iff_not, toInt_ofNat ht, i_nat hi] at h
  rw [i_nat hi]
  omega
def sp_at : Sp
  | [.one (.str t), .one (.b64 true i)] => some (Cond.p (t.size < 9223372036854775808 ∧ i.slt 0#64 = false), .one (.b64 true (atB t i)))
  | _ => none
set_option maxRecDepth 100000 in
set_option maxHeartbeats 4000000 in
theorem e_at (G2 : World → Prop) (D2 : VData) (k2 : DataOK Tryd.prog G2 D2) (m : Nat → Nat) : EntryOK Tryd.prog (GN m G2) 65 sp_at := by
  refine .of_F (C_rEnc G2 D2 k2 m) (by kernel_rfl) Tryd.func65 (by kernel_rfl) (by kernel_rfl) (fun args c v h hc => ?_)
  unfold sp_at at h
  split at h
  · rename_i t i; cases h
    refine ⟨rfl, rfl, ?_⟩
    obtain ⟨ht, hi⟩ := hc
    cases hb : (BitVec.ofNat 64 t.size).sle i
    all_goals
      repeat' (first
        | (with_reducible apply Given.mk; intro h; (try (rw [hb] at h; exact absurd h (by decide))))
        | ((conv => whnf); with_reducible apply Both.mk))
      all_goals first
        | ((with_reducible apply Ob.mk); with_reducible exact ht)
        | ((with_reducible apply Ob.mk); exact at_in ht hi hb)
        | ((conv => whnf); refine ⟨?_⟩; rw [atB_out ht hi hb])
        | ((conv => whnf); exact ⟨rfl⟩)
        | (with_reducible apply Ob.mk; kernel_rfl)
        | ((conv => whnf); skip)
  · cases h
abbrev tb_at (m : Nat → Nat) : List (Nat × Sp) := (65, sp_at) :: tb_rEnc m
theorem C_at (G2 : World → Prop) (D2 : VData) (k2 : DataOK Tryd.prog G2 D2) (m : Nat → Nat) : CSound Tryd.prog (GN m G2) (tab (DN m D2) (tb_at m)) := (C_rEnc G2 D2 k2 m).cons (e_at G2 D2 k2 m)
/- Powers of two; a number with its sign told on. -/
def sp_Pow : Sp
  | [.one (.b64 true n)] => match n.toNat with
    | 7 => some (Cond.t, .one (.b64 false 128#64))
    | 8 => some (Cond.t, .one (.b64 false 256#64))
    | 31 => some (Cond.t, .one (.b64 false 2147483648#64))
    | 32 => some (Cond.t, .one (.b64 false 4294967296#64))
    | _ => none
  | _ => none
set_option maxRecDepth 100000 in
set_option maxHeartbeats 4000000 in
theorem e_Pow (G2 : World → Prop) (D2 : VData) (k2 : DataOK Tryd.prog G2 D2) (m : Nat → Nat) : EntryOK Tryd.prog (GN m G2) 79 sp_Pow := by
  refine .of_F (C_at G2 D2 k2 m) (by kernel_rfl) Tryd.func79 (by kernel_rfl) (by kernel_rfl) (fun args c v h hc => ?_)
  unfold sp_Pow at h
  split at h
  · rename_i n
    split at h
    · rename_i hn
      obtain rfl : n = 7#64 := BitVec.eq_of_toNat_eq hn
      cases h
      refine ⟨rfl, rfl, ?_⟩
      repeat' (first
        | (with_reducible apply Given.mk; intro h; (try exact absurd h (by decide)))
        | ((conv => whnf); first | with_reducible apply Both.mk | refine LoopP.times 34 ?_))
      all_goals first
        | (with_reducible apply Ob.mk; kernel_rfl)
        | (with_reducible apply Ob.mk; decide)
        | ((conv => whnf); refine ⟨?_⟩; exact congrArg (fun x => AV.one (L.b64 false x)) (by decide))
        | ((conv => whnf); skip)
    · rename_i hn
      obtain rfl : n = 8#64 := BitVec.eq_of_toNat_eq hn
      cases h
      refine ⟨rfl, rfl, ?_⟩
      repeat' (first
        | (with_reducible apply Given.mk; intro h; (try exact absurd h (by decide)))
        | ((conv => whnf); first | with_reducible apply Both.mk | refine LoopP.times 34 ?_))
      all_goals first
        | (with_reducible apply Ob.mk; kernel_rfl)
        | (with_reducible apply Ob.mk; decide)
        | ((conv => whnf); refine ⟨?_⟩; exact congrArg (fun x => AV.one (L.b64 false x)) (by decide))
        | ((conv => whnf); skip)
    · rename_i hn
      obtain rfl : n = 31#64 := BitVec.eq_of_toNat_eq hn
      cases h
      refine ⟨rfl, rfl, ?_⟩
      repeat' (first
        | (with_reducible apply Given.mk; intro h; (try exact absurd h (by decide)))
        | ((conv => whnf); first | with_reducible apply Both.mk | refine LoopP.times 34 ?_))
      all_goals first
        | (with_reducible apply Ob.mk; kernel_rfl)
        | (with_reducible apply Ob.mk; decide)
        | ((conv => whnf); refine ⟨?_⟩; exact congrArg (fun x => AV.one (L.b64 false x)) (by decide))
        | ((conv => whnf); skip)
    · rename_i hn
      obtain rfl : n = 32#64 := BitVec.eq_of_toNat_eq hn
      cases h
      refine ⟨rfl, rfl, ?_⟩
      repeat' (first
        | (with_reducible apply Given.mk; intro h; (try exact absurd h (by decide)))
        | ((conv => whnf); first | with_reducible apply Both.mk | refine LoopP.times 34 ?_))
      all_goals first
        | (with_reducible apply Ob.mk; kernel_rfl)
        | (with_reducible apply Ob.mk; decide)
        | ((conv => whnf); refine ⟨?_⟩; exact congrArg (fun x => AV.one (L.b64 false x)) (by decide))
        | ((conv => whnf); skip)
    · cases h
  · cases h
abbrev tb_Pow (m : Nat → Nat) : List (Nat × Sp) := (79, sp_Pow) :: tb_at m
theorem C_Pow (G2 : World → Prop) (D2 : VData) (k2 : DataOK Tryd.prog G2 D2) (m : Nat → Nat) : CSound Tryd.prog (GN m G2) (tab (DN m D2) (tb_Pow m)) := (C_at G2 D2 k2 m).cons (e_Pow G2 D2 k2 m)
def sp_rSign : Sp
  | [.one (.b64 false v), .one (.b64 true n)] => match n.toNat with
    | 8 => some (Cond.t, .one (.b64 false (sgV 8 v)))
    | 32 => some (Cond.t, .one (.b64 false (sgV 32 v)))
    | 64 => some (Cond.t, .one (.b64 false (sgV 64 v)))
    | _ => none
  | _ => none
noncomputable abbrev FSl : List (Nat × Func) := [(34, Tryd.f34)]
theorem fs_l : FsOK Tryd.prog FSl := FsOK.cons Tryd.func34 (by kernel_rfl) (by kernel_rfl) FsOK.nil
set_option maxRecDepth 100000 in
set_option maxHeartbeats 4000000 in
theorem e_rSign (G2 : World → Prop) (D2 : VData) (k2 : DataOK Tryd.prog G2 D2) (m : Nat → Nat) : EntryOK Tryd.prog (GN m G2) 81 sp_rSign := by
  refine .of_F (CSound.tabI (C_Pow G2 D2 k2 m) (by kernel_rfl) fs_l 2) (by kernel_rfl) Tryd.func81 (by kernel_rfl) (by kernel_rfl) (fun args c v h hc => ?_)
  unfold sp_rSign at h
  split at h
  · rename_i v n
    split at h
    · rename_i hn
      obtain rfl : n = 8#64 := BitVec.eq_of_toNat_eq hn
      cases h
      refine ⟨rfl, rfl, ?_⟩
      repeat' (first
        | (with_reducible apply Given.mk; intro h; (try exact absurd h (by decide)))
        | ((conv => whnf); with_reducible apply Both.mk))
      all_goals first
        | (with_reducible apply Ob.mk; kernel_rfl)
        | (with_reducible apply Ob.mk; decide)
        | ((conv => whnf); refine ⟨?_⟩; simp only [sgV, *, if_true, if_false, Bool.false_eq_true]; done)
        | ((conv => whnf); exact ⟨rfl⟩)
        | ((conv => whnf); skip)
    · rename_i hn
      obtain rfl : n = 32#64 := BitVec.eq_of_toNat_eq hn
      cases h
      refine ⟨rfl, rfl, ?_⟩
      repeat' (first
        | (with_reducible apply Given.mk; intro h; (try exact absurd h (by decide)))
        | ((conv => whnf); with_reducible apply Both.mk))
      all_goals first
        | (with_reducible apply Ob.mk; kernel_rfl)
        | (with_reducible apply Ob.mk; decide)
        | ((conv => whnf); refine ⟨?_⟩; simp only [sgV, *, if_true, if_false, Bool.false_eq_true]; done)
        | ((conv => whnf); exact ⟨rfl⟩)
        | ((conv => whnf); skip)
    · rename_i hn
      obtain rfl : n = 64#64 := BitVec.eq_of_toNat_eq hn
      cases h
      refine ⟨rfl, rfl, ?_⟩
      repeat' (first
        | (with_reducible apply Given.mk; intro h; (try exact absurd h (by decide)))
        | ((conv => whnf); with_reducible apply Both.mk))
      all_goals first
        | (with_reducible apply Ob.mk; kernel_rfl)
        | (with_reducible apply Ob.mk; decide)
        | ((conv => whnf); refine ⟨?_⟩; simp only [sgV, *, if_true, if_false, Bool.false_eq_true]; done)
        | ((conv => whnf); exact ⟨rfl⟩)
        | ((conv => whnf); skip)
    · cases h
  · cases h
abbrev tb_rSign (m : Nat → Nat) : List (Nat × Sp) := (81, sp_rSign) :: tb_Pow m
theorem C_rSign (G2 : World → Prop) (D2 : VData) (k2 : DataOK Tryd.prog G2 D2) (m : Nat → Nat) : CSound Tryd.prog (GN m G2) (tab (DN m D2) (tb_rSign m)) := (C_Pow G2 D2 k2 m).cons (e_rSign G2 D2 k2 m)
abbrev smI (t : ByteArray) (i : BitVec 64) : Prop := t.size < 9223372036854775808 ∧ i.toNat < 10
def sp_rnum : Sp
  | [.one (.str t), .one (.b64 true i), .one (.b64 true n)] => match n.toNat with
    | 1 => some (Cond.p (smI t i), .one (.b64 true (nmR 1 t i)))
    | 4 => some (Cond.p (smI t i), .one (.b64 true (nmR 4 t i)))
    | 8 => some (Cond.p (smI t i), .one (.b64 true (nmR 8 t i)))
    | _ => none
  | _ => none
theorem sm_0 {i : BitVec 64} (h : i.toNat < 40) : i.slt 0#64 = false := by
  have z : (0#64).toInt = 0 := rfl
  rw [BitVec.slt_eq_decide, decide_eq_false_iff_not, z, BitVec.toInt_eq_toNat_cond, if_pos (by omega)]
  omega
theorem sm_n {i y : BitVec 64} {n k : Nat} (h1 : i.toNat < n) (hk : y.toNat < k) (hn : n < 100) (hk0 : k < 100) : (i + y).toNat < n + k := by
  rw [BitVec.toNat_add]; omega
theorem sm_add {i y : BitVec 64} (h1 : i.toNat < 10) (hk : y.toNat < 10) : (i + y).slt 0#64 = false := sm_0 (Nat.lt_of_lt_of_le (sm_n h1 hk (by decide) (by decide)) (by decide))
set_option maxRecDepth 100000 in
set_option maxHeartbeats 4000000 in
theorem e_rnum (G2 : World → Prop) (D2 : VData) (k2 : DataOK Tryd.prog G2 D2) (m : Nat → Nat) : EntryOK Tryd.prog (GN m G2) 89 sp_rnum := by
  refine .of_F (C_rSign G2 D2 k2 m) (by kernel_rfl) Tryd.func89 (by kernel_rfl) (by kernel_rfl) (fun args c v h hc => ?_)
  unfold sp_rnum at h
  split at h
  · rename_i t i n
    split at h
    · rename_i hn
      obtain rfl : n = 1#64 := BitVec.eq_of_toNat_eq hn
      cases h
      refine ⟨rfl, rfl, ?_⟩
      obtain ⟨ht, h1⟩ := hc
      repeat' (first
        | (with_reducible apply Given.mk; intro h; (try exact absurd h (by decide)))
        | ((conv => whnf); first | with_reducible apply Both.mk | refine LoopP.times 12 ?_))
      all_goals first
        | (with_reducible apply Ob.mk; kernel_rfl)
        | ((with_reducible apply Ob.mk); with_reducible exact ht)
        | ((with_reducible apply Ob.mk); exact ⟨ht, sm_add h1 (by decide)⟩)
        | (with_reducible apply Ob.mk; decide)
        | ((conv => whnf); refine ⟨?_⟩; simp only [nmR, BitVec.reduceSub]; done)
        | ((conv => whnf); skip)
    · rename_i hn
      obtain rfl : n = 4#64 := BitVec.eq_of_toNat_eq hn
      cases h
      refine ⟨rfl, rfl, ?_⟩
      obtain ⟨ht, h1⟩ := hc
      repeat' (first
        | (with_reducible apply Given.mk; intro h; (try exact absurd h (by decide)))
        | ((conv => whnf); first | with_reducible apply Both.mk | refine LoopP.times 12 ?_))
      all_goals first
        | (with_reducible apply Ob.mk; kernel_rfl)
        | ((with_reducible apply Ob.mk); with_reducible exact ht)
        | ((with_reducible apply Ob.mk); exact ⟨ht, sm_add h1 (by decide)⟩)
        | (with_reducible apply Ob.mk; decide)
        | ((conv => whnf); refine ⟨?_⟩; simp only [nmR, BitVec.reduceSub]; done)
        | ((conv => whnf); skip)
    · rename_i hn
      obtain rfl : n = 8#64 := BitVec.eq_of_toNat_eq hn
      cases h
      refine ⟨rfl, rfl, ?_⟩
      obtain ⟨ht, h1⟩ := hc
      repeat' (first
        | (with_reducible apply Given.mk; intro h; (try exact absurd h (by decide)))
        | ((conv => whnf); first | with_reducible apply Both.mk | refine LoopP.times 12 ?_))
      all_goals first
        | (with_reducible apply Ob.mk; kernel_rfl)
        | ((with_reducible apply Ob.mk); with_reducible exact ht)
        | ((with_reducible apply Ob.mk); exact ⟨ht, sm_add h1 (by decide)⟩)
        | (with_reducible apply Ob.mk; decide)
        | ((conv => whnf); refine ⟨?_⟩; simp only [nmR, BitVec.reduceSub]; done)
        | ((conv => whnf); skip)
    · cases h
  · cases h
abbrev tb_rnum (m : Nat → Nat) : List (Nat × Sp) := (89, sp_rnum) :: tb_rSign m
theorem C_rnum (G2 : World → Prop) (D2 : VData) (k2 : DataOK Tryd.prog G2 D2) (m : Nat → Nat) : CSound Tryd.prog (GN m G2) (tab (DN m D2) (tb_rnum m)) := (C_rSign G2 D2 k2 m).cons (e_rnum G2 D2 k2 m)
theorem atB_lt (t : ByteArray) (i : BitVec 64) : (atB t i).toNat < 256 := by
  unfold atB
  rw [BitVec.toNat_setWidth]
  have := (byteAt t i.toNat).isLt
  omega
theorem o_int {o : BitVec 64} (h : o.toNat < 256) : o.toInt = (o.toNat : Int) := by rw [BitVec.toInt_eq_toNat_cond, if_pos (by omega)]
theorem o_eq {o : BitVec 64} {n : Nat} (h : o.toNat < 256) (hn : n < 256) : (o == BitVec.ofNat 64 n) = decide (o.toNat = n) := by
  rw [Bool.eq_iff_iff, beq_iff_eq, decide_eq_true_eq]
  constructor
  · rintro rfl; exact nat_of (by omega)
  · intro e; apply BitVec.eq_of_toNat_eq; rw [e, nat_of (by omega)]
theorem o_lt {o : BitVec 64} {n : Nat} (h : o.toNat < 256) (hn : n < 256) : o.slt (BitVec.ofNat 64 n) = decide (o.toNat < n) := by
  rw [BitVec.slt_eq_decide, o_int h, toInt_ofNat (by omega), Bool.eq_iff_iff, decide_eq_true_eq, decide_eq_true_eq]; omega
theorem o_ge {o : BitVec 64} {n : Nat} (h : o.toNat < 256) (hn : n < 256) : (BitVec.ofNat 64 n).sle o = decide (n ≤ o.toNat) := by
  rw [BitVec.sle_eq_decide, o_int h, toInt_ofNat (by omega), Bool.eq_iff_iff, decide_eq_true_eq, decide_eq_true_eq]; omega
set_option maxRecDepth 100000 in
set_option maxHeartbeats 16000000 in
theorem w_sec (D2 : VData) (m : Nat → Nat) (t : ByteArray) (i : BitVec 64) (k al cc sz : BitVec 64) (w sh : Bool) (d s : BitVec 64) (dp rl : BitVec 32) (im : BitVec 64) (ht : t.size < 9223372036854775808) (h0 : i.toNat < 5) : F Tryd.prog (tab (DN m D2) (tb_rnum m)) Tryd.f66 [.one (.str t), .one (.b64 true i), .agg [.b64 true k, .b64 true al, .b64 true cc, .b64 true sz, .bool w, .bool sh, .b64 true d, .b64 true s, .b32 true dp, .b32 true rl, .b64 true im]] (fun r => r = .agg (LX (secF t i ⟨k, al, cc, sz, w, sh, d, s, dp, rl, im⟩))) := by
  repeat' ((conv => whnf); first
    | with_reducible apply Both.mk
    | (with_reducible apply Given.mk; intro h; (try exact absurd h (by decide))))
  all_goals first
    | ((conv => whnf); refine ⟨?_⟩; simp only [secF, LX, *, if_true, if_false, Bool.and_true, Bool.and_false, Bool.true_and, Bool.false_and, Bool.or_true, Bool.or_false, Bool.true_or, Bool.false_or, Bool.or_self, Bool.and_self, Bool.false_eq_true]; done)
    | ((conv => whnf); refine ⟨?_⟩; simp_all only [secF, LX, if_true, if_false, Bool.and_true, Bool.and_false, Bool.true_and, Bool.false_and, Bool.or_true, Bool.or_false, Bool.true_or, Bool.false_or, Bool.or_self, Bool.and_self, Bool.false_eq_true]; done)
    | ((with_reducible apply Ob.mk); exact ⟨ht, sm_0 (by omega)⟩)
    | ((with_reducible apply Ob.mk); exact ⟨ht, sm_add (by omega) (by decide)⟩)
    | ((with_reducible apply Ob.mk); exact ⟨ht, Nat.lt_of_lt_of_le (sm_n (n := 5) (k := 3) h0 (by decide) (by decide) (by decide)) (by decide)⟩)
    | ((with_reducible apply Ob.mk); exact ⟨ht, sm_n (n := 8) (k := 2) (sm_n (n := 5) (k := 3) h0 (by decide) (by decide) (by decide)) (by decide) (by decide) (by decide)⟩)
    | (with_reducible apply Ob.mk; kernel_rfl)
    | (with_reducible apply Ob.mk; decide)
    | ((conv => whnf); skip)
def sp_sec : Sp
  | [.one (.str t), .one (.b64 true i), .agg [.b64 true k, .b64 true al, .b64 true cc, .b64 true sz, .bool w, .bool sh, .b64 true d, .b64 true s, .b32 true dp, .b32 true rl, .b64 true im]] => some (Cond.p ((t.size < 9223372036854775808 ∧ i.toNat < 5)), .agg (LX (secF t i ⟨k, al, cc, sz, w, sh, d, s, dp, rl, im⟩)))
  | _ => none
set_option maxRecDepth 100000 in
theorem e_sec (G2 : World → Prop) (D2 : VData) (k2 : DataOK Tryd.prog G2 D2) (m : Nat → Nat) : EntryOK Tryd.prog (GN m G2) 66 sp_sec := by
  refine .of_F (C_rnum G2 D2 k2 m) (by kernel_rfl) Tryd.func66 (by kernel_rfl) (by kernel_rfl) (fun args c v h hc => ?_)
  unfold sp_sec at h
  split at h
  · rename_i t i k al cc sz w sh d s dp rl im; cases h
    exact ⟨rfl, rfl, w_sec D2 m t i k al cc sz w sh d s dp rl im hc.1 hc.2⟩
  · cases h
abbrev tb_sec (m : Nat → Nat) : List (Nat × Sp) := (66, sp_sec) :: tb_rnum m
theorem C_sec (G2 : World → Prop) (D2 : VData) (k2 : DataOK Tryd.prog G2 D2) (m : Nat → Nat) : CSound Tryd.prog (GN m G2) (tab (DN m D2) (tb_sec m)) := (C_rnum G2 D2 k2 m).cons (e_sec G2 D2 k2 m)
end Go.Proofs.YtppankimieopiaaDoor
