/-
  Chapter 11: the document's bytes of an instruction: contracts. Conditions: as typed.
-/
import Derived.Test.YtppankimieopiaaDoorCm
import Derived.Test.YtppankimieopiaaDoorCq
namespace Go.Proofs.YtppankimieopiaaDoor
open Go.Ep Go.RowKit
set_option linter.unusedVariables false
set_option linter.unusedSimpArgs false
noncomputable abbrev FSr : List (Nat × Func) := [(47, Tryd.f47)]
theorem fs_r : FsOK Tryd.prog FSr := FsOK.cons Tryd.func47 (by kernel_rfl) (by kernel_rfl) FsOK.nil
theorem cat0 (a : ByteArray) : catB { data := #[] } a = a := by
  obtain ⟨⟨a⟩⟩ := a
  simp [catB]
theorem reg_in {x : BitVec 64} (h : regB x = true) : ∃ i : Fin 16, x = BitVec.ofNat 64 i := by
  unfold regB at h
  rw [Bool.and_eq_true, BitVec.sle_iff_toInt_le, BitVec.slt_iff_toInt_lt] at h
  have e0 : (0#64).toInt = 0 := rfl
  have e16 : (16#64).toInt = 16 := rfl
  rw [e0, e16] at h
  exact ⟨⟨x.toInt.toNat, by omega⟩, BitVec.eq_of_toInt_eq (by rw [toInt_ofNat (by show x.toInt.toNat < _; omega)]; show x.toInt = (x.toInt.toNat : Int); omega)⟩
theorem pr_eq {a b : BitVec 64} (ha : regB a = true) (hb : regB b = true) : BitVec.signExtend 8 (192#64 + a.srem 8#64 * 8#64 + b.srem 8#64) = BitVec.signExtend 8 (3#64 <<< (6#64).toNat ||| a.srem 8#64 <<< (3#64).toNat ||| b.srem 8#64) := by
  obtain ⟨i, rfl⟩ := reg_in ha
  obtain ⟨j, rfl⟩ := reg_in hb
  revert i j
  decide +kernel
theorem me_eq {a b : BitVec 64} (ha : regB a = true) (hb : regB b = true) : BitVec.signExtend 8 (128#64 + a.srem 8#64 * 8#64 + b.srem 8#64) = BitVec.signExtend 8 (2#64 <<< (6#64).toNat ||| a.srem 8#64 <<< (3#64).toNat ||| b.srem 8#64) := by
  obtain ⟨i, rfl⟩ := reg_in ha
  obtain ⟨j, rfl⟩ := reg_in hb
  revert i j
  decide +kernel
/-- The document's byte ahead of an opcode. -/
def rxN (w : Bool) (a b : BitVec 64) : BitVec 64 := if w then 64#64 + a.sdiv 8#64 * 4#64 + b.sdiv 8#64 + 8#64 else 64#64 + a.sdiv 8#64 * 4#64 + b.sdiv 8#64
theorem rx_eq {a b : BitVec 64} (ha : regB a = true) (hb : regB b = true) (w : Bool) : (rxN w a b == 64#64) = (rxV w a b == 64#8) ∧ BitVec.signExtend 8 (rxN w a b) = rxV w a b := by
  obtain ⟨i, rfl⟩ := reg_in ha
  obtain ⟨j, rfl⟩ := reg_in hb
  revert i j w
  decide +kernel
def sp_rpair : Sp
  | [.one (.b64 true a), .one (.b64 true b)] => some (Cond.p (regB a = true ∧ regB b = true), .one (.str (mrB 3#64 a b)))
  | _ => none
set_option maxRecDepth 100000 in
set_option maxHeartbeats 16000000 in
theorem e_rpair (G2 : World → Prop) (D2 : VData) (k2 : DataOK Tryd.prog G2 D2) (m : Nat → Nat) : EntryOK Tryd.prog (GN m G2) 48 sp_rpair := by
  refine .of_F (CSound.tabI (C_Encode G2 D2 k2 m) (by kernel_rfl) fs_r 3) (by kernel_rfl) Tryd.func48 (by kernel_rfl) (by kernel_rfl) (fun args c v h hc => ?_)
  unfold sp_rpair at h
  split at h
  · rename_i a b; cases h
    refine ⟨rfl, rfl, ?_⟩
    obtain ⟨ha, hb⟩ := hc
    repeat' (first
      | (with_reducible apply Given.mk; intro h; (try exact absurd h (by decide)))
      | ((conv => whnf); first | with_reducible apply Both.mk | refine LoopP.times 4 ?_))
    all_goals first
      | (with_reducible apply Ob.mk; kernel_rfl)
      | (with_reducible apply Ob.mk; decide)
      | ((with_reducible apply Ob.mk); show 0 + 1 < 9223372036854775808; decide)
      | ((conv => whnf); refine ⟨?_⟩; show AV.one (.str (catB _ _)) = _; rw [cat0, pr_eq ha hb]; rfl)
      | ((conv => whnf); skip)
  · cases h
abbrev tb_rpair (m : Nat → Nat) : List (Nat × Sp) := (48, sp_rpair) :: tb_Encode m
theorem C_rpair (G2 : World → Prop) (D2 : VData) (k2 : DataOK Tryd.prog G2 D2) (m : Nat → Nat) : CSound Tryd.prog (GN m G2) (tab (DN m D2) (tb_rpair m)) := (C_Encode G2 D2 k2 m).cons (e_rpair G2 D2 k2 m)
def sp_rrex : Sp
  | [.one (.bool w), .one (.b64 true a), .one (.b64 true b), .one (.bool al)] => some (Cond.p (regB a = true ∧ regB b = true), .one (.str (rxB al w a b)))
  | _ => none
set_option maxRecDepth 100000 in
set_option maxHeartbeats 16000000 in
theorem e_rrex (G2 : World → Prop) (D2 : VData) (k2 : DataOK Tryd.prog G2 D2) (m : Nat → Nat) : EntryOK Tryd.prog (GN m G2) 46 sp_rrex := by
  refine .of_F (CSound.tabI (C_rpair G2 D2 k2 m) (by kernel_rfl) fs_r 3) (by kernel_rfl) Tryd.func46 (by kernel_rfl) (by kernel_rfl) (fun args c v h hc => ?_)
  unfold sp_rrex at h
  split at h
  · rename_i w a b al; cases h
    refine ⟨rfl, rfl, ?_⟩
    obtain ⟨ha, hb⟩ := hc
    obtain ⟨t1, t2⟩ : (64#64 + a.sdiv 8#64 * 4#64 + b.sdiv 8#64 + 8#64 == 64#64) = (rxV true a b == 64#8) ∧ BitVec.signExtend 8 (64#64 + a.sdiv 8#64 * 4#64 + b.sdiv 8#64 + 8#64) = rxV true a b := rx_eq ha hb true
    obtain ⟨f1, f2⟩ : (64#64 + a.sdiv 8#64 * 4#64 + b.sdiv 8#64 == 64#64) = (rxV false a b == 64#8) ∧ BitVec.signExtend 8 (64#64 + a.sdiv 8#64 * 4#64 + b.sdiv 8#64) = rxV false a b := rx_eq ha hb false
    repeat' (first
      | (with_reducible apply Given.mk; intro h; (try exact absurd h (by decide)))
      | ((conv => whnf); first | with_reducible apply Both.mk | refine LoopP.times 4 ?_))
    all_goals first
      | (with_reducible apply Ob.mk; kernel_rfl)
      | (with_reducible apply Ob.mk; decide)
      | ((with_reducible apply Ob.mk); show 0 + 1 < 9223372036854775808; decide)
      | ((conv => whnf); refine ⟨?_⟩; subst_vars; unfold rxB; cases al <;> first | (exfalso; clear t1 t2 f1 f2; simp_all only [Bool.not_true, Bool.not_false, Bool.true_eq_false, Bool.false_eq_true]; done) | (rw [← t1, ← t2]; clear t1 t2 f1 f2; (try simp only [*, cat0, if_true, if_false, Bool.false_eq_true]); first | done | rfl) | (rw [← f1, ← f2]; clear t1 t2 f1 f2; (try simp only [*, cat0, if_true, if_false, Bool.false_eq_true]); first | done | rfl))
      | ((conv => whnf); skip)
  · cases h
abbrev tb_rrex (m : Nat → Nat) : List (Nat × Sp) := (46, sp_rrex) :: tb_rpair m
theorem C_rrex (G2 : World → Prop) (D2 : VData) (k2 : DataOK Tryd.prog G2 D2) (m : Nat → Nat) : CSound Tryd.prog (GN m G2) (tab (DN m D2) (tb_rrex m)) := (C_rpair G2 D2 k2 m).cons (e_rrex G2 D2 k2 m)
theorem div256 (v : BitVec 64) : v / 256#64 = v >>> 8 := by
  apply BitVec.eq_of_toNat_eq
  rw [BitVec.toNat_udiv, BitVec.toNat_ushiftRight, Nat.shiftRight_eq_div_pow]; rfl
theorem mod256 (v : BitVec 64) : (v % 256#64).setWidth 8 = v.setWidth 8 := by
  apply BitVec.eq_of_toNat_eq
  simp only [BitVec.toNat_setWidth, BitVec.toNat_umod, BitVec.toNat_ofNat, Nat.reducePow, Nat.reduceMod]; omega
theorem shr0 (v : BitVec 64) : v >>> 0 = v := by simp
theorem shr_shr (v : BitVec 64) (a b : Nat) : (v >>> a) >>> b = v >>> (a + b) := (BitVec.shiftRight_add v a b).symm
def sp_rBytes : Sp
  | [.one (.b64 false v), .one (.b64 true n)] => match n.toNat with
    | 1 => some (Cond.t, .one (.str (bytes1 v)))
    | 4 => some (Cond.t, .one (.str (bytes4 v)))
    | 8 => some (Cond.t, .one (.str (bytes8 v)))
    | _ => none
  | _ => none
set_option maxRecDepth 100000 in
set_option maxHeartbeats 4000000 in
theorem e_rBytes (G2 : World → Prop) (D2 : VData) (k2 : DataOK Tryd.prog G2 D2) (m : Nat → Nat) : EntryOK Tryd.prog (GN m G2) 49 sp_rBytes := by
  refine .of_F (C_rrex G2 D2 k2 m) (by kernel_rfl) Tryd.func49 (by kernel_rfl) (by kernel_rfl) (fun args c v h hc => ?_)
  unfold sp_rBytes at h
  split at h
  · rename_i v n
    split at h
    · rename_i hn
      obtain rfl : n = 1#64 := BitVec.eq_of_toNat_eq hn
      cases h
      refine ⟨rfl, rfl, ?_⟩
      repeat' (first
        | (with_reducible apply Given.mk; intro h; (try exact absurd h (by decide)))
        | ((conv => whnf); first | with_reducible apply Both.mk | refine LoopP.times 9 ?_))
      all_goals first
        | (with_reducible apply Ob.mk; kernel_rfl)
        | (with_reducible apply Ob.mk; decide)
        | (with_reducible apply Ob.mk; simp [ByteArray.size, catB]; done)
        | ((conv => whnf); refine ⟨?_⟩; simp only [catB, bytes1, bytes4, bytes8, by8, div256, mod256, shr0, shr_shr, List.nil_append, List.cons_append, List.append_nil]; try rfl)
        | ((conv => whnf); skip)
    · rename_i hn
      obtain rfl : n = 4#64 := BitVec.eq_of_toNat_eq hn
      cases h
      refine ⟨rfl, rfl, ?_⟩
      repeat' (first
        | (with_reducible apply Given.mk; intro h; (try exact absurd h (by decide)))
        | ((conv => whnf); first | with_reducible apply Both.mk | refine LoopP.times 9 ?_))
      all_goals first
        | (with_reducible apply Ob.mk; kernel_rfl)
        | (with_reducible apply Ob.mk; decide)
        | (with_reducible apply Ob.mk; simp [ByteArray.size, catB]; done)
        | ((conv => whnf); refine ⟨?_⟩; simp only [catB, bytes1, bytes4, bytes8, by8, div256, mod256, shr0, shr_shr, List.nil_append, List.cons_append, List.append_nil]; try rfl)
        | ((conv => whnf); skip)
    · rename_i hn
      obtain rfl : n = 8#64 := BitVec.eq_of_toNat_eq hn
      cases h
      refine ⟨rfl, rfl, ?_⟩
      repeat' (first
        | (with_reducible apply Given.mk; intro h; (try exact absurd h (by decide)))
        | ((conv => whnf); first | with_reducible apply Both.mk | refine LoopP.times 9 ?_))
      all_goals first
        | (with_reducible apply Ob.mk; kernel_rfl)
        | (with_reducible apply Ob.mk; decide)
        | (with_reducible apply Ob.mk; simp [ByteArray.size, catB]; done)
        | ((conv => whnf); refine ⟨?_⟩; simp only [catB, bytes1, bytes4, bytes8, by8, div256, mod256, shr0, shr_shr, List.nil_append, List.cons_append, List.append_nil]; try rfl)
        | ((conv => whnf); skip)
    · cases h
  · cases h
abbrev tb_rBytes (m : Nat → Nat) : List (Nat × Sp) := (49, sp_rBytes) :: tb_rrex m
theorem C_rBytes (G2 : World → Prop) (D2 : VData) (k2 : DataOK Tryd.prog G2 D2) (m : Nat → Nat) : CSound Tryd.prog (GN m G2) (tab (DN m D2) (tb_rBytes m)) := (C_rrex G2 D2 k2 m).cons (e_rBytes G2 D2 k2 m)
def meB (a b : BitVec 64) (dp : BitVec 32) : ByteArray := catB (cond (b.srem 8#64 == 4#64) (catB (mrB 2#64 a b) ⟨⟨[36]⟩⟩) (mrB 2#64 a b)) (bytes4 (BitVec.signExtend 64 dp))
def sp_rmemory : Sp
  | [.one (.b64 true a), .one (.b64 true b), .one (.b32 true dp)] => some (Cond.p (regB a = true ∧ regB b = true), .one (.str (meB a b dp)))
  | _ => none
set_option maxRecDepth 100000 in
set_option maxHeartbeats 16000000 in
theorem e_rmemory (G2 : World → Prop) (D2 : VData) (k2 : DataOK Tryd.prog G2 D2) (m : Nat → Nat) : EntryOK Tryd.prog (GN m G2) 50 sp_rmemory := by
  refine .of_F (CSound.tabI (C_rBytes G2 D2 k2 m) (by kernel_rfl) fs_r 3) (by kernel_rfl) Tryd.func50 (by kernel_rfl) (by kernel_rfl) (fun args c v h hc => ?_)
  unfold sp_rmemory at h
  split at h
  · rename_i a b dp; cases h
    refine ⟨rfl, rfl, ?_⟩
    obtain ⟨ha, hb⟩ := hc
    repeat' (first
      | (with_reducible apply Given.mk; intro h; (try exact absurd h (by decide)))
      | ((conv => whnf); first | with_reducible apply Both.mk | refine LoopP.times 4 ?_))
    all_goals first
      | (with_reducible apply Ob.mk; kernel_rfl)
      | (with_reducible apply Ob.mk; decide)
      | ((with_reducible apply Ob.mk); show 0 + 1 < 9223372036854775808; decide)
      | ((with_reducible apply Ob.mk); (refine lt_sz ?_ ?_) <;> (repeat' (first | ((with_reducible refine rx_le _ _ _ _ ?_); decide) | ((with_reducible refine mr_le _ _ _ ?_); decide) | ((with_reducible refine b4_le _ ?_); decide) | ((with_reducible refine b1_le _ ?_); decide) | (with_reducible refine cat10 ?_ ?_) | (with_reducible refine cat5 ?_ ?_) | (with_reducible refine cat20 ?_ ?_) | decide)); done)
      | ((with_reducible apply Ob.mk); simp only [cat_sz2]; first | (show 0 + 1 + (0 + 1) + 4 < 9223372036854775808; decide) | (show 0 + 1 + 4 < 9223372036854775808; decide) | (show 0 + 1 + (0 + 1) < 9223372036854775808; decide))
      | ((conv => whnf); refine ⟨?_⟩; unfold meB; (try simp only [*, cond_true, cond_false, cat0]); rw [me_eq ha hb]; rfl)
      | ((conv => whnf); skip)
  · cases h
abbrev tb_rmemory (m : Nat → Nat) : List (Nat × Sp) := (50, sp_rmemory) :: tb_rBytes m
theorem C_rmemory (G2 : World → Prop) (D2 : VData) (k2 : DataOK Tryd.prog G2 D2) (m : Nat → Nat) : CSound Tryd.prog (GN m G2) (tab (DN m D2) (tb_rmemory m)) := (C_rBytes G2 D2 k2 m).cons (e_rmemory G2 D2 k2 m)
def sp_rrel : Sp
  | [.agg [.b64 true k, .b64 true al, .b64 true cc, .b64 true sz, .bool w, .bool sh, .b64 true d, .b64 true s, .b32 true dp, .b32 true rl, .b64 true im], .one (.str x), .one (.str y)] => some (Cond.p (x.size ≤ 20 ∧ y.size ≤ 20), .one (.str (cond sh (catB x (bytes1 (BitVec.signExtend 64 rl))) (catB y (bytes4 (BitVec.signExtend 64 rl))))))
  | _ => none
set_option maxRecDepth 100000 in
set_option maxHeartbeats 16000000 in
theorem e_rrel (G2 : World → Prop) (D2 : VData) (k2 : DataOK Tryd.prog G2 D2) (m : Nat → Nat) : EntryOK Tryd.prog (GN m G2) 51 sp_rrel := by
  refine .of_F (CSound.tabI (C_rmemory G2 D2 k2 m) (by kernel_rfl) fs_r 3) (by kernel_rfl) Tryd.func51 (by kernel_rfl) (by kernel_rfl) (fun args c v h hc => ?_)
  unfold sp_rrel at h
  split at h
  · rename_i k al cc sz w sh d s dp rl im x y; cases h
    refine ⟨rfl, rfl, ?_⟩
    repeat' (first
      | (with_reducible apply Given.mk; intro h; (try exact absurd h (by decide)))
      | ((conv => whnf); first | with_reducible apply Both.mk | refine LoopP.times 4 ?_))
    all_goals first
      | (with_reducible apply Ob.mk; kernel_rfl)
      | (with_reducible apply Ob.mk; decide)
      | ((with_reducible apply Ob.mk); show 0 + 1 < 9223372036854775808; decide)
      | ((with_reducible apply Ob.mk); obtain ⟨h1, h2⟩ := hc; first | exact lt_sz (Nat.le_trans h1 (by decide)) (b1_le _ (by decide)) | exact lt_sz (Nat.le_trans h2 (by decide)) (b4_le _ (by decide)))
      | ((conv => whnf); refine ⟨?_⟩; subst_vars; rfl)
      | ((conv => whnf); skip)
  · cases h
abbrev tb_rrel (m : Nat → Nat) : List (Nat × Sp) := (51, sp_rrel) :: tb_rmemory m
theorem C_rrel (G2 : World → Prop) (D2 : VData) (k2 : DataOK Tryd.prog G2 D2) (m : Nat → Nat) : CSound Tryd.prog (GN m G2) (tab (DN m D2) (tb_rrel m)) := (C_rmemory G2 D2 k2 m).cons (e_rrel G2 D2 k2 m)
end Go.Proofs.YtppankimieopiaaDoor
