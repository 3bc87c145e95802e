/-
  What the functions that read and write bytes answer: by the evaluator. Conditions: as typed.
-/
import Derived.Test.YtdaioplfgbgggaaInR
import Derived.Test.YtdaioplfgbgggaaInE
namespace Go.Proofs.Ytdaioplfgbgggaa
open Go.Ep Go.RowKit
set_option linter.unusedVariables false
set_option linter.unusedSimpArgs false

def sp_firewallref01_Power : Sp
  | [.one (.b64 true n)] => some (Cond.p (n.toNat < 64), .one (.b64 false (1#64 <<< n.toNat)))
  | _ => none
set_option maxRecDepth 100000 in
set_option maxHeartbeats 4000000 in
theorem e_firewallref01_Power : EntryOK Try.prog anyWorld 83 sp_firewallref01_Power := by
  refine .of_F (C_firewallref02_Check) (by kernel_rfl) Try.func83 (by kernel_rfl) (by kernel_rfl) (fun args c v h hc => ?_)
  unfold sp_firewallref01_Power at h
  split at h
  · rename_i n; cases h
    refine ⟨rfl, rfl, ?_⟩
    have hn : n.toNat < 64 := hc
    have hni : n.toInt = (n.toNat : Int) := by rw [BitVec.toInt_eq_toNat_cond]; split <;> omega
    conv => whnf
    refine LoopP.mk Nat (fun k => k ≤ n.toNat) (fun k => mkS 13 [(0, .one (.b64 true n)), (3, .one (.b64 false (1#64 <<< k))), (4, iN k)] []) (fun k => 64 - k) ⟨0, by omega, ?_⟩ (fun k hk => ?_)
    · refine ⟨?_, trivial, rfl, rfl, rfl⟩
      repeat' ((conv => whnf); first | exact trivial | refine Both.mk (by first | with_reducible rfl | rfl) ?_)
    · have hki : (BitVec.ofNat 64 k).toInt = (k : Int) := toInt_ofNat (by omega)
      conv => whnf
      refine Both.mk (Given.mk fun h => ?_) (Given.mk fun h => ?_)
      · have hlt : k < n.toNat := by
          rw [BitVec.slt_iff_toInt_lt, hki, hni] at h
          omega
        clear h
        repeat' ((conv => whnf); first | refine Both.mk (Ob.mk ?_) ?_)
        all_goals first
          | kernel_rfl
          | ((conv => whnf)
             refine ⟨k + 1, by omega, by omega, ?_⟩
             refine ⟨?_, trivial, rfl, rfl, rfl⟩
             repeat' ((conv => whnf); first | exact trivial | refine Both.mk (by first | with_reducible rfl | exact iN_succ k | rw [pow_succ']) ?_))
      · have hge : k = n.toNat := by
          have : ¬ ((BitVec.ofNat 64 k).slt n = true) := by rw [h]; decide
          rw [BitVec.slt_iff_toInt_lt, hki, hni] at this
          omega
        subst hge
        (conv => whnf)
        exact ⟨rfl⟩
  · cases h
abbrev tb_firewallref01_Power : List (Nat × Sp) := (83, sp_firewallref01_Power) :: tb_firewallref02_Check
theorem C_firewallref01_Power : CSound Try.prog anyWorld (tab noData (tb_firewallref01_Power)) := (C_firewallref02_Check).cons (e_firewallref01_Power)

def sp_firewallref01_Low : Sp
  | [.one (.b64 false v), .one (.b64 true n)] => some (Cond.t, .one (.b64 false (rLow v n)))
  | _ => none
set_option maxRecDepth 100000 in
set_option maxHeartbeats 4000000 in
theorem e_firewallref01_Low : EntryOK Try.prog anyWorld 82 sp_firewallref01_Low := by
  refine .of_F (C_firewallref01_Power) (by kernel_rfl) Try.func82 (by kernel_rfl) (by kernel_rfl) (fun args c v h hc => ?_)
  unfold sp_firewallref01_Low at h
  split at h
  · rename_i v n; cases h
    refine ⟨rfl, rfl, ?_⟩
    repeat' (first
      | (with_reducible apply Given.mk; intro h)
      | ((conv => whnf); with_reducible apply Both.mk))
    all_goals first
      | (with_reducible apply Ob.mk; kernel_rfl)
      | (with_reducible apply Ob.mk; exact sle_lt (by assumption) (by assumption))
      | (with_reducible apply Ob.mk; exact pow_ne (sle_lt (by assumption) (by assumption)))
      | ((conv => whnf); refine ⟨?_⟩; simp only [rLow, *, if_true, if_false, Bool.false_eq_true]; done)
  · cases h
abbrev tb_firewallref01_Low : List (Nat × Sp) := (82, sp_firewallref01_Low) :: tb_firewallref01_Power
theorem C_firewallref01_Low : CSound Try.prog anyWorld (tab noData (tb_firewallref01_Low)) := (C_firewallref01_Power).cons (e_firewallref01_Low)

def sp_firewallref01_Sign : Sp
  | [.one (.b64 false v), .one (.b64 true n)] => some (Cond.t, .one (.b64 false (rSign v n)))
  | _ => none
set_option maxRecDepth 100000 in
set_option maxHeartbeats 4000000 in
theorem e_firewallref01_Sign : EntryOK Try.prog anyWorld 72 sp_firewallref01_Sign := by
  refine .of_F (C_firewallref01_Low) (by kernel_rfl) Try.func72 (by kernel_rfl) (by kernel_rfl) (fun args c v h hc => ?_)
  unfold sp_firewallref01_Sign at h
  split at h
  · rename_i v n; cases h
    refine ⟨rfl, rfl, ?_⟩
    repeat' (first
      | (with_reducible apply Given.mk; intro h; (try exact absurd h (by decide)))
      | ((conv => whnf); with_reducible apply Both.mk))
    all_goals first
      | (with_reducible apply Ob.mk; kernel_rfl)
      | (with_reducible apply Ob.mk; exact sle_lt (by assumption) (by assumption))
      | (with_reducible apply Ob.mk; exact sle_lt1 (by assumption) (by assumption))
      | ((conv => whnf); refine ⟨?_⟩; simp only [rSign, *, if_true, if_false, Bool.false_eq_true, Bool.true_or, Bool.or_true, Bool.false_or, Bool.or_false]; done)
  · cases h
abbrev tb_firewallref01_Sign : List (Nat × Sp) := (72, sp_firewallref01_Sign) :: tb_firewallref01_Low
theorem C_firewallref01_Sign : CSound Try.prog anyWorld (tab noData (tb_firewallref01_Sign)) := (C_firewallref01_Low).cons (e_firewallref01_Sign)

def sp_nums_Num : Sp
  | [.one (.str x)] => some (Cond.p (x.size < 9223372036854775808), .one (.b64 false (pN x (min x.size 8))))
  | _ => none
set_option maxRecDepth 100000 in
set_option maxHeartbeats 4000000 in
theorem e_nums_Num : EntryOK Try.prog anyWorld 71 sp_nums_Num := by
  refine .of_F (C_firewallref01_Sign) (by kernel_rfl) Try.func71 (by kernel_rfl) (by kernel_rfl) (fun args c v h hc => ?_)
  unfold sp_nums_Num at h
  split at h
  · rename_i x; cases h
    refine ⟨rfl, rfl, ?_⟩
    have hx : x.size < 9223372036854775808 := hc
    repeat' (first
      | (with_reducible apply Given.mk; intro h; (try exact absurd h (by decide)))
      | ((conv => whnf); first | with_reducible apply Both.mk | (refine LoopP.mk Nat (fun k => k ≤ min x.size 8) (fun k => mkS 22 [(0, .one (.str x)), (3, .one (.b64 false (pN x k))), (7, .one (.b64 true (BitVec.ofNat 64 (min x.size 8)))), (8, iN k)] []) (fun k => 8 - k) ⟨0, by omega, ⟨?_, ?_, rfl, rfl, rfl⟩⟩ ?_; (focus ((repeat' ((conv => whnf); first | exact trivial | refine Both.mk (by first | with_reducible rfl | (rw [mn_eq _ hx]) | rfl) ?_)); done)); (focus ((repeat' ((conv => whnf); first | exact trivial | refine Both.mk (by first | with_reducible rfl | rfl) ?_)); done)); intro k hk)))
    all_goals first
      | (with_reducible apply Ob.mk; exact hx)
      | (with_reducible apply Ob.mk; kernel_rfl)
      | (have hlt := slt_yes (k := k) (n := min x.size 8) (by omega) (by omega) (by assumption)
         with_reducible apply Ob.mk
         first
           | (rw [toInt_ofNat (by omega), toNat_ofNat (by omega)]; omega)
           | (rw [shl8 k (by omega)]; omega)
           | (rw [BitVec.toInt_eq_toNat_cond, shl8 k (by omega), if_pos (by omega)]; omega))
      | (have hge := slt_no (k := k) (n := min x.size 8) (by omega) (by omega) (by assumption)
         (conv => whnf)
         refine ⟨?_⟩
         rw [show k = min x.size 8 by omega])
      | (have hlt := slt_yes (k := k) (n := min x.size 8) (by omega) (by omega) (by assumption)
         (conv => whnf)
         refine ⟨k + 1, by omega, by omega, ?_, ?_, rfl, rfl, rfl⟩
         all_goals repeat' ((conv => whnf); first | exact trivial | refine Both.mk (by first | with_reducible rfl | exact iN_succ k | exact pN_step x k (by omega) | rfl) ?_))
  · cases h
abbrev tb_nums_Num : List (Nat × Sp) := (71, sp_nums_Num) :: tb_firewallref01_Sign
theorem C_nums_Num : CSound Try.prog anyWorld (tab noData (tb_nums_Num)) := (C_firewallref01_Sign).cons (e_nums_Num)

def sp_firewallref01_Num : Sp
  | [.one (.str x)] => some (Cond.p (x.size < 9223372036854775808), .one (.b64 false (pN x (min x.size 8))))
  | _ => none
set_option maxRecDepth 100000 in
set_option maxHeartbeats 4000000 in
theorem e_firewallref01_Num : EntryOK Try.prog anyWorld 73 sp_firewallref01_Num := by
  refine .of_F (C_nums_Num) (by kernel_rfl) Try.func73 (by kernel_rfl) (by kernel_rfl) (fun args c v h hc => ?_)
  unfold sp_firewallref01_Num at h
  split at h
  · rename_i x; cases h
    refine ⟨rfl, rfl, ?_⟩
    have hx : x.size < 9223372036854775808 := hc
    have hn : min x.size 8 ≤ 8 := by omega
    rw [← rN_eq x _ hn]
    generalize hN : min x.size 8 = n at hn
    have hnx : n ≤ x.size := by omega
    repeat' (first
      | (with_reducible apply Given.mk; intro h; (try exact absurd h (by decide)))
      | ((conv => whnf); first | with_reducible apply Both.mk | (refine LoopP.mk Nat (fun k => k ≤ n) (fun k => mkS 21 [(0, .one (.str x)), (3, .one (.b64 false (rN x n k))), (4, .one (.b64 true (BitVec.ofNat 64 (n - k) - 1#64)))] []) (fun k => 8 - k) ⟨0, by omega, ⟨?_, ?_, rfl, rfl, rfl⟩⟩ ?_; (focus ((repeat' ((conv => whnf); first | exact trivial | refine Both.mk (by first | with_reducible rfl | (rw [mn_eq _ hx, hN]; rfl) | rfl) ?_)); done)); (focus ((repeat' ((conv => whnf); first | exact trivial | refine Both.mk (by first | with_reducible rfl | rfl) ?_)); done)); intro k hk)))
    all_goals first
      | (with_reducible apply Ob.mk; exact hx)
      | (have hlt : k < n := dn_yes (by omega) (by assumption)
         with_reducible apply Ob.mk
         rw [dn_int (show 0 < n - k by omega) (by omega), dn_nat (show 0 < n - k by omega) (by omega)]; omega)
      | (have hge : n ≤ k := dn_no (by omega) (by assumption)
         (conv => whnf)
         refine ⟨?_⟩
         rw [show k = n by omega])
      | (have hlt : k < n := dn_yes (by omega) (by assumption)
         (conv => whnf)
         refine ⟨k + 1, by omega, by omega, ?_, ?_, rfl, rfl, rfl⟩
         all_goals repeat' ((conv => whnf); first | exact trivial | refine Both.mk (by first | with_reducible rfl | exact dn_step k n hlt (by omega) | exact rN_step x k n hlt (by omega) | rfl) ?_))
  · cases h
abbrev tb_firewallref01_Num : List (Nat × Sp) := (73, sp_firewallref01_Num) :: tb_nums_Num
theorem C_firewallref01_Num : CSound Try.prog anyWorld (tab noData (tb_firewallref01_Num)) := (C_nums_Num).cons (e_firewallref01_Num)

def sp_insns_Decode : Sp
  | [.one (.str x)] => some (Cond.p (x.size < 9223372036854775808), .tup [(true, [.b8 false (dcO x), .b8 false (dcD x), .b8 false (dcS x), .b16 true (dcF x), .b32 true (dcI x)]), (false, [.b64 true (dcE x)])])
  | _ => none
set_option maxRecDepth 100000 in
set_option maxHeartbeats 4000000 in
theorem e_insns_Decode : EntryOK Try.prog anyWorld 43 sp_insns_Decode := by
  refine .of_F (C_firewallref01_Num) (by kernel_rfl) Try.func43 (by kernel_rfl) (by kernel_rfl) (fun args c v h hc => ?_)
  unfold sp_insns_Decode at h
  split at h
  · rename_i x; cases h
    refine ⟨rfl, rfl, ?_⟩
    have hx : x.size < 9223372036854775808 := hc
    have e0 := size_ne x hx
    by_cases h8 : x.size = 8
    · have e1 : (BitVec.ofNat 64 x.size != 8#64) = false := by rw [e0, h8]; rfl
      have s1 : (exB x 2 4).size = 2 := by rw [exB_size, h8]; rfl
      have s2 : (exB x 4 8).size = 4 := by rw [exB_size, h8]; rfl
      repeat' (first
        | (with_reducible apply Given.mk; intro h; (try simp only [e1, reduceCtorEq] at h); (try exact absurd h (by decide)))
        | ((conv => whnf); with_reducible apply Both.mk))
      all_goals first
        | (with_reducible apply Ob.mk; kernel_rfl)
        | (with_reducible apply Ob.mk; omega)
        | (with_reducible apply Ob.mk; simp only [h8]; omega)
        | (with_reducible apply Ob.mk; simp only [h8, s1]; omega)
        | (with_reducible apply Ob.mk; simp only [h8, s2]; omega)
        | ((conv => whnf); refine ⟨?_⟩; simp only [dcO, dcD, dcS, dcF, dcI, dcE, h8, s1, s2, if_true]; try rfl)
    · have e1 : (BitVec.ofNat 64 x.size != 8#64) = true := by rw [e0, decide_eq_true h8]
      repeat' (first
        | (with_reducible apply Given.mk; intro h; (try simp only [e1, reduceCtorEq] at h); (try exact absurd h (by decide)))
        | ((conv => whnf); with_reducible apply Both.mk))
      all_goals first
        | (with_reducible apply Ob.mk; kernel_rfl)
        | (with_reducible apply Ob.mk; omega)
        | ((conv => whnf); refine ⟨?_⟩; simp only [dcO, dcD, dcS, dcF, dcI, dcE, h8, if_false]; try rfl)
  · cases h
abbrev tb_insns_Decode : List (Nat × Sp) := (43, sp_insns_Decode) :: tb_firewallref01_Num
theorem C_insns_Decode : CSound Try.prog anyWorld (tab noData (tb_insns_Decode)) := (C_firewallref01_Num).cons (e_insns_Decode)

def sp_firewallref02_Decode : Sp
  | [.one (.str x)] => some (Cond.p (x.size < 9223372036854775808), .tup [(true, [.b8 false (dcO x), .b8 false (dcD x), .b8 false (dcS x), .b16 true (dcF x), .b32 true (dcI x)]), (false, [.b64 true (dcE x)])])
  | _ => none
set_option maxRecDepth 100000 in
set_option maxHeartbeats 4000000 in
theorem e_firewallref02_Decode : EntryOK Try.prog anyWorld 44 sp_firewallref02_Decode := by
  refine .of_F (C_insns_Decode) (by kernel_rfl) Try.func44 (by kernel_rfl) (by kernel_rfl) (fun args c v h hc => ?_)
  unfold sp_firewallref02_Decode at h
  split at h
  · rename_i x; cases h
    refine ⟨rfl, rfl, ?_⟩
    have hx : x.size < 9223372036854775808 := hc
    have e0 := size_ne x hx
    by_cases h8 : x.size = 8
    · have e1 : (BitVec.ofNat 64 x.size != 8#64) = false := by rw [e0, h8]; rfl
      have s1 : (exB x 2 4).size = 2 := by rw [exB_size, h8]; rfl
      have s2 : (exB x 4 8).size = 4 := by rw [exB_size, h8]; rfl
      repeat' (first
        | (with_reducible apply Given.mk; intro h; (try simp only [e1, reduceCtorEq] at h); (try exact absurd h (by decide)))
        | ((conv => whnf); with_reducible apply Both.mk))
      all_goals first
        | (with_reducible apply Ob.mk; kernel_rfl)
        | (with_reducible apply Ob.mk; decide)
        | (with_reducible apply Ob.mk; omega)
        | (with_reducible apply Ob.mk; simp only [h8]; omega)
        | (with_reducible apply Ob.mk; simp only [h8, s1]; omega)
        | (with_reducible apply Ob.mk; simp only [h8, s2]; omega)
        | ((conv => whnf); refine ⟨?_⟩; simp only [dcO, dcD, dcS, dcF, dcI, dcE, h8, s1, s2, if_true, sign16, sign32', lo4, hi4]; try rfl)
    · have e1 : (BitVec.ofNat 64 x.size != 8#64) = true := by rw [e0, decide_eq_true h8]
      repeat' (first
        | (with_reducible apply Given.mk; intro h; (try simp only [e1, reduceCtorEq] at h); (try exact absurd h (by decide)))
        | ((conv => whnf); with_reducible apply Both.mk))
      all_goals first
        | (with_reducible apply Ob.mk; kernel_rfl)
        | (with_reducible apply Ob.mk; omega)
        | ((conv => whnf); refine ⟨?_⟩; simp only [dcO, dcD, dcS, dcF, dcI, dcE, h8, if_false]; try rfl)
  · cases h
abbrev tb_firewallref02_Decode : List (Nat × Sp) := (44, sp_firewallref02_Decode) :: tb_insns_Decode
theorem C_firewallref02_Decode : CSound Try.prog anyWorld (tab noData (tb_firewallref02_Decode)) := (C_insns_Decode).cons (e_firewallref02_Decode)

def sp_ref01_Bytes : Sp
  | [.one (.b64 false v), .one (.b64 true n)] => match n.toNat with
    | 2 => some (Cond.t, .one (.str (bytes2 v)))
    | 4 => some (Cond.t, .one (.str (bytes4 v)))
    | _ => none
  | _ => none
set_option maxRecDepth 100000 in
set_option maxHeartbeats 4000000 in
theorem e_ref01_Bytes : EntryOK Try.prog anyWorld 75 sp_ref01_Bytes := by
  refine .of_F C_firewallref02_Decode (by kernel_rfl) Try.func75 (by kernel_rfl) (by kernel_rfl) (fun args c v h hc => ?_)
  unfold sp_ref01_Bytes at h
  split at h
  · rename_i v n
    split at h
    · rename_i hn
      obtain rfl : n = 2#64 := BitVec.eq_of_toNat_eq hn
      cases h
      refine ⟨rfl, rfl, ?_⟩
      repeat' (first
        | (with_reducible apply Given.mk; intro h; (try exact absurd h (by decide)))
        | ((conv => whnf); first | with_reducible apply Both.mk | refine LoopP.times 9 ?_))
      all_goals first
        | (with_reducible apply Ob.mk; kernel_rfl)
        | (with_reducible apply Ob.mk; decide)
        | (with_reducible apply Ob.mk; simp [ByteArray.size, catB]; done)
        | ((conv => whnf); refine ⟨?_⟩; simp only [catB, bytes2, bytes4, by8, div256, mod256, shr0, shr_shr, List.nil_append, List.cons_append, List.append_nil]; try rfl)
    · rename_i hn
      obtain rfl : n = 4#64 := BitVec.eq_of_toNat_eq hn
      cases h
      refine ⟨rfl, rfl, ?_⟩
      repeat' (first
        | (with_reducible apply Given.mk; intro h; (try exact absurd h (by decide)))
        | ((conv => whnf); first | with_reducible apply Both.mk | refine LoopP.times 9 ?_))
      all_goals first
        | (with_reducible apply Ob.mk; kernel_rfl)
        | (with_reducible apply Ob.mk; decide)
        | (with_reducible apply Ob.mk; simp [ByteArray.size, catB]; done)
        | ((conv => whnf); refine ⟨?_⟩; simp only [catB, bytes2, bytes4, by8, div256, mod256, shr0, shr_shr, List.nil_append, List.cons_append, List.append_nil]; try rfl)
    · cases h
  · cases h
abbrev tb_ref01_Bytes : List (Nat × Sp) := (75, sp_ref01_Bytes) :: tb_firewallref02_Decode
theorem C_ref01_Bytes : CSound Try.prog anyWorld (tab noData tb_ref01_Bytes) := C_firewallref02_Decode.cons e_ref01_Bytes

def sp_firewallref02_Encode : Sp
  | [.agg [.b8 false o, .b8 false d, .b8 false s, .b16 true f, .b32 true i]] => some (Cond.t, .one (.str (iEnc o d s f i)))
  | _ => none
set_option maxRecDepth 100000 in
set_option maxHeartbeats 4000000 in
theorem e_firewallref02_Encode : EntryOK Try.prog anyWorld 46 sp_firewallref02_Encode := by
  refine .of_F (C_ref01_Bytes) (by kernel_rfl) Try.func46 (by kernel_rfl) (by kernel_rfl) (fun args c v h hc => ?_)
  unfold sp_firewallref02_Encode at h
  split at h
  · rename_i o d s f i; cases h
    refine ⟨rfl, rfl, ?_⟩
    repeat' (first
      | (with_reducible apply Given.mk; intro h; (try exact absurd h (by decide)))
      | ((conv => whnf); with_reducible apply Both.mk))
    all_goals first
      | (with_reducible apply Ob.mk; kernel_rfl)
      | (with_reducible apply Ob.mk; decide)
      | (with_reducible apply Ob.mk; simp [ByteArray.size, catB, bytes2, bytes4]; done)
      | ((conv => whnf); refine ⟨?_⟩; rw [both4]; rfl)
  · cases h
abbrev tb_firewallref02_Encode : List (Nat × Sp) := (46, sp_firewallref02_Encode) :: tb_ref01_Bytes
theorem C_firewallref02_Encode : CSound Try.prog anyWorld (tab noData (tb_firewallref02_Encode)) := (C_ref01_Bytes).cons (e_firewallref02_Encode)

end Go.Proofs.Ytdaioplfgbgggaa
