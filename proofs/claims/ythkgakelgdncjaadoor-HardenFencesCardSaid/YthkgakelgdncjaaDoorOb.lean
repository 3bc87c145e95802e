/-
  Chapter 04: what the functions answer that read a program's slots: field, alone, Behind, Second, leads. Conditions: as typed.
-/
import Derived.Test.YthkgakelgdncjaaDoorOa
import Derived.Test.YthkgakelgdncjaaDoorOn
import Derived.Test.YthkgakelgdncjaaDoorPr
namespace Go.Proofs.YthkgakelgdncjaaDoor
open Go.Ep Go.RowKit
set_option linter.unusedVariables false
set_option linter.unusedSimpArgs false
abbrev tb_o : List (Nat × Sp) := tb_firewallref03_Half
theorem C_o : CSound Tryd.prog anyWorld (tab noData tb_o) := C_firewallref03_Half
theorem toInt_lt {p : BitVec 64} {n : Nat} (hn : n ≤ 8000) (hp : p.toNat < n) : p.toInt = (p.toNat : Int) := by
  rw [BitVec.toInt_eq_toNat_cond]; split <;> omega
theorem ixp {p : BitVec 64} {n : Nat} (hn : n ≤ 8000) (hp : p.toNat < n) : 0 ≤ p.toInt ∧ p.toNat < n := by
  rw [toInt_lt hn hp]; exact ⟨by omega, hp⟩
theorem nat1 {p : BitVec 64} {n : Nat} (hn : n ≤ 8000) (hp : p.toNat < n) : (p + 1#64).toNat = p.toNat + 1 := by
  rw [BitVec.toNat_add]; show (p.toNat + 1) % _ = _; omega
theorem lt1 {p : BitVec 64} {n : Nat} (hn : n ≤ 8000) (hp : p.toNat < n) (h : (BitVec.ofNat 64 n).sle (p + 1#64) = false) : (p + 1#64).toNat < n := by
  have h1 := nat1 hn hp
  rw [BitVec.sle_eq_decide, toInt_ofNat (by omega), BitVec.toInt_eq_toNat_cond, h1] at h
  simp only [decide_eq_false_iff_not] at h
  rw [h1]
  split at h <;> omega
theorem ixp1 {p : BitVec 64} {n : Nat} (hn : n ≤ 8000) (hp : p.toNat < n) (h : (BitVec.ofNat 64 n).sle (p + 1#64) = false) : 0 ≤ (p + 1#64).toInt ∧ (p + 1#64).toNat < n := ixp hn (lt1 hn hp h)
theorem eq1 {p : BitVec 64} {n : Nat} (hn : n ≤ 8000) (hp : p.toNat < n) : (p + 1#64 == BitVec.ofNat 64 n) = (BitVec.ofNat 64 n).sle (p + 1#64) := by
  have h1 := nat1 hn hp
  rw [BitVec.sle_eq_decide, toInt_ofNat (by omega), BitVec.toInt_eq_toNat_cond, h1]
  rw [if_pos (by omega)]
  have : (p + 1#64 == BitVec.ofNat 64 n) = decide (p.toNat + 1 = n) := by
    rw [Bool.eq_iff_iff, beq_iff_eq, decide_eq_true_eq]
    constructor
    · intro e
      have := congrArg BitVec.toNat e
      rw [h1, nat_ofNat (by omega)] at this; exact this
    · intro e
      apply BitVec.eq_of_toNat_eq
      rw [h1, nat_ofNat (by omega), e]
  rw [this, Bool.eq_iff_iff]
  simp only [decide_eq_true_eq]; omega
theorem sle1_t {p : BitVec 64} {n : Nat} (hn : n ≤ 8000) (hp : p.toNat < n) (h : (p + 1#64 == BitVec.ofNat 64 n) = false) : (BitVec.ofNat 64 n).sle (p + 1#64) = false := by rw [← eq1 hn hp]; exact h
noncomputable abbrev FSc : List (Nat × Func) := [(76, Tryd.f76), (100, Tryd.f100)]
theorem fs_c : FsOK Tryd.prog FSc := FsOK.cons Tryd.func76 (by kernel_rfl) (by kernel_rfl) (FsOK.cons Tryd.func100 (by kernel_rfl) (by kernel_rfl) FsOK.nil)
def sq_field (len : Nat) (g : Nat → List PL) (rest : List AV) : Option (Cond × AV) := match rest with
  | [.one (.b64 true p), .one (.b64 true m), .one (.bool w)] => some (Cond.p (len ≤ 8000 ∧ g = inF (inOf g) ∧ p.toNat < len), .one (.b64 true (aloneE (inOf g) len p m w)))
  | _ => none
set_option maxRecDepth 100000 in
set_option maxHeartbeats 8000000 in
theorem field_walk (T : TypeId) (len cap : Nat) (hl : len ≤ 8000) (x : IT) (p : BitVec 64) (m : BitVec 64) (w : Bool) (hc0 : p.toNat < len) :
    FI Tryd.prog (tabI Tryd.prog noData tb_o FSc 3) Tryd.f40 1 [.one (.slc 0 0 len cap), .one (.b64 true p), .one (.b64 true m), .one (.bool w)] [(0, .ro T [.seg 5 len (inF x)])] (fun r _ => r = .one (.b64 true (aloneE x len p m w))) := by
  repeat' (first
    | (with_reducible apply Given.mk; intro h; (try simp only [reduceCtorEq, Bool.true_eq_false, Bool.false_eq_true] at h); (try ((fail_if_success (have _q := q0)); exact absurd h (by decide))))
    | ((conv => whnf); first
      | with_reducible apply Both.mk
      | refine LoopP.times 5 ?_))
  all_goals first
    | (with_reducible apply Ob.mk; kernel_rfl)
    | ((with_reducible apply Ob.mk); show len < 9223372036854775808; omega)
    | ((fail_if_success (have _q := q0)); with_reducible apply Ob.mk; decide)
    | ((with_reducible apply Ob.mk); exact ixp hl hc0)
    | ((with_reducible apply Ob.mk); exact (ixp hl hc0).2)
    | ((with_reducible apply Ob.mk); exact ixp1 hl hc0 (by with_reducible assumption))
    | ((with_reducible apply Ob.mk); exact (ixp1 hl hc0 (by with_reducible assumption)).2)
    | ((with_reducible apply Ob.mk); exact ixp1 hl hc0 (sle1_t hl hc0 (by with_reducible assumption)))
    | ((with_reducible apply Ob.mk); exact (ixp1 hl hc0 (sle1_t hl hc0 (by with_reducible assumption))).2)
    | ((conv => whnf); (try rw [eq1 hl hc0] at *); first | rfl | (simp [aloneE, *]; done) | (simp_all [aloneE]; done))
    | (with_reducible apply Ob.mk; skip)
    | ((conv => whnf); skip)
set_option maxRecDepth 100000 in
theorem e_field : EntryM Tryd.prog anyWorld 40 (spS 5 sq_field) := by
  refine .of_slice (CSound.tabI C_o (by kernel_rfl) fs_c 3) (by kernel_rfl) Tryd.func40 (by kernel_rfl) (by kernel_rfl) (fun len g rest c v h hc => ?_) (fun rest c v h hc ad cap => ?_)
  · unfold sq_field at h
    split at h
    · cases h
      obtain ⟨h1, h2, c0⟩ := hc
      refine ⟨rfl, rfl, fun T cap => ?_⟩
      generalize inOf g = x at h2
      subst h2
      exact field_walk T len cap h1 x _ _ _ c0
    · cases h
  · unfold sq_field at h
    split at h
    · cases h
      exact absurd hc.2.2 (Nat.not_lt_zero _)
    · cases h
def sq_alone (len : Nat) (g : Nat → List PL) (rest : List AV) : Option (Cond × AV) := match rest with
  | [.one (.b64 true p), .one (.b64 true m), .one (.bool w)] => some (Cond.p (len ≤ 8000 ∧ g = inF (inOf g) ∧ p.toNat < len), .one (.b64 true (aloneE (inOf g) len p m w)))
  | _ => none
set_option maxRecDepth 100000 in
set_option maxHeartbeats 8000000 in
theorem alone_walk (T : TypeId) (len cap : Nat) (hl : len ≤ 8000) (x : IT) (p : BitVec 64) (m : BitVec 64) (w : Bool) (hc0 : p.toNat < len) :
    FI Tryd.prog (tab noData tb_o) Tryd.f26 1 [.one (.slc 0 0 len cap), .one (.b64 true p), .one (.b64 true m), .one (.bool w)] [(0, .ro T [.seg 5 len (inF x)])] (fun r _ => r = .one (.b64 true (aloneE x len p m w))) := by
  repeat' (first
    | (with_reducible apply Given.mk; intro h; (try simp only [reduceCtorEq, Bool.true_eq_false, Bool.false_eq_true] at h); (try ((fail_if_success (have _q := q0)); exact absurd h (by decide))))
    | ((conv => whnf); first
      | with_reducible apply Both.mk
      | refine LoopP.times 5 ?_))
  all_goals first
    | (with_reducible apply Ob.mk; kernel_rfl)
    | ((with_reducible apply Ob.mk); show len < 9223372036854775808; omega)
    | ((fail_if_success (have _q := q0)); with_reducible apply Ob.mk; decide)
    | ((with_reducible apply Ob.mk); exact ixp hl hc0)
    | ((with_reducible apply Ob.mk); exact (ixp hl hc0).2)
    | ((with_reducible apply Ob.mk); exact ixp1 hl hc0 (by with_reducible assumption))
    | ((with_reducible apply Ob.mk); exact (ixp1 hl hc0 (by with_reducible assumption)).2)
    | ((with_reducible apply Ob.mk); exact ixp1 hl hc0 (sle1_t hl hc0 (by with_reducible assumption)))
    | ((with_reducible apply Ob.mk); exact (ixp1 hl hc0 (sle1_t hl hc0 (by with_reducible assumption))).2)
    | ((conv => whnf); (try rw [eq1 hl hc0] at *); first | rfl | (simp [aloneE, *]; done) | (simp_all [aloneE]; done))
    | (with_reducible apply Ob.mk; skip)
    | ((conv => whnf); skip)
set_option maxRecDepth 100000 in
theorem e_alone : EntryM Tryd.prog anyWorld 26 (spS 5 sq_alone) := by
  refine .of_slice C_o (by kernel_rfl) Tryd.func26 (by kernel_rfl) (by kernel_rfl) (fun len g rest c v h hc => ?_) (fun rest c v h hc ad cap => ?_)
  · unfold sq_alone at h
    split at h
    · cases h
      obtain ⟨h1, h2, c0⟩ := hc
      refine ⟨rfl, rfl, fun T cap => ?_⟩
      generalize inOf g = x at h2
      subst h2
      exact alone_walk T len cap h1 x _ _ _ c0
    · cases h
  · unfold sq_alone at h
    split at h
    · cases h
      exact absurd hc.2.2 (Nat.not_lt_zero _)
    · cases h
def sq_behind (len : Nat) (g : Nat → List PL) (rest : List AV) : Option (Cond × AV) := match rest with
  | [.one (.b64 true p)] => some (Cond.p (len ≤ 8000 ∧ g = inF (inOf g) ∧ p.toNat < len), .one (.b64 true (p + szV ((inOf g) p.toNat).o)))
  | _ => none
set_option maxRecDepth 100000 in
set_option maxHeartbeats 8000000 in
theorem behind_walk (T : TypeId) (len cap : Nat) (hl : len ≤ 8000) (x : IT) (p : BitVec 64) (hc0 : p.toNat < len) :
    FI Tryd.prog (tab noData tb_o) Tryd.f25 1 [.one (.slc 0 0 len cap), .one (.b64 true p)] [(0, .ro T [.seg 5 len (inF x)])] (fun r _ => r = .one (.b64 true (p + szV (x p.toNat).o))) := by
  repeat' (first
    | (with_reducible apply Given.mk; intro h; (try simp only [reduceCtorEq, Bool.true_eq_false, Bool.false_eq_true] at h); (try ((fail_if_success (have _q := q0)); exact absurd h (by decide))))
    | ((conv => whnf); first
      | with_reducible apply Both.mk
      | refine LoopP.times 5 ?_))
  all_goals first
    | (with_reducible apply Ob.mk; kernel_rfl)
    | ((with_reducible apply Ob.mk); show len < 9223372036854775808; omega)
    | ((fail_if_success (have _q := q0)); with_reducible apply Ob.mk; decide)
    | ((with_reducible apply Ob.mk); exact ixp hl hc0)
    | ((with_reducible apply Ob.mk); exact (ixp hl hc0).2)
    | ((with_reducible apply Ob.mk); exact ixp1 hl hc0 (by with_reducible assumption))
    | ((with_reducible apply Ob.mk); exact (ixp1 hl hc0 (by with_reducible assumption)).2)
    | ((with_reducible apply Ob.mk); exact ixp1 hl hc0 (sle1_t hl hc0 (by with_reducible assumption)))
    | ((with_reducible apply Ob.mk); exact (ixp1 hl hc0 (sle1_t hl hc0 (by with_reducible assumption))).2)
    | ((conv => whnf); (try rw [eq1 hl hc0] at *); first | rfl | (simp [szV, *]; done) | (simp_all [szV]; done))
    | (with_reducible apply Ob.mk; skip)
    | ((conv => whnf); skip)
set_option maxRecDepth 100000 in
theorem e_behind : EntryM Tryd.prog anyWorld 25 (spS 5 sq_behind) := by
  refine .of_slice C_o (by kernel_rfl) Tryd.func25 (by kernel_rfl) (by kernel_rfl) (fun len g rest c v h hc => ?_) (fun rest c v h hc ad cap => ?_)
  · unfold sq_behind at h
    split at h
    · cases h
      obtain ⟨h1, h2, c0⟩ := hc
      refine ⟨rfl, rfl, fun T cap => ?_⟩
      generalize inOf g = x at h2
      subst h2
      exact behind_walk T len cap h1 x _ c0
    · cases h
  · unfold sq_behind at h
    split at h
    · cases h
      exact absurd hc.2.2 (Nat.not_lt_zero _)
    · cases h
abbrev ms_o1 : List (Nat × SpM) := [(25, spS 5 sq_behind)]
theorem CM_o1 : CSound Tryd.prog anyWorld (tabM noData tb_o ms_o1) := (CSound.startM C_o).consM e_behind
theorem sec_go {x : IT} {a p n : Nat} (hn : n ≤ 8000) (hp : p < n) (h : hf x a = false ∧ a ≤ p + 1 ∧ (a = p + 1 → hf x p = true)) (hlt : a < p) : hf x (a + szN (x a).o) = false ∧ a + szN (x a).o ≤ p + 1 ∧ (a + szN (x a).o = p + 1 → hf x p = true) := by
  have hs : szN (x a).o ≤ 2 := by unfold szN; split <;> omega
  refine ⟨hf_next x h.1, by omega, fun e => hf_half x h.1 hlt (by omega)⟩
theorem sec_end {x : IT} {a p n : Nat} (hn : n ≤ 8000) (hp : p < n) (h : hf x a = false ∧ a ≤ p + 1 ∧ (a = p + 1 → hf x p = true)) (hge : p ≤ a) : decide (p < a) = hf x p := by
  by_cases e : a = p
  · subst e; rw [h.1]; exact decide_eq_false (by omega)
  · have : a = p + 1 := by omega
    rw [h.2.2 this]; exact decide_eq_true (by omega)
theorem bv_eq {p : BitVec 64} : p = BitVec.ofNat 64 p.toNat := by rw [BitVec.ofNat_toNat, BitVec.setWidth_eq]
theorem slt_p {p : BitVec 64} {a n : Nat} (hn : n ≤ 8000) (hp : p.toNat < n) (ha : a ≤ n) : (BitVec.ofNat 64 a).slt p = decide (a < p.toNat) := by
  conv => lhs; rw [bv_eq (p := p)]
  exact slt_nat (by omega) (by omega)
theorem p_slt {p : BitVec 64} {a n : Nat} (hn : n ≤ 8000) (hp : p.toNat < n) (ha : a ≤ n) : p.slt (BitVec.ofNat 64 a) = decide (p.toNat < a) := by
  conv => lhs; rw [bv_eq (p := p)]
  exact slt_nat (by omega) (by omega)
theorem nx_eq {x : IT} {a k : Nat} (e : k = a) : AV.one (.b64 true (BitVec.ofNat 64 a + szV (inOf (inF x) k).o)) = iN (a + szN (x a).o) := by
  subst e
  show AV.one (.b64 true (BitVec.ofNat 64 k + szV (x k).o)) = _
  rw [szV_nat]; exact congrArg (fun v => AV.one (.b64 true v)) (BitVec.ofNat_add _ _).symm
def sq_second (len : Nat) (g : Nat → List PL) (rest : List AV) : Option (Cond × AV) := match rest with
  | [.one (.b64 true p)] => some (Cond.p (len ≤ 8000 ∧ g = inF (inOf g) ∧ p.toNat < len), .one (.bool (hf (inOf g) p.toNat)))
  | _ => none
set_option maxRecDepth 100000 in
set_option maxHeartbeats 8000000 in
theorem second_walk (T : TypeId) (len cap : Nat) (hl : len ≤ 8000) (x : IT) (p : BitVec 64) (hc0 : p.toNat < len) :
    FI Tryd.prog (tabM noData tb_o ms_o1) Tryd.f53 1 [.one (.slc 0 0 len cap), .one (.b64 true p)] [(0, .ro T [.seg 5 len (inF x)])] (fun r _ => r = .one (.bool (hf x p.toNat))) := by
  repeat' (first
    | (with_reducible apply Given.mk; intro h; (try simp only [reduceCtorEq, Bool.true_eq_false, Bool.false_eq_true] at h); (try ((fail_if_success (have _q := q0)); exact absurd h (by decide))))
    | ((conv => whnf); first
      | with_reducible apply Both.mk
      | (refine LoopP.mk (Nat) (fun a => hf x a = false ∧ a ≤ p.toNat + 1 ∧ (a = p.toNat + 1 → hf x p.toNat = true)) ((fun a => mkS (Tryd.f53).ntmps [(0, .one (.slc 0 0 len cap)), (1, .one (.b64 true p)), (5, iN a)] [(0, .ro T [.seg 5 len (inF x)])])) (fun a => p.toNat + 2 - a) ⟨0, ⟨rfl, Nat.zero_le _, fun e => absurd e (by omega)⟩, ⟨?_, ?_, ?_, ?_, ?_⟩⟩ ?_; (focus ((repeat' ((conv => whnf); first | exact trivial | refine Both.mk (by first | with_reducible rfl | exact iN_succ _ | rfl) ?_)); done)); (focus ((repeat' ((conv => whnf); first | exact trivial | refine Both.mk (by first | with_reducible rfl | exact iN_succ _ | rfl) ?_)); done)); (focus exact rfl); (focus exact rfl); (focus exact rfl); (rintro a q0; have ha : a ≤ len := Nat.le_trans q0.2.1 hc0; dsimp only))))
  all_goals first
    | (with_reducible apply Ob.mk; kernel_rfl)
    | ((with_reducible apply Ob.mk); show len < 9223372036854775808; omega)
    | ((fail_if_success (have _q := q0)); with_reducible apply Ob.mk; decide)
    | ((with_reducible apply Ob.mk); exact ⟨Nat.le_refl _, hl, rfl, (by rw [nat_ofNat (by omega)]; have hlt : a < p.toNat := of_decide_eq_true ((slt_p hl hc0 ha).symm.trans (by with_reducible assumption)); omega)⟩)
    | ((conv => whnf); exact congrArg (fun b => AV.one (.bool b)) ((p_slt hl hc0 ha).trans (sec_end hl hc0 q0 (Nat.le_of_not_lt (of_decide_eq_false ((slt_p hl hc0 ha).symm.trans (by with_reducible assumption)))))))
    | ((conv => whnf); refine ⟨a + szN (x a).o, sec_go hl hc0 q0 (of_decide_eq_true ((slt_p hl hc0 ha).symm.trans (by with_reducible assumption))), (by have hlt : a < p.toNat := of_decide_eq_true ((slt_p hl hc0 ha).symm.trans (by with_reducible assumption)); have hs : 1 ≤ szN (x a).o := (by unfold szN; split <;> omega); show p.toNat + 2 - (a + szN (x a).o) < p.toNat + 2 - a; omega), ⟨?_, ?_, ?_, ?_, ?_⟩⟩; (focus ((repeat' ((conv => whnf); first | exact trivial | refine Both.mk (by first | with_reducible rfl | exact iN_succ _ | exact nx_eq (nat_ofNat (by omega)) | rfl) ?_)); done)); (focus ((repeat' ((conv => whnf); first | exact trivial | refine Both.mk (by first | with_reducible rfl | exact iN_succ _ | exact nx_eq (nat_ofNat (by omega)) | rfl) ?_)); done)); (focus exact rfl); (focus exact rfl); (focus exact rfl))
    | (with_reducible apply Ob.mk; skip)
    | ((conv => whnf); skip)
set_option maxRecDepth 100000 in
theorem e_second : EntryM Tryd.prog anyWorld 53 (spS 5 sq_second) := by
  refine .of_slice CM_o1 (by kernel_rfl) Tryd.func53 (by kernel_rfl) (by kernel_rfl) (fun len g rest c v h hc => ?_) (fun rest c v h hc ad cap => ?_)
  · unfold sq_second at h
    split at h
    · cases h
      obtain ⟨h1, h2, c0⟩ := hc
      refine ⟨rfl, rfl, fun T cap => ?_⟩
      generalize inOf g = x at h2
      subst h2
      exact second_walk T len cap h1 x _ c0
    · cases h
  · unfold sq_second at h
    split at h
    · cases h
      exact absurd hc.2.2 (Nat.not_lt_zero _)
    · cases h
abbrev ms_o2 : List (Nat × SpM) := (53, spS 5 sq_second) :: ms_o1
theorem CM_o2 : CSound Tryd.prog anyWorld (tabM noData tb_o ms_o2) := CM_o1.consM e_second
theorem to_lt {v : BitVec 64} {n : Nat} (hn : n ≤ 8000) (h1 : v.slt 0#64 = false) (h2 : (BitVec.ofNat 64 n).sle v = false) : v.toNat < n := by
  rw [BitVec.slt_eq_decide, show (0#64).toInt = 0 by decide] at h1
  rw [BitVec.sle_eq_decide, toInt_ofNat (by omega)] at h2
  simp only [decide_eq_false_iff_not] at h1 h2
  rw [BitVec.toInt_eq_toNat_cond] at h1 h2
  have := v.isLt
  split at h1 <;> omega
def sq_leads (len : Nat) (g : Nat → List PL) (rest : List AV) : Option (Cond × AV) := match rest with
  | [.one (.b64 true p)] => some (Cond.p (len ≤ 8000 ∧ g = inF (inOf g) ∧ p.toNat < len), .one (.b64 true (wayE (inOf g) len p)))
  | _ => none
set_option maxRecDepth 100000 in
set_option maxHeartbeats 8000000 in
theorem leads_walk (T : TypeId) (len cap : Nat) (hl : len ≤ 8000) (x : IT) (p : BitVec 64) (hc0 : p.toNat < len) :
    FI Tryd.prog (tabM noData tb_o ms_o2) Tryd.f27 1 [.one (.slc 0 0 len cap), .one (.b64 true p)] [(0, .ro T [.seg 5 len (inF x)])] (fun r _ => r = .one (.b64 true (wayE x len p))) := by
  repeat' (first
    | (with_reducible apply Given.mk; intro h; (try simp only [reduceCtorEq, Bool.true_eq_false, Bool.false_eq_true] at h); (try ((fail_if_success (have _q := q0)); exact absurd h (by decide))))
    | ((conv => whnf); first
      | with_reducible apply Both.mk
      | refine LoopP.times 5 ?_))
  all_goals first
    | (with_reducible apply Ob.mk; kernel_rfl)
    | ((with_reducible apply Ob.mk); show len < 9223372036854775808; omega)
    | ((fail_if_success (have _q := q0)); with_reducible apply Ob.mk; decide)
    | ((with_reducible apply Ob.mk); exact ixp hl hc0)
    | ((with_reducible apply Ob.mk); exact (ixp hl hc0).2)
    | ((with_reducible apply Ob.mk); exact ixp1 hl hc0 (by with_reducible assumption))
    | ((with_reducible apply Ob.mk); exact (ixp1 hl hc0 (by with_reducible assumption)).2)
    | ((with_reducible apply Ob.mk); exact ixp1 hl hc0 (sle1_t hl hc0 (by with_reducible assumption)))
    | ((with_reducible apply Ob.mk); exact (ixp1 hl hc0 (sle1_t hl hc0 (by with_reducible assumption))).2)
    | ((with_reducible apply Ob.mk); exact ⟨Nat.le_refl _, hl, rfl, hc0⟩)
    | ((with_reducible apply Ob.mk); exact ⟨Nat.le_refl _, hl, rfl, to_lt hl (by with_reducible assumption) (by with_reducible assumption)⟩)
    | ((conv => whnf); first | rfl | (simp [wayE, toV, inOf_inF, *]; done) | (simp_all [wayE, toV, inOf_inF]; done))
    | (with_reducible apply Ob.mk; skip)
    | ((conv => whnf); skip)
set_option maxRecDepth 100000 in
theorem e_leads : EntryM Tryd.prog anyWorld 27 (spS 5 sq_leads) := by
  refine .of_slice CM_o2 (by kernel_rfl) Tryd.func27 (by kernel_rfl) (by kernel_rfl) (fun len g rest c v h hc => ?_) (fun rest c v h hc ad cap => ?_)
  · unfold sq_leads at h
    split at h
    · cases h
      obtain ⟨h1, h2, c0⟩ := hc
      refine ⟨rfl, rfl, fun T cap => ?_⟩
      generalize inOf g = x at h2
      subst h2
      exact leads_walk T len cap h1 x _ c0
    · cases h
  · unfold sq_leads at h
    split at h
    · cases h
      exact absurd hc.2.2 (Nat.not_lt_zero _)
    · cases h
abbrev ms_o3 : List (Nat × SpM) := (27, spS 5 sq_leads) :: (26, spS 5 sq_alone) :: (40, spS 5 sq_field) :: ms_o2
theorem CM_o3 : CSound Tryd.prog anyWorld (tabM noData tb_o ms_o3) := ((CM_o2.consM e_field).consM e_alone).consM e_leads
end Go.Proofs.YthkgakelgdncjaaDoor
