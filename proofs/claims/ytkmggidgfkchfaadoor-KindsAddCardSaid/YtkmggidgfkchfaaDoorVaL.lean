/-
  KindsAdd: all cases together. Conditions: as typed.
-/
import Derived.Test.YtkmggidgfkchfaaDoorVaM2
import Derived.Test.YtkmggidgfkchfaaDoorVaM3
import Derived.Test.YtkmggidgfkchfaaDoorVaM5
import Derived.Test.YtkmggidgfkchfaaDoorVaM7
namespace Go.Proofs.YtkmggidgfkchfaaDoor
open Go.Ev Go.RowKit
set_option linter.unusedVariables false
set_option linter.unusedSimpArgs false

theorem vFix_out {v : VV} {x : BitVec 64} (h : mFar.slt x = false ∨ x.slt 65536#64 = false) : (vFix v x).ok = false := by
  have e : cOut x = true := by
    rw [cOut, BitVec.sle_eq_not_slt, BitVec.sle_eq_not_slt]
    rcases h with h | h <;> rw [h] <;> simp
  rw [vFix, if_pos e]
theorem vFix_in {v : VV} {x : BitVec 64} (hv : vMv v.k = true) (h : mFar.slt x = true) (h' : x.slt 65536#64 = true) :
    vFix v x = ⟨⟨v.k, v.mp, v.id, v.off + x, v.su, v.n⟩, mFar.slt (v.off + x) && (v.off + x).slt 65536#64⟩ := by
  have e : ¬ cOut x = true := by
    rw [cOut, BitVec.sle_eq_not_slt, BitVec.sle_eq_not_slt, h, h']; decide
  rw [vFix, if_neg e, if_pos hv]; rfl
theorem vFix_mv {v : VV} {x : BitVec 64} (hv : vMv v.k = false) : (vFix v x).ok = false := by
  rw [vFix, hv]; split <;> rfl
theorem slt_no {a b : BitVec 64} (h : a.slt b = true) : b.slt a = false := by
  rw [BitVec.slt, decide_eq_true_eq] at h
  rw [BitVec.slt, decide_eq_false_iff_not]; omega
theorem vAdd_other {v : VV} {n : NN} {id : BitVec 64} (hT : (n.tm == 0#64) = false) (h5 : (v.k == 5#64) = false) (h7 : (v.k == 7#64) = false) : (vAdd v n id).ok = false := by
  rw [vAdd, hT, h5, h7]; simp only [Bool.false_eq_true, if_false]; split <;> rfl
theorem vAdd_five {v : VV} {n : NN} {id : BitVec 64} (hT : (n.tm == 0#64) = false) (h5 : (v.k == 5#64) = true) (h : (vAdd v n id).ok = true) :
    vAdd v n id = ⟨⟨v.k, v.mp, v.id, v.off, v.su, nDo 0#8 true v.n n⟩, true⟩ ∧ (nDo 0#8 true v.n n).hi.ult 65536#64 = true := by
  rw [vAdd, hT, h5] at h ⊢
  simp only [Bool.false_eq_true, if_false, if_true] at h ⊢
  split at h
  · cases h
  · rename_i hn
    have h' : (nDo 0#8 true v.n n).hi.ult 65536#64 = true := h
    rw [if_neg hn, h']; exact ⟨rfl, rfl⟩
theorem vAdd_seven {v : VV} {n : NN} {id : BitVec 64} (hT : (n.tm == 0#64) = false) (h5 : (v.k == 5#64) = false) (h7 : (v.k == 7#64) = true) (h : (vAdd v n id).ok = true) :
    vAdd v n id = ⟨⟨v.k, v.mp, id, v.off, 0#64, nDo 0#8 true v.n n⟩, true⟩ ∧ (nDo 0#8 true v.n n).hi.ult 65536#64 = true := by
  rw [vAdd, hT, h5, h7] at h ⊢
  simp only [Bool.false_eq_true, if_false, if_true] at h ⊢
  split at h
  · cases h
  · rename_i hn
    have h' : (nDo 0#8 true v.n n).hi.ult 65536#64 = true := h
    rw [if_neg hn, h']; exact ⟨rfl, rfl⟩
theorem vAdd_zero {v : VV} {n : NN} {id : BitVec 64} (hT : (n.tm == 0#64) = true) : vAdd v n id = vFix v n.tv := by
  rw [vAdd, hT, if_pos rfl]

set_option maxRecDepth 100000 in
theorem K2_all (m : Nat → Nat) (p j o s : BitVec 64) (q : BitVec 32) (b1 b2 b3 b4 b5 x c1 c2 c3 c4 c5 : BitVec 64) : F Tryd.prog (tab (DS m) tb_firewalllaw18_points) Tryd.f3 [.agg [.b64 true 2#64, .b64 true p, .b64 true j, .b64 true o, .b64 true s, .b32 false q, .b64 false b1, .b64 false b2, .b64 false b3, .b64 false b4, .b64 false b5], .one (.b64 false x), .agg [.b64 false c1, .b64 false c2, .b64 false c3, .b64 false c4, .b64 false c5]] (fun r => r = .one (.bool true)) := by
  have hS : (nDo 0#8 true (nMade (q.setWidth 64) b1 b2 b3 b4 b5) (nMade x c1 c2 c3 c4 c5)).has (q.setWidth 64 + x) = true := nDo_has 0#8 true (nMade_has (q.setWidth 64) b1 b2 b3 b4 b5) (nMade_has x c1 c2 c3 c4 c5)
  cases hn : (mNear.slt o && o.slt 200000#64) with
  | false =>
    cases hA : (vAdd (VV.mk 2#64 p j o s (nMade (q.setWidth 64) b1 b2 b3 b4 b5)) (nMade x c1 c2 c3 c4 c5) 77#64).ok with
    | false => exact K2_n0_a0 m p j o s q b1 b2 b3 b4 b5 x c1 c2 c3 c4 c5 hn hA
    | true =>
      cases hT : ((nMade x c1 c2 c3 c4 c5).tm == 0#64) with
      | true => exact K2_n0_a1 m p j o s q b1 b2 b3 b4 b5 x c1 c2 c3 c4 c5 hn hA hT
      | false =>
        exact no2 hA (vAdd_other hT rfl rfl)
  | true =>
    cases P1 : mFar.slt x with
    | false =>
      cases hA : (vAdd (VV.mk 2#64 p j o s (nMade (q.setWidth 64) b1 b2 b3 b4 b5)) (nMade x c1 c2 c3 c4 c5) 77#64).ok with
      | false => exact K2_n1_a0 m p j o s q b1 b2 b3 b4 b5 x c1 c2 c3 c4 c5 hn (vFix_out (.inl P1)) P1 hA
      | true =>
        cases hT : ((nMade x c1 c2 c3 c4 c5).tm == 0#64) with
        | true => exact K2_n1_a1 m p j o s q b1 b2 b3 b4 b5 x c1 c2 c3 c4 c5 hn (vFix_out (.inl P1)) P1 hA hT
        | false =>
          exact no2 hA (vAdd_other hT rfl rfl)
    | true =>
      cases P2 : x.slt 65536#64 with
      | false =>
        cases hA : (vAdd (VV.mk 2#64 p j o s (nMade (q.setWidth 64) b1 b2 b3 b4 b5)) (nMade x c1 c2 c3 c4 c5) 77#64).ok with
        | false => exact K2_n2_a0 m p j o s q b1 b2 b3 b4 b5 x c1 c2 c3 c4 c5 hn (vFix_out (.inr P2)) P1 P2 hA
        | true =>
          cases hT : ((nMade x c1 c2 c3 c4 c5).tm == 0#64) with
          | true => exact K2_n2_a1 m p j o s q b1 b2 b3 b4 b5 x c1 c2 c3 c4 c5 hn (vFix_out (.inr P2)) P1 P2 hA hT
          | false =>
            exact no2 hA (vAdd_other hT rfl rfl)
      | true =>
        have hv := vFix_in (v := (VV.mk 2#64 p j o s (nMade (q.setWidth 64) b1 b2 b3 b4 b5))) (x := x) rfl P1 P2
        simp only at hv
        cases Q1 : mFar.slt (o + x) with
        | false =>
          have hk : (vFix (VV.mk 2#64 p j o s (nMade (q.setWidth 64) b1 b2 b3 b4 b5)) x).ok = false := by rw [hv, Q1]; rfl
          cases hA : (vAdd (VV.mk 2#64 p j o s (nMade (q.setWidth 64) b1 b2 b3 b4 b5)) (nMade x c1 c2 c3 c4 c5) 77#64).ok with
          | false => exact K2_n3_a0 m p j o s q b1 b2 b3 b4 b5 x c1 c2 c3 c4 c5 hn hk P1 P2 Q1 hA
          | true =>
            cases hT : ((nMade x c1 c2 c3 c4 c5).tm == 0#64) with
            | true => exact K2_n3_a1 m p j o s q b1 b2 b3 b4 b5 x c1 c2 c3 c4 c5 hn hk P1 P2 Q1 hA hT
            | false =>
              exact no2 hA (vAdd_other hT rfl rfl)
        | true =>
          cases Q2 : (o + x).slt 65536#64 with
          | false =>
            have hk : (vFix (VV.mk 2#64 p j o s (nMade (q.setWidth 64) b1 b2 b3 b4 b5)) x).ok = false := by rw [hv, Q1, Q2]; rfl
            cases hA : (vAdd (VV.mk 2#64 p j o s (nMade (q.setWidth 64) b1 b2 b3 b4 b5)) (nMade x c1 c2 c3 c4 c5) 77#64).ok with
            | false => exact K2_n4_a0 m p j o s q b1 b2 b3 b4 b5 x c1 c2 c3 c4 c5 hn hk P1 P2 Q1 Q2 hA
            | true =>
              cases hT : ((nMade x c1 c2 c3 c4 c5).tm == 0#64) with
              | true => exact K2_n4_a1 m p j o s q b1 b2 b3 b4 b5 x c1 c2 c3 c4 c5 hn hk P1 P2 Q1 Q2 hA hT
              | false =>
                exact no2 hA (vAdd_other hT rfl rfl)
          | true =>
            rw [Q1, Q2] at hv
            cases hA : (vAdd (VV.mk 2#64 p j o s (nMade (q.setWidth 64) b1 b2 b3 b4 b5)) (nMade x c1 c2 c3 c4 c5) 77#64).ok with
            | false => exact K2_n5_a0 m p j o s q b1 b2 b3 b4 b5 x c1 c2 c3 c4 c5 hn P1 P2 Q1 Q2 hv (slt_no P1) (slt_no P2) hA
            | true =>
              cases hT : ((nMade x c1 c2 c3 c4 c5).tm == 0#64) with
              | true => exact K2_n5_a1 m p j o s q b1 b2 b3 b4 b5 x c1 c2 c3 c4 c5 hn P1 P2 Q1 Q2 hv (slt_no P1) (slt_no P2) hA hT
              | false =>
                exact no2 hA (vAdd_other hT rfl rfl)
set_option maxRecDepth 100000 in
theorem K3_all (m : Nat → Nat) (p j o s : BitVec 64) (q : BitVec 32) (b1 b2 b3 b4 b5 x c1 c2 c3 c4 c5 : BitVec 64) : F Tryd.prog (tab (DS m) tb_firewalllaw18_points) Tryd.f3 [.agg [.b64 true 3#64, .b64 true p, .b64 true j, .b64 true o, .b64 true s, .b32 false q, .b64 false b1, .b64 false b2, .b64 false b3, .b64 false b4, .b64 false b5], .one (.b64 false x), .agg [.b64 false c1, .b64 false c2, .b64 false c3, .b64 false c4, .b64 false c5]] (fun r => r = .one (.bool true)) := by
  have hS : (nDo 0#8 true (nMade (q.setWidth 64) b1 b2 b3 b4 b5) (nMade x c1 c2 c3 c4 c5)).has (q.setWidth 64 + x) = true := nDo_has 0#8 true (nMade_has (q.setWidth 64) b1 b2 b3 b4 b5) (nMade_has x c1 c2 c3 c4 c5)
  cases hn : (mNear.slt o && o.slt 200000#64) with
  | false =>
    cases hA : (vAdd (VV.mk 3#64 p j o s (nMade (q.setWidth 64) b1 b2 b3 b4 b5)) (nMade x c1 c2 c3 c4 c5) 77#64).ok with
    | false => exact K3_n0_a0 m p j o s q b1 b2 b3 b4 b5 x c1 c2 c3 c4 c5 hn hA
    | true =>
      cases hT : ((nMade x c1 c2 c3 c4 c5).tm == 0#64) with
      | true => exact K3_n0_a1 m p j o s q b1 b2 b3 b4 b5 x c1 c2 c3 c4 c5 hn hA hT
      | false =>
        exact no2 hA (vAdd_other hT rfl rfl)
  | true =>
    cases P1 : mFar.slt x with
    | false =>
      cases hA : (vAdd (VV.mk 3#64 p j o s (nMade (q.setWidth 64) b1 b2 b3 b4 b5)) (nMade x c1 c2 c3 c4 c5) 77#64).ok with
      | false => exact K3_n1_a0 m p j o s q b1 b2 b3 b4 b5 x c1 c2 c3 c4 c5 hn (vFix_out (.inl P1)) P1 hA
      | true =>
        cases hT : ((nMade x c1 c2 c3 c4 c5).tm == 0#64) with
        | true => exact K3_n1_a1 m p j o s q b1 b2 b3 b4 b5 x c1 c2 c3 c4 c5 hn (vFix_out (.inl P1)) P1 hA hT
        | false =>
          exact no2 hA (vAdd_other hT rfl rfl)
    | true =>
      cases P2 : x.slt 65536#64 with
      | false =>
        cases hA : (vAdd (VV.mk 3#64 p j o s (nMade (q.setWidth 64) b1 b2 b3 b4 b5)) (nMade x c1 c2 c3 c4 c5) 77#64).ok with
        | false => exact K3_n2_a0 m p j o s q b1 b2 b3 b4 b5 x c1 c2 c3 c4 c5 hn (vFix_out (.inr P2)) P1 P2 hA
        | true =>
          cases hT : ((nMade x c1 c2 c3 c4 c5).tm == 0#64) with
          | true => exact K3_n2_a1 m p j o s q b1 b2 b3 b4 b5 x c1 c2 c3 c4 c5 hn (vFix_out (.inr P2)) P1 P2 hA hT
          | false =>
            exact no2 hA (vAdd_other hT rfl rfl)
      | true =>
        have hv := vFix_in (v := (VV.mk 3#64 p j o s (nMade (q.setWidth 64) b1 b2 b3 b4 b5))) (x := x) rfl P1 P2
        simp only at hv
        cases Q1 : mFar.slt (o + x) with
        | false =>
          have hk : (vFix (VV.mk 3#64 p j o s (nMade (q.setWidth 64) b1 b2 b3 b4 b5)) x).ok = false := by rw [hv, Q1]; rfl
          cases hA : (vAdd (VV.mk 3#64 p j o s (nMade (q.setWidth 64) b1 b2 b3 b4 b5)) (nMade x c1 c2 c3 c4 c5) 77#64).ok with
          | false => exact K3_n3_a0 m p j o s q b1 b2 b3 b4 b5 x c1 c2 c3 c4 c5 hn hk P1 P2 Q1 hA
          | true =>
            cases hT : ((nMade x c1 c2 c3 c4 c5).tm == 0#64) with
            | true => exact K3_n3_a1 m p j o s q b1 b2 b3 b4 b5 x c1 c2 c3 c4 c5 hn hk P1 P2 Q1 hA hT
            | false =>
              exact no2 hA (vAdd_other hT rfl rfl)
        | true =>
          cases Q2 : (o + x).slt 65536#64 with
          | false =>
            have hk : (vFix (VV.mk 3#64 p j o s (nMade (q.setWidth 64) b1 b2 b3 b4 b5)) x).ok = false := by rw [hv, Q1, Q2]; rfl
            cases hA : (vAdd (VV.mk 3#64 p j o s (nMade (q.setWidth 64) b1 b2 b3 b4 b5)) (nMade x c1 c2 c3 c4 c5) 77#64).ok with
            | false => exact K3_n4_a0 m p j o s q b1 b2 b3 b4 b5 x c1 c2 c3 c4 c5 hn hk P1 P2 Q1 Q2 hA
            | true =>
              cases hT : ((nMade x c1 c2 c3 c4 c5).tm == 0#64) with
              | true => exact K3_n4_a1 m p j o s q b1 b2 b3 b4 b5 x c1 c2 c3 c4 c5 hn hk P1 P2 Q1 Q2 hA hT
              | false =>
                exact no2 hA (vAdd_other hT rfl rfl)
          | true =>
            rw [Q1, Q2] at hv
            cases hA : (vAdd (VV.mk 3#64 p j o s (nMade (q.setWidth 64) b1 b2 b3 b4 b5)) (nMade x c1 c2 c3 c4 c5) 77#64).ok with
            | false => exact K3_n5_a0 m p j o s q b1 b2 b3 b4 b5 x c1 c2 c3 c4 c5 hn P1 P2 Q1 Q2 hv (slt_no P1) (slt_no P2) hA
            | true =>
              cases hT : ((nMade x c1 c2 c3 c4 c5).tm == 0#64) with
              | true => exact K3_n5_a1 m p j o s q b1 b2 b3 b4 b5 x c1 c2 c3 c4 c5 hn P1 P2 Q1 Q2 hv (slt_no P1) (slt_no P2) hA hT
              | false =>
                exact no2 hA (vAdd_other hT rfl rfl)
set_option maxRecDepth 100000 in
theorem K5_all (m : Nat → Nat) (p j o s : BitVec 64) (q : BitVec 32) (b1 b2 b3 b4 b5 x c1 c2 c3 c4 c5 : BitVec 64) : F Tryd.prog (tab (DS m) tb_firewalllaw18_points) Tryd.f3 [.agg [.b64 true 5#64, .b64 true p, .b64 true j, .b64 true o, .b64 true s, .b32 false q, .b64 false b1, .b64 false b2, .b64 false b3, .b64 false b4, .b64 false b5], .one (.b64 false x), .agg [.b64 false c1, .b64 false c2, .b64 false c3, .b64 false c4, .b64 false c5]] (fun r => r = .one (.bool true)) := by
  have hS : (nDo 0#8 true (nMade (q.setWidth 64) b1 b2 b3 b4 b5) (nMade x c1 c2 c3 c4 c5)).has (q.setWidth 64 + x) = true := nDo_has 0#8 true (nMade_has (q.setWidth 64) b1 b2 b3 b4 b5) (nMade_has x c1 c2 c3 c4 c5)
  cases hn : (mNear.slt o && o.slt 200000#64) with
  | false =>
    cases hA : (vAdd (VV.mk 5#64 p j o s (nMade (q.setWidth 64) b1 b2 b3 b4 b5)) (nMade x c1 c2 c3 c4 c5) 77#64).ok with
    | false => exact K5_n0_a0 m p j o s q b1 b2 b3 b4 b5 x c1 c2 c3 c4 c5 hn hA
    | true =>
      cases hT : ((nMade x c1 c2 c3 c4 c5).tm == 0#64) with
      | true => exact K5_n0_a1 m p j o s q b1 b2 b3 b4 b5 x c1 c2 c3 c4 c5 hn hA hT
      | false =>
        have hw := vAdd_five hT rfl hA
        exact K5_n0_a2v m p j o s q b1 b2 b3 b4 b5 x c1 c2 c3 c4 c5 hn hw.1 hT hw.2 hS
  | true =>
    cases P1 : mFar.slt x with
    | false =>
      cases hA : (vAdd (VV.mk 5#64 p j o s (nMade (q.setWidth 64) b1 b2 b3 b4 b5)) (nMade x c1 c2 c3 c4 c5) 77#64).ok with
      | false => exact K5_n1_a0 m p j o s q b1 b2 b3 b4 b5 x c1 c2 c3 c4 c5 hn (vFix_out (.inl P1)) P1 hA
      | true =>
        cases hT : ((nMade x c1 c2 c3 c4 c5).tm == 0#64) with
        | true => exact K5_n1_a1 m p j o s q b1 b2 b3 b4 b5 x c1 c2 c3 c4 c5 hn (vFix_out (.inl P1)) P1 hA hT
        | false =>
          have hw := vAdd_five hT rfl hA
          exact K5_n1_a2v m p j o s q b1 b2 b3 b4 b5 x c1 c2 c3 c4 c5 hn (vFix_out (.inl P1)) P1 hw.1 hT hw.2 hS
    | true =>
      cases P2 : x.slt 65536#64 with
      | false =>
        cases hA : (vAdd (VV.mk 5#64 p j o s (nMade (q.setWidth 64) b1 b2 b3 b4 b5)) (nMade x c1 c2 c3 c4 c5) 77#64).ok with
        | false => exact K5_n2_a0 m p j o s q b1 b2 b3 b4 b5 x c1 c2 c3 c4 c5 hn (vFix_out (.inr P2)) P1 P2 hA
        | true =>
          cases hT : ((nMade x c1 c2 c3 c4 c5).tm == 0#64) with
          | true => exact K5_n2_a1 m p j o s q b1 b2 b3 b4 b5 x c1 c2 c3 c4 c5 hn (vFix_out (.inr P2)) P1 P2 hA hT
          | false =>
            have hw := vAdd_five hT rfl hA
            exact K5_n2_a2v m p j o s q b1 b2 b3 b4 b5 x c1 c2 c3 c4 c5 hn (vFix_out (.inr P2)) P1 P2 hw.1 hT hw.2 hS
      | true =>
        have hv := vFix_in (v := (VV.mk 5#64 p j o s (nMade (q.setWidth 64) b1 b2 b3 b4 b5))) (x := x) rfl P1 P2
        simp only at hv
        cases Q1 : mFar.slt (o + x) with
        | false =>
          have hk : (vFix (VV.mk 5#64 p j o s (nMade (q.setWidth 64) b1 b2 b3 b4 b5)) x).ok = false := by rw [hv, Q1]; rfl
          cases hA : (vAdd (VV.mk 5#64 p j o s (nMade (q.setWidth 64) b1 b2 b3 b4 b5)) (nMade x c1 c2 c3 c4 c5) 77#64).ok with
          | false => exact K5_n3_a0 m p j o s q b1 b2 b3 b4 b5 x c1 c2 c3 c4 c5 hn hk P1 P2 Q1 hA
          | true =>
            cases hT : ((nMade x c1 c2 c3 c4 c5).tm == 0#64) with
            | true => exact K5_n3_a1 m p j o s q b1 b2 b3 b4 b5 x c1 c2 c3 c4 c5 hn hk P1 P2 Q1 hA hT
            | false =>
              have hw := vAdd_five hT rfl hA
              exact K5_n3_a2v m p j o s q b1 b2 b3 b4 b5 x c1 c2 c3 c4 c5 hn hk P1 P2 Q1 hw.1 hT hw.2 hS
        | true =>
          cases Q2 : (o + x).slt 65536#64 with
          | false =>
            have hk : (vFix (VV.mk 5#64 p j o s (nMade (q.setWidth 64) b1 b2 b3 b4 b5)) x).ok = false := by rw [hv, Q1, Q2]; rfl
            cases hA : (vAdd (VV.mk 5#64 p j o s (nMade (q.setWidth 64) b1 b2 b3 b4 b5)) (nMade x c1 c2 c3 c4 c5) 77#64).ok with
            | false => exact K5_n4_a0 m p j o s q b1 b2 b3 b4 b5 x c1 c2 c3 c4 c5 hn hk P1 P2 Q1 Q2 hA
            | true =>
              cases hT : ((nMade x c1 c2 c3 c4 c5).tm == 0#64) with
              | true => exact K5_n4_a1 m p j o s q b1 b2 b3 b4 b5 x c1 c2 c3 c4 c5 hn hk P1 P2 Q1 Q2 hA hT
              | false =>
                have hw := vAdd_five hT rfl hA
                exact K5_n4_a2v m p j o s q b1 b2 b3 b4 b5 x c1 c2 c3 c4 c5 hn hk P1 P2 Q1 Q2 hw.1 hT hw.2 hS
          | true =>
            rw [Q1, Q2] at hv
            cases hA : (vAdd (VV.mk 5#64 p j o s (nMade (q.setWidth 64) b1 b2 b3 b4 b5)) (nMade x c1 c2 c3 c4 c5) 77#64).ok with
            | false => exact K5_n5_a0 m p j o s q b1 b2 b3 b4 b5 x c1 c2 c3 c4 c5 hn P1 P2 Q1 Q2 hv (slt_no P1) (slt_no P2) hA
            | true =>
              cases hT : ((nMade x c1 c2 c3 c4 c5).tm == 0#64) with
              | true => exact K5_n5_a1 m p j o s q b1 b2 b3 b4 b5 x c1 c2 c3 c4 c5 hn P1 P2 Q1 Q2 hv (slt_no P1) (slt_no P2) hA hT
              | false =>
                have hw := vAdd_five hT rfl hA
                exact K5_n5_a2v m p j o s q b1 b2 b3 b4 b5 x c1 c2 c3 c4 c5 hn P1 P2 Q1 Q2 hv (slt_no P1) (slt_no P2) hw.1 hT hw.2 hS
set_option maxRecDepth 100000 in
theorem K7_all (m : Nat → Nat) (p j o s : BitVec 64) (q : BitVec 32) (b1 b2 b3 b4 b5 x c1 c2 c3 c4 c5 : BitVec 64) : F Tryd.prog (tab (DS m) tb_firewalllaw18_points) Tryd.f3 [.agg [.b64 true 7#64, .b64 true p, .b64 true j, .b64 true o, .b64 true s, .b32 false q, .b64 false b1, .b64 false b2, .b64 false b3, .b64 false b4, .b64 false b5], .one (.b64 false x), .agg [.b64 false c1, .b64 false c2, .b64 false c3, .b64 false c4, .b64 false c5]] (fun r => r = .one (.bool true)) := by
  have hS : (nDo 0#8 true (nMade (q.setWidth 64) b1 b2 b3 b4 b5) (nMade x c1 c2 c3 c4 c5)).has (q.setWidth 64 + x) = true := nDo_has 0#8 true (nMade_has (q.setWidth 64) b1 b2 b3 b4 b5) (nMade_has x c1 c2 c3 c4 c5)
  cases hn : (mNear.slt o && o.slt 200000#64) with
  | false =>
    cases hA : (vAdd (VV.mk 7#64 p j o s (nMade (q.setWidth 64) b1 b2 b3 b4 b5)) (nMade x c1 c2 c3 c4 c5) 77#64).ok with
    | false => exact K7_n0_a0 m p j o s q b1 b2 b3 b4 b5 x c1 c2 c3 c4 c5 hn hA
    | true =>
      cases hT : ((nMade x c1 c2 c3 c4 c5).tm == 0#64) with
      | true => exact K7_n0_a1 m p j o s q b1 b2 b3 b4 b5 x c1 c2 c3 c4 c5 hn hA hT
      | false =>
        have hw := vAdd_seven hT rfl rfl hA
        exact K7_n0_a2p m p j o s q b1 b2 b3 b4 b5 x c1 c2 c3 c4 c5 hn hw.1 hT hw.2 hS
  | true =>
    cases P1 : mFar.slt x with
    | false =>
      cases hA : (vAdd (VV.mk 7#64 p j o s (nMade (q.setWidth 64) b1 b2 b3 b4 b5)) (nMade x c1 c2 c3 c4 c5) 77#64).ok with
      | false => exact K7_n1_a0 m p j o s q b1 b2 b3 b4 b5 x c1 c2 c3 c4 c5 hn (vFix_out (.inl P1)) P1 hA
      | true =>
        cases hT : ((nMade x c1 c2 c3 c4 c5).tm == 0#64) with
        | true => exact K7_n1_a1 m p j o s q b1 b2 b3 b4 b5 x c1 c2 c3 c4 c5 hn (vFix_out (.inl P1)) P1 hA hT
        | false =>
          have hw := vAdd_seven hT rfl rfl hA
          exact K7_n1_a2p m p j o s q b1 b2 b3 b4 b5 x c1 c2 c3 c4 c5 hn (vFix_out (.inl P1)) P1 hw.1 hT hw.2 hS
    | true =>
      cases P2 : x.slt 65536#64 with
      | false =>
        cases hA : (vAdd (VV.mk 7#64 p j o s (nMade (q.setWidth 64) b1 b2 b3 b4 b5)) (nMade x c1 c2 c3 c4 c5) 77#64).ok with
        | false => exact K7_n2_a0 m p j o s q b1 b2 b3 b4 b5 x c1 c2 c3 c4 c5 hn (vFix_out (.inr P2)) P1 P2 hA
        | true =>
          cases hT : ((nMade x c1 c2 c3 c4 c5).tm == 0#64) with
          | true => exact K7_n2_a1 m p j o s q b1 b2 b3 b4 b5 x c1 c2 c3 c4 c5 hn (vFix_out (.inr P2)) P1 P2 hA hT
          | false =>
            have hw := vAdd_seven hT rfl rfl hA
            exact K7_n2_a2p m p j o s q b1 b2 b3 b4 b5 x c1 c2 c3 c4 c5 hn (vFix_out (.inr P2)) P1 P2 hw.1 hT hw.2 hS
      | true =>
        have hv := vFix_in (v := (VV.mk 7#64 p j o s (nMade (q.setWidth 64) b1 b2 b3 b4 b5))) (x := x) rfl P1 P2
        simp only at hv
        cases Q1 : mFar.slt (o + x) with
        | false =>
          have hk : (vFix (VV.mk 7#64 p j o s (nMade (q.setWidth 64) b1 b2 b3 b4 b5)) x).ok = false := by rw [hv, Q1]; rfl
          cases hA : (vAdd (VV.mk 7#64 p j o s (nMade (q.setWidth 64) b1 b2 b3 b4 b5)) (nMade x c1 c2 c3 c4 c5) 77#64).ok with
          | false => exact K7_n3_a0 m p j o s q b1 b2 b3 b4 b5 x c1 c2 c3 c4 c5 hn hk P1 P2 Q1 hA
          | true =>
            cases hT : ((nMade x c1 c2 c3 c4 c5).tm == 0#64) with
            | true => exact K7_n3_a1 m p j o s q b1 b2 b3 b4 b5 x c1 c2 c3 c4 c5 hn hk P1 P2 Q1 hA hT
            | false =>
              have hw := vAdd_seven hT rfl rfl hA
              exact K7_n3_a2p m p j o s q b1 b2 b3 b4 b5 x c1 c2 c3 c4 c5 hn hk P1 P2 Q1 hw.1 hT hw.2 hS
        | true =>
          cases Q2 : (o + x).slt 65536#64 with
          | false =>
            have hk : (vFix (VV.mk 7#64 p j o s (nMade (q.setWidth 64) b1 b2 b3 b4 b5)) x).ok = false := by rw [hv, Q1, Q2]; rfl
            cases hA : (vAdd (VV.mk 7#64 p j o s (nMade (q.setWidth 64) b1 b2 b3 b4 b5)) (nMade x c1 c2 c3 c4 c5) 77#64).ok with
            | false => exact K7_n4_a0 m p j o s q b1 b2 b3 b4 b5 x c1 c2 c3 c4 c5 hn hk P1 P2 Q1 Q2 hA
            | true =>
              cases hT : ((nMade x c1 c2 c3 c4 c5).tm == 0#64) with
              | true => exact K7_n4_a1 m p j o s q b1 b2 b3 b4 b5 x c1 c2 c3 c4 c5 hn hk P1 P2 Q1 Q2 hA hT
              | false =>
                have hw := vAdd_seven hT rfl rfl hA
                exact K7_n4_a2p m p j o s q b1 b2 b3 b4 b5 x c1 c2 c3 c4 c5 hn hk P1 P2 Q1 Q2 hw.1 hT hw.2 hS
          | true =>
            rw [Q1, Q2] at hv
            cases hA : (vAdd (VV.mk 7#64 p j o s (nMade (q.setWidth 64) b1 b2 b3 b4 b5)) (nMade x c1 c2 c3 c4 c5) 77#64).ok with
            | false => exact K7_n5_a0 m p j o s q b1 b2 b3 b4 b5 x c1 c2 c3 c4 c5 hn P1 P2 Q1 Q2 hv (slt_no P1) (slt_no P2) hA
            | true =>
              cases hT : ((nMade x c1 c2 c3 c4 c5).tm == 0#64) with
              | true => exact K7_n5_a1 m p j o s q b1 b2 b3 b4 b5 x c1 c2 c3 c4 c5 hn P1 P2 Q1 Q2 hv (slt_no P1) (slt_no P2) hA hT
              | false =>
                have hw := vAdd_seven hT rfl rfl hA
                exact K7_n5_a2p m p j o s q b1 b2 b3 b4 b5 x c1 c2 c3 c4 c5 hn P1 P2 Q1 Q2 hv (slt_no P1) (slt_no P2) hw.1 hT hw.2 hS
set_option maxRecDepth 100000 in
theorem KindsAdd_main (m : Nat → Nat) (k : BitVec 64) (p j o s : BitVec 64) (q : BitVec 32) (b1 b2 b3 b4 b5 x c1 c2 c3 c4 c5 : BitVec 64) : F Tryd.prog (tab (DS m) tb_firewalllaw18_points) Tryd.f3 [.agg [.b64 true k, .b64 true p, .b64 true j, .b64 true o, .b64 true s, .b32 false q, .b64 false b1, .b64 false b2, .b64 false b3, .b64 false b4, .b64 false b5], .one (.b64 false x), .agg [.b64 false c1, .b64 false c2, .b64 false c3, .b64 false c4, .b64 false c5]] (fun r => r = .one (.bool true)) := by
  by_cases e2 : k = 2#64
  · subst e2; exact K2_all m p j o s q b1 b2 b3 b4 b5 x c1 c2 c3 c4 c5
  by_cases e3 : k = 3#64
  · subst e3; exact K3_all m p j o s q b1 b2 b3 b4 b5 x c1 c2 c3 c4 c5
  by_cases e5 : k = 5#64
  · subst e5; exact K5_all m p j o s q b1 b2 b3 b4 b5 x c1 c2 c3 c4 c5
  by_cases e7 : k = 7#64
  · subst e7; exact K7_all m p j o s q b1 b2 b3 b4 b5 x c1 c2 c3 c4 c5
  have k2 : (k == 2#64) = false := beq_eq_false_iff_ne.2 e2
  have k3 : (k == 3#64) = false := beq_eq_false_iff_ne.2 e3
  have k5 : (k == 5#64) = false := beq_eq_false_iff_ne.2 e5
  have k7 : (k == 7#64) = false := beq_eq_false_iff_ne.2 e7
  have hv : vMv k = false := by rw [vMv, k3, k5, k7, k2]; rfl
  have hA : (vAdd (VV.mk k p j o s (nMade (q.setWidth 64) b1 b2 b3 b4 b5)) (nMade x c1 c2 c3 c4 c5) 77#64).ok = false := by
    cases hT : ((nMade x c1 c2 c3 c4 c5).tm == 0#64) with
    | true => rw [vAdd_zero hT]; exact vFix_mv hv
    | false => exact vAdd_other hT k5 k7
  cases hn : (mNear.slt o && o.slt 200000#64) with
  | false => exact Kx_n0_a0 m k p j o s q b1 b2 b3 b4 b5 x c1 c2 c3 c4 c5 k3 k5 k7 k2 hn hA
  | true => exact Kx_n1_a0 m k p j o s q b1 b2 b3 b4 b5 x c1 c2 c3 c4 c5 k3 k5 k7 k2 hn (vFix_mv hv) hA
#print axioms KindsAdd_main
end Go.Proofs.YtkmggidgfkchfaaDoor
