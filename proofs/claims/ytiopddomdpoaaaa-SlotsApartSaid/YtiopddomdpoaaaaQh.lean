/-
  Chapter 19: the chapter's stack, and the law SlotsApart, as the evaluator leaves it. Conditions: as typed.
-/
import Derived.Test.YtiopddomdpoaaaaQi
namespace Go.Proofs.Ytiopddomdpoaaaa
open Go.Ep Go.RowKit
set_option linter.unusedVariables false
set_option linter.unusedSimpArgs false

def sp_piled : Sp
  | [] => some (Cond.t, .one (.bool true))
  | _ => none
abbrev aV0 : VV := ⟨3#64, 0#64, 0#64, 0#64, 0#64, ⟨0#64, 0#64, 0#64, 0#64, 0#64, 0#64⟩⟩
abbrev nV0 : VV := ⟨1, 0, 0, 0, 0, nConst 3#64⟩
abbrev m3 : BitVec 64 := BitVec.ofInt 64 (Int.negSucc 3)
abbrev m5 : BitVec 64 := BitVec.ofInt 64 (Int.negSucc 5)
abbrev m7 : BitVec 64 := BitVec.ofInt 64 (Int.negSucc 7)
/-! The chapter's stacks. -/
noncomputable def pA : PG := (stR gZ m7 8#64 aV0).g
noncomputable def pB : PG := (stR gZ m3 4#64 nV0).g
noncomputable def pC : PG := (stR pB m7 4#64 nV0).g
theorem qa : (stR gZ m7 8#64 aV0) = ⟨pA, 0#64⟩ := by
  have h : (stR gZ m7 8#64 aV0).e = 0#64 := by decide +kernel
  rw [pA, ← h]
theorem qb : (stR gZ m3 4#64 nV0) = ⟨pB, 0#64⟩ := by
  have h : (stR gZ m3 4#64 nV0).e = 0#64 := by decide +kernel
  rw [pB, ← h]
theorem qc : (stR pB m7 4#64 nV0) = ⟨pC, 0#64⟩ := by
  have h : (stR pB m7 4#64 nV0).e = 0#64 := by rw [pB]; exact stR_e0 (by decide) rfl (by decide) (pts_st pts_Z (by decide))
  rw [pC, ← h]
theorem qerr {g : PG} {o n : BitVec 64} {v : VV} {x : BitVec 64} (h : (stR g o n v).e = x) (hx : (x == 0#64) = false) : stR g o n v = ⟨gZ, x⟩ := by
  subst h
  rw [stR] at hx ⊢
  split
  · rfl
  rename_i h1
  rw [if_neg h1] at hx
  split
  · rfl
  rename_i h2
  rw [if_neg h2] at hx
  split
  · rename_i h3; rw [if_pos h3] at hx; simp at hx
  rename_i h3
  rw [if_neg h3] at hx
  split
  · rfl
  rename_i h4
  rw [if_neg h4] at hx
  split
  · rename_i g' h5; rw [h5] at hx; simp at hx
  · rfl
theorem qh : stR pA m5 1#64 nV0 = ⟨gZ, 102#64⟩ := qerr (by rw [pA]; decide +kernel) (by decide)
theorem qm : stR pA 0#64 1#64 nV0 = ⟨gZ, 181#64⟩ := qerr (by rw [pA]; decide +kernel) (by decide)
theorem qn : stR pA mStack 8#64 ⟨0#64, 0#64, 0#64, 0#64, 0#64, ⟨0#64, 0#64, 0#64, 0#64, 0#64, 0#64⟩⟩ = ⟨gZ, 101#64⟩ := qerr (by rw [pA]; decide +kernel) (by decide)
set_option maxRecDepth 100000 in
theorem l1 : ldR pA m7 8#64 = ⟨aV0, 0#64⟩ := by
  have h2 : ldA pA m7 8#64 = true := by rw [pA]; decide +kernel
  rw [ldR_0 (by decide) (by decide), h2]
  have e : pA.v 63 = aV0 := by rw [pA, stR_8b (by decide) rfl (by decide), show ixS (atI m7 8#64) = 63 by decide]; exact (put_v _ _ _ _).1
  rw [show ixS (atI m7 8#64) = 63 by decide, e]; rfl
theorem l2 : (ldR pA m7 4#64).e = 102#64 := by rw [pA]; decide +kernel
set_option maxRecDepth 100000 in
theorem l3 : ldR pB m3 2#64 = ⟨vNum (nBytes 2#64), 0#64⟩ := by
  have h2 : ldA pB m3 2#64 = false := by rw [pB]; decide +kernel
  have h3 : (plR pB m3 2#64 == 0#64) = true := by rw [pB]; decide +kernel
  rw [ldR_0 (by decide) (by decide), h2, h3]; rfl
theorem l4 : (ldR pB m7 8#64).e = 101#64 := by rw [pB]; decide +kernel
theorem l5 : plR pB m3 4#64 = 0#64 := by rw [pB]; decide +kernel
theorem i1 : inG pC pA = false := by rw [pC, pB, pA]; exact inG_c rfl (by decide) rfl (by decide)
theorem i2 : inG pC pC = true := by rw [pC, pB]; exact inG_ss rfl rfl (by decide)
theorem k1 : okK pC := by rw [pC, pB]; exact okK_st (okK_st okK_Z ⟨rfl, rfl⟩) ⟨rfl, rfl⟩
abbrev outS (g : PG) (e : BitVec 64) : AV := .tup [(true, [.seg 12 64 (plF g)]), (false, [.b64 true e])]
/-- Store, as piled calls it. -/
noncomputable def spStP : Sp
  | [.agg [.seg z m f], .one (.b64 true o), .one (.b64 true n), .agg [.b64 true v1, .b64 true v2, .b64 true v3, .b64 true v4, .b64 true v5, .b64 false va, .b64 false vb, .b64 false vc, .b64 false vd, .b64 true ve, .b64 true vf]] => match Nat.beq z 12, Nat.beq m 64 with
    | true, true => match Nat.beq n.toNat 4 with
      | true => match Nat.beq o.toNat 18446744073709551612 with
        | true => some (.p (f = plF gZ ∧ o = m3 ∧ n = 4#64 ∧ (⟨v1, v2, v3, v4, v5, ⟨va, vb, vc, vd, ve, vf⟩⟩ : VV) = nV0), outS pB 0#64)
        | false => some (.p (f = plF pB ∧ o = m7 ∧ n = 4#64 ∧ (⟨v1, v2, v3, v4, v5, ⟨va, vb, vc, vd, ve, vf⟩⟩ : VV) = nV0), outS pC 0#64)
      | false => match Nat.beq n.toNat 8 with
        | true => match Nat.beq v1.toNat 3 with
          | true => some (.p (f = plF gZ ∧ o = m7 ∧ n = 8#64 ∧ (⟨v1, v2, v3, v4, v5, ⟨va, vb, vc, vd, ve, vf⟩⟩ : VV) = aV0), outS pA 0#64)
          | false => some (.p (f = plF pA ∧ o = mStack ∧ n = 8#64 ∧ (⟨v1, v2, v3, v4, v5, ⟨va, vb, vc, vd, ve, vf⟩⟩ : VV) = ⟨0#64, 0#64, 0#64, 0#64, 0#64, ⟨0#64, 0#64, 0#64, 0#64, 0#64, 0#64⟩⟩), outS gZ 101#64)
        | false => match Nat.beq o.toNat 0 with
          | true => some (.p (f = plF pA ∧ o = 0#64 ∧ n = 1#64 ∧ (⟨v1, v2, v3, v4, v5, ⟨va, vb, vc, vd, ve, vf⟩⟩ : VV) = nV0), outS gZ 181#64)
          | false => some (.p (f = plF pA ∧ o = m5 ∧ n = 1#64 ∧ (⟨v1, v2, v3, v4, v5, ⟨va, vb, vc, vd, ve, vf⟩⟩ : VV) = nV0), outS gZ 102#64)
    | _, _ => none
  | _ => none
theorem EntryOK.sub {P : Program} {G : World → Prop} {f : FuncId} {sp sp' : Sp} (e : EntryOK P G f sp) (h : ∀ args c v, sp' args = some (c, v) → c.holds → ∃ c', sp args = some (c', v) ∧ c'.holds) : EntryOK P G f sp' :=
  ⟨e.fn, fun args c v hs hc => let ⟨c', h1, h2⟩ := h args c v hs hc; e.calls args c' v h1 h2⟩
theorem st_of {g : PG} {o n : BitVec 64} {v1 v2 v3 v4 v5 va vb vc vd ve vf : BitVec 64} {v : VV} {r : GE} (hv : (⟨v1, v2, v3, v4, v5, ⟨va, vb, vc, vd, ve, vf⟩⟩ : VV) = v) (h : stR g o n v = r) :
    ∃ c', sp_slots_Store [.agg [.seg 12 64 (plF g)], .one (.b64 true o), .one (.b64 true n), .agg [.b64 true v1, .b64 true v2, .b64 true v3, .b64 true v4, .b64 true v5, .b64 false va, .b64 false vb, .b64 false vc, .b64 false vd, .b64 true ve, .b64 true vf]] = some (c', outS r.g r.e) ∧ c'.holds := by
  subst hv h
  exact ⟨_, rfl, rfl⟩
theorem e_StP : EntryOK Try.prog anyWorld 12 spStP := by
  refine EntryOK.sub e_slots_Store fun args c v h hc => ?_
  unfold spStP at h
  split at h
  · rename_i z m f o n v1 v2 v3 v4 v5 va vb vc vd ve vf
    split at h
    · rename_i hz hm
      obtain rfl : z = 12 := by simpa using hz
      obtain rfl : m = 64 := by simpa using hm
      split at h
      · split at h
        · cases h; obtain ⟨rfl, rfl, rfl, hv⟩ := hc; exact st_of hv qb
        · cases h; obtain ⟨rfl, rfl, rfl, hv⟩ := hc; exact st_of hv qc
      · split at h
        · split at h
          · cases h; obtain ⟨rfl, rfl, rfl, hv⟩ := hc; exact st_of hv qa
          · cases h; obtain ⟨rfl, rfl, rfl, hv⟩ := hc; exact st_of hv qn
        · split at h
          · cases h; obtain ⟨rfl, rfl, rfl, hv⟩ := hc; exact st_of hv qm
          · cases h; obtain ⟨rfl, rfl, rfl, hv⟩ := hc; exact st_of hv qh
    · cases h
  · cases h
theorem qerl {g : PG} {o n : BitVec 64} {x : BitVec 64} (h : (ldR g o n).e = x) (hx : (x == 0#64) = false) : ldR g o n = ⟨vZ, x⟩ := by
  subst h
  rw [ldR] at hx ⊢
  split
  · rfl
  rename_i h1
  rw [if_neg h1] at hx
  split
  · rename_i h3; rw [if_pos h3] at hx; simp at hx
  rename_i h3
  rw [if_neg h3] at hx
  split
  · rename_i h4; rw [if_pos h4] at hx; simp at hx
  · rfl
/-- Load, as piled calls it. -/
noncomputable def spLdP (nb : NN) : Sp
  | [.agg [.seg z m f], .one (.b64 true o), .one (.b64 true n)] => match Nat.beq z 12, Nat.beq m 64 with
    | true, true => match Nat.beq n.toNat 8 with
      | true => match Nat.beq (p64 (nthP (f 63) 1)).toNat 3 with
        | true => some (.p (f = plF pA ∧ o = m7 ∧ n = 8#64), .tup [(true, [.b64 true 3#64, .b64 true 0#64, .b64 true 0#64, .b64 true 0#64, .b64 true 0#64, .b64 false 0#64, .b64 false 0#64, .b64 false 0#64, .b64 false 0#64, .b64 true 0#64, .b64 true 0#64]), (false, [.b64 true 0#64])])
        | false => some (.p (f = plF pB ∧ o = m7 ∧ n = 8#64), .tup [(true, [.b64 true 0#64, .b64 true 0#64, .b64 true 0#64, .b64 true 0#64, .b64 true 0#64, .b64 false 0#64, .b64 false 0#64, .b64 false 0#64, .b64 false 0#64, .b64 true 0#64, .b64 true 0#64]), (false, [.b64 true 101#64])])
      | false => match Nat.beq n.toNat 4 with
        | true => some (.p (f = plF pA ∧ o = m7 ∧ n = 4#64), .tup [(true, [.b64 true 0#64, .b64 true 0#64, .b64 true 0#64, .b64 true 0#64, .b64 true 0#64, .b64 false 0#64, .b64 false 0#64, .b64 false 0#64, .b64 false 0#64, .b64 true 0#64, .b64 true 0#64]), (false, [.b64 true 102#64])])
        | false => some (.p (f = plF pB ∧ o = m3 ∧ n = 2#64), .tup [(true, [.b64 true 1, .b64 true 0, .b64 true 0, .b64 true 0, .b64 true 0, .b64 false nb.tv, .b64 false nb.tm, .b64 false nb.lo, .b64 false nb.hi, .b64 true nb.slo, .b64 true nb.shi]), (false, [.b64 true 0#64])])
    | _, _ => none
  | _ => none
theorem ld_of {g : PG} {o n : BitVec 64} {r : VE} (h : ldR g o n = r) : ∃ c', sp_slots_Load [.agg [.seg 12 64 (plF g)], .one (.b64 true o), .one (.b64 true n)] = some (c', .tup [(true, [.b64 true r.v.k, .b64 true r.v.mp, .b64 true r.v.id, .b64 true r.v.off, .b64 true r.v.su, .b64 false r.v.n.tv, .b64 false r.v.n.tm, .b64 false r.v.n.lo, .b64 false r.v.n.hi, .b64 true r.v.n.slo, .b64 true r.v.n.shi]), (false, [.b64 true r.e])]) ∧ c'.holds := by
  subst h
  exact ⟨_, rfl, rfl⟩
theorem e_LdP : EntryOK Try.prog anyWorld 15 (spLdP (nBytes 2#64)) := by
  refine EntryOK.sub e_slots_Load fun args c v h hc => ?_
  unfold spLdP at h
  split at h
  · rename_i z m f o n
    split at h
    · rename_i hz hm
      obtain rfl : z = 12 := by simpa using hz
      obtain rfl : m = 64 := by simpa using hm
      split at h
      · split at h
        · cases h; obtain ⟨rfl, rfl, rfl⟩ := hc; exact ld_of l1
        · cases h; obtain ⟨rfl, rfl, rfl⟩ := hc; exact ld_of (qerl l4 (by decide))
      · split at h
        · cases h; obtain ⟨rfl, rfl, rfl⟩ := hc; exact ld_of (qerl l2 (by decide))
        · cases h; obtain ⟨rfl, rfl, rfl⟩ := hc; exact ld_of l3
    · cases h
  · cases h
/-- Plain, as piled calls it. -/
noncomputable def spPlP : Sp
  | [.agg [.seg z m f], .one (.b64 true o), .one (.b64 true n)] => match Nat.beq z 12, Nat.beq m 64 with
    | true, true => some (.p (f = plF pB ∧ o = m3 ∧ n = 4#64), .one (.b64 true 0#64))
    | _, _ => none
  | _ => none
theorem e_PlP : EntryOK Try.prog anyWorld 20 spPlP := by
  refine EntryOK.sub e_slots_Plain fun args c v h hc => ?_
  unfold spPlP at h
  split at h
  · rename_i z m f o n
    split at h
    · rename_i hz hm
      obtain rfl : z = 12 := by simpa using hz
      obtain rfl : m = 64 := by simpa using hm
      cases h; obtain ⟨rfl, rfl, rfl⟩ := hc
      rw [← l5]
      exact ⟨_, rfl, rfl⟩
    · cases h
  · cases h
/-- Bytes, as piled calls it. -/
def spByP (nb : NN) : Sp
  | [.one (.b64 true n)] => some (.p (n = 2#64), .agg [.b64 false nb.tv, .b64 false nb.tm, .b64 false nb.lo, .b64 false nb.hi, .b64 true nb.slo, .b64 true nb.shi])
  | _ => none
theorem e_ByP : EntryOK Try.prog anyWorld 30 (spByP (nBytes 2#64)) := by
  refine EntryOK.sub e_scalars_Bytes fun args c v h hc => ?_
  unfold spByP at h
  split at h
  · cases h
    have hc : _ = 2#64 := hc
    subst hc
    exact ⟨_, rfl, by first | trivial | (show (0 : Int) ≤ _; decide) | decide⟩
  · cases h
noncomputable abbrev tbP (nb : NN) : List (Nat × Sp) := [(15, spLdP nb), (20, spPlP), (12, spStP), (13, sp_kinds_Number), (29, sp_scalars_Const), (30, spByP nb)]
abbrev msP : List (Nat × SpM) := [(11, spM sp_slots_In)]
theorem C_P : CSound Try.prog anyWorld (tabM noData (tbP (nBytes 2#64)) msP) :=
  CSound.consM (CSound.startM ((((((CSound.start.cons e_ByP).cons e_scalars_Const).cons e_kinds_Number).cons e_StP).cons e_PlP).cons e_LdP)) e_slots_In
set_option maxRecDepth 100000 in
set_option maxHeartbeats 8000000 in
theorem piled_walk (nb : NN) : F Try.prog (tabM noData (tbP nb) msP) Try.f9 [] (fun r => r = .one (.bool true)) := by
  repeat' (first
    | (with_reducible apply Given.mk; intro h; first | (simp only [gOf_plF, i1, i2, bne, beq_self_eq_true, Bool.and_self, Bool.not_true, Bool.not_false, Bool.false_eq_true, Bool.true_eq_false, reduceCtorEq] at h; done) | (exfalso; revert h; decide) | clear h)
    | ((conv => whnf); with_reducible apply Both.mk))
  all_goals first
    | (with_reducible apply Ob.mk; with_reducible exact plF_ok _)
    | (with_reducible apply Ob.mk; exact ⟨rfl, rfl, rfl, rfl⟩)
    | (with_reducible apply Ob.mk; exact ⟨rfl, rfl, rfl⟩)
    | (with_reducible apply Ob.mk; refine ⟨plF_ok _, plF_ok _, ?_⟩; rw [gOf_plF]; exact k1)
    | (with_reducible apply Ob.mk; kernel_rfl)
    | (with_reducible apply Ob.mk; decide)
    | ((conv => whnf); refine ⟨?_⟩; with_reducible rfl)
    | ((conv => whnf); refine ⟨congrArg (fun v => AV.one (.bool v)) ?_⟩; decide)
    | ((conv => whnf); skip)
set_option maxRecDepth 100000 in
theorem e_piled : EntryOK Try.prog anyWorld 9 sp_piled := by
  refine .of_F C_P (by kernel_rfl) Try.func9 (by kernel_rfl) (by kernel_rfl) (fun args c v h hc => ?_)
  unfold sp_piled at h
  split at h
  · cases h
    exact ⟨rfl, rfl, piled_walk (nBytes 2#64)⟩
  · cases h
abbrev ms_4 : List (Nat × SpM) := (9, fun args _ => sp_piled args) :: ms_3
theorem C_piled : CSound Try.prog anyWorld (tabM noData tb_firewalllaw19_value ms_4) := CSound.consM C_slots_In e_piled.up

def actF (o n : Nat → BitVec 64) (k : Nat → BitVec 8) (l : Nat → Bool) (j : Nat) : List PL := [.b64 true (o j), .b64 true (n j), .b8 false (k j), .bool (l j)]
noncomputable abbrev FA : List (Nat × Func) := [(10, Try.f10)]
theorem fs_A : FsOK Try.prog FA := FsOK.cons Try.func10 (by kernel_rfl) (by kernel_rfl) (FsOK.nil)
theorem C_A : CSound Try.prog anyWorld (tabMI Try.prog noData tb_firewalllaw19_value ms_4 FA 3) := CSound.tabMI C_piled (by kernel_rfl) fs_A 3
end Go.Proofs.Ytiopddomdpoaaaa
