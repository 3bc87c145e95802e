/-
  Package slots: what its functions answer, by the evaluator. Conditions: as typed.
-/
import Derived.Test.YtiopddomdpoaaaaQm
namespace Go.Proofs.Ytiopddomdpoaaaa
open Go.Ep Go.RowKit
set_option linter.unusedVariables false
set_option linter.unusedSimpArgs false

def sp_slots_at : Sp
  | [.one (.b64 true o), .one (.b64 true n)] => some (Cond.t, .tup [(false, [.b64 true (atI o n)]), (false, [.bool (!atBad o n)])])
  | _ => none
set_option maxRecDepth 100000 in
set_option maxHeartbeats 4000000 in
theorem e_slots_at : EntryOK Try.prog anyWorld 32 sp_slots_at := by
  refine .of_F (C_firewalllaw18_At_V) (by kernel_rfl) Try.func32 (by kernel_rfl) (by kernel_rfl) (fun args c v h hc => ?_)
  unfold sp_slots_at at h
  split at h
  · rename_i o n; cases h
    refine ⟨rfl, rfl, ?_⟩
    repeat' (first
      | (with_reducible apply Given.mk; intro h; (try exact absurd h (by decide)))
      | ((conv => whnf); with_reducible apply Both.mk))
    all_goals first
      | (with_reducible apply Ob.mk; kernel_rfl)
      | (with_reducible apply Ob.mk; decide)
      | (with_reducible apply Ob.mk; simp [ByteArray.size, catB, exB, atI, atBad]; done)
      | ((conv => whnf); refine ⟨?_⟩; first | with_reducible rfl | (simp only [atI, atBad, *, Bool.true_and, Bool.and_true, Bool.false_and, Bool.and_false, Bool.true_or, Bool.or_true, Bool.false_or, Bool.or_false, Bool.not_true, Bool.not_false, Bool.false_eq_true, Bool.true_eq_false, if_true, if_false, reduceCtorEq]; done) | (simp_all [atI, atBad]; done) | rfl)
  · cases h
abbrev tb_slots_at : List (Nat × Sp) := (32, sp_slots_at) :: tb_firewalllaw18_At_V
theorem C_slots_at : CSound Try.prog anyWorld (tab noData (tb_slots_at)) := (C_firewalllaw18_At_V).cons (e_slots_at)

def sp_slots_width : Sp
  | [.one (.b64 true n)] => some (Cond.t, .one (.bool (wOk n)))
  | _ => none
set_option maxRecDepth 100000 in
set_option maxHeartbeats 4000000 in
theorem e_slots_width : EntryOK Try.prog anyWorld 33 sp_slots_width := by
  refine .of_F (C_slots_at) (by kernel_rfl) Try.func33 (by kernel_rfl) (by kernel_rfl) (fun args c v h hc => ?_)
  unfold sp_slots_width at h
  split at h
  · rename_i n; cases h
    refine ⟨rfl, rfl, ?_⟩
    repeat' (first
      | (with_reducible apply Given.mk; intro h; (try exact absurd h (by decide)))
      | ((conv => whnf); with_reducible apply Both.mk))
    all_goals first
      | (with_reducible apply Ob.mk; kernel_rfl)
      | (with_reducible apply Ob.mk; decide)
      | (with_reducible apply Ob.mk; simp [ByteArray.size, catB, exB, wOk]; done)
      | ((conv => whnf); refine ⟨?_⟩; first | with_reducible rfl | (simp only [wOk, *, Bool.true_and, Bool.and_true, Bool.false_and, Bool.and_false, Bool.true_or, Bool.or_true, Bool.false_or, Bool.or_false, Bool.not_true, Bool.not_false, Bool.false_eq_true, Bool.true_eq_false, if_true, if_false, reduceCtorEq]; done) | (simp_all [wOk]; done) | rfl)
  · cases h
abbrev tb_slots_width : List (Nat × Sp) := (33, sp_slots_width) :: tb_slots_at
theorem C_slots_width : CSound Try.prog anyWorld (tab noData (tb_slots_width)) := (C_slots_at).cons (e_slots_width)


def spSt (st : PG → BitVec 64 → BitVec 64 → VV → GE) : Sp
  | [.agg [.seg z m f], .one (.b64 true o), .one (.b64 true n), .agg [.b64 true v1, .b64 true v2, .b64 true v3, .b64 true v4, .b64 true v5, .b64 false va, .b64 false vb, .b64 false vc, .b64 false vd, .b64 true ve, .b64 true vf]] => match Nat.beq z 12, Nat.beq m 64 with
    | true, true => some (Cond.p (f = plF (gOf f)), .tup [(true, [.seg 12 64 (plF (st (gOf f) o n ⟨v1, v2, v3, v4, v5, ⟨va, vb, vc, vd, ve, vf⟩⟩).g)]), (false, [.b64 true (st (gOf f) o n ⟨v1, v2, v3, v4, v5, ⟨va, vb, vc, vd, ve, vf⟩⟩).e])])
    | _, _ => none
  | _ => none
def sp_slots_Store : Sp := spSt stR
set_option maxRecDepth 100000 in
set_option maxHeartbeats 8000000 in
theorem e_slots_Store : EntryOK Try.prog anyWorld 12 sp_slots_Store := by
  refine .of_F (C_slots_width) (by kernel_rfl) Try.func12 (by kernel_rfl) (by kernel_rfl) (fun args c v h hc => ?_)
  unfold sp_slots_Store at h
  first | unfold spSt at h | unfold spPl at h | unfold spLd at h
  split at h
  · rename_i z m f o n v1 v2 v3 v4 v5 va vb vc vd ve vf
    split at h
    · rename_i hz hm
      obtain rfl : z = 12 := by simpa using hz
      obtain rfl : m = 64 := by simpa using hm
      cases h
      refine ⟨rfl, rfl, ?_⟩
      have hf : f = plF (gOf f) := hc
      generalize gOf f = g at hf ⊢
      subst hf
      clear hc hz hm
      repeat' (first
        | (with_reducible apply Given.mk; intro h; (try exact absurd h (by decide)))
        | ((conv => whnf); first
          | with_reducible apply Both.mk
          | (obtain ⟨A, M, eA, eM, hM, hAM, _⟩ := at_ok (bad_no (by with_reducible assumption)); refine LoopP.mk (Nat × BitVec 64 × PG) (fun x => stW n.toNat (atI o n) g = stW x.1 x.2.1 x.2.2 ∧ ∃ a, x.2.1 = BitVec.ofNat 64 a ∧ a + x.1 = A + M) (fun x => mkS (Try.f12).ntmps [(0, .agg [.seg 12 64 (plF g)]), (1, .one (.b64 true o)), (2, .one (.b64 true n)), (4, .one (.ptr 4 0)), (8, .one (.ptr 8 0)), (9, .one (.b64 true 0#64)), (10, .one (.b64 true (atI o n))), (12, .one (.b64 true x.2.1))] [(8, .cells 36 [.seg 12 64 (plF gZ)]), (4, .cells 36 [.seg 12 64 (plF x.2.2)])]) (fun x => x.1) ⟨(n.toNat, atI o n, g), ⟨rfl, A, eA, by dsimp only; rw [eM, Go.Ep.toNat_ofNat (by omega)]⟩, ⟨?_, ?_, ?_, ?_, ?_⟩⟩ ?_; (focus ((repeat' ((conv => whnf); first | exact trivial | refine Both.mk (by first | with_reducible rfl | rfl) ?_)); done)); (focus ((repeat' ((conv => whnf); first | exact trivial | refine Both.mk (by first | with_reducible rfl | rfl) ?_)); done)); (focus exact rfl); (focus exact rfl); (focus exact rfl); rintro ⟨r, k, g'⟩ ⟨hw, a, ek, ha⟩; dsimp only at hw ek ha ⊢)
          | (obtain ⟨r', rfl⟩ : ∃ r', r = r' + 1 := ⟨r - 1, by have := lt_yes eA eM hAM ek (by omega) (by with_reducible assumption); omega⟩; refine ⟨(r', k + 1#64, g'.put (ixS k) (g'.b (ixS k) ||| bit8 k) vZ), ⟨hw.trans (stW_go (by with_reducible assumption)), a + 1, by dsimp only; rw [ek, Go.Ep.succ_ofNat], by dsimp only; omega⟩, Nat.lt_succ_self _, ⟨?_, ?_, ?_, ?_, ?_⟩⟩; (focus ((repeat' ((conv => whnf); first | exact trivial | refine Both.mk (by first | with_reducible rfl | rfl) ?_)); done)); (focus ((repeat' ((conv => whnf); first | exact trivial | refine Both.mk (by first | with_reducible rfl | rfl) ?_)); done)); (focus exact rfl); (focus exact rfl); (focus exact rfl))))
      all_goals first
        | (with_reducible apply Ob.mk; kernel_rfl)
        | (with_reducible apply Ob.mk; decide)
        | (with_reducible apply Ob.mk; have hlt := lt_yes eA eM hAM ek (by omega) (by with_reducible assumption); first | exact ix_ok ek (by omega) | exact (ix_ok ek (by omega)).2 | exact sh_ok ek (by omega))
        | (with_reducible apply Ob.mk; obtain ⟨A, M, eA, eM, hM, hAM, _⟩ := at_ok (bad_no (by with_reducible assumption)); first | exact ix_ok eA (by omega) | exact (ix_ok eA (by omega)).2)
        | ((conv => whnf); refine ⟨?_⟩; show AV.tup _ = _; first
          | (rw [stR_1 (g := g) (v := ⟨v1, v2, v3, v4, v5, ⟨va, vb, vc, vd, ve, vf⟩⟩) (by with_reducible assumption)]; first | done | rfl)
          | (rw [stR_2 (g := g) (o := o) (v := ⟨v1, v2, v3, v4, v5, ⟨va, vb, vc, vd, ve, vf⟩⟩) (by with_reducible assumption)]; first | done | rfl)
          | (rw [stR_3 (g := g) (v := ⟨v1, v2, v3, v4, v5, ⟨va, vb, vc, vd, ve, vf⟩⟩) (by with_reducible assumption) (by with_reducible assumption) (by with_reducible assumption)]; first | done | rfl)
          | (rw [stR_4 (g := g) (v := ⟨v1, v2, v3, v4, v5, ⟨va, vb, vc, vd, ve, vf⟩⟩) (by with_reducible assumption) (by with_reducible assumption) (by with_reducible assumption) (by with_reducible assumption) (by with_reducible assumption)]; first | done | rfl)
          | (rw [stR_5 (g := g) (v := ⟨v1, v2, v3, v4, v5, ⟨va, vb, vc, vd, ve, vf⟩⟩) (by with_reducible assumption) (by with_reducible assumption) (by with_reducible assumption) (and_1 (by with_reducible assumption)) (by with_reducible assumption)]; first | done | rfl)
          | (rw [stR_5 (g := g) (v := ⟨v1, v2, v3, v4, v5, ⟨va, vb, vc, vd, ve, vf⟩⟩) (by with_reducible assumption) (by with_reducible assumption) (by with_reducible assumption) (and_2 (by with_reducible assumption)) (by with_reducible assumption)]; first | done | rfl)
          | (obtain ⟨r', rfl⟩ : ∃ r', r = r' + 1 := ⟨r - 1, by have := lt_yes eA eM hAM ek (by omega) (by with_reducible assumption); omega⟩; rw [stR_6 (g := g) (v := ⟨v1, v2, v3, v4, v5, ⟨va, vb, vc, vd, ve, vf⟩⟩) (by with_reducible assumption) (by with_reducible assumption) (by with_reducible assumption) (and_1 (by with_reducible assumption)) (by with_reducible assumption) (hw.trans (stW_stop (by with_reducible assumption)))]; first | done | rfl)
          | (obtain rfl : r = 0 := by { have := lt_no eA eM hAM ek (by omega) (by with_reducible assumption); omega }; rw [stR_7 (g := g) (v := ⟨v1, v2, v3, v4, v5, ⟨va, vb, vc, vd, ve, vf⟩⟩) (by with_reducible assumption) (by with_reducible assumption) (by with_reducible assumption) (and_1 (by with_reducible assumption)) (by with_reducible assumption) hw]; first | done | rfl)
          | (obtain ⟨r', rfl⟩ : ∃ r', r = r' + 1 := ⟨r - 1, by have := lt_yes eA eM hAM ek (by omega) (by with_reducible assumption); omega⟩; rw [stR_6 (g := g) (v := ⟨v1, v2, v3, v4, v5, ⟨va, vb, vc, vd, ve, vf⟩⟩) (by with_reducible assumption) (by with_reducible assumption) (by with_reducible assumption) (and_2 (by with_reducible assumption)) (by with_reducible assumption) (hw.trans (stW_stop (by with_reducible assumption)))]; first | done | rfl)
          | (obtain rfl : r = 0 := by { have := lt_no eA eM hAM ek (by omega) (by with_reducible assumption); omega }; rw [stR_7 (g := g) (v := ⟨v1, v2, v3, v4, v5, ⟨va, vb, vc, vd, ve, vf⟩⟩) (by with_reducible assumption) (by with_reducible assumption) (by with_reducible assumption) (and_2 (by with_reducible assumption)) (by with_reducible assumption) hw]; first | done | rfl))
        | (obtain ⟨r', rfl⟩ : ∃ r', r = r' + 1 := ⟨r - 1, by have := lt_yes eA eM hAM ek (by omega) (by with_reducible assumption); omega⟩; refine ⟨(r', k + 1#64, g'.put (ixS k) (g'.b (ixS k) ||| bit8 k) vZ), ⟨hw.trans (stW_go (by with_reducible assumption)), a + 1, by dsimp only; rw [ek, Go.Ep.succ_ofNat], by dsimp only; omega⟩, Nat.lt_succ_self _, ⟨?_, ?_, ?_, ?_, ?_⟩⟩; (focus ((repeat' ((conv => whnf); first | exact trivial | refine Both.mk (by first | with_reducible rfl | rfl) ?_)); done)); (focus ((repeat' ((conv => whnf); first | exact trivial | refine Both.mk (by first | with_reducible rfl | rfl) ?_)); done)); skip)

    · cases h
  · cases h
abbrev tb_slots_Store : List (Nat × Sp) := (12, sp_slots_Store) :: tb_slots_width
theorem C_slots_Store : CSound Try.prog anyWorld (tab noData (tb_slots_Store)) := (C_slots_width).cons (e_slots_Store)

def spPl (pl : PG → BitVec 64 → BitVec 64 → BitVec 64) : Sp
  | [.agg [.seg z m f], .one (.b64 true o), .one (.b64 true n)] => match Nat.beq z 12, Nat.beq m 64 with
    | true, true => some (Cond.p (f = plF (gOf f)), .one (.b64 true (pl (gOf f) o n)))
    | _, _ => none
  | _ => none
def sp_slots_Plain : Sp := spPl plR
set_option maxRecDepth 100000 in
set_option maxHeartbeats 8000000 in
theorem e_slots_Plain : EntryOK Try.prog anyWorld 20 sp_slots_Plain := by
  refine .of_F (C_slots_Store) (by kernel_rfl) Try.func20 (by kernel_rfl) (by kernel_rfl) (fun args c v h hc => ?_)
  unfold sp_slots_Plain at h
  first | unfold spSt at h | unfold spPl at h | unfold spLd at h
  split at h
  · rename_i z m f o n
    split at h
    · rename_i hz hm
      obtain rfl : z = 12 := by simpa using hz
      obtain rfl : m = 64 := by simpa using hm
      cases h
      refine ⟨rfl, rfl, ?_⟩
      have hf : f = plF (gOf f) := hc
      generalize gOf f = g at hf ⊢
      subst hf
      clear hc hz hm
      repeat' (first
        | (with_reducible apply Given.mk; intro h; (try exact absurd h (by decide)))
        | ((conv => whnf); first
          | with_reducible apply Both.mk
          | (obtain ⟨A, M, eA, eM, hM, hAM, _⟩ := at_ok (bad_no (by with_reducible assumption)); refine LoopP.mk (Nat × BitVec 64) (fun x => plE n.toNat (atI o n) g = plE x.1 x.2 g ∧ ∃ a, x.2 = BitVec.ofNat 64 a ∧ a + x.1 = A + M) (fun x => mkS (Try.f20).ntmps [(0, .agg [.seg 12 64 (plF g)]), (1, .one (.b64 true o)), (2, .one (.b64 true n)), (3, .one (.ptr 3 0)), (6, .one (.b64 true 0#64)), (7, .one (.b64 true (atI o n))), (9, .one (.b64 true x.2))] [(3, .cells 36 [.seg 12 64 (plF g)])]) (fun x => x.1) ⟨(n.toNat, atI o n), ⟨rfl, A, eA, by dsimp only; rw [eM, Go.Ep.toNat_ofNat (by omega)]⟩, ⟨?_, ?_, ?_, ?_, ?_⟩⟩ ?_; (focus ((repeat' ((conv => whnf); first | exact trivial | refine Both.mk (by first | with_reducible rfl | rfl) ?_)); done)); (focus ((repeat' ((conv => whnf); first | exact trivial | refine Both.mk (by first | with_reducible rfl | rfl) ?_)); done)); (focus exact rfl); (focus exact rfl); (focus exact rfl); rintro ⟨r, k⟩ ⟨hw, a, ek, ha⟩; dsimp only at hw ek ha ⊢)
          | (obtain ⟨r', rfl⟩ : ∃ r', r = r' + 1 := ⟨r - 1, by have := lt_yes eA eM hAM ek (by omega) (by with_reducible assumption); omega⟩; refine ⟨(r', k + 1#64), ⟨hw.trans (plE_go (by with_reducible assumption) (by with_reducible assumption)), a + 1, by dsimp only; rw [ek, Go.Ep.succ_ofNat], by dsimp only; omega⟩, Nat.lt_succ_self _, ⟨?_, ?_, ?_, ?_, ?_⟩⟩; (focus ((repeat' ((conv => whnf); first | exact trivial | refine Both.mk (by first | with_reducible rfl | rfl) ?_)); done)); (focus ((repeat' ((conv => whnf); first | exact trivial | refine Both.mk (by first | with_reducible rfl | rfl) ?_)); done)); (focus exact rfl); (focus exact rfl); (focus exact rfl))))
      all_goals first
        | (with_reducible apply Ob.mk; kernel_rfl)
        | (with_reducible apply Ob.mk; decide)
        | (with_reducible apply Ob.mk; have hlt := lt_yes eA eM hAM ek (by omega) (by with_reducible assumption); first | exact ix_ok ek (by omega) | exact (ix_ok ek (by omega)).2 | exact sh_ok ek (by omega))
        | (with_reducible apply Ob.mk; obtain ⟨A, M, eA, eM, hM, hAM, _⟩ := at_ok (bad_no (by with_reducible assumption)); first | exact ix_ok eA (by omega) | exact (ix_ok eA (by omega)).2)
        | ((conv => whnf); refine ⟨?_⟩; show AV.one _ = _; first
          | (rw [plR_bad (g := g) (o := o) (n := n) (by with_reducible assumption)])
          | (obtain ⟨r', rfl⟩ : ∃ r', r = r' + 1 := ⟨r - 1, by have := lt_yes eA eM hAM ek (by omega) (by with_reducible assumption); omega⟩; rw [plR_go (g := g) (by with_reducible assumption), hw, plE_bit (by with_reducible assumption)])
          | (obtain ⟨r', rfl⟩ : ∃ r', r = r' + 1 := ⟨r - 1, by have := lt_yes eA eM hAM ek (by omega) (by with_reducible assumption); omega⟩; rw [plR_go (g := g) (by with_reducible assumption), hw, plE_pts (by with_reducible assumption) (by with_reducible assumption)])
          | (obtain rfl : r = 0 := by { have := lt_no eA eM hAM ek (by omega) (by with_reducible assumption); omega }; rw [plR_go (g := g) (by with_reducible assumption), hw]; rfl))
        | (obtain ⟨r', rfl⟩ : ∃ r', r = r' + 1 := ⟨r - 1, by have := lt_yes eA eM hAM ek (by omega) (by with_reducible assumption); omega⟩; refine ⟨(r', k + 1#64), ⟨hw.trans (plE_go (by with_reducible assumption) (by with_reducible assumption)), a + 1, by dsimp only; rw [ek, Go.Ep.succ_ofNat], by dsimp only; omega⟩, Nat.lt_succ_self _, ⟨?_, ?_, ?_, ?_, ?_⟩⟩; (focus ((repeat' ((conv => whnf); first | exact trivial | refine Both.mk (by first | with_reducible rfl | rfl) ?_)); done)); (focus ((repeat' ((conv => whnf); first | exact trivial | refine Both.mk (by first | with_reducible rfl | rfl) ?_)); done)); (focus exact rfl); (focus exact rfl); (focus exact rfl))

    · cases h
  · cases h
abbrev tb_slots_Plain : List (Nat × Sp) := (20, sp_slots_Plain) :: tb_slots_Store
theorem C_slots_Plain : CSound Try.prog anyWorld (tab noData (tb_slots_Plain)) := (C_slots_Store).cons (e_slots_Plain)

def spLd (ld : PG → BitVec 64 → BitVec 64 → VE) : Sp
  | [.agg [.seg z m f], .one (.b64 true o), .one (.b64 true n)] => match Nat.beq z 12, Nat.beq m 64 with
    | true, true => some (Cond.p (f = plF (gOf f)), .tup [(true, [.b64 true (ld (gOf f) o n).v.k, .b64 true (ld (gOf f) o n).v.mp, .b64 true (ld (gOf f) o n).v.id, .b64 true (ld (gOf f) o n).v.off, .b64 true (ld (gOf f) o n).v.su, .b64 false (ld (gOf f) o n).v.n.tv, .b64 false (ld (gOf f) o n).v.n.tm, .b64 false (ld (gOf f) o n).v.n.lo, .b64 false (ld (gOf f) o n).v.n.hi, .b64 true (ld (gOf f) o n).v.n.slo, .b64 true (ld (gOf f) o n).v.n.shi]), (false, [.b64 true (ld (gOf f) o n).e])])
    | _, _ => none
  | _ => none
def sp_slots_Load : Sp := spLd ldR
set_option maxRecDepth 100000 in
set_option maxHeartbeats 8000000 in
theorem e_slots_Load : EntryOK Try.prog anyWorld 15 sp_slots_Load := by
  refine .of_F (C_slots_Plain) (by kernel_rfl) Try.func15 (by kernel_rfl) (by kernel_rfl) (fun args c v h hc => ?_)
  unfold sp_slots_Load at h
  first | unfold spSt at h | unfold spPl at h | unfold spLd at h
  split at h
  · rename_i z m f o n
    split at h
    · rename_i hz hm
      obtain rfl : z = 12 := by simpa using hz
      obtain rfl : m = 64 := by simpa using hm
      cases h
      refine ⟨rfl, rfl, ?_⟩
      have hf : f = plF (gOf f) := hc
      generalize gOf f = g at hf ⊢
      subst hf
      clear hc hz hm
      repeat' (first
        | (with_reducible apply Given.mk; intro h; (try simp only [gOf_plF] at h); (try exact absurd h (by decide)))
        | ((conv => whnf); with_reducible apply Both.mk))
      all_goals first
        | (with_reducible apply Ob.mk; kernel_rfl)
        | (with_reducible apply Ob.mk; decide)
        | (with_reducible apply Ob.mk; rfl)
        | (with_reducible apply Ob.mk; obtain ⟨A, M, eA, eM, hM, hAM, _⟩ := at_ok (bad_no (by with_reducible assumption)); first | exact ix_ok eA (by omega) | exact (ix_ok eA (by omega)).2)
        | ((conv => whnf); refine ⟨?_⟩; show AV.tup _ = _; (try simp only [gOf_plF]); first
          | (rw [ldR_1 (g := g) (o := o) (n := n) (by with_reducible assumption)]; first | done | rfl)
          | (rw [ldR_2 (g := g) (o := o) (n := n) (by with_reducible assumption)]; first | done | rfl)
          | (rw [ldR_3 (g := g) (o := o) (n := n) (by with_reducible assumption) (by with_reducible assumption) (by with_reducible assumption) (by with_reducible assumption) (by with_reducible assumption)]; first | done | rfl)
          | (rw [ldR_4 (g := g) (o := o) (n := n) (by with_reducible assumption) (by with_reducible assumption) (ldA_1 (by with_reducible assumption)) (by with_reducible assumption)]; first | done | rfl)
          | (rw [ldR_4 (g := g) (o := o) (n := n) (by with_reducible assumption) (by with_reducible assumption) (ldA_2 (by with_reducible assumption)) (by with_reducible assumption)]; first | done | rfl)
          | (rw [ldR_4 (g := g) (o := o) (n := n) (by with_reducible assumption) (by with_reducible assumption) (ldA_3 (by with_reducible assumption)) (by with_reducible assumption)]; first | done | rfl)
          | (rw [ldR_5 (g := g) (o := o) (n := n) (by with_reducible assumption) (by with_reducible assumption) (ldA_1 (by with_reducible assumption)) (by with_reducible assumption)]; first | done | rfl)
          | (rw [ldR_5 (g := g) (o := o) (n := n) (by with_reducible assumption) (by with_reducible assumption) (ldA_2 (by with_reducible assumption)) (by with_reducible assumption)]; first | done | rfl)
          | (rw [ldR_5 (g := g) (o := o) (n := n) (by with_reducible assumption) (by with_reducible assumption) (ldA_3 (by with_reducible assumption)) (by with_reducible assumption)]; first | done | rfl))
        | ((conv => whnf); skip)

    · cases h
  · cases h
abbrev tb_slots_Load : List (Nat × Sp) := (15, sp_slots_Load) :: tb_slots_Plain
theorem C_slots_Load : CSound Try.prog anyWorld (tab noData (tb_slots_Load)) := (C_slots_Plain).cons (e_slots_Load)

end Go.Proofs.Ytiopddomdpoaaaa
