/-
  math/bits.Div64, and cpu.part, exactly: contracts. Conditions: as typed.
-/
import Derived.Test.YtppankimieopiaaDoorEf

namespace Go.Proofs.YtppankimieopiaaDoor
open Go.Ep Go.RowKit
set_option linter.unusedVariables false
set_option linter.unusedSimpArgs false
abbrev tb_LZ (m : Nat → Nat) : List (Nat × Sp) := (94, sp_LZ) :: tb_firewalllaw12_done m
theorem C_LZ (G2 : World → Prop) (D2 : VData) (k2 : DataOK Tryd.prog G2 D2) (m : Nat → Nat) : CSound Tryd.prog (and2 (GB m) (and2 (GP m) G2)) (tab (or2 (DB m) (or2 (DP m) D2)) (tb_LZ m)) := (C_firewalllaw12_done G2 D2 k2 m).cons (e_LZ G2 D2 k2 m)
def sp_D64 : Sp
  | [.one (.b64 false hi), .one (.b64 false lo), .one (.b64 false y)] => some (Cond.p (y.ule hi = false), .tup [(false, [.b64 false (dvQ hi lo y)]), (false, [.b64 false (dvR hi lo y)])])
  | _ => none
theorem dv_zero {lo y : BitVec 64} : lo / y = dvQ 0#64 lo y ∧ lo % y = dvR 0#64 lo y := by
  have e : (0#64 : BitVec 64).toNat = 0 := rfl
  refine ⟨BitVec.eq_of_toNat_eq ?_, BitVec.eq_of_toNat_eq ?_⟩
  · unfold dvQ
    rw [BitVec.toNat_udiv, BitVec.toNat_ofNat, e, Nat.zero_mul, Nat.zero_add]
    exact (Nat.mod_eq_of_lt (Nat.lt_of_le_of_lt (Nat.div_le_self _ _) lo.isLt)).symm
  · unfold dvR
    rw [BitVec.toNat_umod, BitVec.toNat_ofNat, e, Nat.zero_mul, Nat.zero_add]
    exact (Nat.mod_eq_of_lt (Nat.lt_of_le_of_lt (Nat.mod_le _ _) lo.isLt)).symm
theorem d1_ne {hi lo y : BitVec 64} (f : DvF hi lo y) : d1 y ≠ 0#64 := by
  intro e
  have h := f.H.bn
  rw [e] at h
  exact absurd h (by decide)
structure DvB (hi lo y : BitVec 64) (p : BitVec 64 × BitVec 64) : Prop where
  l : DgL (d1 y).toNat (d0 y).toNat (dU hi lo y).toNat (c1 lo y).toNat p.1.toNat p.2.toNat
structure DvC (hi lo y q1 : BitVec 64) (p : BitVec 64 × BitVec 64) : Prop where
  l : DgL (d1 y).toNat (d0 y).toNat (d21 hi lo y q1).toNat (c0 lo y).toNat p.1.toNat p.2.toNat
theorem dv_fin {hi lo y q1 q0 : BitVec 64} (f : DvF hi lo y) (h0 : y.ule hi = false) (h1 : q1.toNat = dgQ (d1 y).toNat (d0 y).toNat (dU hi lo y).toNat (c1 lo y).toNat)
    (h2 : q0.toNat = dgQ (d1 y).toNat (d0 y).toNat (d21 hi lo y q1).toNat (c0 lo y).toNat) :
    AV.tup [(false, [L.b64 false (q1 * 4294967296#64 + q0)]), (false, [L.b64 false ((d21 hi lo y q1 * 4294967296#64 + c0 lo y - q0 * dY y) >>> (lzB y).toNat)])] = AV.tup [(false, [L.b64 false (dvQ hi lo y)]), (false, [L.b64 false (dvR hi lo y)])] := by
  rw [(dv_end f h0 h1 h2).1, (dv_end f h0 h1 h2).2]
set_option maxRecDepth 100000 in
set_option maxHeartbeats 4000000 in
theorem D64_go (D2 : VData) (m : Nat → Nat) (hi lo y : BitVec 64) (hd : y.ule hi = false) : F Tryd.prog (tab (or2 (DB m) (or2 (DP m) D2)) (tb_LZ m)) Tryd.f77 [.one (.b64 false hi), .one (.b64 false lo), .one (.b64 false y)] (fun r => r = .tup [(false, [.b64 false (dvQ hi lo y)]), (false, [.b64 false (dvR hi lo y)])]) := by
  have hb := ne_b64 hd
  have hn := ne_of_lt64 hd
  have f := dv_facts (lo := lo) hd
  have hn1 := d1_ne f
  repeat' (first
    | (with_reducible apply Given.mk; intro h; (try simp only [hd, hb, Bool.true_eq_false, Bool.false_eq_true] at h))
    | ((conv => whnf); first
      | with_reducible apply Both.mk
      | ((fail_if_success (have _q := hp)); refine LoopP.mk (BitVec 64 × BitVec 64) (fun p => DvB hi lo y p) (fun p => mkS (Tryd.f77).ntmps [(0, .one (.b64 false (hi))), (1, .one (.b64 false (lo))), (2, .one (.b64 false (dY y))), (6, .one (.b64 false (0#64))), (7, .one (.b64 false (0#64))), (8, .one (.b64 false (lzB y))), (9, .one (.b64 false (d1 y))), (10, .one (.b64 false (d0 y))), (11, .one (.b64 false (dU hi lo y))), (12, .one (.b64 false (dL lo y))), (13, .one (.b64 false (c1 lo y))), (14, .one (.b64 false (c0 lo y))), (15, .one (.b64 false (p.1))), (16, .one (.b64 false (p.2)))] []) (fun p => p.1.toNat) ⟨(dU hi lo y / d1 y, dU hi lo y - dU hi lo y / d1 y * d1 y), ⟨dv_start f.H⟩, ⟨?_, ?_, ?_, ?_, ?_⟩⟩ ?_; (focus ((repeat' ((conv => whnf); first | exact trivial | refine Both.mk (by first | with_reducible rfl | exact iN_succ _ | rfl) ?_)); done)); (focus ((repeat' ((conv => whnf); first | exact trivial | refine Both.mk (by first | with_reducible rfl | exact iN_succ _ | rfl) ?_)); done)); (focus exact rfl); (focus exact rfl); (focus exact rfl); (rintro p hp))
      | ((fail_if_success (have _q := hp2)); (have _q := hp); refine (fun hq : (p.1 - 1#64).toNat = dgQ (d1 y).toNat (d0 y).toNat (dU hi lo y).toNat (c1 lo y).toNat => ?_ : _ → _) ?_; rotate_left; (focus first | (refine dv_break f.H hp.l (dv_bad1 ?_) ?_ <;> with_reducible assumption) | (refine dv_break f.H hp.l (dv_bad2 f.H hp.l ?_ ?_) ?_ <;> with_reducible assumption)); refine LoopP.mk (BitVec 64 × BitVec 64) (fun p2 => DvC hi lo y (p.1 - 1#64) p2) (fun p2 => mkS (Tryd.f77).ntmps [(0, .one (.b64 false (hi))), (1, .one (.b64 false (lo))), (2, .one (.b64 false (dY y))), (6, .one (.b64 false (0#64))), (7, .one (.b64 false (0#64))), (8, .one (.b64 false (lzB y))), (9, .one (.b64 false (d1 y))), (10, .one (.b64 false (d0 y))), (11, .one (.b64 false (dU hi lo y))), (12, .one (.b64 false (dL lo y))), (13, .one (.b64 false (c1 lo y))), (14, .one (.b64 false (c0 lo y))), (15, .one (.b64 false (p.1 - 1#64))), (16, .one (.b64 false (p2.2))), (17, .one (.b64 false (d21 hi lo y (p.1 - 1#64)))), (18, .one (.b64 false (p2.1)))] []) (fun p2 => p2.1.toNat) ⟨(d21 hi lo y (p.1 - 1#64) / d1 y, d21 hi lo y (p.1 - 1#64) - d21 hi lo y (p.1 - 1#64) / d1 y * d1 y), ⟨dv_start (dv_21 f hq).2⟩, ⟨?_, ?_, ?_, ?_, ?_⟩⟩ ?_; (focus ((repeat' ((conv => whnf); first | exact trivial | refine Both.mk (by first | with_reducible rfl | exact iN_succ _ | rfl) ?_)); done)); (focus ((repeat' ((conv => whnf); first | exact trivial | refine Both.mk (by first | with_reducible rfl | exact iN_succ _ | rfl) ?_)); done)); (focus exact rfl); (focus exact rfl); (focus exact rfl); (rintro p2 hp2))
      | ((fail_if_success (have _q := hp2)); (have _q := hp); refine (fun hq : p.1.toNat = dgQ (d1 y).toNat (d0 y).toNat (dU hi lo y).toNat (c1 lo y).toNat => ?_ : _ → _) ?_; rotate_left; (focus (refine dv_good f.H hp.l ?_ ?_ <;> with_reducible assumption)); refine LoopP.mk (BitVec 64 × BitVec 64) (fun p2 => DvC hi lo y (p.1) p2) (fun p2 => mkS (Tryd.f77).ntmps [(0, .one (.b64 false (hi))), (1, .one (.b64 false (lo))), (2, .one (.b64 false (dY y))), (6, .one (.b64 false (0#64))), (7, .one (.b64 false (0#64))), (8, .one (.b64 false (lzB y))), (9, .one (.b64 false (d1 y))), (10, .one (.b64 false (d0 y))), (11, .one (.b64 false (dU hi lo y))), (12, .one (.b64 false (dL lo y))), (13, .one (.b64 false (c1 lo y))), (14, .one (.b64 false (c0 lo y))), (15, .one (.b64 false (p.1))), (16, .one (.b64 false (p2.2))), (17, .one (.b64 false (d21 hi lo y (p.1)))), (18, .one (.b64 false (p2.1)))] []) (fun p2 => p2.1.toNat) ⟨(d21 hi lo y (p.1) / d1 y, d21 hi lo y (p.1) - d21 hi lo y (p.1) / d1 y * d1 y), ⟨dv_start (dv_21 f hq).2⟩, ⟨?_, ?_, ?_, ?_, ?_⟩⟩ ?_; (focus ((repeat' ((conv => whnf); first | exact trivial | refine Both.mk (by first | with_reducible rfl | exact iN_succ _ | rfl) ?_)); done)); (focus ((repeat' ((conv => whnf); first | exact trivial | refine Both.mk (by first | with_reducible rfl | exact iN_succ _ | rfl) ?_)); done)); (focus exact rfl); (focus exact rfl); (focus exact rfl); (rintro p2 hp2))))
  all_goals first
    | (with_reducible apply Ob.mk; kernel_rfl)
    | (with_reducible apply Ob.mk; decide)
    | ((with_reducible apply Ob.mk); exact hn)
    | ((with_reducible apply Ob.mk); exact hn1)
    | ((have _q := hp2); (conv => whnf); refine ⟨(p2.1 - 1#64, p2.2 + d1 y), ?_, ?_, ⟨?_, ?_, ?_, ?_, ?_⟩⟩; (focus (refine ⟨?_⟩; first | (refine dv_next (dv_21 f hq).2 hp2.l (dv_bad1 ?_) ?_ <;> with_reducible assumption) | (refine dv_next (dv_21 f hq).2 hp2.l (dv_bad2 (dv_21 f hq).2 hp2.l ?_ ?_) ?_ <;> with_reducible assumption))); (focus (first | (refine (dv_dec (dv_21 f hq).2 hp2.l (dv_bad1 ?_)).2.2 <;> with_reducible assumption) | (refine (dv_dec (dv_21 f hq).2 hp2.l (dv_bad2 (dv_21 f hq).2 hp2.l ?_ ?_)).2.2 <;> with_reducible assumption))); (focus ((repeat' ((conv => whnf); first | exact trivial | refine Both.mk (by first | with_reducible rfl | exact iN_succ _ | rfl) ?_)); done)); (focus ((repeat' ((conv => whnf); first | exact trivial | refine Both.mk (by first | with_reducible rfl | exact iN_succ _ | rfl) ?_)); done)); (focus exact rfl); (focus exact rfl); (focus exact rfl))
    | ((fail_if_success (have _q := hp2)); (have _q := hp); (conv => whnf); refine ⟨(p.1 - 1#64, p.2 + d1 y), ?_, ?_, ⟨?_, ?_, ?_, ?_, ?_⟩⟩; (focus (refine ⟨?_⟩; first | (refine dv_next f.H hp.l (dv_bad1 ?_) ?_ <;> with_reducible assumption) | (refine dv_next f.H hp.l (dv_bad2 f.H hp.l ?_ ?_) ?_ <;> with_reducible assumption))); (focus (first | (refine (dv_dec f.H hp.l (dv_bad1 ?_)).2.2 <;> with_reducible assumption) | (refine (dv_dec f.H hp.l (dv_bad2 f.H hp.l ?_ ?_)).2.2 <;> with_reducible assumption))); (focus ((repeat' ((conv => whnf); first | exact trivial | refine Both.mk (by first | with_reducible rfl | exact iN_succ _ | rfl) ?_)); done)); (focus ((repeat' ((conv => whnf); first | exact trivial | refine Both.mk (by first | with_reducible rfl | exact iN_succ _ | rfl) ?_)); done)); (focus exact rfl); (focus exact rfl); (focus exact rfl))
    | ((have _q := hp2); (conv => whnf); refine ⟨?_⟩; first
      | (refine dv_fin (q0 := p2.1 - 1#64) f hd hq ?_; (first | (refine dv_break (dv_21 f hq).2 hp2.l (dv_bad1 ?_) ?_ <;> with_reducible assumption) | (refine dv_break (dv_21 f hq).2 hp2.l (dv_bad2 (dv_21 f hq).2 hp2.l ?_ ?_) ?_ <;> with_reducible assumption)))
      | (refine dv_fin (q0 := p2.1) f hd hq ?_; (refine dv_good (dv_21 f hq).2 hp2.l ?_ ?_ <;> with_reducible assumption)))
    | ((conv => whnf); refine ⟨?_⟩; (obtain rfl : hi = 0#64 := by simpa using h); rw [(dv_zero (lo := lo) (y := y)).1, (dv_zero (lo := lo) (y := y)).2])
    | ((conv => whnf); skip)
set_option maxRecDepth 100000 in
theorem e_D64 (G2 : World → Prop) (D2 : VData) (k2 : DataOK Tryd.prog G2 D2) (m : Nat → Nat) : EntryOK Tryd.prog (and2 (GB m) (and2 (GP m) G2)) 77 sp_D64 := by
  refine .of_F (C_LZ G2 D2 k2 m) (by kernel_rfl) Tryd.func77 (by kernel_rfl) (by kernel_rfl) (fun args c v h hc => ?_)
  unfold sp_D64 at h
  split at h
  · rename_i hi lo y; cases h
    exact ⟨rfl, rfl, D64_go D2 m hi lo y hc⟩
  · cases h
abbrev tb_D64 (m : Nat → Nat) : List (Nat × Sp) := (77, sp_D64) :: tb_LZ m
theorem C_D64 (G2 : World → Prop) (D2 : VData) (k2 : DataOK Tryd.prog G2 D2) (m : Nat → Nat) : CSound Tryd.prog (and2 (GB m) (and2 (GP m) G2)) (tab (or2 (DB m) (or2 (DP m) D2)) (tb_D64 m)) := (C_LZ G2 D2 k2 m).cons (e_D64 G2 D2 k2 m)
end Go.Proofs.YtppankimieopiaaDoor
