/-
  Chapter 20: the laws FramesSure and FramesFound, as the evaluator leaves them. Conditions: as typed.
-/
import Derived.Test.YtiopddomdpoaaaaRf
namespace Go.Proofs.Ytiopddomdpoaaaa
open Go.Ep Go.RowKit
set_option linter.unusedVariables false
set_option linter.unusedSimpArgs false
def eqVV (a b : VV) : Bool := (a.k == b.k && (a.mp == b.mp && (a.id == b.id && (a.off == b.off && (a.su == b.su && (a.n.tv == b.n.tv && a.n.tm == b.n.tm && (a.n.lo == b.n.lo && (a.n.hi == b.n.hi && (a.n.slo == b.n.slo && a.n.shi == b.n.shi)))))))))
theorem neVV {a b : VV} (h : a = b) : (!eqVV a b) = false := by subst h; simp [eqVV]
theorem turned {t : VV → VV} {r : RG} {g : PG} {k : Nat} (h : k < 75) {v : VV} (hv : t ((allR r g).v (min (BitVec.ofNat 64 k).toNat (75 - 1))) = v) : (allR (mapR t r) (mapP t g)).v (min (BitVec.ofNat 64 k).toNat (75 - 1)) = v := by
  rw [← hv]; exact allR_map (by omega)
theorem ltK {k : Nat} (hk : k ≤ 75) (h : (BitVec.ofNat 64 k).slt 75#64 = true) : k < 75 := lt_i hk (by decide) h
theorem ixK {k : Nat} (hk : k ≤ 75) (h : (BitVec.ofNat 64 k).slt 75#64 = true) : 0 ≤ (BitVec.ofNat 64 k).toInt ∧ (BitVec.ofNat 64 k).toNat < 75 := ix_i (ltK hk h) (by decide)
theorem fk_k {id : BitVec 64} {is : Bool} {v : VV} (h : (v.k == 6#64) = false) : foundV id is v = v := found_k (by rw [bne, h]; rfl)
theorem fk_d {id : BitVec 64} {is : Bool} {v : VV} (h : (v.id == id) = false) : foundV id is v = v := found_d (by rw [bne, h]; rfl)
theorem fk_y {id : BitVec 64} {is : Bool} {v : VV} (h : (v.k == 6#64) = true) (h' : (v.id == id) = true) (hs : is = true) : foundV id is v = ⟨5#64, v.mp, 0#64, v.off, v.su, v.n⟩ := found_y (by rw [bne, h]; rfl) (by rw [bne, h']; rfl) hs
theorem fk_n {id : BitVec 64} {is : Bool} {v : VV} (h : (v.k == 6#64) = true) (h' : (v.id == id) = true) (hs : is = false) : foundV id is v = vNum (nConst 0#64) := found_n (by rw [bne, h]; rfl) (by rw [bne, h']; rfl) hs
set_option maxRecDepth 100000 in
set_option maxHeartbeats 8000000 in
theorem Sure_main (id : BitVec 64) (many : BitVec 16) (T : TypeId) (len cap : Nat) (hl : len < 9223372036854775808) (x : AT) :
    FI Try.prog (withMk (tabM noData tb_20 ms_20) ks_20) Try.f7 1 [.one (.slc 0 0 len cap), .one (.b64 true id), .one (.b16 false many)] [(0, .ro T [.seg 11 len (atF x)])] (fun r _ => r = .one (.bool true)) := by
  repeat' (first
    | (with_reducible apply Given.mk; intro h; (try exact absurd h (by decide)); (try ((have _q := hK); simp only [*, reduceCtorEq] at h)))
    | ((conv => whnf); first
      | with_reducible apply Both.mk
      | ((fail_if_success (have _q := hK)); refine LoopP.mk (Nat) (fun y => y ≤ 75) (fun y => mkS (Try.f7).ntmps [(0, .one (.slc 0 0 len cap)), (1, .one (.b64 true id)), (2, .one (.b16 false many)), (8, .one (.rsl 20 75)), (9, .one (.rsl 26 75)), (10, iN y)] [(26, .row 32 11 75 (rowA (allR (mapR (sureV id (BitVec.setWidth 64 many)) (frR x len)) (mapP (sureV id (BitVec.setWidth 64 many)) (frP x len))) 75)), (20, .row 32 11 75 (rowA (allR (frR x len) (frP x len)) 75)), (0, .ro T [.seg 11 len (atF x)])]) (fun y => 75 - y) ⟨0, Nat.zero_le _, ⟨?_, ?_, ?_, ?_, ?_⟩⟩ ?_; (focus ((repeat' ((conv => whnf); first | exact trivial | refine Both.mk (by first | with_reducible rfl | exact iN_succ _ | rfl) ?_)); done)); (focus ((repeat' ((conv => whnf); first | exact trivial | refine Both.mk (by first | with_reducible rfl | exact iN_succ _ | rfl) ?_)); done)); (focus exact rfl); (focus exact rfl); (focus exact rfl); rintro k hK; dsimp only at hK ⊢)
      | (((have _q := hK); have hlt := ltK hK (by with_reducible assumption); refine ⟨k + 1, ?_, ?_, ⟨?_, ?_, ?_, ?_, ?_⟩⟩; (focus (exact hlt; done)); (focus ((try dsimp only); omega; done)); (focus ((repeat' ((conv => whnf); first | exact trivial | refine Both.mk (by first | with_reducible rfl | exact iN_succ _ | rfl) ?_)); done)); (focus ((repeat' ((conv => whnf); first | exact trivial | refine Both.mk (by first | with_reducible rfl | exact iN_succ _ | rfl) ?_)); done)); (focus exact rfl); (focus exact rfl); (focus exact rfl)))))
  all_goals first
    | (with_reducible apply Ob.mk; kernel_rfl)
    | (with_reducible apply Ob.mk; decide)
    | ((with_reducible apply Ob.mk); exact hl)
    | ((with_reducible apply Ob.mk); exact ⟨Nat.le_refl _, hl, .inr rfl⟩)
    | ((with_reducible apply Ob.mk); exact ⟨rgF_ok _, plF_ok _⟩)
    | ((with_reducible apply Ob.mk); exact ixK hK (by with_reducible assumption))
    | ((with_reducible apply Ob.mk); exact (ixK hK (by with_reducible assumption)).2)
    | ((conv => whnf); exfalso; first | exact absurd ((neVV (turned (t := sureV id (BitVec.setWidth 64 many)) (r := (frR x len)) (g := (frP x len)) (ltK hK (by with_reducible assumption)) (sure_y (v := (allR (frR x len) (frP x len)).v (min (BitVec.ofNat 64 k).toNat (75 - 1))) (by assumption) (by assumption)))).symm.trans h) (by decide) | exact absurd ((neVV (turned (t := sureV id (BitVec.setWidth 64 many)) (r := (frR x len)) (g := (frP x len)) (ltK hK (by with_reducible assumption)) (sure_k (v := (allR (frR x len) (frP x len)).v (min (BitVec.ofNat 64 k).toNat (75 - 1))) (by assumption)))).symm.trans h) (by decide) | exact absurd ((neVV (turned (t := sureV id (BitVec.setWidth 64 many)) (r := (frR x len)) (g := (frP x len)) (ltK hK (by with_reducible assumption)) (sure_d (v := (allR (frR x len) (frP x len)).v (min (BitVec.ofNat 64 k).toNat (75 - 1))) (by assumption)))).symm.trans h) (by decide))
    | (with_reducible apply Ob.mk; skip)
    | ((conv => whnf); skip)
set_option maxRecDepth 100000 in
set_option maxHeartbeats 8000000 in
theorem Sure_main0 (id : BitVec 64) (many : BitVec 16) (ad : Option Addr) (cap : Nat) :
    FI Try.prog (withMk (tabM noData tb_20 ms_20) ks_20) Try.f7 1 [.one (.raw (.slice ad 0 cap)), .one (.b64 true id), .one (.b16 false many)] [] (fun r _ => r = .one (.bool true)) := by
  repeat' (first
    | (with_reducible apply Given.mk; intro h; (try exact absurd h (by decide)); (try ((have _q := hK); simp only [*, reduceCtorEq] at h)))
    | ((conv => whnf); first
      | with_reducible apply Both.mk
      | ((fail_if_success (have _q := hK)); refine LoopP.mk (Nat) (fun y => y ≤ 75) (fun y => mkS (Try.f7).ntmps [(0, .one (.raw (.slice ad 0 cap))), (1, .one (.b64 true id)), (2, .one (.b16 false many)), (8, .one (.rsl 20 75)), (9, .one (.rsl 26 75)), (10, iN y)] [(26, .row 32 11 75 (rowA (allR (mapR (sureV id (BitVec.setWidth 64 many)) rZ) (mapP (sureV id (BitVec.setWidth 64 many)) gZ)) 75)), (20, .row 32 11 75 (rowA (allR rZ gZ) 75))]) (fun y => 75 - y) ⟨0, Nat.zero_le _, ⟨?_, ?_, ?_, ?_, ?_⟩⟩ ?_; (focus ((repeat' ((conv => whnf); first | exact trivial | refine Both.mk (by first | with_reducible rfl | exact iN_succ _ | rfl | exact congrArg (Blk.row 32 11 75) (by rw [rOf_rgF, gOf_plF, rOf_rgF, gOf_plF, frR_0, frP_0]) | exact congrArg (Blk.row 32 11 75) (by rw [rOf_rgF, gOf_plF, frR_0, frP_0])) ?_)); done)); (focus ((repeat' ((conv => whnf); first | exact trivial | refine Both.mk (by first | with_reducible rfl | exact iN_succ _ | rfl | exact congrArg (Blk.row 32 11 75) (by rw [rOf_rgF, gOf_plF, rOf_rgF, gOf_plF, frR_0, frP_0]) | exact congrArg (Blk.row 32 11 75) (by rw [rOf_rgF, gOf_plF, frR_0, frP_0])) ?_)); done)); (focus exact rfl); (focus exact rfl); (focus exact rfl); rintro k hK; dsimp only at hK ⊢)
      | (((have _q := hK); have hlt := ltK hK (by with_reducible assumption); refine ⟨k + 1, ?_, ?_, ⟨?_, ?_, ?_, ?_, ?_⟩⟩; (focus (exact hlt; done)); (focus ((try dsimp only); omega; done)); (focus ((repeat' ((conv => whnf); first | exact trivial | refine Both.mk (by first | with_reducible rfl | exact iN_succ _ | rfl) ?_)); done)); (focus ((repeat' ((conv => whnf); first | exact trivial | refine Both.mk (by first | with_reducible rfl | exact iN_succ _ | rfl) ?_)); done)); (focus exact rfl); (focus exact rfl); (focus exact rfl)))))
  all_goals first
    | (with_reducible apply Ob.mk; kernel_rfl)
    | (with_reducible apply Ob.mk; decide)
    | ((with_reducible apply Ob.mk); exact ⟨by decide, .inl rfl⟩)
    | ((with_reducible apply Ob.mk); exact ⟨rgF_ok _, plF_ok _⟩)
    | ((with_reducible apply Ob.mk); exact ixK hK (by with_reducible assumption))
    | ((with_reducible apply Ob.mk); exact (ixK hK (by with_reducible assumption)).2)
    | ((conv => whnf); exfalso; first | exact absurd ((neVV (turned (t := sureV id (BitVec.setWidth 64 many)) (r := rZ) (g := gZ) (ltK hK (by with_reducible assumption)) (sure_y (v := (allR rZ gZ).v (min (BitVec.ofNat 64 k).toNat (75 - 1))) (by assumption) (by assumption)))).symm.trans h) (by decide) | exact absurd ((neVV (turned (t := sureV id (BitVec.setWidth 64 many)) (r := rZ) (g := gZ) (ltK hK (by with_reducible assumption)) (sure_k (v := (allR rZ gZ).v (min (BitVec.ofNat 64 k).toNat (75 - 1))) (by assumption)))).symm.trans h) (by decide) | exact absurd ((neVV (turned (t := sureV id (BitVec.setWidth 64 many)) (r := rZ) (g := gZ) (ltK hK (by with_reducible assumption)) (sure_d (v := (allR rZ gZ).v (min (BitVec.ofNat 64 k).toNat (75 - 1))) (by assumption)))).symm.trans h) (by decide))
    | (with_reducible apply Ob.mk; skip)
    | ((conv => whnf); skip)
set_option maxRecDepth 100000 in
set_option maxHeartbeats 8000000 in
theorem FoundT_main (id : BitVec 64) (T : TypeId) (len cap : Nat) (hl : len < 9223372036854775808) (x : AT) :
    FI Try.prog (withMk (tabM noData tb_20 ms_20) ks_20) Try.f8 1 [.one (.slc 0 0 len cap), .one (.b64 true id), .one (.bool true)] [(0, .ro T [.seg 11 len (atF x)])] (fun r _ => r = .one (.bool true)) := by
  repeat' (first
    | (with_reducible apply Given.mk; intro h; (try exact absurd h (by decide)); (try ((have _q := hK); simp only [*, reduceCtorEq] at h)))
    | ((conv => whnf); first
      | with_reducible apply Both.mk
      | ((fail_if_success (have _q := hK)); refine LoopP.mk (Nat) (fun y => y ≤ 75) (fun y => mkS (Try.f8).ntmps [(0, .one (.slc 0 0 len cap)), (1, .one (.b64 true id)), (2, .one (.bool true)), (8, .one (.rsl 20 75)), (9, .one (.rsl 25 75)), (10, iN y)] [(25, .row 32 11 75 (rowA (allR (mapR (foundV id true) (frR x len)) (mapP (foundV id true) (frP x len))) 75)), (20, .row 32 11 75 (rowA (allR (frR x len) (frP x len)) 75)), (0, .ro T [.seg 11 len (atF x)])]) (fun y => 75 - y) ⟨0, Nat.zero_le _, ⟨?_, ?_, ?_, ?_, ?_⟩⟩ ?_; (focus ((repeat' ((conv => whnf); first | exact trivial | refine Both.mk (by first | with_reducible rfl | exact iN_succ _ | rfl) ?_)); done)); (focus ((repeat' ((conv => whnf); first | exact trivial | refine Both.mk (by first | with_reducible rfl | exact iN_succ _ | rfl) ?_)); done)); (focus exact rfl); (focus exact rfl); (focus exact rfl); rintro k hK; dsimp only at hK ⊢)
      | (((have _q := hK); have hlt := ltK hK (by with_reducible assumption); refine ⟨k + 1, ?_, ?_, ⟨?_, ?_, ?_, ?_, ?_⟩⟩; (focus (exact hlt; done)); (focus ((try dsimp only); omega; done)); (focus ((repeat' ((conv => whnf); first | exact trivial | refine Both.mk (by first | with_reducible rfl | exact iN_succ _ | rfl) ?_)); done)); (focus ((repeat' ((conv => whnf); first | exact trivial | refine Both.mk (by first | with_reducible rfl | exact iN_succ _ | rfl) ?_)); done)); (focus exact rfl); (focus exact rfl); (focus exact rfl)))))
  all_goals first
    | (with_reducible apply Ob.mk; kernel_rfl)
    | (with_reducible apply Ob.mk; decide)
    | ((with_reducible apply Ob.mk); exact hl)
    | ((with_reducible apply Ob.mk); exact ⟨Nat.le_refl _, hl, .inr rfl⟩)
    | ((with_reducible apply Ob.mk); exact ⟨rgF_ok _, plF_ok _⟩)
    | ((with_reducible apply Ob.mk); exact ixK hK (by with_reducible assumption))
    | ((with_reducible apply Ob.mk); exact (ixK hK (by with_reducible assumption)).2)
    | ((conv => whnf); exfalso; first | exact absurd ((neVV (turned (t := foundV id true) (r := (frR x len)) (g := (frP x len)) (ltK hK (by with_reducible assumption)) (fk_y (v := (allR (frR x len) (frP x len)).v (min (BitVec.ofNat 64 k).toNat (75 - 1))) (by assumption) (by assumption) rfl))).symm.trans h) (by decide) | exact absurd ((neVV (turned (t := foundV id true) (r := (frR x len)) (g := (frP x len)) (ltK hK (by with_reducible assumption)) (fk_k (v := (allR (frR x len) (frP x len)).v (min (BitVec.ofNat 64 k).toNat (75 - 1))) (by assumption)))).symm.trans h) (by decide) | exact absurd ((neVV (turned (t := foundV id true) (r := (frR x len)) (g := (frP x len)) (ltK hK (by with_reducible assumption)) (fk_d (v := (allR (frR x len) (frP x len)).v (min (BitVec.ofNat 64 k).toNat (75 - 1))) (by assumption)))).symm.trans h) (by decide))
    | (with_reducible apply Ob.mk; skip)
    | ((conv => whnf); skip)
set_option maxRecDepth 100000 in
set_option maxHeartbeats 8000000 in
theorem FoundT_main0 (id : BitVec 64) (ad : Option Addr) (cap : Nat) :
    FI Try.prog (withMk (tabM noData tb_20 ms_20) ks_20) Try.f8 1 [.one (.raw (.slice ad 0 cap)), .one (.b64 true id), .one (.bool true)] [] (fun r _ => r = .one (.bool true)) := by
  repeat' (first
    | (with_reducible apply Given.mk; intro h; (try exact absurd h (by decide)); (try ((have _q := hK); simp only [*, reduceCtorEq] at h)))
    | ((conv => whnf); first
      | with_reducible apply Both.mk
      | ((fail_if_success (have _q := hK)); refine LoopP.mk (Nat) (fun y => y ≤ 75) (fun y => mkS (Try.f8).ntmps [(0, .one (.raw (.slice ad 0 cap))), (1, .one (.b64 true id)), (2, .one (.bool true)), (8, .one (.rsl 20 75)), (9, .one (.rsl 25 75)), (10, iN y)] [(25, .row 32 11 75 (rowA (allR (mapR (foundV id true) rZ) (mapP (foundV id true) gZ)) 75)), (20, .row 32 11 75 (rowA (allR rZ gZ) 75))]) (fun y => 75 - y) ⟨0, Nat.zero_le _, ⟨?_, ?_, ?_, ?_, ?_⟩⟩ ?_; (focus ((repeat' ((conv => whnf); first | exact trivial | refine Both.mk (by first | with_reducible rfl | exact iN_succ _ | rfl | exact congrArg (Blk.row 32 11 75) (by rw [rOf_rgF, gOf_plF, rOf_rgF, gOf_plF, frR_0, frP_0]) | exact congrArg (Blk.row 32 11 75) (by rw [rOf_rgF, gOf_plF, frR_0, frP_0])) ?_)); done)); (focus ((repeat' ((conv => whnf); first | exact trivial | refine Both.mk (by first | with_reducible rfl | exact iN_succ _ | rfl | exact congrArg (Blk.row 32 11 75) (by rw [rOf_rgF, gOf_plF, rOf_rgF, gOf_plF, frR_0, frP_0]) | exact congrArg (Blk.row 32 11 75) (by rw [rOf_rgF, gOf_plF, frR_0, frP_0])) ?_)); done)); (focus exact rfl); (focus exact rfl); (focus exact rfl); rintro k hK; dsimp only at hK ⊢)
      | (((have _q := hK); have hlt := ltK hK (by with_reducible assumption); refine ⟨k + 1, ?_, ?_, ⟨?_, ?_, ?_, ?_, ?_⟩⟩; (focus (exact hlt; done)); (focus ((try dsimp only); omega; done)); (focus ((repeat' ((conv => whnf); first | exact trivial | refine Both.mk (by first | with_reducible rfl | exact iN_succ _ | rfl) ?_)); done)); (focus ((repeat' ((conv => whnf); first | exact trivial | refine Both.mk (by first | with_reducible rfl | exact iN_succ _ | rfl) ?_)); done)); (focus exact rfl); (focus exact rfl); (focus exact rfl)))))
  all_goals first
    | (with_reducible apply Ob.mk; kernel_rfl)
    | (with_reducible apply Ob.mk; decide)
    | ((with_reducible apply Ob.mk); exact ⟨by decide, .inl rfl⟩)
    | ((with_reducible apply Ob.mk); exact ⟨rgF_ok _, plF_ok _⟩)
    | ((with_reducible apply Ob.mk); exact ixK hK (by with_reducible assumption))
    | ((with_reducible apply Ob.mk); exact (ixK hK (by with_reducible assumption)).2)
    | ((conv => whnf); exfalso; first | exact absurd ((neVV (turned (t := foundV id true) (r := rZ) (g := gZ) (ltK hK (by with_reducible assumption)) (fk_y (v := (allR rZ gZ).v (min (BitVec.ofNat 64 k).toNat (75 - 1))) (by assumption) (by assumption) rfl))).symm.trans h) (by decide) | exact absurd ((neVV (turned (t := foundV id true) (r := rZ) (g := gZ) (ltK hK (by with_reducible assumption)) (fk_k (v := (allR rZ gZ).v (min (BitVec.ofNat 64 k).toNat (75 - 1))) (by assumption)))).symm.trans h) (by decide) | exact absurd ((neVV (turned (t := foundV id true) (r := rZ) (g := gZ) (ltK hK (by with_reducible assumption)) (fk_d (v := (allR rZ gZ).v (min (BitVec.ofNat 64 k).toNat (75 - 1))) (by assumption)))).symm.trans h) (by decide))
    | (with_reducible apply Ob.mk; skip)
    | ((conv => whnf); skip)
set_option maxRecDepth 100000 in
set_option maxHeartbeats 8000000 in
theorem FoundF_main (id : BitVec 64) (T : TypeId) (len cap : Nat) (hl : len < 9223372036854775808) (x : AT) :
    FI Try.prog (withMk (tabM noData tb_20 ms_20) ks_20) Try.f8 1 [.one (.slc 0 0 len cap), .one (.b64 true id), .one (.bool false)] [(0, .ro T [.seg 11 len (atF x)])] (fun r _ => r = .one (.bool true)) := by
  repeat' (first
    | (with_reducible apply Given.mk; intro h; (try exact absurd h (by decide)); (try ((have _q := hK); simp only [*, reduceCtorEq] at h)))
    | ((conv => whnf); first
      | with_reducible apply Both.mk
      | ((fail_if_success (have _q := hK)); refine LoopP.mk (Nat) (fun y => y ≤ 75) (fun y => mkS (Try.f8).ntmps [(0, .one (.slc 0 0 len cap)), (1, .one (.b64 true id)), (2, .one (.bool false)), (8, .one (.rsl 20 75)), (9, .one (.rsl 25 75)), (10, iN y)] [(25, .row 32 11 75 (rowA (allR (mapR (foundV id false) (frR x len)) (mapP (foundV id false) (frP x len))) 75)), (20, .row 32 11 75 (rowA (allR (frR x len) (frP x len)) 75)), (0, .ro T [.seg 11 len (atF x)])]) (fun y => 75 - y) ⟨0, Nat.zero_le _, ⟨?_, ?_, ?_, ?_, ?_⟩⟩ ?_; (focus ((repeat' ((conv => whnf); first | exact trivial | refine Both.mk (by first | with_reducible rfl | exact iN_succ _ | rfl) ?_)); done)); (focus ((repeat' ((conv => whnf); first | exact trivial | refine Both.mk (by first | with_reducible rfl | exact iN_succ _ | rfl) ?_)); done)); (focus exact rfl); (focus exact rfl); (focus exact rfl); rintro k hK; dsimp only at hK ⊢)
      | (((have _q := hK); have hlt := ltK hK (by with_reducible assumption); refine ⟨k + 1, ?_, ?_, ⟨?_, ?_, ?_, ?_, ?_⟩⟩; (focus (exact hlt; done)); (focus ((try dsimp only); omega; done)); (focus ((repeat' ((conv => whnf); first | exact trivial | refine Both.mk (by first | with_reducible rfl | exact iN_succ _ | rfl) ?_)); done)); (focus ((repeat' ((conv => whnf); first | exact trivial | refine Both.mk (by first | with_reducible rfl | exact iN_succ _ | rfl) ?_)); done)); (focus exact rfl); (focus exact rfl); (focus exact rfl)))))
  all_goals first
    | (with_reducible apply Ob.mk; kernel_rfl)
    | (with_reducible apply Ob.mk; decide)
    | ((with_reducible apply Ob.mk); exact hl)
    | ((with_reducible apply Ob.mk); exact ⟨Nat.le_refl _, hl, .inr rfl⟩)
    | ((with_reducible apply Ob.mk); exact ⟨rgF_ok _, plF_ok _⟩)
    | ((with_reducible apply Ob.mk); exact ixK hK (by with_reducible assumption))
    | ((with_reducible apply Ob.mk); exact (ixK hK (by with_reducible assumption)).2)
    | ((conv => whnf); exfalso; first | exact absurd ((neVV (turned (t := foundV id false) (r := (frR x len)) (g := (frP x len)) (ltK hK (by with_reducible assumption)) (fk_n (v := (allR (frR x len) (frP x len)).v (min (BitVec.ofNat 64 k).toNat (75 - 1))) (by assumption) (by assumption) rfl))).symm.trans h) (by decide) | exact absurd ((neVV (turned (t := foundV id false) (r := (frR x len)) (g := (frP x len)) (ltK hK (by with_reducible assumption)) (fk_k (v := (allR (frR x len) (frP x len)).v (min (BitVec.ofNat 64 k).toNat (75 - 1))) (by assumption)))).symm.trans h) (by decide) | exact absurd ((neVV (turned (t := foundV id false) (r := (frR x len)) (g := (frP x len)) (ltK hK (by with_reducible assumption)) (fk_d (v := (allR (frR x len) (frP x len)).v (min (BitVec.ofNat 64 k).toNat (75 - 1))) (by assumption)))).symm.trans h) (by decide))
    | (with_reducible apply Ob.mk; skip)
    | ((conv => whnf); skip)
set_option maxRecDepth 100000 in
set_option maxHeartbeats 8000000 in
theorem FoundF_main0 (id : BitVec 64) (ad : Option Addr) (cap : Nat) :
    FI Try.prog (withMk (tabM noData tb_20 ms_20) ks_20) Try.f8 1 [.one (.raw (.slice ad 0 cap)), .one (.b64 true id), .one (.bool false)] [] (fun r _ => r = .one (.bool true)) := by
  repeat' (first
    | (with_reducible apply Given.mk; intro h; (try exact absurd h (by decide)); (try ((have _q := hK); simp only [*, reduceCtorEq] at h)))
    | ((conv => whnf); first
      | with_reducible apply Both.mk
      | ((fail_if_success (have _q := hK)); refine LoopP.mk (Nat) (fun y => y ≤ 75) (fun y => mkS (Try.f8).ntmps [(0, .one (.raw (.slice ad 0 cap))), (1, .one (.b64 true id)), (2, .one (.bool false)), (8, .one (.rsl 20 75)), (9, .one (.rsl 25 75)), (10, iN y)] [(25, .row 32 11 75 (rowA (allR (mapR (foundV id false) rZ) (mapP (foundV id false) gZ)) 75)), (20, .row 32 11 75 (rowA (allR rZ gZ) 75))]) (fun y => 75 - y) ⟨0, Nat.zero_le _, ⟨?_, ?_, ?_, ?_, ?_⟩⟩ ?_; (focus ((repeat' ((conv => whnf); first | exact trivial | refine Both.mk (by first | with_reducible rfl | exact iN_succ _ | rfl | exact congrArg (Blk.row 32 11 75) (by rw [rOf_rgF, gOf_plF, rOf_rgF, gOf_plF, frR_0, frP_0]) | exact congrArg (Blk.row 32 11 75) (by rw [rOf_rgF, gOf_plF, frR_0, frP_0])) ?_)); done)); (focus ((repeat' ((conv => whnf); first | exact trivial | refine Both.mk (by first | with_reducible rfl | exact iN_succ _ | rfl | exact congrArg (Blk.row 32 11 75) (by rw [rOf_rgF, gOf_plF, rOf_rgF, gOf_plF, frR_0, frP_0]) | exact congrArg (Blk.row 32 11 75) (by rw [rOf_rgF, gOf_plF, frR_0, frP_0])) ?_)); done)); (focus exact rfl); (focus exact rfl); (focus exact rfl); rintro k hK; dsimp only at hK ⊢)
      | (((have _q := hK); have hlt := ltK hK (by with_reducible assumption); refine ⟨k + 1, ?_, ?_, ⟨?_, ?_, ?_, ?_, ?_⟩⟩; (focus (exact hlt; done)); (focus ((try dsimp only); omega; done)); (focus ((repeat' ((conv => whnf); first | exact trivial | refine Both.mk (by first | with_reducible rfl | exact iN_succ _ | rfl) ?_)); done)); (focus ((repeat' ((conv => whnf); first | exact trivial | refine Both.mk (by first | with_reducible rfl | exact iN_succ _ | rfl) ?_)); done)); (focus exact rfl); (focus exact rfl); (focus exact rfl)))))
  all_goals first
    | (with_reducible apply Ob.mk; kernel_rfl)
    | (with_reducible apply Ob.mk; decide)
    | ((with_reducible apply Ob.mk); exact ⟨by decide, .inl rfl⟩)
    | ((with_reducible apply Ob.mk); exact ⟨rgF_ok _, plF_ok _⟩)
    | ((with_reducible apply Ob.mk); exact ixK hK (by with_reducible assumption))
    | ((with_reducible apply Ob.mk); exact (ixK hK (by with_reducible assumption)).2)
    | ((conv => whnf); exfalso; first | exact absurd ((neVV (turned (t := foundV id false) (r := rZ) (g := gZ) (ltK hK (by with_reducible assumption)) (fk_n (v := (allR rZ gZ).v (min (BitVec.ofNat 64 k).toNat (75 - 1))) (by assumption) (by assumption) rfl))).symm.trans h) (by decide) | exact absurd ((neVV (turned (t := foundV id false) (r := rZ) (g := gZ) (ltK hK (by with_reducible assumption)) (fk_k (v := (allR rZ gZ).v (min (BitVec.ofNat 64 k).toNat (75 - 1))) (by assumption)))).symm.trans h) (by decide) | exact absurd ((neVV (turned (t := foundV id false) (r := rZ) (g := gZ) (ltK hK (by with_reducible assumption)) (fk_d (v := (allR rZ gZ).v (min (BitVec.ofNat 64 k).toNat (75 - 1))) (by assumption)))).symm.trans h) (by decide))
    | (with_reducible apply Ob.mk; skip)
    | ((conv => whnf); skip)
set_option maxRecDepth 100000 in
set_option maxHeartbeats 8000000 in
theorem Found_main (id : BitVec 64) (is : Bool) (T : TypeId) (len cap : Nat) (hl : len < 9223372036854775808) (x : AT) :
    FI Try.prog (withMk (tabM noData tb_20 ms_20) ks_20) Try.f8 1 [.one (.slc 0 0 len cap), .one (.b64 true id), .one (.bool is)] [(0, .ro T [.seg 11 len (atF x)])] (fun r _ => r = .one (.bool true)) := by
  cases is
  · exact FoundF_main id T len cap hl x
  · exact FoundT_main id T len cap hl x
set_option maxRecDepth 100000 in
set_option maxHeartbeats 8000000 in
theorem Found_main0 (id : BitVec 64) (is : Bool) (ad : Option Addr) (cap : Nat) :
    FI Try.prog (withMk (tabM noData tb_20 ms_20) ks_20) Try.f8 1 [.one (.raw (.slice ad 0 cap)), .one (.b64 true id), .one (.bool is)] [] (fun r _ => r = .one (.bool true)) := by
  cases is
  · exact FoundF_main0 id ad cap
  · exact FoundT_main0 id ad cap
end Go.Proofs.Ytiopddomdpoaaaa
