/-
  Chapter 23: the tables of HardenTell are sound, given fenced's contract. Conditions: as typed.
-/
import Derived.Test.YthkgakelgdncjaaDoorHd
import Derived.Test.YthkgakelgdncjaaDoorOc
import Derived.Test.YthkgakelgdncjaaDoorOv
import Derived.Test.YthkgakelgdncjaaDoorHb
namespace Go.Proofs.YthkgakelgdncjaaDoor
open Go.Ep Go.RowKit
set_option linter.unusedVariables false
theorem okM_G {P : Program} {G : World → Prop} {f : FuncId} {sp : SpM} (e : EntryM P anyWorld f sp) : EntryM P G f sp :=
  ⟨e.fn, fun args bs c v h1 h2 => ⟨(e.calls args bs c v h1 h2).1, fun us ρ hr w _ => (e.calls args bs c v h1 h2).2 us ρ hr w trivial⟩⟩
theorem okK_G {P : Program} {G : World → Prop} {f : FuncId} {sp : SpK} (e : EntryK P anyWorld f sp) : EntryK P G f sp :=
  ⟨e.fn, fun args bs c b nv h1 h2 => ⟨(e.calls args bs c b nv h1 h2).1, (e.calls args bs c b nv h1 h2).2.1, fun us ρ hr w _ => (e.calls args bs c b nv h1 h2).2.2 us ρ hr w trivial⟩⟩
/-- The table without fenced: fenced's own walk stands on it. -/
abbrev tb_f : List (Nat × Sp) := [(6, fun _ => none), (24, sp_hm), (19, sp_hj)]
noncomputable abbrev C_f0 : Table := withMk (tabM Dbar [(24, sp_hm), (19, sp_hj)] ms_H) [(17, spKS 5 sq_targets), (18, spKS 5 sq_halves)]
noncomputable abbrev C_f : Table := ⟨C_f0.fn, C_f0.glob, C_f0.look, inlN Tryd.prog C_f0 FSh 4, .sym, 0, 0, [], C_f0.mkr, []⟩
theorem EK_H : EntriesK Tryd.prog Gbar [(17, spKS 5 sq_targets), (18, spKS 5 sq_halves)] :=
  .cons (okK_G e_targets) (.cons (okK_G e_halves) .nil)
theorem C_f0_ok : CSound Tryd.prog Gbar C_f0 :=
  ((((((CSound.nil Dbar_ok).cons (ok_G e_hj)).cons (ok_G e_hm)).startM.consM (okM_G e_RefCheck)).consM (okM_G e_Check)).consM (okM_G e_half)).withMk EK_H
theorem C_f_ok : CSound Tryd.prog Gbar C_f := C_f0_ok.inl' (inlN_sound C_f0_ok (by kernel_rfl) fs_h 4) .sym 0 0 [] []
theorem C_H0_ok (e : EntryOK Tryd.prog Gbar 6 sp_fen) : CSound Tryd.prog Gbar C_H0 :=
  (((((((CSound.nil Dbar_ok).cons (ok_G e_hj)).cons (ok_G e_hm)).cons e).startM.consM (okM_G e_RefCheck)).consM (okM_G e_Check)).consM (okM_G e_half)).withMk EK_H
theorem C_H_ok (e : EntryOK Tryd.prog Gbar 6 sp_fen) : CSound Tryd.prog Gbar C_H := CI_H (C_H0_ok e)
end Go.Proofs.YthkgakelgdncjaaDoor
/-
  progs.Next: a contract. Conditions: as typed.
-/
namespace Go.Proofs.YthkgakelgdncjaaDoor
open Go.Ep Go.RowKit
set_option linter.unusedVariables false
set_option linter.unusedSimpArgs false
noncomputable abbrev FSx : List (Nat × Func) := [(48, Tryd.f48), (77, Tryd.f77), (49, Tryd.f49)]
theorem fs_x : FsOK Tryd.prog FSx := FsOK.cons Tryd.func48 (by kernel_rfl) (by kernel_rfl) (FsOK.cons Tryd.func77 (by kernel_rfl) (by kernel_rfl) (FsOK.cons Tryd.func49 (by kernel_rfl) (by kernel_rfl) (FsOK.nil)))
noncomputable abbrev C_x : Table := tabI Tryd.prog noData tb_o FSx 4
theorem CI_x : CSound Tryd.prog anyWorld C_x := CSound.tabI C_o (by kernel_rfl) fs_x 4
def two (a b : BitVec 64) : Nat → List PL := fun j => [.b64 true (if 1 ≤ j then b else a)]
set_option maxRecDepth 100000 in
set_option maxHeartbeats 16000000 in
theorem Next_E (len cap : Nat) (T : TypeId) (x : IT) (p : BitVec 64) (hl : len ≤ 8000) (hp : p.toNat < len) (p0 : p.slt 0#64 = false) (p1 : (BitVec.ofNat 64 len).sle p = false) (he : endB (x p.toNat).o = true) :
    FI Tryd.prog C_x Tryd.f16 1 [.one (.slc 0 0 len cap), .one (.b64 true p)] [(0, .ro T [.seg 5 len (inF x)])] (fun r _ => r = .one (.raw (.slice none 0 0))) := by
  repeat' (first
    | (with_reducible apply Given.mk; intro h; (try simp only [if0, if1, p0, p1, he, Bool.not_true, Bool.not_false, Bool.true_eq_false, Bool.false_eq_true, reduceCtorEq] at h); (try exact absurd h (by decide)))
    | ((conv => whnf); first
      | with_reducible apply Both.mk
      | refine LoopP.times 4 ?_))
  all_goals first
    | (with_reducible apply Ob.mk; kernel_rfl)
    | ((with_reducible apply Ob.mk); exact ixp hl hp)
    | ((with_reducible apply Ob.mk); exact (ixp hl hp).2)
    | ((with_reducible apply Ob.mk); show len < 9223372036854775808; omega)
    | ((with_reducible apply Ob.mk); exact fun _ => rfl)
    | ((with_reducible apply Ob.mk); exact ⟨rfl, fun _ => rfl, fun _ => rfl⟩)
    | (with_reducible apply Ob.mk; decide)
    | ((conv => whnf); (try exact rfl))
    | (with_reducible apply Ob.mk; skip)
    | ((conv => whnf); skip)
set_option maxRecDepth 100000 in
set_option maxHeartbeats 16000000 in
theorem Next_A (len cap : Nat) (T : TypeId) (x : IT) (p : BitVec 64) (hl : len ≤ 8000) (hp : p.toNat < len) (p0 : p.slt 0#64 = false) (p1 : (BitVec.ofNat 64 len).sle p = false) (he : endB (x p.toNat).o = false) (ha : alwB (x p.toNat).o = true) (hj : jmpB (x p.toNat).o = true) (t0 : (p + 1#64 + BitVec.signExtend 64 (x p.toNat).f).slt 0#64 = false) (t1 : (BitVec.ofNat 64 len).sle (p + 1#64 + BitVec.signExtend 64 (x p.toNat).f) = false) :
    FI Tryd.prog C_x Tryd.f16 1 [.one (.slc 0 0 len cap), .one (.b64 true p)] [(0, .ro T [.seg 5 len (inF x)])] (fun r h => ∃ y, r = .one (.rsl y 1) ∧ Go.Ep.look h y = some (Blk.row 3 1 1 (fun _ => [.b64 true (p + 1#64 + BitVec.signExtend 64 (x p.toNat).f)]))) := by
  repeat' (first
    | (with_reducible apply Given.mk; intro h; (try simp only [if0, if1, p0, p1, he, ha, hj, t0, t1, Bool.not_true, Bool.not_false, Bool.true_eq_false, Bool.false_eq_true, reduceCtorEq] at h); (try exact absurd h (by decide)))
    | ((conv => whnf); first
      | with_reducible apply Both.mk
      | refine LoopP.times 4 ?_))
  all_goals first
    | (with_reducible apply Ob.mk; kernel_rfl)
    | ((with_reducible apply Ob.mk); exact ixp hl hp)
    | ((with_reducible apply Ob.mk); exact (ixp hl hp).2)
    | ((with_reducible apply Ob.mk); show len < 9223372036854775808; omega)
    | ((with_reducible apply Ob.mk); exact fun _ => rfl)
    | ((with_reducible apply Ob.mk); exact ⟨rfl, fun _ => rfl, fun _ => rfl⟩)
    | (with_reducible apply Ob.mk; decide)
    | ((conv => whnf); exact ⟨_, rfl, rfl⟩)
    | ((conv => whnf); refine ⟨_, rfl, ?_⟩; (conv => lhs; whnf); skip)
    | (with_reducible apply Ob.mk; skip)
    | ((conv => whnf); skip)
set_option maxRecDepth 100000 in
set_option maxHeartbeats 16000000 in
theorem Next_S (len cap : Nat) (T : TypeId) (x : IT) (p : BitVec 64) (hl : len ≤ 8000) (hp : p.toNat < len) (p0 : p.slt 0#64 = false) (p1 : (BitVec.ofNat 64 len).sle p = false) (he : endB (x p.toNat).o = false) (ha : alwB (x p.toNat).o = false) (hj : jmpB (x p.toNat).o = false) (n0 : (p + szV (x p.toNat).o).slt 0#64 = false) (n1 : (BitVec.ofNat 64 len).sle (p + szV (x p.toNat).o) = false) :
    FI Tryd.prog C_x Tryd.f16 1 [.one (.slc 0 0 len cap), .one (.b64 true p)] [(0, .ro T [.seg 5 len (inF x)])] (fun r h => ∃ y, r = .one (.rsl y 1) ∧ Go.Ep.look h y = some (Blk.row 3 1 1 (fun _ => [.b64 true (p + szV (x p.toNat).o)]))) := by
  repeat' (first
    | (with_reducible apply Given.mk; intro h; (try simp only [if0, if1, p0, p1, he, ha, hj, n0, n1, Bool.not_true, Bool.not_false, Bool.true_eq_false, Bool.false_eq_true, reduceCtorEq] at h); (try exact absurd h (by decide)))
    | ((conv => whnf); first
      | with_reducible apply Both.mk
      | refine LoopP.times 4 ?_))
  all_goals first
    | (with_reducible apply Ob.mk; kernel_rfl)
    | ((with_reducible apply Ob.mk); exact ixp hl hp)
    | ((with_reducible apply Ob.mk); exact (ixp hl hp).2)
    | ((with_reducible apply Ob.mk); show len < 9223372036854775808; omega)
    | ((with_reducible apply Ob.mk); exact fun _ => rfl)
    | ((with_reducible apply Ob.mk); exact ⟨rfl, fun _ => rfl, fun _ => rfl⟩)
    | (with_reducible apply Ob.mk; decide)
    | ((conv => whnf); exact ⟨_, rfl, rfl⟩)
    | ((conv => whnf); refine ⟨_, rfl, ?_⟩; (conv => lhs; whnf); skip)
    | (with_reducible apply Ob.mk; skip)
    | ((conv => whnf); skip)
set_option maxRecDepth 100000 in
set_option maxHeartbeats 16000000 in
theorem Next_C (len cap : Nat) (T : TypeId) (x : IT) (p : BitVec 64) (hl : len ≤ 8000) (hp : p.toNat < len) (p0 : p.slt 0#64 = false) (p1 : (BitVec.ofNat 64 len).sle p = false) (he : endB (x p.toNat).o = false) (ha : alwB (x p.toNat).o = false) (hj : jmpB (x p.toNat).o = true) (n0 : (p + szV (x p.toNat).o).slt 0#64 = false) (n1 : (BitVec.ofNat 64 len).sle (p + szV (x p.toNat).o) = false) (t0 : (p + 1#64 + BitVec.signExtend 64 (x p.toNat).f).slt 0#64 = false) (t1 : (BitVec.ofNat 64 len).sle (p + 1#64 + BitVec.signExtend 64 (x p.toNat).f) = false) :
    FI Tryd.prog C_x Tryd.f16 1 [.one (.slc 0 0 len cap), .one (.b64 true p)] [(0, .ro T [.seg 5 len (inF x)])] (fun r h => ∃ y, r = .one (.rsl y 2) ∧ Go.Ep.look h y = some (Blk.row 3 1 2 (two (p + szV (x p.toNat).o) (p + 1#64 + BitVec.signExtend 64 (x p.toNat).f)))) := by
  repeat' (first
    | (with_reducible apply Given.mk; intro h; (try simp only [if0, if1, p0, p1, he, ha, hj, n0, n1, t0, t1, Bool.not_true, Bool.not_false, Bool.true_eq_false, Bool.false_eq_true, reduceCtorEq] at h); (try exact absurd h (by decide)))
    | ((conv => whnf); first
      | with_reducible apply Both.mk
      | refine LoopP.times 4 ?_))
  all_goals first
    | (with_reducible apply Ob.mk; kernel_rfl)
    | ((with_reducible apply Ob.mk); exact ixp hl hp)
    | ((with_reducible apply Ob.mk); exact (ixp hl hp).2)
    | ((with_reducible apply Ob.mk); show len < 9223372036854775808; omega)
    | ((with_reducible apply Ob.mk); exact fun _ => rfl)
    | ((with_reducible apply Ob.mk); exact ⟨rfl, fun _ => rfl, fun _ => rfl⟩)
    | (with_reducible apply Ob.mk; decide)
    | ((conv => whnf); exact ⟨_, rfl, rfl⟩)
    | ((conv => whnf); refine ⟨_, rfl, ?_⟩; (conv => lhs; whnf); skip)
    | (with_reducible apply Ob.mk; skip)
    | ((conv => whnf); skip)
def sq_nextE' (eb : BitVec 8 → Bool) (len : Nat) (g : Nat → List PL) (rest : List AV) : Option (Cond × AV) := match rest with
  | [.one (.b64 true p)] => match eb (inOf g p.toNat).o with
    | true => some (Cond.p (len ≤ 8000 ∧ g = inF (inOf g) ∧ p.toNat < len), .one (.raw (.slice none 0 0)))
    | false => none
  | _ => none
def sq_nextK' (eb ab jb : BitVec 8 → Bool) (len : Nat) (g : Nat → List PL) (rest : List AV) : Option (Cond × Blk × NewV) := match rest with
  | [.one (.b64 true p)] => match eb (inOf g p.toNat).o with
    | true => none
    | false => match ab (inOf g p.toNat).o with
      | true => some (Cond.p ((len ≤ 8000 ∧ g = inF (inOf g) ∧ p.toNat < len) ∧ jmpB (inOf g p.toNat).o = true ∧ (p + 1#64 + BitVec.signExtend 64 (inOf g p.toNat).f).slt 0#64 = false ∧ (BitVec.ofNat 64 len).sle (p + 1#64 + BitVec.signExtend 64 (inOf g p.toNat).f) = false), .row 3 1 1 (fun _ => [.b64 true (p + 1#64 + BitVec.signExtend 64 (inOf g p.toNat).f)]), .r 1)
      | false => match jb (inOf g p.toNat).o with
        | true => some (Cond.p ((len ≤ 8000 ∧ g = inF (inOf g) ∧ p.toNat < len) ∧ ((p + szV (inOf g p.toNat).o).slt 0#64 = false ∧ (BitVec.ofNat 64 len).sle (p + szV (inOf g p.toNat).o) = false) ∧ (p + 1#64 + BitVec.signExtend 64 (inOf g p.toNat).f).slt 0#64 = false ∧ (BitVec.ofNat 64 len).sle (p + 1#64 + BitVec.signExtend 64 (inOf g p.toNat).f) = false), .row 3 1 2 (two (p + szV (inOf g p.toNat).o) (p + 1#64 + BitVec.signExtend 64 (inOf g p.toNat).f)), .r 2)
        | false => some (Cond.p ((len ≤ 8000 ∧ g = inF (inOf g) ∧ p.toNat < len) ∧ (p + szV (inOf g p.toNat).o).slt 0#64 = false ∧ (BitVec.ofNat 64 len).sle (p + szV (inOf g p.toNat).o) = false), .row 3 1 1 (fun _ => [.b64 true (p + szV (inOf g p.toNat).o)]), .r 1)
  | _ => none
abbrev sq_nextE := sq_nextE' endB
abbrev sq_nextK := sq_nextK' endB alwB jmpB
theorem p_in {p : BitVec 64} {len : Nat} (hn : len ≤ 8000) (hp : p.toNat < len) : p.slt 0#64 = false ∧ (BitVec.ofNat 64 len).sle p = false := by
  have e := toInt_lt hn hp
  have z : (0#64).toInt = 0 := by decide
  rw [BitVec.slt_eq_decide, BitVec.sle_eq_decide, e, z, toInt_ofNat (n := len) (by omega)]
  simp only [decide_eq_false_iff_not]; omega
set_option maxRecDepth 100000 in
theorem e_NextE : EntryM Tryd.prog anyWorld 16 (spS 5 sq_nextE) := by
  refine .of_slice CI_x (by kernel_rfl) Tryd.func16 (by kernel_rfl) (by kernel_rfl) (fun len g rest c v h hc => ?_) (fun rest c v h hc ad cap => ?_)
  · unfold sq_nextE sq_nextE' at h
    split at h
    · split at h
      · rename_i he
        cases h
        obtain ⟨h1, h2, h3⟩ := hc
        refine ⟨rfl, rfl, fun T cap => ?_⟩
        generalize inOf g = x at h2 he
        subst h2
        exact Next_E len cap T x _ h1 h3 (p_in h1 h3).1 (p_in h1 h3).2 he
      · cases h
    · cases h
  · unfold sq_nextE sq_nextE' at h
    split at h
    · split at h
      · cases h
        exact absurd hc.2.2 (Nat.not_lt_zero _)
      · cases h
    · cases h
set_option maxRecDepth 100000 in
theorem e_NextK : EntryK Tryd.prog anyWorld 16 (spKS 5 sq_nextK) := by
  refine .of_slice CI_x (by kernel_rfl) Tryd.func16 (by kernel_rfl) (by kernel_rfl) (fun len g rest c b nv h hc => ?_)
  unfold sq_nextK sq_nextK' at h
  split at h
  · split at h
    · cases h
    · rename_i he
      split at h
      · rename_i ha
        cases h
        obtain ⟨⟨h1, h2, h3⟩, hj, t0, t1⟩ := hc
        refine ⟨rfl, rfl, rfl, fun T cap => ?_⟩
        generalize inOf g = x at *
        subst h2
        exact Next_A len cap T x _ h1 h3 (p_in h1 h3).1 (p_in h1 h3).2 he ha hj t0 t1
      · rename_i ha
        split at h
        · rename_i hj
          cases h
          obtain ⟨⟨h1, h2, h3⟩, ⟨n0, n1⟩, t0, t1⟩ := hc
          refine ⟨rfl, rfl, rfl, fun T cap => ?_⟩
          generalize inOf g = x at *
          subst h2
          exact Next_C len cap T x _ h1 h3 (p_in h1 h3).1 (p_in h1 h3).2 he ha hj n0 n1 t0 t1
        · rename_i hj
          cases h
          obtain ⟨⟨h1, h2, h3⟩, n0, n1⟩ := hc
          refine ⟨rfl, rfl, rfl, fun T cap => ?_⟩
          generalize inOf g = x at *
          subst h2
          exact Next_S len cap T x _ h1 h3 (p_in h1 h3).1 (p_in h1 h3).2 he ha hj n0 n1
  · cases h
theorem spE_t {eb : BitVec 8 → Bool} {x : IT} {len cap : Nat} {T : TypeId} {p : BitVec 64} (h : eb (inOf (inF x) p.toNat).o = true) : spS 5 (sq_nextE' eb) [.one (.slc 0 0 len cap), .one (.b64 true p)] [(0, .ro T [.seg 5 len (inF x)])] = some (bothC (.p (len ≤ len)) (.p (len ≤ 8000 ∧ inF x = inF (inOf (inF x)) ∧ p.toNat < len)), .one (.raw (.slice none 0 0))) := by
  show (match sq_nextE' eb len (inF x) [.one (.b64 true p)] with | some (c, v) => some (bothC (.p (len ≤ len)) c, v) | none => none) = _
  simp only [sq_nextE', h]
theorem spE_f {eb : BitVec 8 → Bool} {x : IT} {len cap : Nat} {T : TypeId} {p : BitVec 64} (h : eb (inOf (inF x) p.toNat).o = false) : spS 5 (sq_nextE' eb) [.one (.slc 0 0 len cap), .one (.b64 true p)] [(0, .ro T [.seg 5 len (inF x)])] = none := by
  show (match sq_nextE' eb len (inF x) [.one (.b64 true p)] with | some (c, v) => some (bothC (.p (len ≤ len)) c, v) | none => none) = _
  simp only [sq_nextE', h]
theorem spK_A {eb ab jb : BitVec 8 → Bool} {x : IT} {len cap : Nat} {T : TypeId} {p : BitVec 64} (h : eb (inOf (inF x) p.toNat).o = false) (ha : ab (inOf (inF x) p.toNat).o = true) : spKS 5 (sq_nextK' eb ab jb) [.one (.slc 0 0 len cap), .one (.b64 true p)] [(0, .ro T [.seg 5 len (inF x)])] = some (bothC (.p (len ≤ len)) (.p ((len ≤ 8000 ∧ inF x = inF (inOf (inF x)) ∧ p.toNat < len) ∧ jmpB (inOf (inF x) p.toNat).o = true ∧ (p + 1#64 + BitVec.signExtend 64 (inOf (inF x) p.toNat).f).slt 0#64 = false ∧ (BitVec.ofNat 64 len).sle (p + 1#64 + BitVec.signExtend 64 (inOf (inF x) p.toNat).f) = false)), .row 3 1 1 (fun _ => [.b64 true (p + 1#64 + BitVec.signExtend 64 (inOf (inF x) p.toNat).f)]), .r 1) := by
  show (match sq_nextK' eb ab jb len (inF x) [.one (.b64 true p)] with | some (c, b', nv) => some (bothC (.p (len ≤ len)) c, b', nv) | none => none) = _
  simp only [sq_nextK', h, ha]
theorem spK_C {eb ab jb : BitVec 8 → Bool} {x : IT} {len cap : Nat} {T : TypeId} {p : BitVec 64} (h : eb (inOf (inF x) p.toNat).o = false) (ha : ab (inOf (inF x) p.toNat).o = false) (hj : jb (inOf (inF x) p.toNat).o = true) : spKS 5 (sq_nextK' eb ab jb) [.one (.slc 0 0 len cap), .one (.b64 true p)] [(0, .ro T [.seg 5 len (inF x)])] = some (bothC (.p (len ≤ len)) (.p ((len ≤ 8000 ∧ inF x = inF (inOf (inF x)) ∧ p.toNat < len) ∧ ((p + szV (inOf (inF x) p.toNat).o).slt 0#64 = false ∧ (BitVec.ofNat 64 len).sle (p + szV (inOf (inF x) p.toNat).o) = false) ∧ (p + 1#64 + BitVec.signExtend 64 (inOf (inF x) p.toNat).f).slt 0#64 = false ∧ (BitVec.ofNat 64 len).sle (p + 1#64 + BitVec.signExtend 64 (inOf (inF x) p.toNat).f) = false)), .row 3 1 2 (two (p + szV (inOf (inF x) p.toNat).o) (p + 1#64 + BitVec.signExtend 64 (inOf (inF x) p.toNat).f)), .r 2) := by
  show (match sq_nextK' eb ab jb len (inF x) [.one (.b64 true p)] with | some (c, b', nv) => some (bothC (.p (len ≤ len)) c, b', nv) | none => none) = _
  simp only [sq_nextK', h, ha, hj]
theorem spK_S {eb ab jb : BitVec 8 → Bool} {x : IT} {len cap : Nat} {T : TypeId} {p : BitVec 64} (h : eb (inOf (inF x) p.toNat).o = false) (ha : ab (inOf (inF x) p.toNat).o = false) (hj : jb (inOf (inF x) p.toNat).o = false) : spKS 5 (sq_nextK' eb ab jb) [.one (.slc 0 0 len cap), .one (.b64 true p)] [(0, .ro T [.seg 5 len (inF x)])] = some (bothC (.p (len ≤ len)) (.p ((len ≤ 8000 ∧ inF x = inF (inOf (inF x)) ∧ p.toNat < len) ∧ (p + szV (inOf (inF x) p.toNat).o).slt 0#64 = false ∧ (BitVec.ofNat 64 len).sle (p + szV (inOf (inF x) p.toNat).o) = false)), .row 3 1 1 (fun _ => [.b64 true (p + szV (inOf (inF x) p.toNat).o)]), .r 1) := by
  show (match sq_nextK' eb ab jb len (inF x) [.one (.b64 true p)] with | some (c, b', nv) => some (bothC (.p (len ≤ len)) c, b', nv) | none => none) = _
  simp only [sq_nextK', h, ha, hj]
end Go.Proofs.YthkgakelgdncjaaDoor
/-
  Chapter 23: HardenTell: its walk where nothing is wrong. Conditions: as typed.
-/
namespace Go.Proofs.YthkgakelgdncjaaDoor
open Go.Ep Go.RowKit
set_option linter.unusedVariables false
set_option linter.unusedSimpArgs false
theorem slt_m {k m : Nat} (hm : m < 65536) (h : k < m) : (BitVec.ofNat 64 k).slt (BitVec.ofNat 64 m) = true := by
  rw [slt_nat (by omega) (by omega)]
  exact decide_eq_true h
theorem slt_0 {k : Nat} (h : k < 65536) : (bv k).slt 0#64 = false := by
  have e : (0#64).toInt = 0 := rfl
  rw [← Bool.not_eq_true, BitVec.slt_iff_toInt_lt, e, toInt_ofNat (by omega)]
  omega
theorem slt_rr (n : Nat) : (BitVec.ofNat 64 n).slt (BitVec.ofNat 64 n) = false := by
  rw [BitVec.slt_eq_decide]
  exact decide_eq_false (by omega)
theorem slt_t {k len : Nat} (hl : len ≤ 64) (h : k < len) : (BitVec.ofNat 64 k).slt (BitVec.ofNat 64 len) = true := by
  rw [slt_nat (by omega) (by omega)]
  exact decide_eq_true h
theorem k_nat {k len ns : Nat} (hl : len ≤ 64) (h : k ≤ len) : (BitVec.ofNat 64 k).toNat = k ∧ k < 65536 := ⟨nat_ofNat (by omega), by omega⟩
theorem ix64 {k len : Nat} (hl : len ≤ 64) (h : k < len) : 0 ≤ (BitVec.ofNat 64 k).toInt ∧ (BitVec.ofNat 64 k).toNat < len := by
  rw [toInt_ofNat (by omega), nat_ofNat (by omega)]
  omega
theorem ix65 {k len : Nat} (hl : len ≤ 64) (h : k < len) : 0 ≤ (BitVec.ofNat 64 k).toInt ∧ (BitVec.ofNat 64 k).toNat < len + 1 := by
  rw [toInt_ofNat (by omega), nat_ofNat (by omega)]
  omega
theorem ixs {k ns : Nat} (hn : ns < 9223372036854775808) (hk : k < 65536) (h : (BitVec.ofNat 64 k).slt (BitVec.ofNat 64 ns) = true) : 0 ≤ (BitVec.ofNat 64 k).toInt ∧ (BitVec.ofNat 64 k).toNat < ns := by
  rw [slt_nat (by omega) hn, decide_eq_true_eq] at h
  rw [toInt_ofNat (by omega), nat_ofNat (by omega)]
  omega
theorem lenO_b {b : Nat → Bool} {k len : Nat} (hl : len ≤ 64) (h : k < len) : lenO b k < 9223372036854775808 := by have := (lenO_le b k).2; omega
theorem lenO_c {b : Nat → Bool} {k : Nat} (hl : k ≤ 64) : lenO b k < 9223372036854775808 := by have := (lenO_le b k).2; omega
theorem lenO_m {b : Nat → Bool} {k : Nat} (hl : k ≤ 64) : lenO b k < 65536 := by have := (lenO_le b k).2; omega
theorem clipA {m : Nat} (h : m < 65536) : (0 ≤ (BitVec.ofNat 64 m).toInt ∧ 0 ≤ (BitVec.ofNat 64 m).toInt) ∧ (BitVec.ofNat 64 m).toNat ≤ (BitVec.ofNat 64 m).toNat := by
  rw [toInt_ofNat (by omega)]
  omega
theorem clipB {m : Nat} (h : m < 65536) : (BitVec.ofNat 64 m).toNat ≤ m := by
  rw [nat_ofNat (by omega)]
  exact Nat.le_refl _
theorem l_b {k : Nat} (hl : k ≤ 64) : k < 9223372036854775808 := by omega
theorem capK {k len : Nat} (hl : len ≤ 64) (h : k < len) : k + 1 < 65536 := by omega
theorem pd_ix {k n : Nat} (hl : n ≤ 64) (h : k + 1 < n) : (0 ≤ (BitVec.ofNat 64 (k + 1) - 1#64).toInt ∧ (BitVec.ofNat 64 (k + 1) - 1#64).toNat < n) ∧ (BitVec.ofNat 64 (k + 1) - 1#64).toNat ≤ n := by
  have e : BitVec.ofNat 64 (k + 1) - 1#64 = BitVec.ofNat 64 k := bv_pred k (by omega)
  rw [e, toInt_ofNat (by omega), nat_ofNat (by omega)]
  omega
theorem pd_s {k ns : Nat} (hn : ns < 9223372036854775808) (hk : k < 65536) (h : (BitVec.ofNat 64 k).slt (BitVec.ofNat 64 ns) = true) : 0 ≤ (BitVec.ofNat 64 (k + 1) - 1#64).toInt ∧ (BitVec.ofNat 64 (k + 1) - 1#64).toNat < ns := by
  have e : BitVec.ofNat 64 (k + 1) - 1#64 = BitVec.ofNat 64 k := bv_pred k (by omega)
  rw [e]
  exact ixs hn hk h
theorem capA {b : Nat → Bool} {k len : Nat} (hl : len ≤ 64) (h : k < len) : lenO b k + 1 < 65536 := by have := (lenO_le b k).2; omega
theorem capB {b : Nat → Bool} {k len : Nat} (hl : len ≤ 64) (h : k < len) : lenO b k + 1 + 1 < 65536 := by have := (lenO_le b k).2; omega
def iF (f : Nat → BitVec 64) : Nat → List PL := fun j => [PL.b64 true (f j)]
def fiF (b : Nat → Bool) : Nat → Nat → BitVec 64
  | 0 => fun _ => 0#64
  | k + 1 => appI (fiF b k) k (bv (lenO b k))
theorem fiS' {b : Nat → Bool} {k : Nat} : joinF k (iF (fiF b k)) (fun _ => [PL.b64 true (BitVec.ofNat 64 (lenO b k))]) = iF (fiF b (k + 1)) := by
  funext j
  by_cases h : k ≤ j <;> simp [joinF, mergeP, pickP, iF, fiF, appI, h]
def stF (b : Nat → Bool) (k : Nat) : Nat → BitVec 64 := fun j => if j < k then bv (lenO b j) else 0#64
theorem st_start {b : Nat → Bool} {len : Nat} (hl : len ≤ 8000) : Blk.row 3 1 (BitVec.ofNat 64 len + 1#64).toNat (fun _ => [PL.b64 true 0#64]) = Blk.row 3 1 (len + 1) (iF (stF b 0)) := by
  rw [l1_nat hl]
  rfl
theorem ixm {k m : Nat} (hm : m < 65536) (h : k < m) : 0 ≤ (BitVec.ofNat 64 k).toInt ∧ (BitVec.ofNat 64 k).toNat < m := by
  rw [toInt_ofNat (by omega), nat_ofNat (by omega)]
  omega
theorem to65 {x : IT} {pc n : Nat} (np : (BitVec.ofNat 64 pc).toNat = pc) (h : 0 ≤ (toV x (bv pc)).toInt ∧ (toV x (bv pc)).toNat < n) : 0 ≤ (bv pc + 1#64 + BitVec.signExtend 64 (x pc).f).toInt ∧ (bv pc + 1#64 + BitVec.signExtend 64 (x pc).f).toNat < n + 1 := by
  have e : bv pc + 1#64 + BitVec.signExtend 64 (x pc).f = toV x (bv pc) := toV_eq np
  rw [e]
  omega
theorem to64 {x : IT} {pc n : Nat} (np : (BitVec.ofNat 64 pc).toNat = pc) (h : 0 ≤ (toV x (bv pc)).toInt ∧ (toV x (bv pc)).toNat < n) : 0 ≤ (bv pc + 1#64 + BitVec.signExtend 64 (x pc).f).toInt ∧ (bv pc + 1#64 + BitVec.signExtend 64 (x pc).f).toNat < n := by
  have e : bv pc + 1#64 + BitVec.signExtend 64 (x pc).f = toV x (bv pc) := toV_eq np
  rw [e]
  exact h
theorem cn1 {x : IT} {b : Nat → Bool} {n t : Nat} (ef : frO b n t = BitVec.ofInt 64 (Int.negSucc 0)) : condO x b n t = false := by unfold condO; rw [ef]; rfl
theorem cn2 {x : IT} {b : Nat → Bool} {n t pc : Nat} (ef : frO b n t = bv pc) (np : (bv pc).toNat = pc) (h : hf x pc = true) : condO x b n t = false := by unfold condO; rw [ef, np, h, Bool.not_true, Bool.false_and, Bool.and_false]
theorem cn3 {x : IT} {b : Nat → Bool} {n t pc : Nat} (ef : frO b n t = bv pc) (np : (bv pc).toNat = pc) (h : jmpB (x pc).o = false) : condO x b n t = false := by unfold condO; rw [ef, np, h, Bool.and_false, Bool.and_false]
theorem cn4 {x : IT} {b : Nat → Bool} {n t pc : Nat} (ef : frO b n t = bv pc) (np : (bv pc).toNat = pc) (n0 : (bv pc).slt 0#64 = false) (h1 : hf x pc = false) (h : jmpB (x pc).o = true) : condO x b n t = true := by unfold condO; rw [ef, np, n0, h1, h]; rfl
theorem o2N {x : IT} {b : Nat → Bool} {n t m : Nat} (hc : condO x b n t = false) : Blk.row 54 5 m (inF (out2 x b n t)) = Blk.row 54 5 m (inF (out2 x b n (t + 1))) := by rw [o2_no hc]
theorem o2Y {x : IT} {b : Nat → Bool} {n t m : Nat} {s : Nat → BitVec 64} (hs : ∀ j, j < n → s j = bv (lenO b j)) (na : (BitVec.ofNat 64 t).toNat = t) (hc : condO x b n t = true) (ht : (toV x (frO b n t)).toNat < n) :
    Blk.row 54 5 m (updF (inF (out2 x b n t)) (BitVec.ofNat 64 t).toNat 3 [PL.b16 true (BitVec.signExtend 16 (s (frO b n (BitVec.ofNat 64 t).toNat + 1#64 + BitVec.signExtend 64 (x (frO b n (BitVec.ofNat 64 t).toNat).toNat).f).toNat - BitVec.ofNat 64 t - 1#64))]) = Blk.row 54 5 m (inF (out2 x b n (t + 1))) := by
  rw [na, o2_yes hc, updF_in3]
  have e : s (frO b n t + 1#64 + BitVec.signExtend 64 (x (frO b n t).toNat).f).toNat = bv (lenO b (toV x (frO b n t)).toNat) := hs _ ht
  rw [e]
  rfl
theorem fiS {b : Nat → Bool} {k m : Nat} : Blk.row 3 1 m (joinF k (iF (fiF b k)) fun _ => [PL.b64 true (BitVec.ofNat 64 (lenO b k))]) = Blk.row 3 1 m (iF (fiF b (k + 1))) := congrArg (Blk.row 3 1 m) fiS'
theorem fi0 {b : Nat → Bool} {m : Nat} : Blk.row 3 1 m (fun _ => [PL.b64 true 0#64]) = Blk.row 3 1 m (iF (fiF b (0 + 1))) := by
  have e : fiF b (0 + 1) = fun _ => 0#64 := app_zero _ _
  rw [e]
  rfl
theorem moreN {p : Nat → Prop} {j : Nat} (h : ∀ i, i < j → ¬ p i) (hj : ¬ p j) : ∀ i, i < j + 1 → ¬ p i := fun i hi => by
  rcases Nat.lt_or_ge i j with g | g
  · exact h i g
  · obtain rfl : i = j := by omega
    exact hj
theorem nj1 {x : IT} {j K : Nat} (h : mayB (x j).o = false) : ¬ (mayB (x j).o = true ∧ (toV x (bv j)).toNat = K) := fun c => absurd (h.symm.trans c.1) (by decide)
theorem nj2 {x : IT} {j K : Nat} (naj : (BitVec.ofNat 64 j).toNat = j) (h : (BitVec.ofNat 64 j + 1#64 + BitVec.signExtend 64 (x j).f == BitVec.ofNat 64 K) = false) : ¬ (mayB (x j).o = true ∧ (toV x (bv j)).toNat = K) := fun c => by
  rw [toV_eq naj, beq_eq_false_iff_ne] at h
  exact h (BitVec.eq_of_toNat_eq (by rw [← c.2, BitVec.toNat_ofNat]; exact (Nat.mod_eq_of_lt (BitVec.isLt _)).symm))
theorem nj3 {x : IT} {n j K : Nat} {m : BitVec 64} {w : Bool} (G : Good x n m w) (gj : j < n) (h : (!hf (inOf (inF x)) j) = false) : ¬ (mayB (x j).o = true ∧ (toV x (bv j)).toNat = K) := fun c => by
  have h' : (!hf x j) = false := h
  have e : hf x j = true := by simpa using h'
  exact absurd ((may_first G gj c.1).symm.trans e) (by decide)
theorem ct1 {x : IT} {n j K : Nat} (hK : K < 65536) (naj : (BitVec.ofNat 64 j).toNat = j) (hb2 : ledF x n K = false) (gj : j < n) (h1 : mayB (x j).o = true) (h2 : (BitVec.ofNat 64 j + 1#64 + BitVec.signExtend 64 (x j).f == BitVec.ofNat 64 K) = true) : False := by
  rw [toV_eq naj, beq_iff_eq] at h2
  have : ledF x n K = true := ledF_some.2 ⟨j, gj, h1, by rw [h2]; exact nat_ofNat (by omega)⟩
  exact absurd (hb2.symm.trans this) (by decide)
theorem ct2 {k : Nat} (hk : k < 65536) (h : (BitVec.ofNat 64 (k + 1) == 0#64) = true) : False := by
  rw [beq_iff_eq] at h
  have := congrArg BitVec.toNat h
  rw [nat_ofNat (by omega)] at this
  exact absurd this (Nat.succ_ne_zero k)
theorem slt_of2 {k ns : Nat} {b : Bool} (hk : k < 65536) (hn : ns < 9223372036854775808) (h : (BitVec.ofNat 64 k).slt (BitVec.ofNat 64 ns) = b) : decide (k < ns) = b := by rw [← h, slt_nat (by omega) hn]
section
variable {x : IT} {st : Nat → Bool} {ns k : Nat}
theorem cb1 (hb : behP x st ns (k + 1) = true) (h : hf (inOf (inF x)) k = true) : False := by
  have h : hf x k = true := h
  rw [behP, behB, h, Bool.not_true, Bool.false_and] at hb
  exact absurd hb (by decide)
theorem cb2 (hb : behP x st ns (k + 1) = false) (h : hf (inOf (inF x)) k = false) (h2 : mayB (x k).o = true) : False := by
  have h : hf x k = false := h
  rw [behP, behB, h, h2, Bool.not_false, Bool.true_or, Bool.true_and] at hb
  exact absurd hb (by decide)
theorem cb3 (hk : k < 65536) (hn : ns < 9223372036854775808) (hb : behP x st ns (k + 1) = false) (h : hf (inOf (inF x)) k = false) (h3 : (BitVec.ofNat 64 k).slt (BitVec.ofNat 64 ns) = true) (h4 : st k = true) (h5 : ((x k).o &&& 7#8 == 2#8) = true) : False := by
  have h : hf x k = false := h
  rw [behP, behB, h, slt_of2 hk hn h3, h4, stB, h5] at hb
  exact absurd hb (by simp)
theorem cb4 (hk : k < 65536) (hn : ns < 9223372036854775808) (hb : behP x st ns (k + 1) = false) (h : hf (inOf (inF x)) k = false) (h3 : (BitVec.ofNat 64 k).slt (BitVec.ofNat 64 ns) = true) (h4 : st k = true) (h5 : ((x k).o &&& 7#8 == 3#8) = true) : False := by
  have h : hf x k = false := h
  rw [behP, behB, h, slt_of2 hk hn h3, h4, stB, h5, Bool.or_true] at hb
  exact absurd hb (by simp)
theorem cb5 (hk : k < 65536) (hn : ns < 9223372036854775808) (hb : behP x st ns (k + 1) = true) (h2 : mayB (x k).o = false) (h3 : (BitVec.ofNat 64 k).slt (BitVec.ofNat 64 ns) = false) : False := by
  rw [behP, behB, h2, slt_of2 hk hn h3] at hb
  exact absurd hb (by simp)
theorem cb6 (hb : behP x st ns (k + 1) = true) (h2 : mayB (x k).o = false) (h4 : st k = false) : False := by
  rw [behP, behB, h2, h4, Bool.false_and, Bool.and_false, Bool.or_false, Bool.and_false] at hb
  exact absurd hb (by decide)
theorem cb7 (hb : behP x st ns (k + 1) = true) (h2 : mayB (x k).o = false) (h5 : ((x k).o &&& 7#8 == 2#8) = false) (h6 : ((x k).o &&& 7#8 == 3#8) = false) : False := by
  rw [behP, behB, h2, stB, h5, h6, Bool.or_false, Bool.and_false, Bool.and_false, Bool.or_false, Bool.and_false] at hb
  exact absurd hb (by decide)
end
theorem fi_val {b : Nat → Bool} : ∀ n j, j < n → fiF b n j = bv (lenO b j)
  | 0, j, h => absurd h (Nat.not_lt_zero _)
  | n + 1, j, h => by
    show (if n ≤ j then bv (lenO b n) else fiF b n j) = _
    by_cases g : n ≤ j
    · obtain rfl : j = n := by omega
      rw [if_pos g]
    · rw [if_neg g, fi_val n j (by omega)]
theorem sle_0 {k : Nat} (h : k < 65536) : (0#64).sle (bv k) = true := by
  have e : (0#64).toInt = 0 := rfl
  rw [BitVec.sle_iff_toInt_le, e, toInt_ofNat (by omega)]
  omega
section
variable {x : IT} {b : Nat → Bool} {n t pc : Nat} (ef : frO b n t = bv pc) (np : (bv pc).toNat = pc)
include ef np
theorem cm2 (h : (!hf (inOf (inF x)) pc) = false) : condO x b n t = false := by
  have h' : (!hf x pc) = false := h
  exact cn2 ef np (by simpa using h')
variable {m : BitVec 64} {w : Bool} (G : Good x n m w) (gp : pc < n) (h1 : (!hf (inOf (inF x)) pc) = true)
include G gp h1
theorem cm3 (h2 : mayB (x pc).o = false) (h3 : ((x pc).o == 5#8) = false) : condO x b n t = false := by
  have h' : (!hf x pc) = true := h1
  exact cn3 ef np (by rw [is_eq G gp (by simpa using h'), h2, h3]; rfl)
theorem cm4 (h2 : mayB (x pc).o = true) (n0 : (bv pc).slt 0#64 = false) : condO x b n t = true ∧ (toV x (frO b n t)).toNat < n := by
  have h' : (!hf x pc) = true := h1
  have hh : hf x pc = false := by simpa using h'
  have hj : jmpB (x pc).o = true := may_jmp h2
  exact ⟨cn4 ef np n0 hh hj, by rw [ef]; exact (jto_lt G gp hh hj).2⟩
theorem cm5 (h3 : ((x pc).o == 5#8) = true) (n0 : (bv pc).slt 0#64 = false) : condO x b n t = true ∧ (toV x (frO b n t)).toNat < n := by
  have h' : (!hf x pc) = true := h1
  have hh : hf x pc = false := by simpa using h'
  have hj : jmpB (x pc).o = true := by rw [is_eq G gp hh, h3, Bool.or_true]
  exact ⟨cn4 ef np n0 hh hj, by rw [ef]; exact (jto_lt G gp hh hj).2⟩
end
theorem jt4 {x : IT} {n pc : Nat} {m : BitVec 64} {w : Bool} (G : Good x n m w) (gp : pc < n) (np : (BitVec.ofNat 64 pc).toNat = pc) (h1 : (!hf (inOf (inF x)) pc) = true) (h2 : mayB (x pc).o = true ∨ ((x pc).o == 5#8) = true) :
    0 ≤ (bv pc + 1#64 + BitVec.signExtend 64 (x pc).f).toInt ∧ (bv pc + 1#64 + BitVec.signExtend 64 (x pc).f).toNat < n := by
  have h' : (!hf x pc) = true := h1
  have hh : hf x pc = false := by simpa using h'
  have hj : jmpB (x pc).o = true := by
    rcases h2 with h2 | h2
    · exact may_jmp h2
    · rw [is_eq G gp hh, h2, Bool.or_true]
  exact to64 np (jto_lt G gp hh hj)
theorem st_val {b : Nat → Bool} {n : Nat} : ∀ j, j < n → stF b n j = bv (lenO b j) := fun j h => if_pos h
theorem bar_of {x : IT} {n ns k : Nat} {st : Nat → Bool} {b1 b2 : Bool} (h1 : behP x st ns k = b1) (h2 : ledF x n k = b2) : barB x n st ns k = (b1 || b2) := by
  unfold barB
  rw [h1, h2]
theorem lnA {b : Nat → Bool} {k i : Nat} (h : b k = false) : AV.one (.rsl i (lenO b k + 1)) = AV.one (.rsl i (lenO b (k + 1))) := by
  have e : lenO b (k + 1) = lenO b k + 1 := by rw [lenO, h]; rfl
  rw [e]
theorem lnB {b : Nat → Bool} {k i : Nat} (h : b k = true) : AV.one (.rsl i (lenO b k + 1 + 1)) = AV.one (.rsl i (lenO b (k + 1))) := by
  have e : lenO b (k + 1) = lenO b k + 2 := by rw [lenO, h]; rfl
  rw [e]
theorem joinF_i (m : Nat) (f : Nat → BitVec 64) (v : BitVec 64) : joinF m (iF f) (fun _ => [PL.b64 true v]) = iF (appI f m v) := by
  funext j
  by_cases h : m ≤ j <;> simp [joinF, mergeP, pickP, iF, appI, h]
theorem updF_i (k : Nat) (f : Nat → BitVec 64) (v : BitVec 64) : updF (iF f) k 0 [PL.b64 true v] = iF (fun j => if j = k then v else f j) := by
  funext j
  by_cases h : j = k <;> simp [updF, mergeP, pickP, iF, h]
theorem frA {b : Nat → Bool} {k : Nat} (h : b k = false) : Blk.row 3 1 (lenO b k + 1) (joinF (lenO b k) (iF (frO b k)) fun _ => [PL.b64 true (BitVec.ofNat 64 k)]) = Blk.row 3 1 (lenO b (k + 1)) (iF (frO b (k + 1))) := by
  have e : lenO b (k + 1) = lenO b k + 1 := by rw [lenO, h]; rfl
  have e2 : frO b (k + 1) = appI (frO b k) (lenO b k) (bv k) := by rw [frO, h]; rfl
  rw [e, e2, joinF_i]
theorem frB {b : Nat → Bool} {k : Nat} (h : b k = true) : Blk.row 3 1 (lenO b k + 1 + 1) (joinF (lenO b k + 1) (joinF (lenO b k) (iF (frO b k)) fun _ => [PL.b64 true (BitVec.ofInt 64 (Int.negSucc 0))]) fun _ => [PL.b64 true (BitVec.ofNat 64 k)]) = Blk.row 3 1 (lenO b (k + 1)) (iF (frO b (k + 1))) := by
  have e : lenO b (k + 1) = lenO b k + 2 := by rw [lenO, h]; rfl
  have e2 : frO b (k + 1) = appI (appI (frO b k) (lenO b k) (BitVec.ofInt 64 (Int.negSucc 0))) (lenO b k + 1) (bv k) := by rw [frO, h]; rfl
  rw [e, e2, joinF_i, joinF_i]
theorem fr0A {b : Nat → Bool} (h : b 0 = false) : Blk.row 3 1 1 (fun _ => [PL.b64 true 0#64]) = Blk.row 3 1 (lenO b (0 + 1)) (iF (frO b (0 + 1))) := by
  have e : lenO b (0 + 1) = 1 := by rw [lenO, h]; rfl
  have e2 : frO b (0 + 1) = fun _ => 0#64 := by rw [frO, h]; exact app_zero _ _
  rw [e, e2]
  rfl
theorem fr0B {b : Nat → Bool} (h : b 0 = true) : Blk.row 3 1 (1 + 1) (joinF 1 (fun _ => [PL.b64 true (BitVec.ofInt 64 (Int.negSucc 0))]) fun _ => [PL.b64 true 0#64]) = Blk.row 3 1 (lenO b (0 + 1)) (iF (frO b (0 + 1))) := by
  have e : lenO b (0 + 1) = 2 := by rw [lenO, h]; rfl
  have e2 : frO b (0 + 1) = appI (fun _ => BitVec.ofInt 64 (Int.negSucc 0)) 1 0#64 := by rw [frO, h, if_pos rfl, show lenO b 0 = 0 from rfl, app_zero]
  rw [e, e2, ← joinF_i]
  rfl
theorem outA {x : IT} {b : Nat → Bool} {k : Nat} (na : (BitVec.ofNat 64 k).toNat = k) (h : b k = false) : Blk.row 54 5 (lenO b k + 1) (joinF (lenO b k) (inF (outO x b k)) fun _ => inP (x (BitVec.ofNat 64 k).toNat)) = Blk.row 54 5 (lenO b (k + 1)) (inF (outO x b (k + 1))) := by
  have e : lenO b (k + 1) = lenO b k + 1 := by rw [lenO, h]; rfl
  have e2 : outO x b (k + 1) = appI (outO x b k) (lenO b k) (x k) := by rw [outO, h]; rfl
  rw [e, e2, na, joinF_in]
  rfl
theorem outB {x : IT} {b : Nat → Bool} {k : Nat} (na : (BitVec.ofNat 64 k).toNat = k) (h : b k = true) : Blk.row 54 5 (lenO b k + 1 + 1) (joinF (lenO b k + 1) (joinF (lenO b k) (inF (outO x b k)) fun _ => inP barI) fun _ => inP (x (BitVec.ofNat 64 k).toNat)) = Blk.row 54 5 (lenO b (k + 1)) (inF (outO x b (k + 1))) := by
  have e : lenO b (k + 1) = lenO b k + 2 := by rw [lenO, h]; rfl
  have e2 : outO x b (k + 1) = appI (appI (outO x b k) (lenO b k) barI) (lenO b k + 1) (x k) := by rw [outO, h]; rfl
  rw [e, e2, na, joinF_in, joinF_in]
  rfl
theorem out0A {x : IT} {b : Nat → Bool} (h : b 0 = false) : Blk.row 54 5 1 (fun _ => inP (x (0#64).toNat)) = Blk.row 54 5 (lenO b (0 + 1)) (inF (outO x b (0 + 1))) := by
  have e : lenO b (0 + 1) = 1 := by rw [lenO, h]; rfl
  have e2 : outO x b (0 + 1) = fun _ => x 0 := by rw [outO, h]; exact app_zero _ _
  rw [e, e2]
  rfl
theorem out0B {x : IT} {b : Nat → Bool} (h : b 0 = true) : Blk.row 54 5 (1 + 1) (joinF 1 (fun _ => inP barI) fun _ => inP (x (0#64).toNat)) = Blk.row 54 5 (lenO b (0 + 1)) (inF (outO x b (0 + 1))) := by
  have e : lenO b (0 + 1) = 2 := by rw [lenO, h]; rfl
  have e2 : outO x b (0 + 1) = appI (fun _ => barI) 1 (x 0) := by rw [outO, h, if_pos rfl, show lenO b 0 = 0 from rfl, app_zero]
  rw [e, e2]
  have := joinF_in 1 (fun _ => barI) (x 0)
  exact congrArg (Blk.row 54 5 2) this
theorem stS {b : Nat → Bool} {k n : Nat} (na : (BitVec.ofNat 64 k).toNat = k) : Blk.row 3 1 n (updF (iF (stF b k)) (BitVec.ofNat 64 k).toNat 0 [PL.b64 true (BitVec.ofNat 64 (lenO b k))]) = Blk.row 3 1 n (iF (stF b (k + 1))) := by
  rw [na, updF_i]
  congr 2
  funext j
  unfold stF
  by_cases e : j = k
  · subst e; rw [if_pos rfl, if_pos (by omega)]
  · rw [if_neg e]
    by_cases h : j < k
    · rw [if_pos h, if_pos (by omega)]
    · rw [if_neg h, if_neg (by omega)]
theorem hf_of {x : IT} {len k : Nat} (g : k < len) : hfN x (len + 1) k = hf x k := by
  unfold hfN
  rw [decide_eq_true (by omega), Bool.true_and]
theorem slt_of {k ns : Nat} {b : Bool} (hk : k < 65536) (hn : ns < 9223372036854775808) (h : (BitVec.ofNat 64 k).slt (BitVec.ofNat 64 ns) = b) : decide (k < ns) = b := by rw [← h, slt_nat (by omega) hn]
section
variable {x : IT} {st : Nat → Bool} {len ns k : Nat} (g : k < len) (hk : k < 65536) (hn : ns < 9223372036854775808)
include g
theorem be1 (h1 : (!hfN x (len + 1) k) = true) (h2 : mayB (x k).o = true) : AV.one (.bool true) = AV.one (.bool (behP x st ns (k + 1))) := by
  rw [hf_of g] at h1
  rw [behP, behB, h1, h2]; rfl
theorem be6 (h1 : (!hfN x (len + 1) k) = false) : AV.one (.bool false) = AV.one (.bool (behP x st ns (k + 1))) := by
  rw [hf_of g] at h1
  rw [behP, behB, h1]; rfl
include hk hn
theorem be2 (h1 : (!hfN x (len + 1) k) = true) (h2 : mayB (x k).o = false) (h3 : (BitVec.ofNat 64 k).slt (BitVec.ofNat 64 ns) = true) (h4 : st k = true) (h5 : ((x k).o &&& 7#8 == 2#8) = true) : AV.one (.bool true) = AV.one (.bool (behP x st ns (k + 1))) := by
  rw [hf_of g] at h1
  rw [behP, behB, h1, h2, slt_of hk hn h3, h4, stB, h5]; rfl
theorem be3 (h1 : (!hfN x (len + 1) k) = true) (h2 : mayB (x k).o = false) (h3 : (BitVec.ofNat 64 k).slt (BitVec.ofNat 64 ns) = true) (h4 : st k = true) (h5 : ((x k).o &&& 7#8 == 2#8) = false) : AV.one (.bool ((x (BitVec.ofNat 64 k).toNat).o &&& 7#8 == 3#8)) = AV.one (.bool (behP x st ns (k + 1))) := by
  rw [hf_of g] at h1
  rw [behP, behB, h1, h2, slt_of hk hn h3, h4, stB, h5, nat_ofNat (by omega)]; rfl
theorem be4 (h1 : (!hfN x (len + 1) k) = true) (h2 : mayB (x k).o = false) (h3 : (BitVec.ofNat 64 k).slt (BitVec.ofNat 64 ns) = true) (h4 : st k = false) : AV.one (.bool false) = AV.one (.bool (behP x st ns (k + 1))) := by
  rw [hf_of g] at h1
  rw [behP, behB, h1, h2, slt_of hk hn h3, h4]; rfl
theorem be5 (h1 : (!hfN x (len + 1) k) = true) (h2 : mayB (x k).o = false) (h3 : (BitVec.ofNat 64 k).slt (BitVec.ofNat 64 ns) = false) : AV.one (.bool false) = AV.one (.bool (behP x st ns (k + 1))) := by
  rw [hf_of g] at h1
  rw [behP, behB, h1, h2, slt_of hk hn h3]; rfl
end
end Go.Proofs.YthkgakelgdncjaaDoor
/-
  Chapter 23: a program with barriers may be: where its slots stand, and that nothing is wrong with it. Plain definitions and facts. Conditions: as each says.
-/
namespace Go.Proofs.YthkgakelgdncjaaDoor
open Go.Ep Go.RowKit
set_option linter.unusedVariables false
set_option linter.unusedSimpArgs false
/-- Where a slot stands. -/
def posO (b : Nat → Bool) (k : Nat) : Nat := lenO b k + (if b k then 1 else 0)
theorem len_pos (b : Nat → Bool) (k : Nat) : lenO b (k + 1) = posO b k + 1 := by
  unfold posO
  rw [lenO]
  cases b k <;> rfl
theorem pos_ge (b : Nat → Bool) (k : Nat) : lenO b k ≤ posO b k := Nat.le_add_right _ _
theorem len_mono (b : Nat → Bool) {k n : Nat} (h : k ≤ n) : lenO b k ≤ lenO b n := by
  induction h with
  | refl => exact Nat.le_refl _
  | step _ ih => exact Nat.le_trans ih (Nat.le_trans (Nat.le_trans (pos_ge b _) (Nat.le_succ _)) (Nat.le_of_eq (len_pos b _).symm))
theorem pos_lt (b : Nat → Bool) {k n : Nat} (h : k < n) : posO b k < lenO b n := by
  have h1 := len_mono b (show k + 1 ≤ n from h)
  have h2 := len_pos b k
  omega
theorem len_lt (b : Nat → Bool) {k n : Nat} (h : k < n) : lenO b k < lenO b n := Nat.lt_of_le_of_lt (pos_ge b k) (pos_lt b h)
theorem pos_t {b : Nat → Bool} {k : Nat} (h : b k = true) : posO b k = lenO b k + 1 := by unfold posO; rw [h]; rfl
theorem pos_f {b : Nat → Bool} {k : Nat} (h : b k = false) : posO b k = lenO b k := by unfold posO; rw [h]; rfl
theorem place (b : Nat → Bool) : ∀ n t, t < lenO b n → ∃ k, k < n ∧ ((b k = true ∧ t = lenO b k) ∨ t = posO b k)
  | 0, t, h => absurd h (Nat.not_lt_zero _)
  | n + 1, t, h => by
    rcases Nat.lt_or_ge t (lenO b n) with g | g
    · obtain ⟨k, h1, h2⟩ := place b n t g
      exact ⟨k, by omega, h2⟩
    · refine ⟨n, Nat.lt_succ_self n, ?_⟩
      have hp := len_pos b n
      cases hb : b n with
      | false => have := pos_f hb; exact .inr (by omega)
      | true =>
        have := pos_t hb
        rcases (by omega : t = lenO b n ∨ t = posO b n) with e | e
        · exact .inl ⟨rfl, e⟩
        · exact .inr e
theorem outO_pos (x : IT) (b : Nat → Bool) : ∀ n k, k < n → outO x b n (posO b k) = x k
  | 0, k, h => absurd h (Nat.not_lt_zero _)
  | n + 1, k, h => by
    rcases Nat.lt_or_ge k n with g | g
    · have hp := pos_lt b g
      rw [outO]
      cases hb : b n with
      | false =>
        show appI (outO x b n) (lenO b n) (x n) (posO b k) = x k
        unfold appI; rw [if_neg (by omega)]; exact outO_pos x b n k g
      | true =>
        show appI (appI (outO x b n) (lenO b n) barI) (lenO b n + 1) (x n) (posO b k) = x k
        unfold appI; rw [if_neg (by omega), if_neg (by omega)]; exact outO_pos x b n k g
    · obtain rfl : k = n := by omega
      rw [outO]
      cases hb : b k with
      | false =>
        show appI (outO x b k) (lenO b k) (x k) (posO b k) = x k
        unfold appI; rw [if_pos (pos_ge b k)]
      | true =>
        show appI (appI (outO x b k) (lenO b k) barI) (lenO b k + 1) (x k) (posO b k) = x k
        unfold appI; rw [if_pos (Nat.le_of_eq (pos_t hb).symm)]
theorem outO_bar (x : IT) (b : Nat → Bool) : ∀ n k, k < n → b k = true → outO x b n (lenO b k) = barI
  | 0, k, h, _ => absurd h (Nat.not_lt_zero _)
  | n + 1, k, h, hk => by
    rcases Nat.lt_or_ge k n with g | g
    · have hp := len_lt b g
      rw [outO]
      cases hb : b n with
      | false =>
        show appI (outO x b n) (lenO b n) (x n) (lenO b k) = barI
        unfold appI; rw [if_neg (by omega)]; exact outO_bar x b n k g hk
      | true =>
        show appI (appI (outO x b n) (lenO b n) barI) (lenO b n + 1) (x n) (lenO b k) = barI
        unfold appI; rw [if_neg (by omega), if_neg (by omega)]; exact outO_bar x b n k g hk
    · obtain rfl : k = n := by omega
      rw [outO, hk]
      show appI (appI (outO x b k) (lenO b k) barI) (lenO b k + 1) (x k) (lenO b k) = barI
      unfold appI; rw [if_neg (by omega), if_pos (Nat.le_refl _)]
theorem frO_pos (b : Nat → Bool) : ∀ n k, k < n → frO b n (posO b k) = bv k
  | 0, k, h => absurd h (Nat.not_lt_zero _)
  | n + 1, k, h => by
    rcases Nat.lt_or_ge k n with g | g
    · have hp := pos_lt b g
      rw [frO]
      cases hb : b n with
      | false =>
        show appI (frO b n) (lenO b n) (bv n) (posO b k) = bv k
        unfold appI; rw [if_neg (by omega)]; exact frO_pos b n k g
      | true =>
        show appI (appI (frO b n) (lenO b n) _) (lenO b n + 1) (bv n) (posO b k) = bv k
        unfold appI; rw [if_neg (by omega), if_neg (by omega)]; exact frO_pos b n k g
    · obtain rfl : k = n := by omega
      rw [frO]
      cases hb : b k with
      | false =>
        show appI (frO b k) (lenO b k) (bv k) (posO b k) = bv k
        unfold appI; rw [if_pos (pos_ge b k)]
      | true =>
        show appI (appI (frO b k) (lenO b k) _) (lenO b k + 1) (bv k) (posO b k) = bv k
        unfold appI; rw [if_pos (Nat.le_of_eq (pos_t hb).symm)]
theorem frO_bar (b : Nat → Bool) : ∀ n k, k < n → b k = true → frO b n (lenO b k) = BitVec.ofInt 64 (Int.negSucc 0)
  | 0, k, h, _ => absurd h (Nat.not_lt_zero _)
  | n + 1, k, h, hk => by
    rcases Nat.lt_or_ge k n with g | g
    · have hp := len_lt b g
      rw [frO]
      cases hb : b n with
      | false =>
        show appI (frO b n) (lenO b n) (bv n) (lenO b k) = _
        unfold appI; rw [if_neg (by omega)]; exact frO_bar b n k g hk
      | true =>
        show appI (appI (frO b n) (lenO b n) _) (lenO b n + 1) (bv n) (lenO b k) = _
        unfold appI; rw [if_neg (by omega), if_neg (by omega)]; exact frO_bar b n k g hk
    · obtain rfl : k = n := by omega
      rw [frO, hk]
      show appI (appI (frO b k) (lenO b k) _) (lenO b k + 1) (bv k) (lenO b k) = _
      unfold appI; rw [if_neg (by omega), if_pos (Nat.le_refl _)]
theorem out2_at (x : IT) (b : Nat → Bool) (n : Nat) : ∀ m t, out2 x b n m t = if t < m ∧ condO x b n t = true then { outO x b n t with f := valO x b n t } else outO x b n t
  | 0, t => by rw [if_neg (by omega)]; rfl
  | m + 1, t => by
    have ih := out2_at x b n m
    cases hc : condO x b n m with
    | false =>
      rw [o2_no hc, ih]
      by_cases e : t < m
      · by_cases e2 : condO x b n t = true
        · rw [if_pos ⟨e, e2⟩, if_pos ⟨by omega, e2⟩]
        · rw [if_neg (fun h => e2 h.2), if_neg (fun h => e2 h.2)]
      · rw [if_neg (fun h => e h.1)]
        by_cases e2 : t = m
        · subst e2; rw [if_neg (fun h => by rw [hc] at h; exact absurd h.2 (by decide))]
        · rw [if_neg (fun h => by omega)]
    | true =>
      rw [o2_yes hc]
      show (if t = m then { out2 x b n m m with f := valO x b n m } else out2 x b n m t) = _
      by_cases e2 : t = m
      · subst e2
        rw [if_pos rfl, if_pos ⟨by omega, hc⟩, ih, if_neg (fun h => by omega)]
      · rw [if_neg e2, ih]
        by_cases e : t < m ∧ condO x b n t = true
        · rw [if_pos e, if_pos ⟨by omega, e.2⟩]
        · rw [if_neg e, if_neg (fun h => e ⟨by omega, h.2⟩)]
/-- The slot that was the last one. -/
def lastV (y : IT) (f : Nat → BitVec 64) : Nat → BitVec 64
  | 0 => BitVec.ofInt 64 (Int.negSucc 0)
  | t + 1 => if (y t).o == 194#8 then lastV y f t else f t
/-! What is led, and what stands behind, is no second half. -/
section
variable {x : IT} {n ns : Nat} {st : Nat → Bool} {m : BitVec 64} (G : Good x n m false)
include G
theorem bar_half {k : Nat} (hk : k < n) (h : hf x k = true) : barB x n st ns k = false := by
  have W := G.ways
  have h1 : ledF x n k = false := ledF_none fun i hi c => by
    have := toV_lt W hi (may_first G hi c.1) (may_jmp c.1)
    rw [c.2, h] at this
    exact absurd this.2.1 (by decide)
  have h2 : behP x st ns k = false := by
    cases k with
    | zero => rfl
    | succ k =>
      rw [hf, Bool.and_eq_true, beq_iff_eq] at h
      rw [behP, behB, h.2]
      show (!hf x k && (mayB 24#8 || (decide (k < ns) && (st k && stB 24#8)))) = false
      rw [show mayB 24#8 = false by decide, show stB 24#8 = false by decide, Bool.and_false, Bool.and_false, Bool.or_false, Bool.and_false]
  unfold barB
  rw [h1, h2]; rfl
theorem bar_first {k : Nat} (hk : k < n) (h : barB x n st ns k = true) : hf x k = false := by
  cases e : hf x k with
  | false => rfl
  | true => rw [bar_half G hk e] at h; exact absurd h (by decide)
end
theorem fO_jmp (o : BitVec 8) (w : Bool) (h : jmpB o = true) (hk : fK o w = true) : fO o = true := by
  have key : ∀ o : BitVec 8, (!jmpB o || fO o) = true := all8 (p := fun o => !jmpB o || fO o) (by decide +kernel)
  have := key o
  rw [h] at this
  simpa using this
theorem iCheck_f {o d s : BitVec 8} {f f' : BitVec 16} {i : BitVec 32} {w : Bool} (hj : jmpB o = true) (h : iCheck o d s f i w = 0#64) : iCheck o d s f' i w = 0#64 := by
  have hk : fK o w = true := by
    cases e : fK o w with
    | true => rfl
    | false =>
      unfold iCheck at h
      rw [e] at h
      have h' : 20#64 = 0#64 := h
      exact absurd h' (by decide)
  have hO := fO_jmp o w hj hk
  unfold iCheck at h ⊢
  rw [hO] at h ⊢
  exact h
theorem iCheck_t {o d s : BitVec 8} {f : BitVec 16} {i : BitVec 32} (h : iCheck o d s f i false = 0#64) : iCheck o d s f i true = 0#64 := by
  rw [iCheck_more _ _ _ _ _ (by rw [h]; decide), h]
theorem neg_sle {n : Nat} (h : n ≤ 64) : (BitVec.ofNat 64 n).sle (BitVec.ofInt 64 (Int.negSucc 0)) = false := by
  have e : (BitVec.ofInt 64 (Int.negSucc 0)).toInt = -1 := by decide
  rw [BitVec.sle_eq_decide, toInt_ofNat (by omega), e]
  exact decide_eq_false (by omega)
theorem neg_slt : (BitVec.ofInt 64 (Int.negSucc 0)).slt 0#64 = true := by decide
/-- From a slot to another one and back: 16 bits do. -/
theorem back64 {a p : Nat} (ha : a ≤ 192) (hp : p ≤ 192) : bv p + 1#64 + BitVec.signExtend 64 (BitVec.signExtend 16 (bv a - bv p - 1#64)) = bv a := by
  have e : BitVec.signExtend 64 (BitVec.signExtend 16 (bv a - bv p - 1#64)) = bv a - bv p - 1#64 := by
    have t1 : (bv a - bv p - 1#64).toInt = (a : Int) - p - 1 := by
      rw [BitVec.toInt_sub, BitVec.toInt_sub, toInt_ofNat (by omega), toInt_ofNat (by omega), show (1#64).toInt = 1 from rfl, Int.bmod_eq_of_le (n := (a : Int) - p) (by omega) (by omega), Int.bmod_eq_of_le (by omega) (by omega)]
    have t3 : (BitVec.ofInt 16 ((a : Int) - p - 1)).toInt = (a : Int) - p - 1 := by
      rw [BitVec.toInt_ofInt]; exact Int.bmod_eq_of_le (by omega) (by omega)
    rw [show BitVec.signExtend 16 (bv a - bv p - 1#64) = BitVec.ofInt 16 ((a : Int) - p - 1) by rw [BitVec.signExtend, t1], BitVec.signExtend, t3, ← t1, BitVec.ofInt_toInt]
  rw [e]
  rw [BitVec.sub_sub, BitVec.add_comm, BitVec.sub_add_cancel]
/-! The program with barriers. -/
section
variable {x : IT} {n ns : Nat} {st : Nat → Bool} {m : BitVec 64} (G : Good x n m false)
include G
theorem n64 : n ≤ 64 := G.most
theorem N_le : (lenO (barB x n st ns) n) ≤ 128 := by have := (lenO_le (barB x n st ns) n).2; have := n64 G; omega
theorem N_pos : 0 < (lenO (barB x n st ns) n) := by have := (lenO_le (barB x n st ns) n).1; have := G.pos; omega
theorem y_bar {k : Nat} (hk : k < n) (hb : (barB x n st ns) k = true) : (out2 x (barB x n st ns) n (lenO (barB x n st ns) n)) (lenO (barB x n st ns) k) = barI := by
  have _ := G.pos
  rw [out2_at, cn1 (frO_bar (barB x n st ns) n k hk hb), if_neg (fun h => absurd h.2 (by decide)), outO_bar x (barB x n st ns) n k hk hb]
theorem y_same {k : Nat} (hk : k < n) (h : hf x k = true ∨ jmpB (x k).o = false) : (out2 x (barB x n st ns) n (lenO (barB x n st ns) n)) (posO (barB x n st ns) k) = x k := by
  have np : (bv k).toNat = k := nat_ofNat (by have := n64 G; omega)
  have hc : condO x (barB x n st ns) n (posO (barB x n st ns) k) = false := by
    rcases h with h | h
    · exact cn2 (frO_pos (barB x n st ns) n k hk) np h
    · exact cn3 (frO_pos (barB x n st ns) n k hk) np h
  rw [out2_at, hc, if_neg (fun h => absurd h.2 (by decide)), outO_pos x (barB x n st ns) n k hk]
theorem y_jmp {k : Nat} (hk : k < n) (h : hf x k = false) (hj : jmpB (x k).o = true) : (out2 x (barB x n st ns) n (lenO (barB x n st ns) n)) (posO (barB x n st ns) k) = { x k with f := valO x (barB x n st ns) n (posO (barB x n st ns) k) } := by
  have np : (bv k).toNat = k := nat_ofNat (by have := n64 G; omega)
  have hc : condO x (barB x n st ns) n (posO (barB x n st ns) k) = true := cn4 (frO_pos (barB x n st ns) n k hk) np (slt_0 (by have := n64 G; omega)) h hj
  rw [out2_at, if_pos ⟨pos_lt (barB x n st ns) hk, hc⟩, outO_pos x (barB x n st ns) n k hk]
theorem y_o {k : Nat} (hk : k < n) : ((out2 x (barB x n st ns) n (lenO (barB x n st ns) n)) (posO (barB x n st ns) k)).o = (x k).o ∧ ((out2 x (barB x n st ns) n (lenO (barB x n st ns) n)) (posO (barB x n st ns) k)).d = (x k).d ∧ ((out2 x (barB x n st ns) n (lenO (barB x n st ns) n)) (posO (barB x n st ns) k)).s = (x k).s ∧ ((out2 x (barB x n st ns) n (lenO (barB x n st ns) n)) (posO (barB x n st ns) k)).i = (x k).i := by
  cases h : hf x k with
  | true => rw [y_same G hk (.inl h)]; exact ⟨rfl, rfl, rfl, rfl⟩
  | false =>
    cases hj : jmpB (x k).o with
    | false => rw [y_same G hk (.inr hj)]; exact ⟨rfl, rfl, rfl, rfl⟩
    | true => rw [y_jmp G hk h hj]; exact ⟨rfl, rfl, rfl, rfl⟩
theorem hf_y : ∀ k, k ≤ n → hf (out2 x (barB x n st ns) n (lenO (barB x n st ns) n)) (lenO (barB x n st ns) k) = hf x k
  | 0, _ => rfl
  | k + 1, hk => by
    have ih := hf_y k (by omega)
    have h2 : hf (out2 x (barB x n st ns) n (lenO (barB x n st ns) n)) (posO (barB x n st ns) k) = hf x k := by
      cases hb : (barB x n st ns) k with
      | false => rw [pos_f hb]; exact ih
      | true =>
        have h0 := bar_first G (by omega) hb
        rw [pos_t hb, hf, y_bar G (by omega) hb, h0]
        show (!_ && (194#8 == 24#8)) = false
        rw [show (194#8 == 24#8) = false by decide, Bool.and_false]
    rw [len_pos, hf, hf, h2, (y_o G (by omega)).1]
theorem hf_p {k : Nat} (hk : k < n) : hf (out2 x (barB x n st ns) n (lenO (barB x n st ns) n)) (posO (barB x n st ns) k) = hf x k := by
  cases hb : (barB x n st ns) k with
  | false => rw [pos_f hb]; exact hf_y G k (by omega)
  | true =>
    have h0 := bar_first G hk hb
    rw [pos_t hb, hf, y_bar G hk hb, h0]
    show (!_ && (194#8 == 24#8)) = false
    rw [show (194#8 == 24#8) = false by decide, Bool.and_false]
theorem toV_y {k : Nat} (hk : k < n) (h : hf x k = false) (hj : jmpB (x k).o = true) : toV (out2 x (barB x n st ns) n (lenO (barB x n st ns) n)) (bv (posO (barB x n st ns) k)) = bv (lenO (barB x n st ns) (toV x (bv k)).toNat) := by
  have hN := N_le (st := st) (ns := ns) G
  have hp := pos_lt (barB x n st ns) hk
  have np : (bv (posO (barB x n st ns) k)).toNat = posO (barB x n st ns) k := nat_ofNat (by omega)
  have nk : (bv k).toNat = k := nat_ofNat (by have := n64 G; omega)
  have ht := toV_lt G.ways hk h hj
  have hl := len_lt (barB x n st ns) ht.1
  unfold toV
  rw [np, y_jmp G hk h hj]
  show bv (posO (barB x n st ns) k) + 1#64 + BitVec.signExtend 64 (valO x (barB x n st ns) n (posO (barB x n st ns) k)) = _
  unfold valO
  rw [frO_pos (barB x n st ns) n k hk]
  exact back64 (by omega) (by omega)
/-- What is wrong alone. -/
theorem alone_y {k : Nat} (hk : k < n) (h : hf x k = false) : aloneE (out2 x (barB x n st ns) n (lenO (barB x n st ns) n)) (lenO (barB x n st ns) n) (bv (posO (barB x n st ns) k)) m true = 0#64 := by
  have hN := N_le (st := st) (ns := ns) G
  have h64 := n64 G
  have hp := pos_lt (barB x n st ns) hk
  have np : (bv (posO (barB x n st ns) k)).toNat = posO (barB x n st ns) k := nat_ofNat (by omega)
  have nk : (bv k).toNat = k := nat_ofNat (by omega)
  have ha := G.alone k hk h
  have hi := alone_i (by omega) ha
  obtain ⟨eo, ed, es, ei⟩ := y_o (st := st) (ns := ns) G hk
  have hi2 : iCheck ((out2 x (barB x n st ns) n (lenO (barB x n st ns) n)) (posO (barB x n st ns) k)).o ((out2 x (barB x n st ns) n (lenO (barB x n st ns) n)) (posO (barB x n st ns) k)).d ((out2 x (barB x n st ns) n (lenO (barB x n st ns) n)) (posO (barB x n st ns) k)).s ((out2 x (barB x n st ns) n (lenO (barB x n st ns) n)) (posO (barB x n st ns) k)).f ((out2 x (barB x n st ns) n (lenO (barB x n st ns) n)) (posO (barB x n st ns) k)).i true = 0#64 := by
    rw [eo, ed, es, ei]
    cases hj : jmpB (x k).o with
    | true => exact iCheck_f hj (iCheck_t hi)
    | false => rw [y_same G hk (.inr hj)]; exact iCheck_t hi
  unfold aloneE at ha ⊢
  rw [nk, hi] at ha
  rw [np, hi2]
  rw [if_neg (by decide)] at ha ⊢
  rw [eo, ei, es]
  by_cases e1 : ((x k).o == 133#8) = true
  · rw [if_pos e1] at ha ⊢; exact ha
  · rw [if_neg e1] at ha ⊢
    by_cases e2 : ((x k).o == 24#8) = true
    · rw [if_pos e2] at ha ⊢
      have e3 : (x k).o = 24#8 := eq_of_beq e2
      have hh : hf x (k + 1) = true := by rw [hf, h, e2]; rfl
      have hf1 := fall_lt G.ways hk h (by rw [e3]; decide) (by rw [e3]; decide)
      have hz : szN (x k).o = 2 := by rw [e3]; decide
      rw [hz] at hf1
      have hb1 := bar_half (st := st) (ns := ns) G (show k + 1 < n by omega) hh
      have hq : posO (barB x n st ns) (k + 1) = posO (barB x n st ns) k + 1 := by rw [pos_f hb1, len_pos]
      have hq2 := pos_lt (barB x n st ns) (show k + 1 < n by omega)
      have a1 : bv (posO (barB x n st ns) k) + 1#64 = bv (posO (barB x n st ns) (k + 1)) := by rw [hq]; exact (BitVec.ofNat_add _ _).symm
      have a2 : bv k + 1#64 = bv (k + 1) := (BitVec.ofNat_add _ _).symm
      have n1 : (bv (posO (barB x n st ns) (k + 1))).toNat = posO (barB x n st ns) (k + 1) := nat_ofNat (by omega)
      have n2 : (bv (k + 1)).toNat = k + 1 := nat_ofNat (by omega)
      have l1 : (BitVec.ofNat 64 (lenO (barB x n st ns) n)).sle (bv (posO (barB x n st ns) (k + 1))) = false := (sle_nat (by omega) (by omega)).trans (decide_eq_false (by omega))
      have l2 : (BitVec.ofNat 64 n).sle (bv (k + 1)) = false := (sle_nat (by omega) (by omega)).trans (decide_eq_false (by omega))
      rw [a2, n2, l2] at ha
      rw [a1, n1, l1, y_same G (show k + 1 < n by omega) (.inl hh)]
      exact ha
    · rw [if_neg e2]
theorem alone_b {k : Nat} (hk : k < n) (hb : (barB x n st ns) k = true) : aloneE (out2 x (barB x n st ns) n (lenO (barB x n st ns) n)) (lenO (barB x n st ns) n) (bv (lenO (barB x n st ns) k)) m true = 0#64 := by
  have hN := N_le (st := st) (ns := ns) G
  have hp := len_lt (barB x n st ns) hk
  have np : (bv (lenO (barB x n st ns) k)).toNat = lenO (barB x n st ns) k := nat_ofNat (by omega)
  unfold aloneE
  rw [np, y_bar G hk hb]
  rfl
theorem way_y {k : Nat} (hk : k < n) (h : hf x k = false) : wayE (out2 x (barB x n st ns) n (lenO (barB x n st ns) n)) (lenO (barB x n st ns) n) (bv (posO (barB x n st ns) k)) = 0#64 := by
  have hN := N_le (st := st) (ns := ns) G
  have h64 := n64 G
  have hp := pos_lt (barB x n st ns) hk
  have np : (bv (posO (barB x n st ns) k)).toNat = posO (barB x n st ns) k := nat_ofNat (by omega)
  obtain ⟨eo, -, -, -⟩ := y_o (st := st) (ns := ns) G hk
  unfold wayE
  rw [np, eo]
  have fall : ∀ (he : endB (x k).o = false) (ha : alwB (x k).o = false), (BitVec.ofNat 64 (lenO (barB x n st ns) n)).sle (bv (posO (barB x n st ns) k) + szV (x k).o) = false := fun he ha => by
    have hl := fall_lt G.ways hk h he ha
    have e : bv (posO (barB x n st ns) k) + szV (x k).o = bv (posO (barB x n st ns) k + szN (x k).o) := by rw [szV_nat]; exact (BitVec.ofNat_add _ _).symm
    have hs : posO (barB x n st ns) k + szN (x k).o < (lenO (barB x n st ns) n) := by
      unfold szN at hl ⊢
      split at hl
      · rename_i e2
        rw [if_pos e2]
        have hh : hf x (k + 1) = true := by rw [hf, h, e2]; rfl
        have hb1 := bar_half (st := st) (ns := ns) G (show k + 1 < n by omega) hh
        have hq : posO (barB x n st ns) (k + 1) = posO (barB x n st ns) k + 1 := by rw [pos_f hb1, len_pos]
        have := len_pos (barB x n st ns) (k + 1)
        have := len_lt (barB x n st ns) (show k + 1 + 1 < n from hl)
        omega
      · rename_i e2
        rw [if_neg e2]
        have := len_pos (barB x n st ns) k
        have := len_lt (barB x n st ns) (show k + 1 < n from hl)
        omega
    rw [e]
    exact (sle_nat (by omega) (by omega)).trans (decide_eq_false (by omega))
  have tail : (if !endB (x k).o && (!alwB (x k).o && (BitVec.ofNat 64 (lenO (barB x n st ns) n)).sle (bv (posO (barB x n st ns) k) + szV (x k).o)) then 43#64 else 0#64) = 0#64 := by
    cases he : endB (x k).o with
    | true => rfl
    | false =>
      cases ha : alwB (x k).o with
      | true => rfl
      | false => rw [fall he ha]; rfl
  cases hj : jmpB (x k).o with
  | false => rw [Bool.false_and, Bool.false_and, if_neg (by decide), if_neg (by decide)]; exact tail
  | true =>
    have ht := toV_lt G.ways hk h hj
    have hl := len_lt (barB x n st ns) ht.1
    have nt : (bv (lenO (barB x n st ns) (toV x (bv k)).toNat)).toNat = lenO (barB x n st ns) (toV x (bv k)).toNat := nat_ofNat (by omega)
    rw [toV_y G hk h hj, nt, hf_y G _ (by omega), ht.2.1, (sle_nat (by omega) (by omega)).trans (decide_eq_false (by omega)), slt_0 (by omega)]
    exact tail
theorem way_b {k : Nat} (hk : k < n) (hb : (barB x n st ns) k = true) : wayE (out2 x (barB x n st ns) n (lenO (barB x n st ns) n)) (lenO (barB x n st ns) n) (bv (lenO (barB x n st ns) k)) = 0#64 := by
  have hN := N_le (st := st) (ns := ns) G
  have hp := pos_lt (barB x n st ns) hk
  have hq := pos_t hb
  have np : (bv (lenO (barB x n st ns) k)).toNat = lenO (barB x n st ns) k := nat_ofNat (by omega)
  unfold wayE
  rw [np, y_bar G hk hb]
  have e : bv (lenO (barB x n st ns) k) + szV barI.o = bv (lenO (barB x n st ns) k + 1) := (BitVec.ofNat_add _ _).symm
  rw [e, (sle_nat (by omega) (by omega)).trans (decide_eq_false (by omega))]
  rfl
theorem succ_b {k : Nat} (hk : k < n) (hb : (barB x n st ns) k = true) : succ (out2 x (barB x n st ns) n (lenO (barB x n st ns) n)) (lenO (barB x n st ns) k) = [posO (barB x n st ns) k] := by
  unfold succ
  rw [y_bar G hk hb, pos_t hb]
  rfl
theorem succ_y {k q : Nat} (hk : k < n) (h : hf x k = false) (hq : q ∈ succ x k) : lenO (barB x n st ns) q ∈ succ (out2 x (barB x n st ns) n (lenO (barB x n st ns) n)) (posO (barB x n st ns) k) := by
  have hN := N_le (st := st) (ns := ns) G
  have h64 := n64 G
  obtain ⟨eo, -, -, -⟩ := y_o (st := st) (ns := ns) G hk
  unfold succ at hq ⊢
  rw [eo]
  have jmp : ∀ hj : jmpB (x k).o = true, (toV (out2 x (barB x n st ns) n (lenO (barB x n st ns) n)) (bv (posO (barB x n st ns) k))).toNat = lenO (barB x n st ns) (toV x (bv k)).toNat := fun hj => by
    have ht := toV_lt G.ways hk h hj
    have hl := len_lt (barB x n st ns) ht.1
    rw [toV_y G hk h hj]
    exact nat_ofNat (by omega)
  have fall : ∀ (he : endB (x k).o = false) (ha : alwB (x k).o = false), posO (barB x n st ns) k + szN (x k).o = lenO (barB x n st ns) (k + szN (x k).o) := fun he ha => by
    have hl := fall_lt G.ways hk h he ha
    unfold szN at hl ⊢
    split at hl
    · rename_i e2
      rw [if_pos e2]
      have hh : hf x (k + 1) = true := by rw [hf, h, e2]; rfl
      have hb1 := bar_half (st := st) (ns := ns) G (show k + 1 < n by omega) hh
      have hq : posO (barB x n st ns) (k + 1) = posO (barB x n st ns) k + 1 := by rw [pos_f hb1, len_pos]
      have := len_pos (barB x n st ns) (k + 1)
      show posO (barB x n st ns) k + 2 = lenO (barB x n st ns) (k + 1 + 1)
      omega
    · rename_i e2
      rw [if_neg e2]
      exact (len_pos (barB x n st ns) k).symm
  cases he : endB (x k).o with
  | true => rw [he, if_pos rfl] at hq; cases hq
  | false =>
    rw [he, if_neg (by decide)] at hq
    rw [if_neg (by decide)]
    cases ha : alwB (x k).o with
    | true =>
      rw [ha, if_pos rfl] at hq
      rw [if_pos rfl]
      have hj : jmpB (x k).o = true := by simp only [alwB, Bool.and_eq_true] at ha; exact ha.1
      obtain rfl := List.mem_singleton.1 hq
      rw [jmp hj]; exact List.mem_singleton.2 rfl
    | false =>
      rw [ha, if_neg (by decide)] at hq
      rw [if_neg (by decide)]
      cases hj : jmpB (x k).o with
      | true =>
        rw [hj, if_pos rfl] at hq
        rw [if_pos rfl, jmp hj, fall he ha]
        rcases List.mem_cons.1 hq with rfl | hq
        · exact List.mem_cons_self
        · obtain rfl := List.mem_singleton.1 hq
          exact List.mem_cons_of_mem _ (List.mem_singleton.2 rfl)
      | false =>
        rw [hj, if_neg (by decide)] at hq
        rw [if_neg (by decide), fall he ha]
        obtain rfl := List.mem_singleton.1 hq
        exact List.mem_singleton.2 rfl
theorem reach_p {k : Nat} (hk : k < n) (h : Reach (out2 x (barB x n st ns) n (lenO (barB x n st ns) n)) (lenO (barB x n st ns) k)) : Reach (out2 x (barB x n st ns) n (lenO (barB x n st ns) n)) (posO (barB x n st ns) k) := by
  cases hb : (barB x n st ns) k with
  | false => rw [pos_f hb]; exact h
  | true => exact .step h (by rw [succ_b G hk hb]; exact List.mem_singleton.2 rfl)
theorem reach_y {k : Nat} (h : Reach x k) : Reach (out2 x (barB x n st ns) n (lenO (barB x n st ns) n)) (lenO (barB x n st ns) k) := by
  induction h with
  | zero => exact .zero
  | step hp hq ih =>
    have hr := reach_lt G.ways G.pos hp
    exact .step (reach_p G hr.1 ih) (succ_y G hr.1 hr.2 hq)
/-- Nothing is wrong with it. -/
theorem chk_y : chk4 (out2 x (barB x n st ns) n (lenO (barB x n st ns) n)) (lenO (barB x n st ns) n) m true = (0#64, 0#64) := by
  have hN := N_le (st := st) (ns := ns) G
  have h0 := N_pos (st := st) (ns := ns) G
  have hA : ∀ t, t < (lenO (barB x n st ns) n) → badA (out2 x (barB x n st ns) n (lenO (barB x n st ns) n)) (lenO (barB x n st ns) n) m true t = false := fun t ht => by
    obtain ⟨k, hk, ⟨hb, rfl⟩ | rfl⟩ := place (barB x n st ns) n t ht
    · unfold badA; rw [alone_b G hk hb]; simp
    · unfold badA
      rw [hf_p G hk]
      cases h : hf x k with
      | true => rfl
      | false => rw [alone_y G hk h]; rfl
  have hW : ∀ t, t < (lenO (barB x n st ns) n) → badW (out2 x (barB x n st ns) n (lenO (barB x n st ns) n)) (lenO (barB x n st ns) n) t = false := fun t ht => by
    obtain ⟨k, hk, ⟨hb, rfl⟩ | rfl⟩ := place (barB x n st ns) n t ht
    · unfold badW; rw [way_b G hk hb]; simp
    · unfold badW
      rw [hf_p G hk]
      cases h : hf x k with
      | true => rfl
      | false => rw [way_y G hk h]; rfl
  have hR : ∀ t, t < (lenO (barB x n st ns) n) → (!hf (out2 x (barB x n st ns) n (lenO (barB x n st ns) n)) t && !reachB (out2 x (barB x n st ns) n (lenO (barB x n st ns) n)) t) = false := fun t ht => by
    obtain ⟨k, hk, ⟨hb, rfl⟩ | rfl⟩ := place (barB x n st ns) n t ht
    · have hr := (reachB_iff x k).1 (G.led k hk (bar_first G hk hb))
      rw [(reachB_iff _ _).2 (reach_y G hr)]; simp
    · rw [hf_p G hk]
      cases h : hf x k with
      | true => rfl
      | false =>
        have hr := (reachB_iff x k).1 (G.led k hk h)
        rw [(reachB_iff _ _).2 (reach_p G hk (reach_y G hr))]; rfl
  unfold chk4
  rw [if_neg (by have : mostN true = 192 := rfl
                 omega), fstN_none hA, fstN_none hW, fstN_none hR]
theorem good_y : Good (out2 x (barB x n st ns) n (lenO (barB x n st ns) n)) (lenO (barB x n st ns) n) m true := good_of (by rw [chk_y G])
/-! The rounds over it. -/
theorem out_3 : ((3#64 * BitVec.ofNat 64 n).slt (BitVec.ofNat 64 (lenO (barB x n st ns) n))) = false := by
  have h1 := (lenO_le (barB x n st ns) n).2
  have h64 := n64 G
  have e : 3#64 * BitVec.ofNat 64 n = BitVec.ofNat 64 (3 * n) := by
    apply BitVec.eq_of_toNat_eq
    rw [BitVec.toNat_mul, BitVec.toNat_ofNat, BitVec.toNat_ofNat, BitVec.toNat_ofNat]
    omega
  rw [e, slt_nat (by omega) (by omega)]
  exact decide_eq_false (by omega)
theorem o_ins {k : Nat} (hk : k < n) : ((x k).o == 194#8) = false := by
  have h64 := n64 G
  cases h : hf x k with
  | true => rw [(half_o G hk h).1]; rfl
  | false =>
    have hi := alone_i (by omega) (G.alone k hk h)
    cases e : (x k).o == 194#8 with
    | false => rfl
    | true =>
      rw [eq_of_beq e] at hi
      unfold iCheck at hi
      rw [show fK 194#8 false = false by decide] at hi
      have h' : 20#64 = 0#64 := hi
      exact absurd h' (by decide)
theorem last_len : ∀ k, k ≤ n → lastV (out2 x (barB x n st ns) n (lenO (barB x n st ns) n)) (frO (barB x n st ns) n) (lenO (barB x n st ns) k) + 1#64 = bv k
  | 0, _ => by
    show BitVec.ofInt 64 (Int.negSucc 0) + 1#64 = 0#64
    decide
  | k + 1, hk => by
    have h1 : lastV (out2 x (barB x n st ns) n (lenO (barB x n st ns) n)) (frO (barB x n st ns) n) (posO (barB x n st ns) k + 1) = frO (barB x n st ns) n (posO (barB x n st ns) k) := by
      rw [lastV, (y_o G (by omega)).1, o_ins G (by omega)]; rfl
    rw [len_pos, h1, frO_pos (barB x n st ns) n k (by omega)]
    exact (BitVec.ofNat_add _ _).symm
theorem last_pos {k : Nat} (hk : k < n) : lastV (out2 x (barB x n st ns) n (lenO (barB x n st ns) n)) (frO (barB x n st ns) n) (posO (barB x n st ns) k) + 1#64 = bv k := by
  have h1 := last_len (st := st) (ns := ns) G k (by omega)
  cases hb : (barB x n st ns) k with
  | false => rw [pos_f hb]; exact h1
  | true =>
    rw [pos_t hb, lastV, y_bar G hk hb]
    exact h1
theorem last_end : (lastV (out2 x (barB x n st ns) n (lenO (barB x n st ns) n)) (frO (barB x n st ns) n) (lenO (barB x n st ns) n) == BitVec.ofNat 64 n - 1#64) = true := by
  have h1 := last_len (st := st) (ns := ns) G n (Nat.le_refl _)
  rw [beq_iff_eq]
  show _ = bv n - 1#64
  rw [← h1, BitVec.add_sub_cancel]
end
/-- A round at an instruction. -/
structure InsR (x : IT) (n ns : Nat) (st : Nat → Bool) (t k : Nat) : Prop where
  gp : k < n
  np : (bv k).toNat = k
  ef : frO (barB x n st ns) n t = bv k
  n0 : (bv k).slt 0#64 = false
  nl : (BitVec.ofNat 64 n).sle (bv k) = false
  ho : (((out2 x (barB x n st ns) n (lenO (barB x n st ns) n)) t).o == 194#8) = false
  lk : (bv k == lastV (out2 x (barB x n st ns) n (lenO (barB x n st ns) n)) (frO (barB x n st ns) n) t + 1#64) = true
  la : lastV (out2 x (barB x n st ns) n (lenO (barB x n st ns) n)) (frO (barB x n st ns) n) (t + 1) = bv k
  stp : stB ((out2 x (barB x n st ns) n (lenO (barB x n st ns) n)) t).o = true → (bv k).slt (BitVec.ofNat 64 ns) = true → st k = true → (BitVec.ofNat 64 (lenO (barB x n st ns) n)).sle (BitVec.ofNat 64 t + 1#64) = false ∧ (((out2 x (barB x n st ns) n (lenO (barB x n st ns) n)) (BitVec.ofNat 64 t + 1#64).toNat).o == 194#8) = true
/-- A round at a barrier. -/
structure BarR (x : IT) (n ns : Nat) (st : Nat → Bool) (t : Nat) : Prop where
  ef : frO (barB x n st ns) n t = BitVec.ofInt 64 (Int.negSucc 0)
  ho : (((out2 x (barB x n st ns) n (lenO (barB x n st ns) n)) t).o == 194#8) = true
  pv : (0#64).slt (BitVec.ofNat 64 t) = true → (((out2 x (barB x n st ns) n (lenO (barB x n st ns) n)) (BitVec.ofNat 64 t - 1#64).toNat).o == 194#8) = false ∧ 0 ≤ (BitVec.ofNat 64 t - 1#64).toInt ∧ (BitVec.ofNat 64 t - 1#64).toNat < (lenO (barB x n st ns) n)
  la : lastV (out2 x (barB x n st ns) n (lenO (barB x n st ns) n)) (frO (barB x n st ns) n) (t + 1) = lastV (out2 x (barB x n st ns) n (lenO (barB x n st ns) n)) (frO (barB x n st ns) n) t
inductive Rnd (x : IT) (n ns : Nat) (st : Nat → Bool) (t : Nat) : Prop
  | b (R : BarR x n ns st t) (he : endB ((out2 x (barB x n st ns) n (lenO (barB x n st ns) n)) (BitVec.ofNat 64 t).toNat).o = false) (ha : alwB ((out2 x (barB x n st ns) n (lenO (barB x n st ns) n)) (BitVec.ofNat 64 t).toNat).o = false) (hj : jmpB ((out2 x (barB x n st ns) n (lenO (barB x n st ns) n)) (BitVec.ofNat 64 t).toNat).o = false) (n0 : (BitVec.ofNat 64 t + szV ((out2 x (barB x n st ns) n (lenO (barB x n st ns) n)) (BitVec.ofNat 64 t).toNat).o).slt 0#64 = false) (n1 : (BitVec.ofNat 64 (lenO (barB x n st ns) n)).sle (BitVec.ofNat 64 t + szV ((out2 x (barB x n st ns) n (lenO (barB x n st ns) n)) (BitVec.ofNat 64 t).toNat).o) = false)
  | s (k : Nat) (R : InsR x n ns st t k) (he : endB ((out2 x (barB x n st ns) n (lenO (barB x n st ns) n)) (BitVec.ofNat 64 t).toNat).o = false) (ha : alwB ((out2 x (barB x n st ns) n (lenO (barB x n st ns) n)) (BitVec.ofNat 64 t).toNat).o = false) (hj : jmpB ((out2 x (barB x n st ns) n (lenO (barB x n st ns) n)) (BitVec.ofNat 64 t).toNat).o = false) (n0 : (BitVec.ofNat 64 t + szV ((out2 x (barB x n st ns) n (lenO (barB x n st ns) n)) (BitVec.ofNat 64 t).toNat).o).slt 0#64 = false) (n1 : (BitVec.ofNat 64 (lenO (barB x n st ns) n)).sle (BitVec.ofNat 64 t + szV ((out2 x (barB x n st ns) n (lenO (barB x n st ns) n)) (BitVec.ofNat 64 t).toNat).o) = false)
  | e (k : Nat) (R : InsR x n ns st t k) (he : endB ((out2 x (barB x n st ns) n (lenO (barB x n st ns) n)) (BitVec.ofNat 64 t).toNat).o = true)
  | a (k : Nat) (R : InsR x n ns st t k) (he : endB ((out2 x (barB x n st ns) n (lenO (barB x n st ns) n)) (BitVec.ofNat 64 t).toNat).o = false) (ha : alwB ((out2 x (barB x n st ns) n (lenO (barB x n st ns) n)) (BitVec.ofNat 64 t).toNat).o = true) (hj : jmpB ((out2 x (barB x n st ns) n (lenO (barB x n st ns) n)) (BitVec.ofNat 64 t).toNat).o = true) (t0 : (toK (out2 x (barB x n st ns) n (lenO (barB x n st ns) n)) t).slt 0#64 = false) (t1 : (BitVec.ofNat 64 (lenO (barB x n st ns) n)).sle (toK (out2 x (barB x n st ns) n (lenO (barB x n st ns) n)) t) = false)
  | c (k : Nat) (R : InsR x n ns st t k) (he : endB ((out2 x (barB x n st ns) n (lenO (barB x n st ns) n)) (BitVec.ofNat 64 t).toNat).o = false) (ha : alwB ((out2 x (barB x n st ns) n (lenO (barB x n st ns) n)) (BitVec.ofNat 64 t).toNat).o = false) (hj : jmpB ((out2 x (barB x n st ns) n (lenO (barB x n st ns) n)) (BitVec.ofNat 64 t).toNat).o = true) (n0 : (BitVec.ofNat 64 t + szV ((out2 x (barB x n st ns) n (lenO (barB x n st ns) n)) (BitVec.ofNat 64 t).toNat).o).slt 0#64 = false) (n1 : (BitVec.ofNat 64 (lenO (barB x n st ns) n)).sle (BitVec.ofNat 64 t + szV ((out2 x (barB x n st ns) n (lenO (barB x n st ns) n)) (BitVec.ofNat 64 t).toNat).o) = false) (n2 : 0 ≤ (BitVec.ofNat 64 t + szV ((out2 x (barB x n st ns) n (lenO (barB x n st ns) n)) (BitVec.ofNat 64 t).toNat).o).toInt ∧ (BitVec.ofNat 64 t + szV ((out2 x (barB x n st ns) n (lenO (barB x n st ns) n)) (BitVec.ofNat 64 t).toNat).o).toNat < (lenO (barB x n st ns) n))
      (t0 : (toK (out2 x (barB x n st ns) n (lenO (barB x n st ns) n)) t).slt 0#64 = false) (t1 : (BitVec.ofNat 64 (lenO (barB x n st ns) n)).sle (toK (out2 x (barB x n st ns) n (lenO (barB x n st ns) n)) t) = false) (t2 : 0 ≤ (toK (out2 x (barB x n st ns) n (lenO (barB x n st ns) n)) t).toInt ∧ (toK (out2 x (barB x n st ns) n (lenO (barB x n st ns) n)) t).toNat < (lenO (barB x n st ns) n))
      (w1 : (((out2 x (barB x n st ns) n (lenO (barB x n st ns) n)) (BitVec.ofNat 64 t + szV ((out2 x (barB x n st ns) n (lenO (barB x n st ns) n)) (BitVec.ofNat 64 t).toNat).o).toNat).o == 194#8) = true) (w2 : (((out2 x (barB x n st ns) n (lenO (barB x n st ns) n)) (toK (out2 x (barB x n st ns) n (lenO (barB x n st ns) n)) t).toNat).o == 194#8) = true)
section
variable {x : IT} {n ns : Nat} {st : Nat → Bool} {m : BitVec 64} (G : Good x n m false)
include G
theorem bar_r {k : Nat} (hk : k < n) (hb : (barB x n st ns) k = true) : BarR x n ns st (lenO (barB x n st ns) k) := by
  have hN := N_le (st := st) (ns := ns) G
  have hp := len_lt (barB x n st ns) hk
  refine ⟨frO_bar (barB x n st ns) n k hk hb, by rw [y_bar G hk hb]; rfl, fun h => ?_, by rw [lastV, y_bar G hk hb]; rfl⟩
  have h0 : 0 < lenO (barB x n st ns) k := by
    have e : (0#64).slt (BitVec.ofNat 64 (lenO (barB x n st ns) k)) = decide (0 < lenO (barB x n st ns) k) := slt_nat (a := 0) (by omega) (by omega)
    rw [e, decide_eq_true_eq] at h
    exact h
  cases k with
  | zero => exact absurd h0 (Nat.not_lt_zero _)
  | succ k =>
    have e := len_pos (barB x n st ns) k
    have e2 : BitVec.ofNat 64 (lenO (barB x n st ns) (k + 1)) - 1#64 = BitVec.ofNat 64 (posO (barB x n st ns) k) := by
      rw [e]; exact bv_pred _ (by omega)
    have nq : (BitVec.ofNat 64 (posO (barB x n st ns) k)).toNat = posO (barB x n st ns) k := nat_ofNat (by omega)
    rw [e2, nq, (y_o G (by omega)).1, toInt_ofNat (by omega)]
    exact ⟨o_ins G (by omega), by omega, by omega⟩
theorem ins_r {k : Nat} (hk : k < n) (hn : ns < 9223372036854775808) : InsR x n ns st (posO (barB x n st ns) k) k := by
  have hN := N_le (st := st) (ns := ns) G
  have h64 := n64 G
  have hp := pos_lt (barB x n st ns) hk
  have np : (bv k).toNat = k := nat_ofNat (by omega)
  have ho : (((out2 x (barB x n st ns) n (lenO (barB x n st ns) n)) (posO (barB x n st ns) k)).o == 194#8) = false := by rw [(y_o G hk).1]; exact o_ins G hk
  refine ⟨hk, np, frO_pos (barB x n st ns) n k hk, slt_0 (by omega), (sle_nat (by omega) (by omega)).trans (decide_eq_false (by omega)), ho, ?_, ?_, fun h1 h2 h3 => ?_⟩
  · rw [last_pos G hk]; simp
  · rw [lastV, ho]; exact frO_pos (barB x n st ns) n k hk
  · rw [(y_o G hk).1] at h1
    have hk2 : k < ns := by rw [slt_nat (by omega) hn, decide_eq_true_eq] at h2; exact h2
    have hh : hf x k = false := by
      cases e : hf x k with
      | false => rfl
      | true => rw [(half_o G hk e).1] at h1; exact absurd h1 (by decide)
    have hl : endB (x k).o = false ∧ alwB (x k).o = false ∧ szN (x k).o = 1 := by
      have key : ∀ o : BitVec 8, (!stB o || (!endB o && !alwB o && !(o == 24#8))) = true := all8 (p := fun o => !stB o || (!endB o && !alwB o && !(o == 24#8))) (by decide +kernel)
      have := key (x k).o
      rw [h1] at this
      simp only [Bool.not_true, Bool.false_or, Bool.and_eq_true, Bool.not_eq_true'] at this
      refine ⟨this.1.1, this.1.2, ?_⟩
      unfold szN
      rw [this.2]; rfl
    have hf1 := fall_lt G.ways hk hh hl.1 hl.2.1
    rw [hl.2.2] at hf1
    have hb : (barB x n st ns) (k + 1) = true := by
      unfold barB
      rw [show behP x st ns (k + 1) = behB x st ns k from rfl, behB, hh, decide_eq_true hk2, h3, h1]
      simp
    have e := len_pos (barB x n st ns) k
    have hq := len_lt (barB x n st ns) hf1
    have e2 : BitVec.ofNat 64 (posO (barB x n st ns) k) + 1#64 = BitVec.ofNat 64 (lenO (barB x n st ns) (k + 1)) := by rw [e]; exact (BitVec.ofNat_add _ _).symm
    have nq : (BitVec.ofNat 64 (lenO (barB x n st ns) (k + 1))).toNat = lenO (barB x n st ns) (k + 1) := nat_ofNat (by omega)
    rw [e2, nq, y_bar G hf1 hb]
    exact ⟨(sle_nat (by omega) (by omega)).trans (decide_eq_false (by omega)), rfl⟩
theorem rnd_of (hn : ns < 9223372036854775808) {t : Nat} (ht : t < (lenO (barB x n st ns) n)) : Rnd x n ns st t := by
  have hN := N_le (st := st) (ns := ns) G
  have nt : (BitVec.ofNat 64 t).toNat = t := nat_ofNat (by omega)
  have K := kind_of (good_y (st := st) (ns := ns) G) (Nat.le_of_lt ht)
  obtain ⟨k, hk, ⟨hb, e⟩ | e⟩ := place (barB x n st ns) n t ht
  · have hy : (out2 x (barB x n st ns) n (lenO (barB x n st ns) n)) (BitVec.ofNat 64 t).toNat = barI := by rw [nt, e]; exact y_bar G hk hb
    have R : BarR x n ns st t := by rw [e]; exact bar_r G hk hb
    cases K with
    | stop h => omega
    | e hl he hs => rw [hy] at he; exact absurd he (by decide)
    | a hl he ha hj t0 t1 t2 hs => rw [hy] at ha; exact absurd ha (by decide)
    | c hl he ha hj n0 n1 n2 t0 t1 t2 hs => rw [hy] at hj; exact absurd hj (by decide)
    | s hl he ha hj n0 n1 n2 hs => exact .b R he ha hj n0 n1
  · have R : InsR x n ns st t k := by rw [e]; exact ins_r G hk hn
    cases K with
    | stop h => omega
    | e hl he hs => exact .e k R he
    | a hl he ha hj t0 t1 t2 hs => exact .a k R he ha hj t0 t1
    | c hl he ha hj n0 n1 n2 t0 t1 t2 hs =>
      have eo : ((out2 x (barB x n st ns) n (lenO (barB x n st ns) n)) (BitVec.ofNat 64 t).toNat).o = (x k).o := by rw [nt, e]; exact (y_o G hk).1
      have hj' := hj
      have ha' := ha
      have he' := he
      rw [eo] at hj' ha' he'
      have hm : mayB (x k).o = true := by
        unfold mayB
        unfold alwB at ha'
        rw [hj'] at ha' ⊢
        rw [Bool.true_and] at ha' ⊢
        rw [bne, ha']; rfl
      have hh := may_first G hk hm
      have hT := toV_lt G.ways hk hh hj'
      have hlT := len_lt (barB x n st ns) hT.1
      have hbT : (barB x n st ns) (toV x (bv k)).toNat = true := by
        unfold barB
        rw [ledF_some.2 ⟨k, hk, hm, rfl⟩, Bool.or_true]
      have hf1 := fall_lt G.ways hk hh he' ha'
      have hz : szN (x k).o = 1 := by
        unfold szN
        cases e3 : (x k).o == 24#8 with
        | false => rfl
        | true => rw [eq_of_beq e3] at hj'; exact absurd hj' (by decide)
      rw [hz] at hf1
      have hb1 : (barB x n st ns) (k + 1) = true := by
        unfold barB
        rw [show behP x st ns (k + 1) = behB x st ns k from rfl, behB, hh, hm]
        simp
      refine .c k R he ha hj n0 n1 n2 t0 t1 t2 ?_ ?_
      · have hq := len_lt (barB x n st ns) hf1
        have e1 := len_pos (barB x n st ns) k
        have e2 : BitVec.ofNat 64 t + szV ((out2 x (barB x n st ns) n (lenO (barB x n st ns) n)) (BitVec.ofNat 64 t).toNat).o = BitVec.ofNat 64 (lenO (barB x n st ns) (k + 1)) := by rw [eo, szV_nat, hz, e1, e]; exact (BitVec.ofNat_add _ _).symm
        rw [e2, nat_ofNat (by omega), y_bar G hf1 hb1]; rfl
      · have e2 : toK (out2 x (barB x n st ns) n (lenO (barB x n st ns) n)) t = bv (lenO (barB x n st ns) (toV x (bv k)).toNat) := by
          show toV (out2 x (barB x n st ns) n (lenO (barB x n st ns) n)) (bv t) = _
          rw [e]; exact toV_y G hk hh hj'
        rw [e2, nat_ofNat (by omega), y_bar G hT.1 hbT]; rfl
    | s hl he ha hj n0 n1 n2 hs => exact .s k R he ha hj n0 n1
end
theorem lsA {y : IT} {f : Nat → BitVec 64} {t k : Nat} (na : (BitVec.ofNat 64 t).toNat = t) (ef : f t = bv k) (la : lastV y f (t + 1) = bv k) : AV.one (.b64 true (f (BitVec.ofNat 64 t).toNat)) = AV.one (.b64 true (lastV y f (t + 1))) := by rw [na, ef, la]
theorem lsB {y : IT} {f : Nat → BitVec 64} {t : Nat} (la : lastV y f (t + 1) = lastV y f t) : AV.one (.b64 true (lastV y f t)) = AV.one (.b64 true (lastV y f (t + 1))) := by rw [la]
theorem st_dead {x : IT} {n ns t k : Nat} {st : Nat → Bool} (R : InsR x n ns st t k) (h1 : (((out2 x (barB x n st ns) n (lenO (barB x n st ns) n)) t).o &&& 7#8 == 2#8) = true ∨ (((out2 x (barB x n st ns) n (lenO (barB x n st ns) n)) t).o &&& 7#8 == 3#8) = true) (h2 : (bv k).slt (BitVec.ofNat 64 ns) = true) (h3 : st k = true)
    (h4 : (BitVec.ofNat 64 (lenO (barB x n st ns) n)).sle (BitVec.ofNat 64 t + 1#64) = true ∨ (!((out2 x (barB x n st ns) n (lenO (barB x n st ns) n)) (BitVec.ofNat 64 t + 1#64).toNat).o == 194#8) = true) : False := by
  have h5 : stB ((out2 x (barB x n st ns) n (lenO (barB x n st ns) n)) t).o = true := by
    unfold stB
    rcases h1 with h | h <;> rw [h]
    · rfl
    · exact Bool.or_true _
  obtain ⟨q1, q2⟩ := R.stp h5 h2 h3
  rcases h4 with h | h
  · rw [q1] at h; exact absurd h (by decide)
  · rw [q2] at h; exact absurd h (by decide)
theorem at_next {t n : Nat} (hn : n ≤ 8000) (ht : t < n) (h : (BitVec.ofNat 64 n).sle (BitVec.ofNat 64 t + 1#64) = false) : 0 ≤ (BitVec.ofNat 64 t + 1#64).toInt ∧ (BitVec.ofNat 64 t + 1#64).toNat < n := by
  have e : BitVec.ofNat 64 t + 1#64 = BitVec.ofNat 64 (t + 1) := (BitVec.ofNat_add _ _).symm
  rw [e, sle_nat (by omega) (by omega), decide_eq_false_iff_not] at h
  rw [e]
  exact ix_ofNat (by omega) (by omega)
theorem cls_j {o : BitVec 8} (h : jmpB o = true) : (o &&& 7#8 == 2#8) = false ∧ (o &&& 7#8 == 3#8) = false := by
  have key := all8 (p := fun o => !jmpB o || (!(o &&& 7#8 == 2#8) && !(o &&& 7#8 == 3#8))) (by decide +kernel) o
  rw [h] at key
  simpa using key
theorem cls_e {o : BitVec 8} (h : endB o = true) : (o &&& 7#8 == 2#8) = false ∧ (o &&& 7#8 == 3#8) = false := by
  have key := all8 (p := fun o => !endB o || (!(o &&& 7#8 == 2#8) && !(o &&& 7#8 == 3#8))) (by decide +kernel) o
  rw [h] at key
  simpa using key
end Go.Proofs.YthkgakelgdncjaaDoor
/-
  Chapter 23: HardenFences: its tables. Conditions: as typed.
-/
namespace Go.Proofs.YthkgakelgdncjaaDoor
open Go.Ep Go.RowKit
set_option linter.unusedVariables false
set_option linter.unusedSimpArgs false
noncomputable abbrev ms_F (eb : BitVec 8 → Bool) : List (Nat × SpM) := (16, spS 5 (sq_nextE' eb)) :: ms_H
noncomputable abbrev mk_F (eb ab jb : BitVec 8 → Bool) : List (Nat × SpK) := [(16, spKS 5 (sq_nextK' eb ab jb)), (17, spKS 5 sq_targets), (18, spKS 5 sq_halves)]
noncomputable abbrev C_F0 (eb ab jb : BitVec 8 → Bool) : Table := withMk (tabM Dbar tb_H (ms_F eb)) (mk_F eb ab jb)
noncomputable abbrev C_F (eb ab jb : BitVec 8 → Bool) : Table := ⟨(C_F0 eb ab jb).fn, (C_F0 eb ab jb).glob, (C_F0 eb ab jb).look, inlN Tryd.prog (C_F0 eb ab jb) FSh 4, .sym, 0, 0, [], (C_F0 eb ab jb).mkr, []⟩
theorem C_F0_ok (e : EntryOK Tryd.prog Gbar 6 sp_fen) : CSound Tryd.prog Gbar (C_F0 endB alwB jmpB) :=
  ((((((((CSound.nil Dbar_ok).cons (ok_G e_hj)).cons (ok_G e_hm)).cons e).startM.consM (okM_G e_RefCheck)).consM (okM_G e_Check)).consM (okM_G e_half)).consM (okM_G e_NextE)).withMk (.cons (okK_G e_NextK) EK_H)
theorem C_F_ok (e : EntryOK Tryd.prog Gbar 6 sp_fen) : CSound Tryd.prog Gbar (C_F endB alwB jmpB) := (C_F0_ok e).inl' (inlN_sound (C_F0_ok e) (by kernel_rfl) fs_h 4) .sym 0 0 [] []
theorem inF_self (y : IT) : inF y = inF (inOf (inF y)) := rfl
theorem b_one : 1 < 9223372036854775808 := by decide
theorem b_two : 2 < 9223372036854775808 := by decide
theorem i_0 : 0 ≤ (0#64).toInt ∧ (0#64).toNat < 2 := by decide
theorem i_1 : 0 ≤ (0#64 + 1#64).toInt ∧ (0#64 + 1#64).toNat < 2 := by decide
theorem eqB8 {a b : BitVec 8 → Bool} (H : a = b) {v : BitVec 8} {r : Bool} (h : b v = r) : a v = r := by rw [H]; exact h
end Go.Proofs.YthkgakelgdncjaaDoor
