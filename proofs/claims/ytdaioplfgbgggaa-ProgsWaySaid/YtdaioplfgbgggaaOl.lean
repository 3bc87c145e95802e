/-
  Contracts of functions that read a slice and hand out a new row; progs.Next's. Conditions: as typed.
-/
import Derived.Test.YtdaioplfgbgggaaOc
import Derived.Test.YtdaioplfgbgggaaOv

namespace Go.Ep
open Go.RowKit
set_option linter.unusedVariables false
set_option linter.unusedSimpArgs false
def spKS (z : Nat) (sq : Nat → (Nat → List PL) → List AV → Option (Cond × Blk × NewV)) : SpK := fun args bs => match args with
  | .one (.slc i 0 len _) :: rest => match bs with
    | [(j, b)] => match Nat.beq i j, rowOf z b with
      | true, some (n, f) => match sq len f rest with
        | some (c, b', nv) => some (bothC (.p (len ≤ n)) c, b', nv)
        | none => none
      | _, _ => none
    | _ => none
  | .one (.rsl i len) :: rest => match bs with
    | [(j, b)] => match Nat.beq i j, rowOf z b with
      | true, some (n, f) => match sq len f rest with
        | some (c, b', nv) => some (bothC (.p (len ≤ n)) c, b', nv)
        | none => none
      | _, _ => none
    | _ => none
  | _ => none
section
variable {P : Program} {G : World → Prop}
theorem EntryK.of_slice {C : Table} (hC : CSound P G C) (hm : P.follows .mixedOrders = true) {f : FuncId} {fn : Func} {z : Nat} {sq : Nat → (Nat → List PL) → List AV → Option (Cond × Blk × NewV)} (hf : P.funcs[f]? = some fn)
    (hn : (fn.name == "runtime.NumGoroutine") = false) (hb : fn.body.isNone = false)
    (h : ∀ len g rest c b nv, sq len g rest = some (c, b, nv) → c.holds → closed rest = true ∧ b.own = true ∧ b.names = [] ∧ ∀ (T : TypeId) (cap : Nat), FI P C fn 1 (.one (.slc 0 0 len cap) :: rest) [(0, .ro T [.seg z len g])] (fun v h => ∃ x, v = .one (nv.at x) ∧ look h x = some b)) : EntryK P G f (spKS z sq) := by
  have key : ∀ {i len n : Nat} {b : Blk} {g : Nat → List PL} {rest : List AV} {c : Cond} {b' : Blk} {nv : NewV} {us : List Value} {ρ : Nat → Loc} {w : World} {cap : Nat}, rowOf z b = some (n, g) → sq len g rest = some (c, b', nv) → len ≤ n → c.holds →
      RelAs ρ rest us → G w → RelB ρ (ρ i) b w.heap[(ρ i).b]? → Calls P f (.slice (some ⟨(ρ i).b, (ρ i).o, none⟩) len cap :: us).toArray w (fun e w' => ∃ u q, e = .returned u ∧ RelL (fun _ => q) (nv.at 0) u ∧ RelB ρ q b' w'.heap[q.b]? ∧ w.heap.size ≤ q.b ∧ Below w.heap.size w w') := by
    intro i len n b g rest c b' nv us ρ w cap hr hs hle hc hrel hG hB
    obtain ⟨hcl, hown, hnm, hF⟩ := h len g rest c b' nv hs hc
    obtain ⟨cs, T, fr, e, us1, ws, hd, hseg⟩ := rowOf_rel hr hB
    have hcl' := closed_spec hcl
    have hle' : z * len ≤ z * n := Nat.mul_le_mul_left z hle
    refine (FI_sound hC hm hf (hF T cap) (fun m hm => ?_) (fun v hv m hm => ?_) w.heap.size w (fun _ => ρ i) (.slice (some ⟨(ρ i).b, (ρ i).o, none⟩) len cap :: us) w hG rfl ⟨fun _ => by simp [gL], relAs_any hcl' hrel⟩
      (RelH.one (q := ρ i) (T := T) (us := us1.take (z * len)) (ws := us1.drop (z * len) ++ ws) e (by rw [hd, ← List.append_assoc, List.take_append_drop]) ⟨_, [], by simp, hseg.take hle, rfl⟩ rfl)).mono ?_
    · rw [look_eq_beq] at hm
      split at hm
      · rename_i e; omega
      · simp [look] at hm
    · rcases List.mem_cons.1 hv with rfl | hv
      · obtain rfl : m = 0 := by simpa [AV.names, L.names] using hm
        rw [look_eq_beq]; simp
      · rw [hcl' v hv] at hm; simp at hm
    · rintro e w' ⟨v, h', u, ρ', ⟨x, rfl, hx⟩, rfl, hr, -, H, -⟩
      exact ⟨u, ρ' x, rfl, nv_of hr, relB_agree (H.heap x b' hx) (by rw [hnm]; simp), (H.low x b' hx).1 hown, H.below⟩
  refine ⟨⟨fn, hf, hn, hb⟩, fun args bs c b nv hs hc => ?_⟩
  unfold spKS at hs
  split at hs
  · rename_i i len cap rest
    split at hs
    · rename_i j b0
      split at hs
      · rename_i n g hij hr
        obtain rfl : i = j := by simpa using hij
        split at hs
        · rename_i c' b' nv' hsq
          simp only [Option.some.injEq, Prod.mk.injEq] at hs
          obtain ⟨rfl, rfl, rfl⟩ := hs
          obtain ⟨hle, hc'⟩ := bothC_holds hc
          refine ⟨(h len g rest c' b' nv' hsq hc').2.1, (h len g rest c' b' nv' hsq hc').2.2.1, fun us ρ hrel w hG hB hlt => ?_⟩
          match us, hrel with
          | u :: us, ⟨h1, h2⟩ =>
            have h1 := h1 (by simp)
            simp only [gL, Nat.add_zero] at h1
            subst h1
            exact key hr hsq hle hc' h2 hG (hB (i, b0) (by simp))
        · cases hs
      · cases hs
    · cases hs
  · rename_i i len rest
    split at hs
    · rename_i j b0
      split at hs
      · rename_i n g hij hr
        obtain rfl : i = j := by simpa using hij
        split at hs
        · rename_i c' b' nv' hsq
          simp only [Option.some.injEq, Prod.mk.injEq] at hs
          obtain ⟨rfl, rfl, rfl⟩ := hs
          obtain ⟨hle, hc'⟩ := bothC_holds hc
          refine ⟨(h len g rest c' b' nv' hsq hc').2.1, (h len g rest c' b' nv' hsq hc').2.2.1, fun us ρ hrel w hG hB hlt => ?_⟩
          match us, hrel with
          | u :: us, ⟨h1, h2⟩ =>
            have h1 := h1 (by simp)
            simp only [gL] at h1
            subst h1
            exact key hr hsq hle hc' h2 hG (hB (i, b0) (by simp))
        · cases hs
      · cases hs
    · cases hs
  · cases hs
end
end Go.Ep
namespace Go.Proofs.Ytdaioplfgbgggaa
open Go.Ep Go.RowKit
set_option linter.unusedVariables false
set_option linter.unusedSimpArgs false
noncomputable abbrev FSx : List (Nat × Func) := [(39, Try.f39), (69, Try.f69), (40, Try.f40)]
theorem fs_x : FsOK Try.prog FSx := FsOK.cons Try.func39 (by kernel_rfl) (by kernel_rfl) (FsOK.cons Try.func69 (by kernel_rfl) (by kernel_rfl) (FsOK.cons Try.func40 (by kernel_rfl) (by kernel_rfl) (FsOK.nil)))
noncomputable abbrev C_x : Table := tabI Try.prog noData tb_o FSx 4
theorem CI_x : CSound Try.prog anyWorld C_x := CSound.tabI C_o (by kernel_rfl) fs_x 4
def two (a b : BitVec 64) : Nat → List PL := fun j => [.b64 true (if 1 ≤ j then b else a)]
set_option maxRecDepth 100000 in
set_option maxHeartbeats 16000000 in
theorem Next_E (len cap : Nat) (T : TypeId) (x : IT) (p : BitVec 64) (hl : len ≤ 8000) (hp : p.toNat < len) (p0 : p.slt 0#64 = false) (p1 : (BitVec.ofNat 64 len).sle p = false) (he : endB (x p.toNat).o = true) :
    FI Try.prog C_x Try.f15 1 [.one (.slc 0 0 len cap), .one (.b64 true p)] [(0, .ro T [.seg 5 len (inF x)])] (fun r _ => r = .one (.raw (.slice none 0 0))) := by
  repeat' (first
    | (with_reducible apply Given.mk; intro h; (try simp only [if0, if1, p0, p1, he, Bool.not_true, Bool.not_false, Bool.true_eq_false, Bool.false_eq_true, reduceCtorEq] at h); (try exact absurd h (by decide)))
    | ((conv => whnf); first
      | with_reducible apply Both.mk
      | refine LoopP.times 4 ?_))
  all_goals first
    | (with_reducible apply Ob.mk; kernel_rfl)
    | ((with_reducible apply Ob.mk); exact ixp hl hp)
    | ((with_reducible apply Ob.mk); exact (ixp hl hp).2)
    | ((with_reducible apply Ob.mk); show len < 9223372036854775808; omega)
    | ((with_reducible apply Ob.mk); exact fun _ => rfl)
    | ((with_reducible apply Ob.mk); exact ⟨rfl, fun _ => rfl, fun _ => rfl⟩)
    | (with_reducible apply Ob.mk; decide)
    | ((conv => whnf); (try exact rfl))
    | (with_reducible apply Ob.mk; skip)
    | ((conv => whnf); skip)
set_option maxRecDepth 100000 in
set_option maxHeartbeats 16000000 in
theorem Next_A (len cap : Nat) (T : TypeId) (x : IT) (p : BitVec 64) (hl : len ≤ 8000) (hp : p.toNat < len) (p0 : p.slt 0#64 = false) (p1 : (BitVec.ofNat 64 len).sle p = false) (he : endB (x p.toNat).o = false) (ha : alwB (x p.toNat).o = true) (hj : jmpB (x p.toNat).o = true) (t0 : (p + 1#64 + BitVec.signExtend 64 (x p.toNat).f).slt 0#64 = false) (t1 : (BitVec.ofNat 64 len).sle (p + 1#64 + BitVec.signExtend 64 (x p.toNat).f) = false) :
    FI Try.prog C_x Try.f15 1 [.one (.slc 0 0 len cap), .one (.b64 true p)] [(0, .ro T [.seg 5 len (inF x)])] (fun r h => ∃ y, r = .one (.rsl y 1) ∧ Go.Ep.look h y = some (Blk.row 3 1 1 (fun _ => [.b64 true (p + 1#64 + BitVec.signExtend 64 (x p.toNat).f)]))) := by
  repeat' (first
    | (with_reducible apply Given.mk; intro h; (try simp only [if0, if1, p0, p1, he, ha, hj, t0, t1, Bool.not_true, Bool.not_false, Bool.true_eq_false, Bool.false_eq_true, reduceCtorEq] at h); (try exact absurd h (by decide)))
    | ((conv => whnf); first
      | with_reducible apply Both.mk
      | refine LoopP.times 4 ?_))
  all_goals first
    | (with_reducible apply Ob.mk; kernel_rfl)
    | ((with_reducible apply Ob.mk); exact ixp hl hp)
    | ((with_reducible apply Ob.mk); exact (ixp hl hp).2)
    | ((with_reducible apply Ob.mk); show len < 9223372036854775808; omega)
    | ((with_reducible apply Ob.mk); exact fun _ => rfl)
    | ((with_reducible apply Ob.mk); exact ⟨rfl, fun _ => rfl, fun _ => rfl⟩)
    | (with_reducible apply Ob.mk; decide)
    | ((conv => whnf); exact ⟨_, rfl, rfl⟩)
    | ((conv => whnf); refine ⟨_, rfl, ?_⟩; (conv => lhs; whnf); skip)
    | (with_reducible apply Ob.mk; skip)
    | ((conv => whnf); skip)
set_option maxRecDepth 100000 in
set_option maxHeartbeats 16000000 in
theorem Next_S (len cap : Nat) (T : TypeId) (x : IT) (p : BitVec 64) (hl : len ≤ 8000) (hp : p.toNat < len) (p0 : p.slt 0#64 = false) (p1 : (BitVec.ofNat 64 len).sle p = false) (he : endB (x p.toNat).o = false) (ha : alwB (x p.toNat).o = false) (hj : jmpB (x p.toNat).o = false) (n0 : (p + szV (x p.toNat).o).slt 0#64 = false) (n1 : (BitVec.ofNat 64 len).sle (p + szV (x p.toNat).o) = false) :
    FI Try.prog C_x Try.f15 1 [.one (.slc 0 0 len cap), .one (.b64 true p)] [(0, .ro T [.seg 5 len (inF x)])] (fun r h => ∃ y, r = .one (.rsl y 1) ∧ Go.Ep.look h y = some (Blk.row 3 1 1 (fun _ => [.b64 true (p + szV (x p.toNat).o)]))) := by
  repeat' (first
    | (with_reducible apply Given.mk; intro h; (try simp only [if0, if1, p0, p1, he, ha, hj, n0, n1, Bool.not_true, Bool.not_false, Bool.true_eq_false, Bool.false_eq_true, reduceCtorEq] at h); (try exact absurd h (by decide)))
    | ((conv => whnf); first
      | with_reducible apply Both.mk
      | refine LoopP.times 4 ?_))
  all_goals first
    | (with_reducible apply Ob.mk; kernel_rfl)
    | ((with_reducible apply Ob.mk); exact ixp hl hp)
    | ((with_reducible apply Ob.mk); exact (ixp hl hp).2)
    | ((with_reducible apply Ob.mk); show len < 9223372036854775808; omega)
    | ((with_reducible apply Ob.mk); exact fun _ => rfl)
    | ((with_reducible apply Ob.mk); exact ⟨rfl, fun _ => rfl, fun _ => rfl⟩)
    | (with_reducible apply Ob.mk; decide)
    | ((conv => whnf); exact ⟨_, rfl, rfl⟩)
    | ((conv => whnf); refine ⟨_, rfl, ?_⟩; (conv => lhs; whnf); skip)
    | (with_reducible apply Ob.mk; skip)
    | ((conv => whnf); skip)
set_option maxRecDepth 100000 in
set_option maxHeartbeats 16000000 in
theorem Next_C (len cap : Nat) (T : TypeId) (x : IT) (p : BitVec 64) (hl : len ≤ 8000) (hp : p.toNat < len) (p0 : p.slt 0#64 = false) (p1 : (BitVec.ofNat 64 len).sle p = false) (he : endB (x p.toNat).o = false) (ha : alwB (x p.toNat).o = false) (hj : jmpB (x p.toNat).o = true) (n0 : (p + szV (x p.toNat).o).slt 0#64 = false) (n1 : (BitVec.ofNat 64 len).sle (p + szV (x p.toNat).o) = false) (t0 : (p + 1#64 + BitVec.signExtend 64 (x p.toNat).f).slt 0#64 = false) (t1 : (BitVec.ofNat 64 len).sle (p + 1#64 + BitVec.signExtend 64 (x p.toNat).f) = false) :
    FI Try.prog C_x Try.f15 1 [.one (.slc 0 0 len cap), .one (.b64 true p)] [(0, .ro T [.seg 5 len (inF x)])] (fun r h => ∃ y, r = .one (.rsl y 2) ∧ Go.Ep.look h y = some (Blk.row 3 1 2 (two (p + szV (x p.toNat).o) (p + 1#64 + BitVec.signExtend 64 (x p.toNat).f)))) := by
  repeat' (first
    | (with_reducible apply Given.mk; intro h; (try simp only [if0, if1, p0, p1, he, ha, hj, n0, n1, t0, t1, Bool.not_true, Bool.not_false, Bool.true_eq_false, Bool.false_eq_true, reduceCtorEq] at h); (try exact absurd h (by decide)))
    | ((conv => whnf); first
      | with_reducible apply Both.mk
      | refine LoopP.times 4 ?_))
  all_goals first
    | (with_reducible apply Ob.mk; kernel_rfl)
    | ((with_reducible apply Ob.mk); exact ixp hl hp)
    | ((with_reducible apply Ob.mk); exact (ixp hl hp).2)
    | ((with_reducible apply Ob.mk); show len < 9223372036854775808; omega)
    | ((with_reducible apply Ob.mk); exact fun _ => rfl)
    | ((with_reducible apply Ob.mk); exact ⟨rfl, fun _ => rfl, fun _ => rfl⟩)
    | (with_reducible apply Ob.mk; decide)
    | ((conv => whnf); exact ⟨_, rfl, rfl⟩)
    | ((conv => whnf); refine ⟨_, rfl, ?_⟩; (conv => lhs; whnf); skip)
    | (with_reducible apply Ob.mk; skip)
    | ((conv => whnf); skip)
def sq_nextE' (eb : BitVec 8 → Bool) (len : Nat) (g : Nat → List PL) (rest : List AV) : Option (Cond × AV) := match rest with
  | [.one (.b64 true p)] => match eb (inOf g p.toNat).o with
    | true => some (Cond.p (len ≤ 8000 ∧ g = inF (inOf g) ∧ p.toNat < len), .one (.raw (.slice none 0 0)))
    | false => none
  | _ => none
def sq_nextK' (eb ab jb : BitVec 8 → Bool) (len : Nat) (g : Nat → List PL) (rest : List AV) : Option (Cond × Blk × NewV) := match rest with
  | [.one (.b64 true p)] => match eb (inOf g p.toNat).o with
    | true => none
    | false => match ab (inOf g p.toNat).o with
      | true => some (Cond.p ((len ≤ 8000 ∧ g = inF (inOf g) ∧ p.toNat < len) ∧ jmpB (inOf g p.toNat).o = true ∧ (p + 1#64 + BitVec.signExtend 64 (inOf g p.toNat).f).slt 0#64 = false ∧ (BitVec.ofNat 64 len).sle (p + 1#64 + BitVec.signExtend 64 (inOf g p.toNat).f) = false), .row 3 1 1 (fun _ => [.b64 true (p + 1#64 + BitVec.signExtend 64 (inOf g p.toNat).f)]), .r 1)
      | false => match jb (inOf g p.toNat).o with
        | true => some (Cond.p ((len ≤ 8000 ∧ g = inF (inOf g) ∧ p.toNat < len) ∧ ((p + szV (inOf g p.toNat).o).slt 0#64 = false ∧ (BitVec.ofNat 64 len).sle (p + szV (inOf g p.toNat).o) = false) ∧ (p + 1#64 + BitVec.signExtend 64 (inOf g p.toNat).f).slt 0#64 = false ∧ (BitVec.ofNat 64 len).sle (p + 1#64 + BitVec.signExtend 64 (inOf g p.toNat).f) = false), .row 3 1 2 (two (p + szV (inOf g p.toNat).o) (p + 1#64 + BitVec.signExtend 64 (inOf g p.toNat).f)), .r 2)
        | false => some (Cond.p ((len ≤ 8000 ∧ g = inF (inOf g) ∧ p.toNat < len) ∧ (p + szV (inOf g p.toNat).o).slt 0#64 = false ∧ (BitVec.ofNat 64 len).sle (p + szV (inOf g p.toNat).o) = false), .row 3 1 1 (fun _ => [.b64 true (p + szV (inOf g p.toNat).o)]), .r 1)
  | _ => none
abbrev sq_nextE := sq_nextE' endB
abbrev sq_nextK := sq_nextK' endB alwB jmpB
theorem p_in {p : BitVec 64} {len : Nat} (hn : len ≤ 8000) (hp : p.toNat < len) : p.slt 0#64 = false ∧ (BitVec.ofNat 64 len).sle p = false := by
  have e := toInt_lt hn hp
  have z : (0#64).toInt = 0 := by decide
  rw [BitVec.slt_eq_decide, BitVec.sle_eq_decide, e, z, toInt_ofNat (n := len) (by omega)]
  simp only [decide_eq_false_iff_not]; omega
set_option maxRecDepth 100000 in
theorem e_NextE : EntryM Try.prog anyWorld 15 (spS 5 sq_nextE) := by
  refine .of_slice CI_x (by kernel_rfl) Try.func15 (by kernel_rfl) (by kernel_rfl) (fun len g rest c v h hc => ?_) (fun rest c v h hc ad cap => ?_)
  · unfold sq_nextE sq_nextE' at h
    split at h
    · split at h
      · rename_i he
        cases h
        obtain ⟨h1, h2, h3⟩ := hc
        refine ⟨rfl, rfl, fun T cap => ?_⟩
        generalize inOf g = x at h2 he
        subst h2
        exact Next_E len cap T x _ h1 h3 (p_in h1 h3).1 (p_in h1 h3).2 he
      · cases h
    · cases h
  · unfold sq_nextE sq_nextE' at h
    split at h
    · split at h
      · cases h
        exact absurd hc.2.2 (Nat.not_lt_zero _)
      · cases h
    · cases h
set_option maxRecDepth 100000 in
theorem e_NextK : EntryK Try.prog anyWorld 15 (spKS 5 sq_nextK) := by
  refine .of_slice CI_x (by kernel_rfl) Try.func15 (by kernel_rfl) (by kernel_rfl) (fun len g rest c b nv h hc => ?_)
  unfold sq_nextK sq_nextK' at h
  split at h
  · split at h
    · cases h
    · rename_i he
      split at h
      · rename_i ha
        cases h
        obtain ⟨⟨h1, h2, h3⟩, hj, t0, t1⟩ := hc
        refine ⟨rfl, rfl, rfl, fun T cap => ?_⟩
        generalize inOf g = x at *
        subst h2
        exact Next_A len cap T x _ h1 h3 (p_in h1 h3).1 (p_in h1 h3).2 he ha hj t0 t1
      · rename_i ha
        split at h
        · rename_i hj
          cases h
          obtain ⟨⟨h1, h2, h3⟩, ⟨n0, n1⟩, t0, t1⟩ := hc
          refine ⟨rfl, rfl, rfl, fun T cap => ?_⟩
          generalize inOf g = x at *
          subst h2
          exact Next_C len cap T x _ h1 h3 (p_in h1 h3).1 (p_in h1 h3).2 he ha hj n0 n1 t0 t1
        · rename_i hj
          cases h
          obtain ⟨⟨h1, h2, h3⟩, n0, n1⟩ := hc
          refine ⟨rfl, rfl, rfl, fun T cap => ?_⟩
          generalize inOf g = x at *
          subst h2
          exact Next_S len cap T x _ h1 h3 (p_in h1 h3).1 (p_in h1 h3).2 he ha hj n0 n1
  · cases h
theorem spE_t {eb : BitVec 8 → Bool} {x : IT} {len cap : Nat} {T : TypeId} {p : BitVec 64} (h : eb (inOf (inF x) p.toNat).o = true) : spS 5 (sq_nextE' eb) [.one (.slc 0 0 len cap), .one (.b64 true p)] [(0, .ro T [.seg 5 len (inF x)])] = some (bothC (.p (len ≤ len)) (.p (len ≤ 8000 ∧ inF x = inF (inOf (inF x)) ∧ p.toNat < len)), .one (.raw (.slice none 0 0))) := by
  show (match sq_nextE' eb len (inF x) [.one (.b64 true p)] with | some (c, v) => some (bothC (.p (len ≤ len)) c, v) | none => none) = _
  simp only [sq_nextE', h]
theorem spE_f {eb : BitVec 8 → Bool} {x : IT} {len cap : Nat} {T : TypeId} {p : BitVec 64} (h : eb (inOf (inF x) p.toNat).o = false) : spS 5 (sq_nextE' eb) [.one (.slc 0 0 len cap), .one (.b64 true p)] [(0, .ro T [.seg 5 len (inF x)])] = none := by
  show (match sq_nextE' eb len (inF x) [.one (.b64 true p)] with | some (c, v) => some (bothC (.p (len ≤ len)) c, v) | none => none) = _
  simp only [sq_nextE', h]
theorem spK_A {eb ab jb : BitVec 8 → Bool} {x : IT} {len cap : Nat} {T : TypeId} {p : BitVec 64} (h : eb (inOf (inF x) p.toNat).o = false) (ha : ab (inOf (inF x) p.toNat).o = true) : spKS 5 (sq_nextK' eb ab jb) [.one (.slc 0 0 len cap), .one (.b64 true p)] [(0, .ro T [.seg 5 len (inF x)])] = some (bothC (.p (len ≤ len)) (.p ((len ≤ 8000 ∧ inF x = inF (inOf (inF x)) ∧ p.toNat < len) ∧ jmpB (inOf (inF x) p.toNat).o = true ∧ (p + 1#64 + BitVec.signExtend 64 (inOf (inF x) p.toNat).f).slt 0#64 = false ∧ (BitVec.ofNat 64 len).sle (p + 1#64 + BitVec.signExtend 64 (inOf (inF x) p.toNat).f) = false)), .row 3 1 1 (fun _ => [.b64 true (p + 1#64 + BitVec.signExtend 64 (inOf (inF x) p.toNat).f)]), .r 1) := by
  show (match sq_nextK' eb ab jb len (inF x) [.one (.b64 true p)] with | some (c, b', nv) => some (bothC (.p (len ≤ len)) c, b', nv) | none => none) = _
  simp only [sq_nextK', h, ha]
theorem spK_C {eb ab jb : BitVec 8 → Bool} {x : IT} {len cap : Nat} {T : TypeId} {p : BitVec 64} (h : eb (inOf (inF x) p.toNat).o = false) (ha : ab (inOf (inF x) p.toNat).o = false) (hj : jb (inOf (inF x) p.toNat).o = true) : spKS 5 (sq_nextK' eb ab jb) [.one (.slc 0 0 len cap), .one (.b64 true p)] [(0, .ro T [.seg 5 len (inF x)])] = some (bothC (.p (len ≤ len)) (.p ((len ≤ 8000 ∧ inF x = inF (inOf (inF x)) ∧ p.toNat < len) ∧ ((p + szV (inOf (inF x) p.toNat).o).slt 0#64 = false ∧ (BitVec.ofNat 64 len).sle (p + szV (inOf (inF x) p.toNat).o) = false) ∧ (p + 1#64 + BitVec.signExtend 64 (inOf (inF x) p.toNat).f).slt 0#64 = false ∧ (BitVec.ofNat 64 len).sle (p + 1#64 + BitVec.signExtend 64 (inOf (inF x) p.toNat).f) = false)), .row 3 1 2 (two (p + szV (inOf (inF x) p.toNat).o) (p + 1#64 + BitVec.signExtend 64 (inOf (inF x) p.toNat).f)), .r 2) := by
  show (match sq_nextK' eb ab jb len (inF x) [.one (.b64 true p)] with | some (c, b', nv) => some (bothC (.p (len ≤ len)) c, b', nv) | none => none) = _
  simp only [sq_nextK', h, ha, hj]
theorem spK_S {eb ab jb : BitVec 8 → Bool} {x : IT} {len cap : Nat} {T : TypeId} {p : BitVec 64} (h : eb (inOf (inF x) p.toNat).o = false) (ha : ab (inOf (inF x) p.toNat).o = false) (hj : jb (inOf (inF x) p.toNat).o = false) : spKS 5 (sq_nextK' eb ab jb) [.one (.slc 0 0 len cap), .one (.b64 true p)] [(0, .ro T [.seg 5 len (inF x)])] = some (bothC (.p (len ≤ len)) (.p ((len ≤ 8000 ∧ inF x = inF (inOf (inF x)) ∧ p.toNat < len) ∧ (p + szV (inOf (inF x) p.toNat).o).slt 0#64 = false ∧ (BitVec.ofNat 64 len).sle (p + szV (inOf (inF x) p.toNat).o) = false)), .row 3 1 1 (fun _ => [.b64 true (p + szV (inOf (inF x) p.toNat).o)]), .r 1) := by
  show (match sq_nextK' eb ab jb len (inF x) [.one (.b64 true p)] with | some (c, b', nv) => some (bothC (.p (len ≤ len)) c, b', nv) | none => none) = _
  simp only [sq_nextK', h, ha, hj]
end Go.Proofs.Ytdaioplfgbgggaa
