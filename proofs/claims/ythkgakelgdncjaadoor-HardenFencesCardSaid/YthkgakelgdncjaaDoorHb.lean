/-
  Contracts of functions that read a slice and hand out a new row. Conditions: as typed.
-/
import Derived.Test.YthkgakelgdncjaaDoorPr
import Derived.Test.YthkgakelgdncjaaDoorHm
import Derived.Test.YthkgakelgdncjaaDoorOc
namespace Go.Ep
open Go.RowKit
set_option linter.unusedVariables false
set_option linter.unusedSimpArgs false
def spKS (z : Nat) (sq : Nat → (Nat → List PL) → List AV → Option (Cond × Blk × NewV)) : SpK := fun args bs => match args with
  | .one (.slc i 0 len _) :: rest => match bs with
    | [(j, b)] => match Nat.beq i j, rowOf z b with
      | true, some (n, f) => match sq len f rest with
        | some (c, b', nv) => some (bothC (.p (len ≤ n)) c, b', nv)
        | none => none
      | _, _ => none
    | _ => none
  | .one (.rsl i len) :: rest => match bs with
    | [(j, b)] => match Nat.beq i j, rowOf z b with
      | true, some (n, f) => match sq len f rest with
        | some (c, b', nv) => some (bothC (.p (len ≤ n)) c, b', nv)
        | none => none
      | _, _ => none
    | _ => none
  | _ => none
section
variable {P : Program} {G : World → Prop}
theorem EntryK.of_slice {C : Table} (hC : CSound P G C) (hm : P.follows .mixedOrders = true) {f : FuncId} {fn : Func} {z : Nat} {sq : Nat → (Nat → List PL) → List AV → Option (Cond × Blk × NewV)} (hf : P.funcs[f]? = some fn)
    (hn : (fn.name == "runtime.NumGoroutine") = false) (hb : fn.body.isNone = false)
    (h : ∀ len g rest c b nv, sq len g rest = some (c, b, nv) → c.holds → closed rest = true ∧ b.own = true ∧ b.names = [] ∧ ∀ (T : TypeId) (cap : Nat), FI P C fn 1 (.one (.slc 0 0 len cap) :: rest) [(0, .ro T [.seg z len g])] (fun v h => ∃ x, v = .one (nv.at x) ∧ look h x = some b)) : EntryK P G f (spKS z sq) := by
  have key : ∀ {i len n : Nat} {b : Blk} {g : Nat → List PL} {rest : List AV} {c : Cond} {b' : Blk} {nv : NewV} {us : List Value} {ρ : Nat → Loc} {w : World} {cap : Nat}, rowOf z b = some (n, g) → sq len g rest = some (c, b', nv) → len ≤ n → c.holds →
      RelAs ρ rest us → G w → RelB ρ (ρ i) b w.heap[(ρ i).b]? → Calls P f (.slice (some ⟨(ρ i).b, (ρ i).o, none⟩) len cap :: us).toArray w (fun e w' => ∃ u q, e = .returned u ∧ RelL (fun _ => q) (nv.at 0) u ∧ RelB ρ q b' w'.heap[q.b]? ∧ w.heap.size ≤ q.b ∧ Below w.heap.size w w') := by
    intro i len n b g rest c b' nv us ρ w cap hr hs hle hc hrel hG hB
    obtain ⟨hcl, hown, hnm, hF⟩ := h len g rest c b' nv hs hc
    obtain ⟨cs, T, fr, e, us1, ws, hd, hseg⟩ := rowOf_rel hr hB
    have hcl' := closed_spec hcl
    have hle' : z * len ≤ z * n := Nat.mul_le_mul_left z hle
    refine (FI_sound hC hm hf (hF T cap) (fun m hm => ?_) (fun v hv m hm => ?_) w.heap.size w (fun _ => ρ i) (.slice (some ⟨(ρ i).b, (ρ i).o, none⟩) len cap :: us) w hG rfl ⟨fun _ => by simp [gL], relAs_any hcl' hrel⟩
      (RelH.one (q := ρ i) (T := T) (us := us1.take (z * len)) (ws := us1.drop (z * len) ++ ws) e (by rw [hd, ← List.append_assoc, List.take_append_drop]) ⟨_, [], by simp, hseg.take hle, rfl⟩ rfl)).mono ?_
    · rw [look_eq_beq] at hm
      split at hm
      · rename_i e; omega
      · simp [look] at hm
    · rcases List.mem_cons.1 hv with rfl | hv
      · obtain rfl : m = 0 := by simpa [AV.names, L.names] using hm
        rw [look_eq_beq]; simp
      · rw [hcl' v hv] at hm; simp at hm
    · rintro e w' ⟨v, h', u, ρ', ⟨x, rfl, hx⟩, rfl, hr, -, H, -⟩
      exact ⟨u, ρ' x, rfl, nv_of hr, relB_agree (H.heap x b' hx) (by rw [hnm]; simp), (H.low x b' hx).1 hown, H.below⟩
  refine ⟨⟨fn, hf, hn, hb⟩, fun args bs c b nv hs hc => ?_⟩
  unfold spKS at hs
  split at hs
  · rename_i i len cap rest
    split at hs
    · rename_i j b0
      split at hs
      · rename_i n g hij hr
        obtain rfl : i = j := by simpa using hij
        split at hs
        · rename_i c' b' nv' hsq
          simp only [Option.some.injEq, Prod.mk.injEq] at hs
          obtain ⟨rfl, rfl, rfl⟩ := hs
          obtain ⟨hle, hc'⟩ := bothC_holds hc
          refine ⟨(h len g rest c' b' nv' hsq hc').2.1, (h len g rest c' b' nv' hsq hc').2.2.1, fun us ρ hrel w hG hB hlt => ?_⟩
          match us, hrel with
          | u :: us, ⟨h1, h2⟩ =>
            have h1 := h1 (by simp)
            simp only [gL, Nat.add_zero] at h1
            subst h1
            exact key hr hsq hle hc' h2 hG (hB (i, b0) (by simp))
        · cases hs
      · cases hs
    · cases hs
  · rename_i i len rest
    split at hs
    · rename_i j b0
      split at hs
      · rename_i n g hij hr
        obtain rfl : i = j := by simpa using hij
        split at hs
        · rename_i c' b' nv' hsq
          simp only [Option.some.injEq, Prod.mk.injEq] at hs
          obtain ⟨rfl, rfl, rfl⟩ := hs
          obtain ⟨hle, hc'⟩ := bothC_holds hc
          refine ⟨(h len g rest c' b' nv' hsq hc').2.1, (h len g rest c' b' nv' hsq hc').2.2.1, fun us ρ hrel w hG hB hlt => ?_⟩
          match us, hrel with
          | u :: us, ⟨h1, h2⟩ =>
            have h1 := h1 (by simp)
            simp only [gL] at h1
            subst h1
            exact key hr hsq hle hc' h2 hG (hB (i, b0) (by simp))
        · cases hs
      · cases hs
    · cases hs
  · cases hs
end
end Go.Ep
/-
  Chapter 23: which instructions jump, which slots are second halves, where jumps lead: contracts. Conditions: as typed.
-/
namespace Go.Proofs.YthkgakelgdncjaaDoor
open Go.Ep Go.RowKit
set_option linter.unusedVariables false
set_option linter.unusedSimpArgs false
abbrev tb_0 : List (Nat × Sp) := []
theorem C_0 : CSound Tryd.prog anyWorld (tab noData tb_0) := CSound.start
def sp_hj : Sp
  | [.agg [.b8 false o, .b8 false d, .b8 false s, .b16 true f, .b32 true i]] => some (Cond.t, .tup [(false, [.bool (jmpB o)]), (false, [.bool (mayB o)])])
  | _ => none
set_option maxRecDepth 100000 in
set_option maxHeartbeats 8000000 in
theorem e_hj : EntryOK Tryd.prog anyWorld 19 sp_hj := by
  refine .of_F C_0 (by kernel_rfl) Tryd.func19 (by kernel_rfl) (by kernel_rfl) (fun args c v h hc => ?_)
  unfold sp_hj at h
  split at h
  · rename_i o d s f i; cases h
    refine ⟨rfl, rfl, ?_⟩
    repeat' (first
      | (with_reducible apply Given.mk; intro h; (try exact absurd h (by decide)))
      | ((conv => whnf); with_reducible apply Both.mk))
    all_goals first
      | (with_reducible apply Ob.mk; kernel_rfl)
      | (with_reducible apply Ob.mk; decide)
      | ((conv => whnf); refine ⟨?_⟩; simp only [AV.tup.injEq, List.cons.injEq, Prod.mk.injEq, L.bool.injEq, true_and, and_true]; clear d s f i; revert o; decide +kernel)
  · cases h
abbrev tb_hj : List (Nat × Sp) := (19, sp_hj) :: tb_0
theorem C_hj : CSound Tryd.prog anyWorld (tab noData tb_hj) := C_0.cons e_hj
def sp_hm : Sp
  | [.agg [.b8 false o, .b8 false d, .b8 false s, .b16 true f, .b32 true i]] => some (Cond.t, .one (.bool (mayB o)))
  | _ => none
set_option maxRecDepth 100000 in
set_option maxHeartbeats 8000000 in
theorem e_hm : EntryOK Tryd.prog anyWorld 24 sp_hm := by
  refine .of_F C_hj (by kernel_rfl) Tryd.func24 (by kernel_rfl) (by kernel_rfl) (fun args c v h hc => ?_)
  unfold sp_hm at h
  split at h
  · rename_i o d s f i; cases h
    refine ⟨rfl, rfl, ?_⟩
    repeat' (first
      | (with_reducible apply Given.mk; intro h; (try exact absurd h (by decide)))
      | ((conv => whnf); with_reducible apply Both.mk))
    all_goals first
      | (with_reducible apply Ob.mk; kernel_rfl)
      | (with_reducible apply Ob.mk; decide)
      | ((conv => whnf); refine ⟨?_⟩; simp only [AV.one.injEq, L.bool.injEq]; clear d s f i; revert o; decide +kernel)
  · cases h
abbrev tb_hm : List (Nat × Sp) := (24, sp_hm) :: tb_hj
theorem C_hm : CSound Tryd.prog anyWorld (tab noData tb_hm) := C_hj.cons e_hm
theorem bv_nat {k : Nat} (h : k < 9223372036854775808) : (bv k).toNat = k := nat_ofNat (by omega)
theorem bv_pred (k : Nat) (h : k < 9223372036854775807) : bv (k + 1) - 1#64 = bv k := by
  have e1 := bv_nat (k := k + 1) (by omega)
  have e2 := bv_nat (k := k) (by omega)
  apply BitVec.eq_of_toNat_eq
  rw [BitVec.toNat_sub_of_le (by rw [BitVec.le_def, e1]; exact Nat.succ_le_succ (Nat.zero_le k)), e1, e2]
  exact Nat.add_sub_cancel k 1
theorem half_b {x : IT} {k : Nat} (hk : k < 9223372036854775807) (h : (!hf x k) = true) : AV.one (.bool ((x (bv (k + 1) - 1#64).toNat).o == 24#8)) = AV.one (.bool (hf x (k + 1))) := by
  rw [bv_pred k hk, bv_nat (by omega), hf, h, Bool.true_and]
theorem half_c {x : IT} {k : Nat} (h : (!hf x k) = false) : AV.one (.bool (!hf x k)) = AV.one (.bool (hf x (k + 1))) := by
  rw [hf, h, Bool.false_and]
theorem half_d {x : IT} {k : Nat} (h : (!hf x k) = false) : AV.one (.bool false) = AV.one (.bool (hf x (k + 1))) := by
  rw [hf, h, Bool.false_and]
theorem half_ix {len k : Nat} {p : BitVec 64} (hl : len ≤ 8000) (hp : p.toNat ≤ len) (g : k < p.toNat) : 0 ≤ (bv (k + 1) - 1#64).toInt ∧ (bv (k + 1) - 1#64).toNat < len := by
  rw [bv_pred k (by omega), toInt_ofNat (by omega), bv_nat (by omega)]
  omega
theorem half_stepA (k : Nat) : AV.one (.b64 true (bv (k + 1) + 1#64)) = AV.one (.b64 true (bv (k + 1 + 1))) := by rw [bv, bv, BitVec.ofNat_add (k + 1) 1]
set_option maxRecDepth 100000 in
set_option maxHeartbeats 8000000 in
theorem half_walk (T : TypeId) (len cap : Nat) (x : IT) (p : BitVec 64) (hl : len ≤ 8000) (hp : p.toNat ≤ len) : FI Tryd.prog (tab noData tb_hm) Tryd.f23 1 [.one (.slc 0 0 len cap), .one (.b64 true p)] [(0, .ro T [.seg 5 len (inF x)])] (fun r _ => r = .one (.bool (hf x p.toNat))) := by
  have hpi : p.toInt = (p.toNat : Int) := by rw [BitVec.toInt_eq_toNat_cond]; split <;> omega
  repeat' (first
    | ((with_reducible apply Given.mk); intro h; (try ((have _q := q); rw [q] at h; exact absurd h (by decide))))
    | ((conv => whnf); first | with_reducible apply Both.mk | ((fail_if_success (have _q := hk)); refine LoopP.mk (Nat) (fun k => k ≤ p.toNat) (fun k => mkS (Tryd.f23).ntmps [(0, .one (.slc 0 0 len cap)), (1, .one (.b64 true p)), (4, .one (.bool false)), (5, .one (.bool (hf x k))), (6, .one (.b64 true (bv (k + 1))))] [(0, .ro T [.seg 5 len (inF x)])]) (fun k => p.toNat - k) ⟨0, Nat.zero_le _, ⟨?_, ?_, ?_, ?_, ?_⟩⟩ ?_; (focus ((repeat' ((conv => whnf); first | exact trivial | refine Both.mk (by first | with_reducible rfl | exact iN_succ _ | rfl) ?_)); done)); (focus ((repeat' ((conv => whnf); first | exact trivial | refine Both.mk (by first | with_reducible rfl | exact iN_succ _ | rfl) ?_)); done)); (focus exact rfl); (focus exact rfl); (focus exact rfl); (rintro k hk; rcases Nat.lt_or_ge k p.toNat with g | g; (have q : (bv (k + 1)).sle p = true := by rw [BitVec.sle_iff_toInt_le, toInt_ofNat (by omega), hpi]; omega); rotate_left 1; (have e : k = p.toNat := Nat.le_antisymm hk g); (have q : (bv (k + 1)).sle p = false := by rw [← Bool.not_eq_true, BitVec.sle_iff_toInt_le, toInt_ofNat (by omega), hpi]; omega); rotate_left 1))))
  all_goals first
    | ((with_reducible apply Ob.mk); exact half_ix hl hp g)
    | ((with_reducible apply Ob.mk); exact (half_ix hl hp g).2)
    | (with_reducible apply Ob.mk; kernel_rfl)
    | ((have _g := g); ((conv => whnf); refine ⟨k + 1, (show k + 1 ≤ p.toNat from g), (show p.toNat - (k + 1) < p.toNat - k by omega), ⟨?_, ?_, ?_, ?_, ?_⟩⟩; (focus ((repeat' ((conv => whnf); first | exact trivial | refine Both.mk (by first | with_reducible rfl | exact iN_succ _ | exact half_stepA _ | exact half_b (by omega) h | exact half_c h | exact half_d h | rfl) ?_)); done)); (focus ((repeat' ((conv => whnf); first | exact trivial | refine Both.mk (by first | with_reducible rfl | exact iN_succ _ | exact half_stepA _ | exact half_b (by omega) h | exact half_c h | exact half_d h | rfl) ?_)); done)); (focus exact rfl); (focus exact rfl); (focus exact rfl)))
    | ((have _e := e); (conv => whnf); subst e; exact rfl)
    | ((conv => whnf); skip)
noncomputable def sq_half (len : Nat) (g : Nat → List PL) (rest : List AV) : Option (Cond × AV) := match rest with
  | [.one (.b64 true p)] => some (Cond.p (len ≤ 8000 ∧ g = inF (inOf g) ∧ p.toNat ≤ len ∧ 0 < len), .one (.bool (hf (inOf g) p.toNat)))
  | _ => none
set_option maxRecDepth 100000 in
theorem e_half : EntryM Tryd.prog anyWorld 23 (spS 5 sq_half) := by
  refine .of_slice C_hm (by kernel_rfl) Tryd.func23 (by kernel_rfl) (by kernel_rfl) (fun len g rest c v h hc => ?_) (fun rest c v h hc ad cap => ?_)
  · unfold sq_half at h
    split at h
    · rename_i p
      cases h
      obtain ⟨h1, h2, h3, _⟩ := hc
      refine ⟨rfl, rfl, fun T cap => ?_⟩
      generalize inOf g = x at *
      subst h2
      exact half_walk T len cap x p h1 h3
    · cases h
  · unfold sq_half at h
    split at h
    · cases h
      exact absurd hc.2.2.2 (by decide)
    · cases h
theorem l1_nat {len : Nat} (hl : len ≤ 8000) : (BitVec.ofNat 64 len + 1#64).toNat = len + 1 := by
  rw [BitVec.toNat_add, nat_ofNat (by omega)]
  show (len + 1) % 2 ^ 64 = _
  omega
theorem l1_A {len i : Nat} (hl : len ≤ 8000) : AV.one (.rsl i (BitVec.ofNat 64 len + 1#64).toNat) = AV.one (.rsl i (len + 1)) := by rw [l1_nat hl]
theorem l1_B {len : Nat} {f g : Nat → List PL} (hl : len ≤ 8000) (h : f = g) : Blk.row 4 1 (BitVec.ofNat 64 len + 1#64).toNat f = Blk.row 4 1 (len + 1) g := by rw [l1_nat hl, h]
theorem bF_zero (g : Nat → Bool) (h : g = fun _ => false) : (fun _ => [PL.bool false]) = bF g := by subst h; rfl
theorem bvs (k : Nat) : bv k + 1#64 = bv (k + 1) := by rw [bv, bv, BitVec.ofNat_add k 1]
theorem hv_A {x : IT} {a : Nat} (h : ((x a).o == 24#8) = false) : AV.one (.b64 true (bv a + 1#64)) = iN (a + szN (x a).o) := by
  have e : szN (x a).o = 1 := by unfold szN; rw [h]; rfl
  rw [e]
  exact iN_succ a
theorem hv_B {x : IT} {a : Nat} (h : ((x a).o == 24#8) = true) : AV.one (.b64 true (bv a + 1#64 + 1#64)) = iN (a + szN (x a).o) := by
  have e : szN (x a).o = 2 := by unfold szN; rw [h]; rfl
  rw [e, bvs]
  exact iN_succ (a + 1)
theorem hv_C {x : IT} {a n : Nat} (hh : hf x a = false) (h : ((x a).o == 24#8) = false) : Blk.row 4 1 n (bF (hfN x a)) = Blk.row 4 1 n (bF (hfN x (a + szN (x a).o))) := by
  have e : szN (x a).o = 1 := by unfold szN; rw [h]; rfl
  rw [e, hfN_no hh]
theorem hv_D {x : IT} {a n : Nat} (ha : a < 9223372036854775807) (hh : hf x a = false) (h : ((x a).o == 24#8) = true) : Blk.row 4 1 n (updF (bF (hfN x a)) (bv a + 1#64).toNat 0 [.bool true]) = Blk.row 4 1 n (bF (hfN x (a + szN (x a).o))) := by
  have e : szN (x a).o = 2 := by unfold szN; rw [h]; rfl
  rw [e, hfN_yes hh h, bvs, bv_nat (by omega), bF_upd]
  rfl
theorem sz_in {x : IT} {a len : Nat} (g : a < len) : a + szN (x a).o ≤ len + 1 := by
  have : szN (x a).o ≤ 2 := by unfold szN; split <;> omega
  omega
theorem hv_end {x : IT} {a n : Nat} (hh : hf x a = false) (h1 : n ≤ a) (h2 : a ≤ n + 1) : hfN x a = hfN x (n + 1) := by
  rcases Nat.lt_or_ge a (n + 1) with g | g
  · obtain rfl : a = n := by omega
    exact (hfN_no hh).symm
  · obtain rfl : a = n + 1 := by omega
    rfl
theorem hv_ix1 {len a : Nat} (hl : len ≤ 8000) (g : a < len) : 0 ≤ (BitVec.ofNat 64 a).toInt ∧ (BitVec.ofNat 64 a).toNat < len := by
  rw [toInt_ofNat (by omega), nat_ofNat (by omega)]
  omega
theorem hv_ix2 {len a : Nat} (hl : len ≤ 8000) (g : a < len) : 0 ≤ (BitVec.ofNat 64 a + 1#64).toInt ∧ (BitVec.ofNat 64 a + 1#64).toNat < len + 1 := by
  have e : BitVec.ofNat 64 a + 1#64 = BitVec.ofNat 64 (a + 1) := bvs a
  rw [e, toInt_ofNat (by omega), nat_ofNat (by omega)]
  omega
set_option maxRecDepth 100000 in
set_option maxHeartbeats 8000000 in
theorem halves_walk (T : TypeId) (len cap : Nat) (x : IT) (hl : len ≤ 8000) : FI Tryd.prog (tab noData tb_hm) Tryd.f18 1 [.one (.slc 0 0 len cap)] [(0, .ro T [.seg 5 len (inF x)])] (fun v h => ∃ i, v = .one ((NewV.r (len + 1)).at i) ∧ Ep.look h i = some (.row 4 1 (len + 1) (bF (hfN x (len + 1))))) := by
  repeat' (first
    | ((with_reducible apply Given.mk); intro h; (try ((have _q := q); rw [q] at h; exact absurd h (by decide))); (try simp only [na] at h))
    | ((conv => whnf); first | with_reducible apply Both.mk | ((fail_if_success (have _q := hk)); refine LoopP.mk (Nat) (fun a => hf x a = false ∧ a ≤ len + 1) (fun a => mkS (Tryd.f18).ntmps [(0, .one (.slc 0 0 len cap)), (2, .one (.raw (.slice none 0 0))), (3, .one (.rsl 9 (len + 1))), (4, iN a)] [(9, .row 4 1 (len + 1) (bF (hfN x a))), (0, .ro T [.seg 5 len (inF x)])]) (fun a => len + 2 - a) ⟨0, ⟨rfl, Nat.zero_le _⟩, ⟨?_, ?_, ?_, ?_, ?_⟩⟩ ?_; (focus ((repeat' ((conv => whnf); first | exact trivial | refine Both.mk (by first | with_reducible rfl | exact iN_succ _ | exact l1_A hl | exact l1_B hl (bF_zero _ (hfN_zero x)) | rfl) ?_)); done)); (focus ((repeat' ((conv => whnf); first | exact trivial | refine Both.mk (by first | with_reducible rfl | exact iN_succ _ | exact l1_A hl | exact l1_B hl (bF_zero _ (hfN_zero x)) | rfl) ?_)); done)); (focus exact rfl); (focus exact rfl); (focus exact rfl); (rintro a hk; (have na : (BitVec.ofNat 64 a).toNat = a := nat_ofNat (by omega)); rcases Nat.lt_or_ge a len with g | g; (have q : (BitVec.ofNat 64 a).slt (BitVec.ofNat 64 len) = true := by rw [slt_nat (by omega) (by omega)]; exact decide_eq_true g); rotate_left 1; (have e : len ≤ a := g); (have q : (BitVec.ofNat 64 a).slt (BitVec.ofNat 64 len) = false := by rw [slt_nat (by omega) (by omega)]; exact decide_eq_false (by omega)); rotate_left 1))))
  all_goals first
    | ((with_reducible apply Ob.mk); exact hv_ix1 hl g)
    | ((with_reducible apply Ob.mk); exact (hv_ix1 hl g).2)
    | ((with_reducible apply Ob.mk); exact hv_ix2 hl g)
    | ((with_reducible apply Ob.mk); exact (hv_ix2 hl g).2)
    | ((with_reducible apply Ob.mk); exact ⟨rfl, (by rw [l1_nat hl]; omega)⟩)
    | ((with_reducible apply Ob.mk); show len < 9223372036854775808; omega)
    | (with_reducible apply Ob.mk; kernel_rfl)
    | ((have _g := g); ((conv => whnf); refine ⟨a + szN (x a).o, ⟨hf_next x hk.1, (sz_in g)⟩, (by have := sz_pos (x a).o; omega), ⟨?_, ?_, ?_, ?_, ?_⟩⟩; (focus ((repeat' ((conv => whnf); first | exact trivial | refine Both.mk (by first | with_reducible rfl | exact iN_succ _ | exact hv_A h | exact hv_B h | exact hv_C hk.1 h | exact hv_D (by omega) hk.1 h | rfl) ?_)); done)); (focus ((repeat' ((conv => whnf); first | exact trivial | refine Both.mk (by first | with_reducible rfl | exact iN_succ _ | exact hv_A h | exact hv_B h | exact hv_C hk.1 h | exact hv_D (by omega) hk.1 h | rfl) ?_)); done)); (focus exact rfl); (focus exact rfl); (focus exact rfl)))
    | ((have _e := e); (conv => whnf); exact ⟨_, rfl, congrArg (fun f => some (Blk.row 4 1 (len + 1) (bF f))) (hv_end hk.1 e hk.2)⟩)
    | ((conv => whnf); skip)
/-- Where jumps lead is told. -/
def TgOK (x : IT) (n : Nat) : Prop := ∀ k, k < n → mayB (x k).o = true → 0 ≤ (toV x (bv k)).toInt ∧ (toV x (bv k)).toNat < n + 1
theorem tg_A {x : IT} {k n : Nat} (h : mayB (x k).o = false) : Blk.row 4 1 n (bF (ledF x k)) = Blk.row 4 1 n (bF (ledF x (k + 1))) := by rw [ledF_no h]
theorem tg_B {x : IT} {k n : Nat} (h : mayB (x k).o = true) : Blk.row 4 1 n (updF (bF (ledF x k)) (toV x (bv k)).toNat 0 [.bool true]) = Blk.row 4 1 n (bF (ledF x (k + 1))) := by
  rw [ledF_yes h, bF_upd]
  rfl
theorem toV_eq {x : IT} {k : Nat} (na : (BitVec.ofNat 64 k).toNat = k) : BitVec.ofNat 64 k + 1#64 + BitVec.signExtend 64 (x k).f = toV x (bv k) := by
  unfold toV bv
  rw [na]
set_option maxRecDepth 100000 in
set_option maxHeartbeats 8000000 in
theorem targets_walk (T : TypeId) (len cap : Nat) (x : IT) (hl : len ≤ 8000) (ht : TgOK x len) : FI Tryd.prog (tab noData tb_hm) Tryd.f17 1 [.one (.slc 0 0 len cap)] [(0, .ro T [.seg 5 len (inF x)])] (fun v h => ∃ i, v = .one ((NewV.r (len + 1)).at i) ∧ Ep.look h i = some (.row 4 1 (len + 1) (bF (ledF x len)))) := by
  repeat' (first
    | ((with_reducible apply Given.mk); intro h; (try ((have _q := q); rw [q] at h; exact absurd h (by decide))); (try simp only [na] at h))
    | ((conv => whnf); first | with_reducible apply Both.mk | ((fail_if_success (have _q := hk)); refine LoopP.mk (Nat) (fun k => k ≤ len) (fun k => mkS (Tryd.f17).ntmps [(0, .one (.slc 0 0 len cap)), (2, .one (.raw (.slice none 0 0))), (3, .one (.rsl 12 (len + 1))), (12, .one (.slc 0 0 len cap)), (13, .one (.b64 true (BitVec.ofNat 64 len))), (14, iN k)] [(12, .row 4 1 (len + 1) (bF (ledF x k))), (0, .ro T [.seg 5 len (inF x)])]) (fun k => len - k) ⟨0, Nat.zero_le _, ⟨?_, ?_, ?_, ?_, ?_⟩⟩ ?_; (focus ((repeat' ((conv => whnf); first | exact trivial | refine Both.mk (by first | with_reducible rfl | exact iN_succ _ | exact l1_A hl | exact l1_B hl (bF_zero _ (ledF_zero x)) | rfl) ?_)); done)); (focus ((repeat' ((conv => whnf); first | exact trivial | refine Both.mk (by first | with_reducible rfl | exact iN_succ _ | exact l1_A hl | exact l1_B hl (bF_zero _ (ledF_zero x)) | rfl) ?_)); done)); (focus exact rfl); (focus exact rfl); (focus exact rfl); (rintro k hk; (have na : (BitVec.ofNat 64 k).toNat = k := nat_ofNat (by omega)); rcases Nat.lt_or_ge k len with g | g; (have q : (BitVec.ofNat 64 k).slt (BitVec.ofNat 64 len) = true := by rw [slt_nat (by omega) (by omega)]; exact decide_eq_true g); rotate_left 1; (have e : k = len := Nat.le_antisymm hk g); (have q : (BitVec.ofNat 64 k).slt (BitVec.ofNat 64 len) = false := by rw [slt_nat (by omega) (by omega)]; exact decide_eq_false (by omega)); rotate_left 1))))
  all_goals first
    | ((with_reducible apply Ob.mk); exact hv_ix1 hl g)
    | ((with_reducible apply Ob.mk); exact (hv_ix1 hl g).2)
    | ((with_reducible apply Ob.mk); rw [na, toV_eq na]; exact ht k g h)
    | ((with_reducible apply Ob.mk); rw [na, toV_eq na]; exact (ht k g h).2)
    | ((with_reducible apply Ob.mk); exact ⟨rfl, (by rw [l1_nat hl]; omega)⟩)
    | ((with_reducible apply Ob.mk); show len < 9223372036854775808; omega)
    | (with_reducible apply Ob.mk; kernel_rfl)
    | ((have _g := g); ((conv => whnf); refine ⟨k + 1, (show k + 1 ≤ len from g), (show len - (k + 1) < len - k by omega), ⟨?_, ?_, ?_, ?_, ?_⟩⟩; (focus ((repeat' ((conv => whnf); first | exact trivial | refine Both.mk (by first | with_reducible rfl | exact iN_succ _ | exact tg_A h | (rw [na, toV_eq na]; exact tg_B h) | rfl) ?_)); done)); (focus ((repeat' ((conv => whnf); first | exact trivial | refine Both.mk (by first | with_reducible rfl | exact iN_succ _ | exact tg_A h | (rw [na, toV_eq na]; exact tg_B h) | rfl) ?_)); done)); (focus exact rfl); (focus exact rfl); (focus exact rfl)))
    | ((have _e := e); (conv => whnf); subst e; exact ⟨_, rfl, rfl⟩)
    | ((conv => whnf); skip)
noncomputable def sq_halves (len : Nat) (g : Nat → List PL) (rest : List AV) : Option (Cond × Blk × NewV) := match rest with
  | [] => some (Cond.p (len ≤ 8000 ∧ g = inF (inOf g)), .row 4 1 (len + 1) (bF (hfN (inOf g) (len + 1))), .r (len + 1))
  | _ => none
noncomputable def sq_targets (len : Nat) (g : Nat → List PL) (rest : List AV) : Option (Cond × Blk × NewV) := match rest with
  | [] => some (Cond.p (len ≤ 8000 ∧ g = inF (inOf g) ∧ TgOK (inOf g) len), .row 4 1 (len + 1) (bF (ledF (inOf g) len)), .r (len + 1))
  | _ => none
set_option maxRecDepth 100000 in
theorem e_halves : EntryK Tryd.prog anyWorld 18 (spKS 5 sq_halves) := by
  refine .of_slice C_hm (by kernel_rfl) Tryd.func18 (by kernel_rfl) (by kernel_rfl) (fun len g rest c b nv h hc => ?_)
  unfold sq_halves at h
  split at h
  · cases h
    obtain ⟨h1, h2⟩ := hc
    refine ⟨rfl, rfl, rfl, fun T cap => ?_⟩
    generalize inOf g = x at *
    subst h2
    exact halves_walk T len cap x h1
  · cases h
set_option maxRecDepth 100000 in
theorem e_targets : EntryK Tryd.prog anyWorld 17 (spKS 5 sq_targets) := by
  refine .of_slice C_hm (by kernel_rfl) Tryd.func17 (by kernel_rfl) (by kernel_rfl) (fun len g rest c b nv h hc => ?_)
  unfold sq_targets at h
  split at h
  · cases h
    obtain ⟨h1, h2, h3⟩ := hc
    refine ⟨rfl, rfl, rfl, fun T cap => ?_⟩
    generalize inOf g = x at *
    subst h2
    exact targets_walk T len cap x h1 h3
  · cases h
end Go.Proofs.YthkgakelgdncjaaDoor
