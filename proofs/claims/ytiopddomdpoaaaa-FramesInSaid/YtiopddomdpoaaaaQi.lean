/-
  Whether a stack lets in another one: plain mathematics. Conditions: as typed.
-/
import Derived.Test.YtiopddomdpoaaaaQg
namespace Go.Proofs.Ytiopddomdpoaaaa
open Go.Ep Go.RowKit
set_option linter.unusedVariables false
set_option linter.unusedSimpArgs false

theorem okK_Z : okK gZ := fun _ => ⟨rfl, rfl⟩
theorem okK_st {g : PG} {o n : BitVec 64} {v : VV} (h : okK g) (hv : (v.k == 6#64) = false ∧ (v.k == 7#64) = false) : okK (stR g o n v).g := fun j =>
  stR_all (p := fun v => (v.k == 6#64) = false ∧ (v.k == 7#64) = false) ⟨rfl, rfl⟩ (fun j => h j) hv j
theorem gOf_z : (gOf fun x => [PL.b8 false 0#8, PL.b64 true 0#64, PL.b64 true 0#64, PL.b64 true 0#64, PL.b64 true 0#64, PL.b64 true 0#64, PL.b64 false 0#64, PL.b64 false 0#64, PL.b64 false 0#64, PL.b64 false 0#64, PL.b64 true 0#64, PL.b64 true 0#64]) = gZ := rfl

/-- A value that may be itself, and tells no ID. -/
def okN (v : VV) : Prop := ((v.k == 6#64) = false ∧ (v.k == 7#64) = false) ∧ nIn v.n v.n = true
theorem nIn_self {n : NN} (h : n.tv &&& n.tm = 0#64) : nIn n n = true := by
  have h1 : n.tm &&& ~~~n.tm = 0#64 := by simp
  have h2 : n.tv &&& ~~~n.tm = n.tv := by
    apply BitVec.eq_of_getLsbD_eq
    intro i hi
    have := congrArg (fun x => x.getLsbD i) h
    simp at this
    simp only [BitVec.getLsbD_and, BitVec.getLsbD_not, hi, decide_true, Bool.true_and]
    cases ha : n.tv.getLsbD i <;> cases hb : n.tm.getLsbD i <;> simp_all
  simp only [nIn, tIn, tHas, sIn, NN.s, h1, h2, beq_self_eq_true, Bool.and_self, Bool.true_and]
  simp [BitVec.ule, BitVec.sle]
theorem okN_Z : okN vZ := ⟨⟨rfl, rfl⟩, by decide⟩
theorem okN_const (x : BitVec 64) : okN (vNum (nConst x)) := ⟨⟨rfl, rfl⟩, nIn_self (by simp [vNum, nConst])⟩
theorem okN_val (k : BitVec 8) (x : BitVec 64) : okN (valV k x) := by
  rw [valV]
  split
  · exact okN_Z
  split
  · exact ⟨⟨rfl, rfl⟩, nIn_self (n := nZ) (by decide)⟩
  · exact okN_const x
theorem okN_any : okN (vNum nAny) := ⟨⟨rfl, rfl⟩, nIn_self (by simp [vNum, nAny, nMk])⟩
def okG (g : PG) : Prop := ∀ j, okN (g.v j)
theorem okG_Z : okG gZ := fun _ => okN_Z
theorem okG_st {g : PG} {o n : BitVec 64} {v : VV} (h : okG g) (hv : okN v) : okG (stR g o n v).g := fun j => stR_all (p := okN) okN_Z h hv j
theorem okG.k {g : PG} (h : okG g) : okK g := fun j => (h j).1
theorem kIn_self {v : VV} (h : okN v) : kInF v v = true := by
  rw [kInF]
  split
  · rfl
  rw [kIn, if_neg (by simp), h.2]
  split
  · rfl
  · simp [BitVec.sle]
theorem and_not8 (p : BitVec 8) : (p &&& ~~~p != 0#8) = false := by
  have : p &&& ~~~p = 0#8 := by simp
  rw [this]; rfl
theorem plIn_self {p : BitVec 8} {v : VV} (h : okN v) : plInV p p v v = true := by
  rw [plInV, and_not8]
  simp only [Bool.false_eq_true, if_false]
  split
  · exact kIn_self h
  · rename_i hk
    have hk : v.k = 0#64 := by simpa [bne] using hk
    rw [vPts, hk]; simp [BitVec.slt]
theorem inR_true {g g' : PG} (h : ∀ j, j < 64 → plIn g g' j = true) : ∀ r a, a + r = 64 → inR g g' r (BitVec.ofNat 64 a) = true
  | 0, _, _ => rfl
  | r + 1, a, ha => by
    rw [inR, Go.Ep.toNat_ofNat (by omega), h a (by omega), if_pos rfl, Go.Ep.succ_ofNat]
    exact inR_true h r (a + 1) (by omega)
theorem inG_true {g g' : PG} (h : ∀ j, j < 64 → plIn g g' j = true) : inG g g' = true := inR_true h 64 0 rfl
theorem inG_self {g : PG} (h : okG g) : inG g g = true := inG_true fun j _ => plIn_self (h j)
theorem inR_false {g g' : PG} {j : Nat} (hj : j < 64) (h : plIn g g' j = false) : ∀ r a, a + r = 64 → a ≤ j → inR g g' r (BitVec.ofNat 64 a) = false
  | 0, a, ha, hle => by omega
  | r + 1, a, ha, hle => by
    rw [inR, Go.Ep.toNat_ofNat (by omega)]
    by_cases e : a = j
    · subst e; rw [h]; rfl
    · split
      · rw [Go.Ep.succ_ofNat]; exact inR_false hj h r (a + 1) (by omega) (by omega)
      · rfl
theorem inG_false {g g' : PG} (j : Nat) (hj : j < 64) (h : plIn g g' j = false) : inG g g' = false := inR_false hj h 64 0 rfl (Nat.zero_le _)
/-- A stack without anything lets all in. -/
theorem inG_Z (g : PG) : inG gZ g = true := inG_true fun j _ => by
  show plInV 0#8 (g.b j) vZ (g.v j) = true
  rw [plInV]
  have : (0#8 &&& ~~~ g.b j != 0#8) = false := by simp
  rw [this]; rfl
theorem stW_some : ∀ (r : Nat) (k : BitVec 64) (g : PG), (∀ j, vPts (g.v j) = false) → ∃ g', stW r k g = some g'
  | 0, _, g, _ => ⟨g, rfl⟩
  | r + 1, k, g, h => by
    rw [stW, h, if_neg (by decide)]
    refine stW_some r _ _ fun j => ?_
    by_cases hj : j = ixS k
    · subst hj; rw [(put_v _ _ _ _).1]; decide
    · rw [(put_o _ _ _ hj).1]; exact h j
theorem stR_e0 {g : PG} {o n : BitVec 64} {v : VV} (hb : (atBad o n || !wOk n) = false) (hk : (v.k == 0#64) = false) (hp : vPts v = false) (hg : ∀ j, vPts (g.v j) = false) : (stR g o n v).e = 0#64 := by
  rw [stR, hb, hk, hp]
  simp only [Bool.false_eq_true, if_false]
  split
  · rfl
  · obtain ⟨g', h⟩ := stW_some n.toNat (atI o n) g hg
    rw [h]
theorem pts_st {g : PG} {o n : BitVec 64} {v : VV} (h : ∀ j, vPts (g.v j) = false) (hv : vPts v = false) : ∀ j, vPts ((stR g o n v).g.v j) = false := fun j => stR_all (p := fun v => vPts v = false) (by decide) h hv j
theorem pts_Z : ∀ j, vPts (gZ.v j) = false := fun _ => (show vPts vZ = false by decide)
theorem plF_ok (g : PG) : plF g = plF (gOf (plF g)) := rfl
theorem plF_z : (fun _ : Nat => [PL.b8 false 0#8, PL.b64 true 0#64, PL.b64 true 0#64, PL.b64 true 0#64, PL.b64 true 0#64, PL.b64 true 0#64, PL.b64 false 0#64, PL.b64 false 0#64, PL.b64 false 0#64, PL.b64 false 0#64, PL.b64 true 0#64, PL.b64 true 0#64]) = plF (gOf fun _ => [PL.b8 false 0#8, PL.b64 true 0#64, PL.b64 true 0#64, PL.b64 true 0#64, PL.b64 true 0#64, PL.b64 true 0#64, PL.b64 false 0#64, PL.b64 false 0#64, PL.b64 false 0#64, PL.b64 false 0#64, PL.b64 true 0#64, PL.b64 true 0#64]) := rfl
/-! ### The chapter's stacks -/
theorem stW_b : ∀ (r : Nat) (k : BitVec 64) (g g' : PG) (j : Nat), stW r k g = some g' → g'.b j = 0#8 → g.b j = 0#8
  | 0, _, g, g', j, h, hb => by
    simp only [stW, Option.some.injEq] at h
    rw [h]; exact hb
  | r + 1, k, g, g', j, h, hb => by
    simp only [stW] at h
    split at h
    · cases h
    · have h1 := stW_b r _ _ g' j h hb
      by_cases hj : j = ixS k
      · subst hj
        rw [(put_v _ _ _ _).2] at h1
        apply BitVec.eq_of_getLsbD_eq
        intro i hi
        have h2 := congrArg (fun x => x.getLsbD i) h1
        simp only [BitVec.getLsbD_or, BitVec.getLsbD_zero, Bool.or_eq_false_iff] at h2
        rw [h2.1]; simp
      · rw [(put_o _ _ _ hj).2] at h1; exact h1
theorem stR_4b {g : PG} {o : BitVec 64} {v : VV} (hb : (atBad o 4#64 || !wOk 4#64) = false) (hk : (v.k == 0#64) = false) (hp : vPts v = false) : stR g o 4#64 v = match stW 4 (atI o 4#64) g with
    | some g' => ⟨g', 0#64⟩
    | none => ⟨gZ, 102#64⟩ := by
  rw [stR, hb, hk, hp]; rfl
theorem stR_8b {g : PG} {o : BitVec 64} {v : VV} (hb : (atBad o 8#64 || !wOk 8#64) = false) (hk : (v.k == 0#64) = false) (hi : ((atI o 8#64).srem 8#64 == 0#64) = true) : stR g o 8#64 v = ⟨g.put (ixS (atI o 8#64)) 255#8 v, 0#64⟩ := by
  rw [stR, hb, hk, hi]; rfl
theorem plIn_pts {p q : BitVec 8} {a b : VV} (ha : a = vZ) (hp : (p == 0#8) = false) (hb : vPts b = true) : plInV p q a b = false := by
  rw [plInV, ha, hp, hb]
  split <;> rfl
theorem inG_c {v w : VV} (h1 : (v.k == 0#64) = false) (h2 : vPts v = false) (h3 : (w.k == 0#64) = false) (h4 : vPts w = true) :
    inG (stR (stR gZ (BitVec.ofInt 64 (Int.negSucc 3)) 4#64 v).g (BitVec.ofInt 64 (Int.negSucc 7)) 4#64 v).g (stR gZ (BitVec.ofInt 64 (Int.negSucc 7)) 8#64 w).g = false := by
  refine inG_false 63 (by decide) ?_
  obtain ⟨g1, e1⟩ := stW_some 4 (atI (BitVec.ofInt 64 (Int.negSucc 3)) 4#64) gZ pts_Z
  have z1 : ∀ j, g1.v j = vZ := stW_all (p := fun v => v = vZ) rfl 4 _ gZ g1 (fun _ => rfl) e1
  have b1 : g1.b 63 ≠ 0#8 := by
    have : ((stW 4 (atI (BitVec.ofInt 64 (Int.negSucc 3)) 4#64) gZ).map fun g => g.b 63) = some 240#8 := by decide +kernel
    rw [e1] at this
    have : g1.b 63 = 240#8 := by simpa using this
    rw [this]; decide
  rw [stR_4b (g := gZ) (by decide) h1 h2, e1]
  obtain ⟨g2, e2⟩ := stW_some 4 (atI (BitVec.ofInt 64 (Int.negSucc 7)) 4#64) g1 (fun j => by rw [z1 j]; decide)
  have z2 : ∀ j, g2.v j = vZ := stW_all (p := fun v => v = vZ) rfl 4 _ g1 g2 z1 e2
  have b2 : g2.b 63 ≠ 0#8 := fun h => b1 (stW_b 4 _ g1 g2 63 e2 h)
  dsimp only
  rw [stR_4b (g := g1) (by decide) h1 h2, e2, stR_8b (g := gZ) (by decide) h3 (by decide)]
  refine plIn_pts (z2 63) (by simpa using b2) ?_
  have : ixS (atI (BitVec.ofInt 64 (Int.negSucc 7)) 8#64) = 63 := by decide
  rw [this, (put_v _ _ _ _).1]
  exact h4
theorem inG_ss {o n o' n' : BitVec 64} {v : VV} (h6 : (v.k == 6#64) = false) (h7 : (v.k == 7#64) = false) (hn : nIn v.n v.n = true) : inG (stR (stR gZ o n v).g o' n' v).g (stR (stR gZ o n v).g o' n' v).g = true :=
  inG_self (okG_st (okG_st okG_Z ⟨⟨h6, h7⟩, hn⟩) ⟨⟨h6, h7⟩, hn⟩)
end Go.Proofs.Ytiopddomdpoaaaa
