/-
  Whether a frame lets in another one: plain mathematics. Conditions: as typed.
-/
import Derived.Test.YtiopddomdpoaaaaRh
import Derived.Test.YtiopddomdpoaaaaQi
namespace Go.Proofs.Ytiopddomdpoaaaa
open Go.Ep Go.RowKit
set_option linter.unusedVariables false
set_option linter.unusedSimpArgs false
/-- Each ID stands for itself. -/
def idE (es : Ids) : Prop := ∀ p ∈ es, p.1 = p.2
theorem idE_nil : idE [] := fun p h => by simp at h
theorem idE_val : ∀ {es : Ids} {a : BitVec 64}, idE es → mhas es a = true → mval es a = a
  | [], _, _, h => by cases h
  | (x, y) :: r, a, he, h => by
    have hx : x = y := he (x, y) (by simp)
    simp only [mval]
    split
    · rename_i e; rw [← hx, e]
    · rename_i e
      simp only [mhas, Bool.or_eq_true, beq_iff_eq] at h
      rcases h with h | h
      · exact absurd h e
      · exact idE_val (fun p hp => he p (by simp [hp])) h
theorem idE_put : ∀ {es : Ids} {a : BitVec 64}, idE es → idE (mput es a a)
  | [], a, _ => fun p hp => by
    have : p = (a, a) := by simpa [mput] using hp
    rw [this]
  | (x, y) :: r, a, he => fun p hp => by
    simp only [mput] at hp
    split at hp
    · rename_i e
      rcases List.mem_cons.1 hp with rfl | hp
      · exact e.symm
      · exact he p (by simp [hp])
    · rcases List.mem_cons.1 hp with rfl | hp
      · exact he _ (by simp)
      · exact idE_put (fun p hp => he p (by simp [hp])) p hp
/-- A value that may be itself. -/
def okS (v : VV) : Prop := nIn v.n v.n = true
theorem kAlike_self {v : VV} (h : okS v) : kAlike v v = true := by simp [kAlike, show nIn v.n v.n = true from h, BitVec.sle]
theorem kIn_0 {a b : VV} {es : Ids} (h : (a.k == 0#64) = true) : kInB a b es = true ∧ kInE a b es = es := by
  rw [kInB, kInE, if_pos h, if_pos h]; exact ⟨rfl, rfl⟩
theorem kIn_self' {v : VV} {es : Ids} (h : okS v) (he : idE es) : kInB v v es = true ∧ idE (kInE v v es) := by
  have hn : nIn v.n v.n = true := h
  by_cases h0 : (v.k == 0#64) = true
  · obtain ⟨h1, h2⟩ := kIn_0 (b := v) (es := es) h0
    exact ⟨h1, by rw [h2]; exact he⟩
  · have h0 : (v.k == 0#64) = false := by simpa using h0
    by_cases h1 : (v.k == 1#64) = true
    · simp only [kInB, kInE, h0, h1, hn, bne_self_eq_false, Bool.false_eq_true, if_false, if_true]; exact ⟨trivial, he⟩
    · have h1 : (v.k == 1#64) = false := by simpa using h1
      by_cases h2 : (v.k == 6#64 || v.k == 7#64) = true
      · cases h3 : mhas es v.id with
        | true =>
          simp only [kInB, kInE, h0, h1, h2, h3, kAlike_self h, idE_val he h3, bne_self_eq_false, Bool.false_eq_true, if_false, if_true, Bool.not_true, Bool.false_or, beq_self_eq_true, Bool.and_self]; exact ⟨trivial, he⟩
        | false =>
          simp only [kInB, kInE, h0, h1, h2, h3, kAlike_self h, bne_self_eq_false, Bool.false_eq_true, if_false, if_true, Bool.not_false, Bool.true_or, Bool.and_self]; exact ⟨trivial, idE_put he⟩
      · have h2 : (v.k == 6#64 || v.k == 7#64) = false := by simpa using h2
        simp only [kInB, kInE, h0, h1, h2, kAlike_self h, bne_self_eq_false, Bool.false_eq_true, if_false]; exact ⟨trivial, he⟩
theorem kIn_no {a b : VV} {es : Ids} (h : (a.k == 0#64) = false) (h' : (a.k != b.k) = true) : kInB a b es = false := by
  simp [kInB, h, h']
theorem pcIn_self {p : BitVec 8} {v : VV} {es : Ids} (h : okS v) (he : idE es) : pcB p p v v es = true ∧ idE (pcE p p v v es) := by
  simp only [pcB, pcE, and_not8, Bool.false_eq_true, if_false]
  split
  · exact kIn_self' h he
  · rename_i hk
    have hk : v.k = 0#64 := by simpa [bne] using hk
    refine ⟨?_, he⟩
    rw [vPts, hk]; simp [BitVec.slt]
theorem inPl_self {g : PG} (h : ∀ j, okS (g.v j)) : ∀ (n j : Nat) (es : Ids), idE es → (inPl g g n j es).1 = true
  | 0, _, _, _ => rfl
  | n + 1, j, es, he => by
    obtain ⟨h1, h2⟩ := pcIn_self (p := g.b (BitVec.ofNat 64 j).toNat) (h (BitVec.ofNat 64 j).toNat) he
    rw [inPl, if_pos h1]
    exact inPl_self h n (j + 1) _ h2
/-- All registers may be what those are. -/
theorem inRg_all {r r' : RG} (h : ∀ j, j < 11 → ∀ es, idE es → kInB (r.v j) (r'.v j) es = true ∧ idE (kInE (r.v j) (r'.v j) es)) : ∀ (n j : Nat) (es : Ids), j + n ≤ 11 → idE es → (inRg r r' n j es).1 = true ∧ idE (inRg r r' n j es).2
  | 0, _, _, _, he => ⟨rfl, he⟩
  | n + 1, j, es, hj, he => by
    have e : (BitVec.ofNat 64 j).toNat = j := Go.Ep.toNat_ofNat (by omega)
    obtain ⟨h1, h2⟩ := h j (by omega) es he
    rw [inRg, e, if_pos h1]
    exact inRg_all h n (j + 1) _ (by omega) h2
theorem inRg_bad {r r' : RG} {q : Nat} (hq : q < 11) (h : ∀ j, j < q → ∀ es, idE es → kInB (r.v j) (r'.v j) es = true ∧ idE (kInE (r.v j) (r'.v j) es)) (hb : ∀ es, kInB (r.v q) (r'.v q) es = false) :
    ∀ (n j : Nat) (es : Ids), j + n = 11 → j ≤ q → idE es → (inRg r r' n j es).1 = false
  | 0, j, _, hj, hle, _ => by omega
  | n + 1, j, es, hj, hle, he => by
    have e : (BitVec.ofNat 64 j).toNat = j := Go.Ep.toNat_ofNat (by omega)
    by_cases hjq : j = q
    · subst hjq
      rw [inRg, e, if_neg (by rw [hb]; decide)]
    · obtain ⟨h1, h2⟩ := h j (by omega) es he
      rw [inRg, e, if_pos h1]
      exact inRg_bad hq h hb n (j + 1) _ (by omega) (by omega) h2
theorem inF_all {r r' : RG} {g : PG} (h : ∀ j, j < 11 → ∀ es, idE es → kInB (r.v j) (r'.v j) es = true ∧ idE (kInE (r.v j) (r'.v j) es)) (hg : ∀ j, okS (g.v j)) : inF r r' g g = true := by
  obtain ⟨h1, h2⟩ := inRg_all h 11 0 [] (by omega) idE_nil
  rw [inF, if_pos h1]
  exact inPl_self hg 64 0 _ h2
theorem inF_self {r : RG} {g : PG} (hr : ∀ j, okS (r.v j)) (hg : ∀ j, okS (g.v j)) : inF r r g g = true := inF_all (fun j _ es he => kIn_self' (hr j) he) hg
theorem inF_drop {r : RG} {g : PG} (hr : ∀ j, okS (r.v j)) (hg : ∀ j, okS (g.v j)) (q : Nat) : inF (r.put q vZ) r g g = true := inF_all (fun j _ es he => by
  by_cases e : j = q
  · subst e
    rw [rput_v]
    obtain ⟨h1, h2⟩ := kIn_0 (a := vZ) (b := r.v j) (es := es) rfl
    exact ⟨h1, by rw [h2]; exact he⟩
  · rw [rput_o _ _ e]; exact kIn_self' (hr j) he) hg
theorem inF_back {r : RG} {g : PG} (hr : ∀ j, okS (r.v j)) (hg : ∀ j, okS (g.v j)) {q : Nat} (hq : q < 11) : inF r (r.put q vZ) g g = (r.k q == 0#64) := by
  have old : ∀ j, j ≠ q → ∀ es, idE es → kInB (r.v j) ((r.put q vZ).v j) es = true ∧ idE (kInE (r.v j) ((r.put q vZ).v j) es) := fun j hj es he => by
    rw [rput_o _ _ hj]; exact kIn_self' (hr j) he
  cases h0 : r.k q == 0#64 with
  | true =>
    refine inF_all (fun j _ es he => ?_) hg
    by_cases e : j = q
    · subst e
      obtain ⟨h1, h2⟩ := kIn_0 (a := r.v j) (b := (r.put j vZ).v j) (es := es) h0
      exact ⟨h1, by rw [h2]; exact he⟩
    · exact old j e es he
  | false =>
    have hb : ∀ es, kInB (r.v q) ((r.put q vZ).v q) es = false := fun es => by
      rw [rput_v]
      exact kIn_no h0 (by show (r.k q != 0#64) = true; rw [bne, h0]; rfl)
    have := inRg_bad hq (fun j hj => old j (by omega)) hb 11 0 [] rfl (Nat.zero_le _) idE_nil
    rw [inF, this]; rfl
/-! Values that a law is handed. -/
theorem okS_made (v k p q r s : BitVec 64) : nIn (nMade v k p q r s) (nMade v k p q r s) = true := nIn_self (by
  show (v &&& ~~~k) &&& k = 0#64
  apply BitVec.eq_of_getLsbD_eq
  intro i hi
  simp only [BitVec.getLsbD_and, BitVec.getLsbD_not, hi, decide_true, Bool.true_and]
  cases v.getLsbD i <;> cases k.getLsbD i <;> simp)
theorem okS_at (x : AT) (j : Nat) : okS (x.v j) := okS_made _ _ _ _ _ _
theorem okS_Z : okS vZ := by show nIn nZ nZ = true; decide
theorem okS_frR (x : AT) (len j : Nat) : okS ((frR x len).v j) := by
  show okS (if j < min len 11 then x.v j else vZ)
  split
  · exact okS_at x j
  · exact okS_Z
theorem okS_stP (x : AT) : ∀ (m j : Nat), okS ((stP x m).v j)
  | 0, j => okS_Z
  | m + 1, j => by
    rw [stP]
    split
    · exact stR_all (p := okS) okS_Z (okS_stP x m) (okS_at x _) j
    · exact okS_stP x m j
theorem okS_frP (x : AT) (len j : Nat) : okS ((frP x len).v j) := okS_stP x _ j
theorem okS_rZ (j : Nat) : okS (rZ.v j) := okS_Z
theorem okS_gZ (j : Nat) : okS (gZ.v j) := okS_Z
theorem upd_ok {f : Nat → List PL} (h : f = rgF (rOf f)) (i : Nat) (a b c d e g k l m n o : BitVec 64) : updF f i 0 [.b64 true a, .b64 true b, .b64 true c, .b64 true d, .b64 true e, .b64 false g, .b64 false k, .b64 false l, .b64 false m, .b64 true n, .b64 true o] = rgF (rOf (updF f i 0 [.b64 true a, .b64 true b, .b64 true c, .b64 true d, .b64 true e, .b64 false g, .b64 false k, .b64 false l, .b64 false m, .b64 true n, .b64 true o])) := by
  rw [h]
  have := rput_upd (rOf f) i ⟨a, b, c, d, e, ⟨g, k, l, m, n, o⟩⟩
  dsimp only at this
  rw [this, rOf_rgF]
end Go.Proofs.Ytiopddomdpoaaaa
