/-
  What is known of a stack, as functions of the place's number: what stores and loads make of it. Plain mathematics: no program in sight. Conditions: as typed.
-/
import Derived.Test.YtiopddomdpoaaaaQa
namespace Go.Proofs.Ytiopddomdpoaaaa
open Go.Ep Go.RowKit
set_option linter.unusedVariables false
set_option linter.unusedSimpArgs false

/-- Places, by their numbers. -/
structure PG where
  b : Nat → BitVec 8
  k : Nat → BitVec 64
  mp : Nat → BitVec 64
  id : Nat → BitVec 64
  off : Nat → BitVec 64
  su : Nat → BitVec 64
  tv : Nat → BitVec 64
  tm : Nat → BitVec 64
  lo : Nat → BitVec 64
  hi : Nat → BitVec 64
  slo : Nat → BitVec 64
  shi : Nat → BitVec 64
def plF (g : PG) (j : Nat) : List PL := [.b8 false (g.b j), .b64 true (g.k j), .b64 true (g.mp j), .b64 true (g.id j), .b64 true (g.off j), .b64 true (g.su j), .b64 false (g.tv j), .b64 false (g.tm j), .b64 false (g.lo j), .b64 false (g.hi j), .b64 true (g.slo j), .b64 true (g.shi j)]
def PG.v (g : PG) (j : Nat) : VV := ⟨g.k j, g.mp j, g.id j, g.off j, g.su j, ⟨g.tv j, g.tm j, g.lo j, g.hi j, g.slo j, g.shi j⟩⟩
def PG.put (g : PG) (i : Nat) (b : BitVec 8) (v : VV) : PG := ⟨fun j => if j = i then b else g.b j, fun j => if j = i then v.k else g.k j, fun j => if j = i then v.mp else g.mp j, fun j => if j = i then v.id else g.id j, fun j => if j = i then v.off else g.off j, fun j => if j = i then v.su else g.su j,
  fun j => if j = i then v.n.tv else g.tv j, fun j => if j = i then v.n.tm else g.tm j, fun j => if j = i then v.n.lo else g.lo j, fun j => if j = i then v.n.hi else g.hi j, fun j => if j = i then v.n.slo else g.slo j, fun j => if j = i then v.n.shi else g.shi j⟩
def gZ : PG := ⟨fun _ => 0#8, fun _ => 0#64, fun _ => 0#64, fun _ => 0#64, fun _ => 0#64, fun _ => 0#64, fun _ => 0#64, fun _ => 0#64, fun _ => 0#64, fun _ => 0#64, fun _ => 0#64, fun _ => 0#64⟩
def pB8 : PL → BitVec 8
  | .b8 _ x => x
  | _ => 0#8
def p64 : PL → BitVec 64
  | .b64 _ x => x
  | _ => 0#64
def nthP : List PL → Nat → PL
  | [], _ => .bool false
  | x :: _, 0 => x
  | _ :: xs, n + 1 => nthP xs n
def gOf (f : Nat → List PL) : PG := ⟨fun j => pB8 (nthP (f j) 0), fun j => p64 (nthP (f j) 1), fun j => p64 (nthP (f j) 2), fun j => p64 (nthP (f j) 3), fun j => p64 (nthP (f j) 4), fun j => p64 (nthP (f j) 5), fun j => p64 (nthP (f j) 6), fun j => p64 (nthP (f j) 7), fun j => p64 (nthP (f j) 8), fun j => p64 (nthP (f j) 9), fun j => p64 (nthP (f j) 10), fun j => p64 (nthP (f j) 11)⟩
theorem gOf_plF (g : PG) : gOf (plF g) = g := by cases g; rfl
theorem put_v (g : PG) (i : Nat) (b : BitVec 8) (v : VV) : (g.put i b v).v i = v ∧ (g.put i b v).b i = b := by
  simp [PG.put, PG.v]
theorem put_o (g : PG) {i j : Nat} (b : BitVec 8) (v : VV) (h : j ≠ i) : (g.put i b v).v j = g.v j ∧ (g.put i b v).b j = g.b j := by
  simp [PG.put, PG.v, h]
theorem plF_eq {g g' : PG} {j : Nat} (h : g.v j = g'.v j) (h' : g.b j = g'.b j) : plF g j = plF g' j := by
  simp only [PG.v, VV.mk.injEq, NN.mk.injEq] at h
  simp [plF, h, h']
abbrev mStack : BitVec 64 := BitVec.ofInt 64 (Int.negSucc 511)
def atBad (off n : BitVec 64) : Bool := n.slt 1#64 || (512#64).slt n || off.slt mStack || (-n).slt off
def wOk (n : BitVec 64) : Bool := n == 1#64 || n == 2#64 || n == 4#64 || n == 8#64
def atI (off n : BitVec 64) : BitVec 64 := if atBad off n then 0#64 else off + 512#64
def ixS (k : BitVec 64) : Nat := (k.sdiv 8#64).toNat
def bit8 (k : BitVec 64) : BitVec 8 := 1#8 <<< (k.srem 8#64).toNat
/-- A store of single bytes: so many, from k on. -/
def stW : Nat → BitVec 64 → PG → Option PG
  | 0, _, g => some g
  | r + 1, k, g => if vPts (g.v (ixS k)) then none else stW r (k + 1#64) (g.put (ixS k) (g.b (ixS k) ||| bit8 k) vZ)
/-- Have so many bytes, from k on, something, and no address? -/
def plE : Nat → BitVec 64 → PG → BitVec 64
  | 0, _, _ => 0#64
  | r + 1, k, g => if g.b (ixS k) &&& bit8 k == 0#8 then 101#64 else if vPts (g.v (ixS k)) then 102#64 else plE r (k + 1#64) g
structure GE where
  g : PG
  e : BitVec 64
def stR (g : PG) (off n : BitVec 64) (v : VV) : GE :=
  if atBad off n || !wOk n then ⟨gZ, 181#64⟩
  else if v.k == 0#64 then ⟨gZ, 101#64⟩
  else if n == 8#64 && (atI off n).srem 8#64 == 0#64 then ⟨g.put (ixS (atI off n)) 255#8 v, 0#64⟩
  else if vPts v then ⟨gZ, 102#64⟩
  else match stW n.toNat (atI off n) g with
    | some g' => ⟨g', 0#64⟩
    | none => ⟨gZ, 102#64⟩
def plR (g : PG) (off n : BitVec 64) : BitVec 64 := if atBad off n then 181#64 else plE n.toNat (atI off n) g
structure VE where
  v : VV
  e : BitVec 64
def vNum (n : NN) : VV := ⟨1#64, 0#64, 0#64, 0#64, 0#64, n⟩
def ldR (g : PG) (off n : BitVec 64) : VE :=
  if atBad off n || !wOk n then ⟨vZ, 181#64⟩
  else if n == 8#64 && (atI off n).srem 8#64 == 0#64 && !(g.k (ixS (atI off n)) == 0#64) then ⟨g.v (ixS (atI off n)), 0#64⟩
  else if plR g off n == 0#64 then ⟨vNum (nBytes n), 0#64⟩ else ⟨vZ, plR g off n⟩

theorem toInt_small {a : Nat} (h : a < 9223372036854775808) : (BitVec.ofNat 64 a).toInt = (a : Int) := Go.Ep.toInt_ofNat h
theorem sdiv8 {a : Nat} (h : a < 9223372036854775808) : (BitVec.ofNat 64 a).sdiv 8#64 = BitVec.ofNat 64 (a / 8) := by
  apply BitVec.eq_of_toInt_eq
  rw [BitVec.toInt_sdiv, toInt_small h, toInt_small (a := a / 8) (by omega), toInt_small (a := 8) (by omega)]
  have e : (a : Int).tdiv (8 : Nat) = ((a / 8 : Nat) : Int) := by rw [Int.natCast_ediv]; exact Int.tdiv_eq_ediv_of_nonneg (by omega)
  rw [e]
  apply Int.bmod_eq_of_le <;> omega
theorem srem8 {a : Nat} (h : a < 9223372036854775808) : (BitVec.ofNat 64 a).srem 8#64 = BitVec.ofNat 64 (a % 8) := by
  apply BitVec.eq_of_toInt_eq
  rw [BitVec.toInt_srem, toInt_small h, toInt_small (a := a % 8) (by omega), toInt_small (a := 8) (by omega), Int.tmod_eq_emod_of_nonneg (by omega)]
  omega
theorem ixS_eq {a : Nat} (h : a < 9223372036854775808) : ixS (BitVec.ofNat 64 a) = a / 8 := by
  rw [ixS, sdiv8 h, Go.Ep.toNat_ofNat (by omega)]
theorem bit8_eq {a : Nat} (h : a < 9223372036854775808) : bit8 (BitVec.ofNat 64 a) = 1#8 <<< (a % 8) := by
  rw [bit8, srem8 h, Go.Ep.toNat_ofNat (by omega)]
/-- Where an offset that may be lies. -/
theorem at_ok {off n : BitVec 64} (h : atBad off n = false) : ∃ a m : Nat, atI off n = BitVec.ofNat 64 a ∧ n = BitVec.ofNat 64 m ∧ 1 ≤ m ∧ a + m ≤ 512 ∧ (a : Int) = off.toInt + 512 := by
  rw [atI, h]
  simp only [Bool.false_eq_true, if_false]
  simp only [atBad, Bool.or_eq_false_iff, BitVec.slt, decide_eq_false_iff_not] at h
  obtain ⟨⟨⟨h1, h2⟩, h3⟩, h4⟩ := h
  have e1 : (1#64).toInt = 1 := rfl
  have e2 : (512#64).toInt = 512 := rfl
  have e3 : mStack.toInt = -512 := by decide
  rw [e1] at h1
  rw [e2] at h2
  rw [e3] at h3
  have en : (-n).toInt = - n.toInt := by
    rw [BitVec.toInt_neg]
    apply Int.bmod_eq_of_le <;> omega
  rw [en] at h4
  refine ⟨(off.toInt + 512).toNat, n.toInt.toNat, ?_, ?_, by omega, by omega, by omega⟩
  · apply BitVec.eq_of_toInt_eq
    rw [toInt_small (by omega), BitVec.toInt_add, e2]
    rw [Int.bmod_eq_of_le (by omega) (by omega)]
    omega
  · apply BitVec.eq_of_toInt_eq
    rw [toInt_small (by omega)]
    omega
/-- A store of single bytes changes nothing of other places. -/
theorem stW_apart : ∀ (r : Nat) (a : Nat) (g g' : PG), a + r ≤ 9223372036854775807 → stW r (BitVec.ofNat 64 a) g = some g' → ∀ j, (j < a / 8 ∨ (a + r - 1) / 8 < j) → g'.v j = g.v j ∧ g'.b j = g.b j
  | 0, _, _, _, _, h, j, _ => by
    simp only [stW, Option.some.injEq] at h
    rw [h]; exact ⟨rfl, rfl⟩
  | r + 1, a, g, g', hr, h, j, hj => by
    simp only [stW] at h
    split at h
    · cases h
    · rw [show BitVec.ofNat 64 a + 1#64 = BitVec.ofNat 64 (a + 1) from Go.Ep.succ_ofNat a, ixS_eq (by omega)] at h
      have hne : j ≠ a / 8 := by omega
      obtain ⟨h1, h2⟩ := put_o g (g.b (a / 8) ||| bit8 (BitVec.ofNat 64 a)) vZ hne
      cases r with
      | zero =>
        simp only [stW, Option.some.injEq] at h
        rw [← h]; exact ⟨h1, h2⟩
      | succ r =>
        obtain ⟨h3, h4⟩ := stW_apart (r + 1) (a + 1) _ g' (by omega) h j (by omega)
        exact ⟨h3.trans h1, h4.trans h2⟩
theorem stR_apart {g : PG} {off n : BitVec 64} {v : VV} (h : (stR g off n v).e = 0#64) : ∃ a m : Nat, atI off n = BitVec.ofNat 64 a ∧ n = BitVec.ofNat 64 m ∧ 1 ≤ m ∧ a + m ≤ 512 ∧ (a : Int) = off.toInt + 512 ∧
    ∀ j, (j < a / 8 ∨ (a + m - 1) / 8 < j) → (stR g off n v).g.v j = g.v j ∧ (stR g off n v).g.b j = g.b j := by
  rw [stR] at h ⊢
  split at h
  · cases h
  rename_i hb
  have hb' : atBad off n = false := by
    cases hh : atBad off n with
    | false => rfl
    | true => rw [hh] at hb; simp at hb
  obtain ⟨a, m, e1, e2, h1, h2, h3⟩ := at_ok hb'
  refine ⟨a, m, e1, e2, h1, h2, h3, fun j hj => ?_⟩
  rw [if_neg hb]
  split at h
  · cases h
  rename_i hk
  rw [if_neg hk]
  split at h
  · rename_i hA
    rw [if_pos hA]
    rw [e1, ixS_eq (by omega)]
    exact put_o g _ _ (by omega)
  rename_i hA
  rw [if_neg hA]
  split at h
  · cases h
  rename_i hP
  rw [if_neg hP]
  have hn : n.toNat = m := by rw [e2]; exact Go.Ep.toNat_ofNat (by omega)
  rw [hn, e1] at h ⊢
  split at h
  · rename_i g' hg
    exact stW_apart m a g g' (by omega) hg j hj
  · cases h
/-- What holds of every place, stays, if it holds of what is stored, and of places that have nothing. -/
theorem stW_all {p : VV → Prop} (hz : p vZ) : ∀ (r : Nat) (k : BitVec 64) (g g' : PG), (∀ j, p (g.v j)) → stW r k g = some g' → ∀ j, p (g'.v j)
  | 0, _, _, _, hg, h, j => by
    simp only [stW, Option.some.injEq] at h
    rw [← h]; exact hg j
  | r + 1, k, g, g', hg, h, j => by
    simp only [stW] at h
    split at h
    · cases h
    · refine stW_all hz r _ _ g' (fun i => ?_) h j
      by_cases hi : i = ixS k
      · subst hi; rw [(put_v _ _ _ _).1]; exact hz
      · rw [(put_o _ _ _ hi).1]; exact hg i
theorem stR_all {p : VV → Prop} (hz : p vZ) {g : PG} {off n : BitVec 64} {v : VV} (hg : ∀ j, p (g.v j)) (hv : p v) : ∀ j, p ((stR g off n v).g.v j) := by
  intro j
  rw [stR]
  split
  · exact hz
  split
  · exact hz
  split
  · by_cases hi : j = ixS (atI off n)
    · subst hi; rw [(put_v _ _ _ _).1]; exact hv
    · rw [(put_o _ _ _ hi).1]; exact hg j
  split
  · exact hz
  split
  · rename_i g' h
    exact stW_all hz _ _ g g' hg h j
  · exact hz
/-! What a store comes to, case by case, in the walk's own words. -/
section
variable {g : PG} {o n : BitVec 64} {v : VV}
theorem stR_1 (h : (!!atBad o n) = true) : stR g o n v = ⟨gZ, 181#64⟩ := by
  have h : atBad o n = true := by simpa using h
  rw [stR, h]; rfl
theorem stR_2 (h : (!wOk n) = true) : stR g o n v = ⟨gZ, 181#64⟩ := by rw [stR, h, Bool.or_true]; rfl
theorem stR_0 (h : (!!atBad o n) = false) (h' : (!wOk n) = false) : stR g o n v = if v.k == 0#64 then ⟨gZ, 101#64⟩ else if n == 8#64 && (atI o n).srem 8#64 == 0#64 then ⟨g.put (ixS (atI o n)) 255#8 v, 0#64⟩ else if vPts v then ⟨gZ, 102#64⟩ else match stW n.toNat (atI o n) g with
    | some g' => ⟨g', 0#64⟩
    | none => ⟨gZ, 102#64⟩ := by
  have h : atBad o n = false := by simpa using h
  rw [stR, h, h']; rfl
theorem stR_3 (h : (!!atBad o n) = false) (h' : (!wOk n) = false) (hk : (v.k == 0#64) = true) : stR g o n v = ⟨gZ, 101#64⟩ := by rw [stR_0 h h', hk]; rfl
theorem stR_4 (h : (!!atBad o n) = false) (h' : (!wOk n) = false) (hk : (v.k == 0#64) = false) (hn : (n == 8#64) = true) (hi : ((atI o n).srem 8#64 == 0#64) = true) : stR g o n v = ⟨g.put (ixS (atI o n)) 255#8 v, 0#64⟩ := by
  rw [stR_0 h h', hk, hn, hi]; rfl
theorem stR_5 (h : (!!atBad o n) = false) (h' : (!wOk n) = false) (hk : (v.k == 0#64) = false) (hn : (n == 8#64 && (atI o n).srem 8#64 == 0#64) = false) (hp : vPts v = true) : stR g o n v = ⟨gZ, 102#64⟩ := by
  rw [stR_0 h h', hk, hn, hp]; rfl
theorem stR_6 (h : (!!atBad o n) = false) (h' : (!wOk n) = false) (hk : (v.k == 0#64) = false) (hn : (n == 8#64 && (atI o n).srem 8#64 == 0#64) = false) (hp : vPts v = false) (hw : stW n.toNat (atI o n) g = none) : stR g o n v = ⟨gZ, 102#64⟩ := by
  rw [stR_0 h h', hk, hn, hp, hw]; rfl
theorem stR_7 (h : (!!atBad o n) = false) (h' : (!wOk n) = false) (hk : (v.k == 0#64) = false) (hn : (n == 8#64 && (atI o n).srem 8#64 == 0#64) = false) (hp : vPts v = false) {g' : PG} (hw : stW n.toNat (atI o n) g = some g') : stR g o n v = ⟨g', 0#64⟩ := by
  rw [stR_0 h h', hk, hn, hp, hw]; rfl
theorem and_1 {p q : Bool} (h : p = false) : (p && q) = false := by rw [h]; rfl
theorem and_2 {p q : Bool} (h : q = false) : (p && q) = false := by rw [h, Bool.and_false]
theorem bad_no (h : (!!atBad o n) = false) : atBad o n = false := by simpa using h
end
theorem ix_ok {k : BitVec 64} {a : Nat} (e : k = BitVec.ofNat 64 a) (h : a < 512) : 0 ≤ (k.sdiv 8#64).toInt ∧ (k.sdiv 8#64).toNat < 64 := by
  rw [e, sdiv8 (by omega), toInt_small (by omega), Go.Ep.toNat_ofNat (by omega)]; omega
theorem sh_ok {k : BitVec 64} {a : Nat} (e : k = BitVec.ofNat 64 a) (h : a < 512) : 0 ≤ (k.srem 8#64).toInt := by
  rw [e, srem8 (by omega), toInt_small (by omega)]; omega
theorem end_eq {i n : BitVec 64} {A M : Nat} (e : i = BitVec.ofNat 64 A) (e' : n = BitVec.ofNat 64 M) : i + n = BitVec.ofNat 64 (A + M) := by rw [e, e', ← BitVec.ofNat_add]
theorem lt_yes {i n k : BitVec 64} {A M a : Nat} (e : i = BitVec.ofNat 64 A) (e' : n = BitVec.ofNat 64 M) (hAM : A + M ≤ 512) (ek : k = BitVec.ofNat 64 a) (ha : a ≤ 512) (h : k.slt (i + n) = true) : a < A + M := by
  rw [end_eq e e', ek] at h; exact slt_yes (by omega) (by omega) h
theorem lt_no {i n k : BitVec 64} {A M a : Nat} (e : i = BitVec.ofNat 64 A) (e' : n = BitVec.ofNat 64 M) (hAM : A + M ≤ 512) (ek : k = BitVec.ofNat 64 a) (ha : a ≤ 512) (h : k.slt (i + n) = false) : A + M ≤ a := by
  rw [end_eq e e', ek] at h; exact slt_no (by omega) (by omega) h
section
variable {g : PG} {k : BitVec 64} {r : Nat}
theorem stW_go (h : vPts ⟨g.k (k.sdiv 8#64).toNat, g.mp (k.sdiv 8#64).toNat, g.id (k.sdiv 8#64).toNat, g.off (k.sdiv 8#64).toNat, g.su (k.sdiv 8#64).toNat, ⟨g.tv (k.sdiv 8#64).toNat, g.tm (k.sdiv 8#64).toNat, g.lo (k.sdiv 8#64).toNat, g.hi (k.sdiv 8#64).toNat, g.slo (k.sdiv 8#64).toNat, g.shi (k.sdiv 8#64).toNat⟩⟩ = false) :
    stW (r + 1) k g = stW r (k + 1#64) (g.put (ixS k) (g.b (ixS k) ||| bit8 k) vZ) := by
  have h : vPts (g.v (ixS k)) = false := h
  rw [stW, h]; rfl
theorem stW_stop (h : vPts ⟨g.k (k.sdiv 8#64).toNat, g.mp (k.sdiv 8#64).toNat, g.id (k.sdiv 8#64).toNat, g.off (k.sdiv 8#64).toNat, g.su (k.sdiv 8#64).toNat, ⟨g.tv (k.sdiv 8#64).toNat, g.tm (k.sdiv 8#64).toNat, g.lo (k.sdiv 8#64).toNat, g.hi (k.sdiv 8#64).toNat, g.slo (k.sdiv 8#64).toNat, g.shi (k.sdiv 8#64).toNat⟩⟩ = true) :
    stW (r + 1) k g = none := by
  have h : vPts (g.v (ixS k)) = true := h
  rw [stW, h]; rfl
theorem plE_bit (h : (g.b (k.sdiv 8#64).toNat &&& 1#8 <<< (k.srem 8#64).toNat == 0#8) = true) : plE (r + 1) k g = 101#64 := by
  have h : (g.b (ixS k) &&& bit8 k == 0#8) = true := h
  rw [plE, h]; rfl
theorem plE_pts (h : (g.b (k.sdiv 8#64).toNat &&& 1#8 <<< (k.srem 8#64).toNat == 0#8) = false) (h' : vPts ⟨g.k (k.sdiv 8#64).toNat, g.mp (k.sdiv 8#64).toNat, g.id (k.sdiv 8#64).toNat, g.off (k.sdiv 8#64).toNat, g.su (k.sdiv 8#64).toNat, ⟨g.tv (k.sdiv 8#64).toNat, g.tm (k.sdiv 8#64).toNat, g.lo (k.sdiv 8#64).toNat, g.hi (k.sdiv 8#64).toNat, g.slo (k.sdiv 8#64).toNat, g.shi (k.sdiv 8#64).toNat⟩⟩ = true) : plE (r + 1) k g = 102#64 := by
  have h : (g.b (ixS k) &&& bit8 k == 0#8) = false := h
  have h' : vPts (g.v (ixS k)) = true := h'
  rw [plE, h, h']; rfl
theorem plE_go (h : (g.b (k.sdiv 8#64).toNat &&& 1#8 <<< (k.srem 8#64).toNat == 0#8) = false) (h' : vPts ⟨g.k (k.sdiv 8#64).toNat, g.mp (k.sdiv 8#64).toNat, g.id (k.sdiv 8#64).toNat, g.off (k.sdiv 8#64).toNat, g.su (k.sdiv 8#64).toNat, ⟨g.tv (k.sdiv 8#64).toNat, g.tm (k.sdiv 8#64).toNat, g.lo (k.sdiv 8#64).toNat, g.hi (k.sdiv 8#64).toNat, g.slo (k.sdiv 8#64).toNat, g.shi (k.sdiv 8#64).toNat⟩⟩ = false) : plE (r + 1) k g = plE r (k + 1#64) g := by
  have h : (g.b (ixS k) &&& bit8 k == 0#8) = false := h
  have h' : vPts (g.v (ixS k)) = false := h'
  rw [plE, h, h']; rfl
end
theorem plR_bad {g : PG} {o n : BitVec 64} (h : (!!atBad o n) = true) : plR g o n = 181#64 := by
  have h : atBad o n = true := by simpa using h
  rw [plR, h]; rfl
theorem plR_go {g : PG} {o n : BitVec 64} (h : (!!atBad o n) = false) : plR g o n = plE n.toNat (atI o n) g := by
  rw [plR, bad_no h]; rfl
section
variable {g : PG} {o n : BitVec 64}
def ldA (g : PG) (o n : BitVec 64) : Bool := n == 8#64 && (atI o n).srem 8#64 == 0#64 && !(g.k (ixS (atI o n)) == 0#64)
theorem ldR_1 (h : (!!atBad o n) = true) : ldR g o n = ⟨vZ, 181#64⟩ := by
  have h : atBad o n = true := by simpa using h
  rw [ldR, h]; rfl
theorem ldR_2 (h : (!wOk n) = true) : ldR g o n = ⟨vZ, 181#64⟩ := by rw [ldR, h, Bool.or_true]; rfl
theorem ldR_0 (h : (!!atBad o n) = false) (h' : (!wOk n) = false) : ldR g o n = if ldA g o n then ⟨g.v (ixS (atI o n)), 0#64⟩ else if plR g o n == 0#64 then ⟨vNum (nBytes n), 0#64⟩ else ⟨vZ, plR g o n⟩ := by
  have h : atBad o n = false := by simpa using h
  rw [ldR, h, h']; rfl
theorem ldR_3 (h : (!!atBad o n) = false) (h' : (!wOk n) = false) (hn : (n == 8#64) = true) (hi : ((atI o n).srem 8#64 == 0#64) = true) (hk : (g.k ((atI o n).sdiv 8#64).toNat != 0#64) = true) : ldR g o n = ⟨g.v (ixS (atI o n)), 0#64⟩ := by
  have e : ldA g o n = true := by rw [ldA, hn, hi]; exact hk
  rw [ldR_0 h h', e]; rfl
theorem ldA_1 (hn : (n == 8#64) = false) : ldA g o n = false := by rw [ldA, hn]; rfl
theorem ldA_2 (hi : ((atI o n).srem 8#64 == 0#64) = false) : ldA g o n = false := by rw [ldA, hi, Bool.and_false]; rfl
theorem ldA_3 (hk : (g.k ((atI o n).sdiv 8#64).toNat != 0#64) = false) : ldA g o n = false := by
  have hk : (!(g.k (ixS (atI o n)) == 0#64)) = false := hk
  rw [ldA, hk, Bool.and_false]
theorem ldR_4 (h : (!!atBad o n) = false) (h' : (!wOk n) = false) (hA : ldA g o n = false) (he : (plR g o n != 0#64) = true) : ldR g o n = ⟨vZ, plR g o n⟩ := by
  have he : (plR g o n == 0#64) = false := by simpa [bne] using he
  rw [ldR_0 h h', hA, he]; rfl
theorem ldR_5 (h : (!!atBad o n) = false) (h' : (!wOk n) = false) (hA : ldA g o n = false) (he : (plR g o n != 0#64) = false) : ldR g o n = ⟨vNum (nBytes n), 0#64⟩ := by
  have he : (plR g o n == 0#64) = true := by simpa [bne] using he
  rw [ldR_0 h h', hA, he]; rfl
end
/-! ### Two stacks at a place -/
def eqG (g g' : PG) (j : Nat) : Bool := (g.b j == g'.b j && (g.k j == g'.k j && (g.mp j == g'.mp j && (g.id j == g'.id j && (g.off j == g'.off j && (g.su j == g'.su j && (g.tv j == g'.tv j && g.tm j == g'.tm j && (g.lo j == g'.lo j && (g.hi j == g'.hi j && (g.slo j == g'.slo j && g.shi j == g'.shi j))))))))))
theorem eqG_of {g g' : PG} {j : Nat} (h : g'.v j = g.v j) (h' : g'.b j = g.b j) : eqG g g' j = true := by
  simp only [PG.v, VV.mk.injEq, NN.mk.injEq] at h
  obtain ⟨h1, h2, h3, h4, h5, h6, h7, h8, h9, h10, h11⟩ := h
  simp [eqG, *]
theorem at_512 {off n : BitVec 64} (h : atBad off n = false) : atI off n = off + 512#64 := by rw [atI, h]; rfl
theorem sle_no {k n : Nat} (hk : k < 9223372036854775808) (hn : n < 9223372036854775808) (h : (BitVec.ofNat 64 k).sle (BitVec.ofNat 64 n) = false) : n < k := by
  rw [sle_ofNat hk hn] at h; simpa using h
theorem stR_not {g : PG} {o n : BitVec 64} {v : VV} (h : (stR g o n v).e = 0#64) : atBad o n = false := by
  rw [stR] at h
  split at h
  · cases h
  · rename_i hb
    cases hh : atBad o n with
    | false => rfl
    | true => rw [hh] at hb; simp at hb
theorem same_at {g : PG} {o n : BitVec 64} {v : VV} {q : BitVec 64} {b : Nat} (he : ((stR g o n v).e != 0#64) = false) (hq : q = BitVec.ofNat 64 b) (hb : b < 64) (h : ((o + 512#64).sdiv 8#64).sle q = false ∨ q.sle ((o + 511#64 + n).sdiv 8#64) = false) : eqG g (stR g o n v).g q.toNat = true := by
  have he : (stR g o n v).e = 0#64 := by simpa [bne] using he
  obtain ⟨a, m, e1, e2, h1, h2, h3, h4⟩ := stR_apart he
  rw [at_512 (stR_not he)] at e1
  have e3 : o + 511#64 + n = BitVec.ofNat 64 (a + m - 1) := by
    have : o + 511#64 + n = (o + 512#64) + n - 1#64 := by
      rw [show (512#64 : BitVec 64) = 511#64 + 1#64 from rfl, ← BitVec.add_assoc, BitVec.add_assoc _ 1#64 n, BitVec.add_comm 1#64 n, ← BitVec.add_assoc]
      exact (BitVec.add_sub_cancel _ _).symm
    rw [this, e1, e2, ← BitVec.ofNat_add]
    apply BitVec.eq_of_toNat_eq
    rw [BitVec.toNat_sub]
    simp only [BitVec.toNat_ofNat]
    omega
  rw [e1, e3, sdiv8 (by omega), sdiv8 (by omega), hq] at h
  rw [hq, Go.Ep.toNat_ofNat (by omega)]
  obtain ⟨h5, h6⟩ := h4 b (by
    rcases h with h | h
    · exact .inl (sle_no (by omega) (by omega) h)
    · exact .inr (sle_no (by omega) (by omega) h))
  exact eqG_of h5 h6
theorem q_ok : ∀ p : BitVec 8, (0 ≤ ((BitVec.setWidth 64 p).srem 64#64).toInt ∧ ((BitVec.setWidth 64 p).srem 64#64).toNat < 64) ∧ (BitVec.setWidth 64 p).srem 64#64 = BitVec.ofNat 64 (p.toNat % 64) := by decide +kernel
theorem lt_i {i len : Nat} (hi : i ≤ len) (hl : len < 9223372036854775808) (h : (BitVec.ofNat 64 i).slt (BitVec.ofNat 64 len) = true) : i < len := slt_yes (by omega) hl h
theorem ix_i {i len : Nat} (hi : i < len) (hl : len < 9223372036854775808) : 0 ≤ (BitVec.ofNat 64 i).toInt ∧ (BitVec.ofNat 64 i).toNat < len := by
  rw [toInt_small (by omega), Go.Ep.toNat_ofNat (by omega)]; omega
end Go.Proofs.Ytiopddomdpoaaaa
