/-
  Registers of a frame, as functions of the register's number. Plain mathematics: no program in sight. Conditions: as typed.
-/
import Derived.Test.YtiopddomdpoaaaaQi
namespace Go.Proofs.Ytiopddomdpoaaaa
open Go.Ep Go.RowKit
set_option linter.unusedVariables false
set_option linter.unusedSimpArgs false

structure RG where
  k : Nat → BitVec 64
  mp : Nat → BitVec 64
  id : Nat → BitVec 64
  off : Nat → BitVec 64
  su : Nat → BitVec 64
  tv : Nat → BitVec 64
  tm : Nat → BitVec 64
  lo : Nat → BitVec 64
  hi : Nat → BitVec 64
  slo : Nat → BitVec 64
  shi : Nat → BitVec 64
def rgF (g : RG) (j : Nat) : List PL := [.b64 true (g.k j), .b64 true (g.mp j), .b64 true (g.id j), .b64 true (g.off j), .b64 true (g.su j), .b64 false (g.tv j), .b64 false (g.tm j), .b64 false (g.lo j), .b64 false (g.hi j), .b64 true (g.slo j), .b64 true (g.shi j)]
def RG.v (g : RG) (j : Nat) : VV := ⟨g.k j, g.mp j, g.id j, g.off j, g.su j, ⟨g.tv j, g.tm j, g.lo j, g.hi j, g.slo j, g.shi j⟩⟩
def rOf (f : Nat → List PL) : RG := ⟨fun j => p64 (nthP (f j) 0), fun j => p64 (nthP (f j) 1), fun j => p64 (nthP (f j) 2), fun j => p64 (nthP (f j) 3), fun j => p64 (nthP (f j) 4), fun j => p64 (nthP (f j) 5), fun j => p64 (nthP (f j) 6), fun j => p64 (nthP (f j) 7), fun j => p64 (nthP (f j) 8), fun j => p64 (nthP (f j) 9), fun j => p64 (nthP (f j) 10)⟩
theorem rOf_rgF (g : RG) : rOf (rgF g) = g := by cases g; rfl
theorem rgF_ok (g : RG) : rgF g = rgF (rOf (rgF g)) := rfl
def RG.put (g : RG) (i : Nat) (v : VV) : RG := ⟨fun j => if j = i then v.k else g.k j, fun j => if j = i then v.mp else g.mp j, fun j => if j = i then v.id else g.id j, fun j => if j = i then v.off else g.off j, fun j => if j = i then v.su else g.su j, fun j => if j = i then v.n.tv else g.tv j, fun j => if j = i then v.n.tm else g.tm j, fun j => if j = i then v.n.lo else g.lo j, fun j => if j = i then v.n.hi else g.hi j, fun j => if j = i then v.n.slo else g.slo j, fun j => if j = i then v.n.shi else g.shi j⟩
theorem rput_v (g : RG) (i : Nat) (v : VV) : (g.put i v).v i = v := by simp [RG.put, RG.v]
theorem rput_o (g : RG) {i j : Nat} (v : VV) (h : j ≠ i) : (g.put i v).v j = g.v j := by simp [RG.put, RG.v, h]
def rZ : RG := ⟨fun _ => 0#64, fun _ => 0#64, fun _ => 0#64, fun _ => 0#64, fun _ => 0#64, fun _ => 0#64, fun _ => 0#64, fun _ => 0#64, fun _ => 0#64, fun _ => 0#64, fun _ => 0#64⟩
/-- What is known of a value when so many bytes from where an ID points to are there; when a lookup's answer is 0, or is not. -/
def sureV (id many : BitVec 64) (v : VV) : VV := if v.k == 7#64 && v.id == id then ⟨v.k, v.mp, v.id, v.off, if v.su.slt many then many else v.su, v.n⟩ else v
def foundV (id : BitVec 64) (is : Bool) (v : VV) : VV := if v.k != 6#64 || v.id != id then v else if is then ⟨5#64, v.mp, 0#64, v.off, v.su, v.n⟩ else vNum (nConst 0#64)
/-- A frame of which each value is another one, up to some number. -/
def turnR (t : VV → VV) (g g' : RG) (i : Nat) : Prop := ∀ j, g'.v j = if j < i then t (g.v j) else g.v j
def turnP (t : VV → VV) (g g' : PG) (i : Nat) : Prop := ∀ j, g'.b j = g.b j ∧ g'.v j = if j < i then t (g.v j) else g.v j
theorem turnR_0 (t : VV → VV) (g : RG) : turnR t g g 0 := fun j => by simp
theorem turnP_0 (t : VV → VV) (g : PG) : turnP t g g 0 := fun j => by simp
theorem turnR_go {t : VV → VV} {g g' : RG} {i : Nat} (h : turnR t g g' i) : turnR t g (g'.put i (t (g'.v i))) (i + 1) := by
  intro j
  by_cases hj : j = i
  · subst hj
    rw [rput_v, h j, if_neg (by omega), if_pos (by omega)]
  · rw [rput_o _ _ hj, h j]
    by_cases hlt : j < i
    · rw [if_pos hlt, if_pos (by omega)]
    · rw [if_neg hlt, if_neg (by omega)]
theorem turnP_go {t : VV → VV} {g g' : PG} {i : Nat} (h : turnP t g g' i) : turnP t g (g'.put i (g'.b i) (t (g'.v i))) (i + 1) := by
  intro j
  by_cases hj : j = i
  · subst hj
    rw [(put_v _ _ _ _).1, (put_v _ _ _ _).2, (h j).2, if_neg (by omega), if_pos (by omega)]
    exact ⟨(h j).1, rfl⟩
  · rw [(put_o _ _ _ hj).1, (put_o _ _ _ hj).2, (h j).2]
    refine ⟨(h j).1, ?_⟩
    by_cases hlt : j < i
    · rw [if_pos hlt, if_pos (by omega)]
    · rw [if_neg hlt, if_neg (by omega)]
theorem lt11 {i : Nat} (hi : i ≤ 11) (h : (BitVec.ofNat 64 i).slt 11#64 = true) : i < 11 := lt_i hi (by decide) h
theorem ltS64 {i : Nat} (hi : i ≤ 64) (h : (BitVec.ofNat 64 i).slt 64#64 = true) : i < 64 := lt_i hi (by decide) h
theorem ix11 {i : Nat} (hi : i ≤ 11) (h : (BitVec.ofNat 64 i).slt 11#64 = true) : 0 ≤ (BitVec.ofNat 64 i).toInt ∧ (BitVec.ofNat 64 i).toNat < 11 := ix_i (lt11 hi h) (by decide)
theorem ixS64 {i : Nat} (hi : i ≤ 64) (h : (BitVec.ofNat 64 i).slt 64#64 = true) : 0 ≤ (BitVec.ofNat 64 i).toInt ∧ (BitVec.ofNat 64 i).toNat < 64 := ix_i (ltS64 hi h) (by decide)
theorem nat11 {i : Nat} (h : i ≤ 11) : (BitVec.ofNat 64 i).toNat = i := Go.Ep.toNat_ofNat (by omega)
theorem nat64 {i : Nat} (h : i ≤ 64) : (BitVec.ofNat 64 i).toNat = i := Go.Ep.toNat_ofNat (by omega)
theorem sure_y {id many : BitVec 64} {v : VV} (hk : (v.k == 7#64) = true) (hd : (v.id == id) = true) : sureV id many v = ⟨v.k, v.mp, v.id, v.off, if v.su.slt many then many else v.su, v.n⟩ := by
  simp only [sureV, hk, hd, Bool.and_self, if_true]
theorem sure_k {id many : BitVec 64} {v : VV} (hk : (v.k == 7#64) = false) : sureV id many v = v := by
  simp only [sureV, hk, Bool.false_and, Bool.false_eq_true, if_false]
theorem sure_d {id many : BitVec 64} {v : VV} (hd : (v.id == id) = false) : sureV id many v = v := by
  simp only [sureV, hd, Bool.and_false, Bool.false_eq_true, if_false]
theorem goR {t : VV → VV} {r r' : RG} {i : Nat} (hi : i ≤ 11) (hlt : i < 11) (h : turnR t r r' i) {v : VV} (hv : t (r'.v (BitVec.ofNat 64 i).toNat) = v) : i + 1 ≤ 11 ∧ turnR t r (r'.put (BitVec.ofNat 64 i).toNat v) (i + 1) := by
  subst hv; rw [nat11 hi]; exact ⟨hlt, turnR_go h⟩
theorem goP {t : VV → VV} {g g' : PG} {i : Nat} (hi : i ≤ 64) (hlt : i < 64) (h : turnP t g g' i) {v : VV} (hv : t (g'.v (BitVec.ofNat 64 i).toNat) = v) : i + 1 ≤ 64 ∧ turnP t g (g'.put (BitVec.ofNat 64 i).toNat (g'.b (BitVec.ofNat 64 i).toNat) v) (i + 1) := by
  subst hv; rw [nat64 hi]; exact ⟨hlt, turnP_go h⟩
theorem rgF_put (g : RG) (i : Nat) (v : VV) (j : Nat) : rgF (g.put i v) j = if j = i then [.b64 true v.k, .b64 true v.mp, .b64 true v.id, .b64 true v.off, .b64 true v.su, .b64 false v.n.tv, .b64 false v.n.tm, .b64 false v.n.lo, .b64 false v.n.hi, .b64 true v.n.slo, .b64 true v.n.shi] else rgF g j := by
  by_cases h : j = i <;> simp [rgF, RG.put, h]
theorem frame_put (r : RG) (i : Nat) (v : VV) (f : Nat → List PL) (nx : BitVec 64) : Blk.cells 62 [.seg 11 11 (fun j => if j = i then [.b64 true v.k, .b64 true v.mp, .b64 true v.id, .b64 true v.off, .b64 true v.su, .b64 false v.n.tv, .b64 false v.n.tm, .b64 false v.n.lo, .b64 false v.n.hi, .b64 true v.n.slo, .b64 true v.n.shi] else rgF r j), .seg 12 64 f, .b64 true nx] = Blk.cells 62 [.seg 11 11 (rgF (r.put i v)), .seg 12 64 f, .b64 true nx] := by
  congr 2; congr 1; funext j; exact (rgF_put r i v j).symm
theorem plF_put (g : PG) (i : Nat) (b : BitVec 8) (v : VV) (j : Nat) : plF (g.put i b v) j = if j = i then [.b8 false b, .b64 true v.k, .b64 true v.mp, .b64 true v.id, .b64 true v.off, .b64 true v.su, .b64 false v.n.tv, .b64 false v.n.tm, .b64 false v.n.lo, .b64 false v.n.hi, .b64 true v.n.slo, .b64 true v.n.shi] else plF g j := by
  by_cases h : j = i <;> simp [plF, PG.put, h]
theorem frame_putP (f : Nat → List PL) (g : PG) (i : Nat) (v : VV) (nx : BitVec 64) : Blk.cells 62 [.seg 11 11 f, .seg 12 64 (updF (plF g) i 1 [.b64 true v.k, .b64 true v.mp, .b64 true v.id, .b64 true v.off, .b64 true v.su, .b64 false v.n.tv, .b64 false v.n.tm, .b64 false v.n.lo, .b64 false v.n.hi, .b64 true v.n.slo, .b64 true v.n.shi]), .b64 true nx] = Blk.cells 62 [.seg 11 11 f, .seg 12 64 (plF (g.put i (g.b i) v)), .b64 true nx] := by
  congr 3; congr 1; funext j; rw [plF_put]
  by_cases h : j = i
  · subst h; simp [updF, mergeP, pickP, plF]
  · simp [updF, mergeP, pickP, plF, h]
theorem done11 {i : Nat} (hi : i ≤ 11) (h : (BitVec.ofNat 64 i).slt 11#64 = false) : i = 11 := by
  by_cases e : i < 11
  · exfalso
    have : (BitVec.ofNat 64 i).slt 11#64 = true := by
      have e1 : (BitVec.ofNat 64 i).toInt = i := toInt_small (by omega)
      rw [BitVec.slt_iff_toInt_lt, e1]; show (i : Int) < 11; omega
    rw [h] at this; cases this
  · omega
theorem done64 {i : Nat} (hi : i ≤ 64) (h : (BitVec.ofNat 64 i).slt 64#64 = false) : i = 64 := by
  by_cases e : i < 64
  · exfalso
    have : (BitVec.ofNat 64 i).slt 64#64 = true := by
      have e1 : (BitVec.ofNat 64 i).toInt = i := toInt_small (by omega)
      rw [BitVec.slt_iff_toInt_lt, e1]; show (i : Int) < 64; omega
    rw [h] at this; cases this
  · omega
theorem turn11 {t : VV → VV} {r r' : RG} {i : Nat} (hi : i ≤ 11) (h : (BitVec.ofNat 64 i).slt 11#64 = false) (hr : turnR t r r' i) : turnR t r r' 11 := done11 hi h ▸ hr
theorem turn64 {t : VV → VV} {g g' : PG} {i : Nat} (hi : i ≤ 64) (h : (BitVec.ofNat 64 i).slt 64#64 = false) (hg : turnP t g g' i) : turnP t g g' 64 := done64 hi h ▸ hg
theorem rput_upd (r : RG) (i : Nat) (v : VV) : updF (rgF r) i 0 [.b64 true v.k, .b64 true v.mp, .b64 true v.id, .b64 true v.off, .b64 true v.su, .b64 false v.n.tv, .b64 false v.n.tm, .b64 false v.n.lo, .b64 false v.n.hi, .b64 true v.n.slo, .b64 true v.n.shi] = rgF (r.put i v) := by
  funext j
  by_cases h : j = i <;> simp [updF, mergeP, pickP, rgF, RG.put, h]
/-- All a frame's values, its registers and its places', one behind the other. -/
def mkR (f : Nat → VV) : RG := ⟨fun j => (f j).k, fun j => (f j).mp, fun j => (f j).id, fun j => (f j).off, fun j => (f j).su, fun j => (f j).n.tv, fun j => (f j).n.tm, fun j => (f j).n.lo, fun j => (f j).n.hi, fun j => (f j).n.slo, fun j => (f j).n.shi⟩
theorem mkR_v (f : Nat → VV) (j : Nat) : (mkR f).v j = f j := rfl
theorem mkR_eta (r : RG) : mkR r.v = r := by cases r; rfl
def mkP (b : Nat → BitVec 8) (f : Nat → VV) : PG := ⟨b, fun j => (f j).k, fun j => (f j).mp, fun j => (f j).id, fun j => (f j).off, fun j => (f j).su, fun j => (f j).n.tv, fun j => (f j).n.tm, fun j => (f j).n.lo, fun j => (f j).n.hi, fun j => (f j).n.slo, fun j => (f j).n.shi⟩
theorem mkP_v (b : Nat → BitVec 8) (f : Nat → VV) (j : Nat) : (mkP b f).v j = f j := rfl
theorem mkP_eta (g : PG) : mkP g.b g.v = g := by cases g; rfl
def mapR (t : VV → VV) (r : RG) : RG := mkR fun j => if j < 11 then t (r.v j) else r.v j
def mapP (t : VV → VV) (g : PG) : PG := mkP g.b fun j => if j < 64 then t (g.v j) else g.v j
theorem turnR_eq {t : VV → VV} {r r' : RG} (h : turnR t r r' 11) : r' = mapR t r := by
  rw [← mkR_eta r', mapR]; congr 1; funext j; exact h j
theorem turnP_eq {t : VV → VV} {g g' : PG} (h : turnP t g g' 64) : g' = mapP t g := by
  rw [← mkP_eta g', mapP]; congr 1
  · funext j; exact (h j).1
  · funext j; exact (h j).2
theorem turn_eq {t : VV → VV} {r r' : RG} {g g' : PG} (h : turnR t r r' 11) (h' : turnP t g g' 64) (nx : BitVec 64) : AV.agg [.seg 11 11 (rgF r'), .seg 12 64 (plF g'), .b64 true nx] = .agg [.seg 11 11 (rgF (mapR t r)), .seg 12 64 (plF (mapP t g)), .b64 true nx] := by
  rw [turnR_eq h, turnP_eq h']
def allR (r : RG) (g : PG) : RG := mkR fun j => if j < 11 then r.v j else g.v (j - 11)
theorem allR_map {t : VV → VV} {r : RG} {g : PG} {j : Nat} (h : j < 75) : (allR (mapR t r) (mapP t g)).v j = t ((allR r g).v j) := by
  show (if j < 11 then (mapR t r).v j else (mapP t g).v (j - 11)) = t (if j < 11 then r.v j else g.v (j - 11))
  by_cases h1 : j < 11
  · rw [if_pos h1, if_pos h1]; exact if_pos h1
  · rw [if_neg h1, if_neg h1]; exact if_pos (by omega)
/-- A row that has i of them. -/
def rowA (a : RG) (i : Nat) : Nat → List PL := fun j => rgF a (min j (i - 1))
theorem rowA_go {a : RG} {i : Nat} (hi : 1 ≤ i) {ps : List PL} (h : ps = rgF a i) : joinF i (rowA a i) (fun _ => ps) = rowA a (i + 1) := by
  subst h
  funext j
  apply List.ext_getElem?
  intro k
  show (joinF i (rowA a i) (fun _ => rgF a i) j)[k]? = (rgF a (min j (i + 1 - 1)))[k]?
  rw [joinF, mergeP_get _ _ _ _ _ (Nat.le_refl _)]
  by_cases hj : i ≤ j
  · rw [show min j (i + 1 - 1) = i by omega]
    by_cases hk : k < 11
    · rw [if_pos ⟨hj, Nat.zero_le _, hk⟩, Nat.sub_zero]
    · rw [if_neg (fun e => hk e.2.2)]
      rw [List.getElem?_eq_none (by show 11 ≤ k; omega), List.getElem?_eq_none (by show 11 ≤ k; omega)]
  · rw [if_neg (fun e => hj e.1), rowA, show min j (i - 1) = min j (i + 1 - 1) by omega]
theorem rowA_1 {a : RG} {ps : List PL} (h : ps = rgF a 0) : (fun _ => ps) = rowA a 1 := by
  subst h; funext j; rw [rowA]; simp
theorem allR_lo {r : RG} {g : PG} {i : Nat} (h : i < 11) : rgF r i = rgF (allR r g) i := by
  have e : (allR r g).v i = r.v i := by show (if i < 11 then r.v i else g.v (i - 11)) = _; rw [if_pos h]
  show rgF r i = rgF (mkR (allR r g).v) i
  simp only [rgF, mkR, e]; rfl
def vrF (g : PG) (j : Nat) : List PL := [.b64 true (g.k j), .b64 true (g.mp j), .b64 true (g.id j), .b64 true (g.off j), .b64 true (g.su j), .b64 false (g.tv j), .b64 false (g.tm j), .b64 false (g.lo j), .b64 false (g.hi j), .b64 true (g.slo j), .b64 true (g.shi j)]
theorem allR_hi {r : RG} {g : PG} {j : Nat} : vrF g j = rgF (allR r g) (11 + j) := by
  have e : (allR r g).v (11 + j) = g.v j := by
    show (if 11 + j < 11 then r.v (11 + j) else g.v (11 + j - 11)) = _
    rw [if_neg (by omega), Nat.add_sub_cancel_left]
  show vrF g j = rgF (mkR (allR r g).v) (11 + j)
  simp only [rgF, vrF, mkR, e]; rfl
end Go.Proofs.Ytiopddomdpoaaaa
