/-
  Chapter 20: frames.Plain, frames.Drop; the laws FramesPlain and FramesIn, as the evaluator leaves them. Conditions: as typed.
-/
import Derived.Test.YtiopddomdpoaaaaRi
namespace Go.Proofs.Ytiopddomdpoaaaa
open Go.Ep Go.RowKit
set_option linter.unusedVariables false
set_option linter.unusedSimpArgs false
/-- Maps of a layout. -/
def mpF (a b c d : Nat → BitVec 64) (j : Nat) : List PL := [.b64 true (a j), .b64 true (b j), .b64 true (c j), .b64 true (d j)]
def mp0 (f : Nat → List PL) : Nat → List PL := mpF (fun j => p64 (nthP (f j) 0)) (fun j => p64 (nthP (f j) 1)) (fun j => p64 (nthP (f j) 2)) (fun j => p64 (nthP (f j) 3))
def sizeV (mp z : BitVec 64) : BitVec 64 := if mp.slt 0#64 || (1#64).sle mp then 0#64 else z
theorem one_ix {mp : BitVec 64} (h : mp.slt 0#64 = false) (h' : (1#64).sle mp = false) : mp = 0#64 := by
  have h1 : ¬ mp.toInt < 0 := by
    intro hc; rw [show mp.slt 0#64 = true from by rw [BitVec.slt_iff_toInt_lt]; exact hc] at h; cases h
  have h2 : ¬ 1 ≤ mp.toInt := by
    intro hc; rw [show (1#64).sle mp = true from by rw [BitVec.sle_iff_toInt_le]; exact hc] at h'; cases h'
  have h3 : mp.toInt = 0 := by omega
  exact BitVec.eq_of_toInt_eq (by rw [h3]; rfl)
theorem or_lr {p q : Bool} (h : (p || q) = false) : p = false ∧ q = false := by cases p <;> cases q <;> simp_all
set_option maxRecDepth 100000 in
set_option maxHeartbeats 8000000 in
theorem size_walk (T : TypeId) (cap : Nat) (a b c d : Nat → BitVec 64) (pk : BitVec 64) (a1 a2 a3 a4 a5 aa ab ac ad ae af : BitVec 64) :
    FI Try.prog (tab noData []) Try.f40 1 [.agg [.slc 0 0 1 cap, .b64 true pk], .agg [.b64 true a1, .b64 true a2, .b64 true a3, .b64 true a4, .b64 true a5, .b64 false aa, .b64 false ab, .b64 false ac, .b64 false ad, .b64 true ae, .b64 true af]] [(0, .ro T [.seg 4 1 (mpF a b c d)])] (fun u g => u = .one (.b64 true (sizeV a2 (c 0))) ∧ ∀ i d', Go.Ep.look [(0, .ro T [.seg 4 1 (mpF a b c d)])] i = some d' → Go.Ep.look g i = lookU [] i (some d')) := by
  repeat' (first
    | (with_reducible apply Given.mk; intro h; (try exact absurd h (by decide)))
    | ((conv => whnf); first
      | with_reducible apply Both.mk))
  all_goals first
    | (with_reducible apply Ob.mk; kernel_rfl)
    | (with_reducible apply Ob.mk; decide)
    | ((conv => whnf); refine ⟨?_, fun i d' hd => hd⟩; simp only [sizeV, mpF, nthP, p64, *, Bool.and_true, Bool.and_false, Bool.true_and, Bool.false_and, Bool.or_true, Bool.true_or, Bool.or_false, Bool.false_or, Bool.not_true, Bool.not_false, Bool.false_eq_true, Bool.true_eq_false, if_true, if_false, reduceCtorEq]; done)
    | ((with_reducible apply Ob.mk); have e0 : a2 = 0#64 := one_ix (by assumption) (by assumption); subst e0; decide)
    | ((conv => whnf); refine ⟨?_, fun i d' hd => hd⟩; have e0 : a2 = 0#64 := one_ix (by assumption) (by assumption); subst e0; rfl)
    | (with_reducible apply Ob.mk; skip)
    | ((conv => whnf); skip)
def sp_size : SpW
  | [.agg [.slc 0 0 1 _, .b64 true pk], .agg [.b64 true a1, .b64 true a2, .b64 true a3, .b64 true a4, .b64 true a5, .b64 false aa, .b64 false ab, .b64 false ac, .b64 false ad, .b64 true ae, .b64 true af]], [(0, .ro T [.seg z n f])] => match Nat.beq z 4, Nat.beq n 1 with
    | true, true => some (Cond.p (f = mp0 f), .one (.b64 true (sizeV a2 (p64 (nthP (f 0) 2)))), [])
    | _, _ => none
  | _, _ => none
set_option maxRecDepth 100000 in
set_option maxHeartbeats 8000000 in
theorem e_size : EntryW Try.prog anyWorld 40 sp_size := by
  refine .of_FI C_start (by kernel_rfl) Try.func40 (by kernel_rfl) (by kernel_rfl) (fun args ch c v ups h hc => ?_)
  unfold sp_size at h
  split at h
  · rename_i cap pk a1 a2 a3 a4 a5 aa ab ac ad ae af T z n f
    split at h
    · rename_i h1 h2
      obtain rfl : z = 4 := by simpa using h1
      obtain rfl : n = 1 := by simpa using h2
      cases h
      have e : f = mp0 f := hc
      rw [mp0] at e
      revert e
      generalize (fun j => p64 (nthP (f j) 0)) = a
      generalize (fun j => p64 (nthP (f j) 1)) = b
      generalize hcc : (fun j => p64 (nthP (f j) 2)) = cc
      generalize (fun j => p64 (nthP (f j) 3)) = d
      intro e
      rw [show p64 (nthP (f 0) 2) = cc 0 from congrFun hcc 0]
      clear hcc
      subst e
      exact size_walk T cap a b cc d pk a1 a2 a3 a4 a5 aa ab ac ad ae af
    · cases h
  · cases h
def plainV (g : PG) (v : VV) (n z : BitVec 64) : BitVec 64 := if v.k == 0#64 then 101#64 else if (v.k != 3#64 && (v.k != 5#64 && v.k != 7#64)) then 180#64 else if !(vReach v 0#64 n (sizeV v.mp z)) then 181#64 else if v.k == 3#64 then plR g v.off n else 0#64
abbrev ms_s : List (Nat × SpM) := [(40, spR sp_size)]
theorem C_s : CSound Try.prog anyWorld (tabM noData tb_20 ms_s) := CSound.consM (CSound.startM C_20) (EntryM.of_R e_size)
set_option maxRecDepth 100000 in
set_option maxHeartbeats 8000000 in
theorem Plain_walk (T : TypeId) (cap : Nat) (a b c d : Nat → BitVec 64) (pk : BitVec 64) (r : RG) (g : PG) (nx n : BitVec 64) (a1 a2 a3 a4 a5 aa ab ac ad ae af : BitVec 64) :
    FI Try.prog (tabM noData tb_20 ms_s) Try.f21 1 [.agg [.seg 11 11 (rgF r), .seg 12 64 (plF g), .b64 true nx], .agg [.slc 0 0 1 cap, .b64 true pk], .agg [.b64 true a1, .b64 true a2, .b64 true a3, .b64 true a4, .b64 true a5, .b64 false aa, .b64 false ab, .b64 false ac, .b64 false ad, .b64 true ae, .b64 true af], .one (.b64 true n)] [(0, .ro T [.seg 4 1 (mpF a b c d)])] (fun u h => u = .one (.b64 true (plainV g ⟨a1, a2, a3, a4, a5, ⟨aa, ab, ac, ad, ae, af⟩⟩ n (c 0))) ∧ ∀ i d', Go.Ep.look [(0, .ro T [.seg 4 1 (mpF a b c d)])] i = some d' → Go.Ep.look h i = lookU [] i (some d')) := by
  repeat' (first
    | (with_reducible apply Given.mk; intro h; (try exact absurd h (by decide)))
    | ((conv => whnf); first
      | with_reducible apply Both.mk))
  all_goals first
    | (with_reducible apply Ob.mk; kernel_rfl)
    | (with_reducible apply Ob.mk; decide)
    | ((with_reducible apply Ob.mk); with_reducible exact plF_ok _)
    | ((conv => whnf); refine ⟨?_, fun i d' hd => hd⟩; simp only [plainV, mpF, nthP, p64, (show gOf (plF g) = g from rfl), *, Bool.and_true, Bool.and_false, Bool.true_and, Bool.false_and, Bool.or_true, Bool.true_or, Bool.or_false, Bool.false_or, Bool.not_true, Bool.not_false, Bool.false_eq_true, Bool.true_eq_false, if_true, if_false, reduceCtorEq]; done)
    | ((conv => whnf); refine ⟨?_, fun i d' hd => hd⟩; have e : gOf (plF g) = g := rfl; simp_all [plainV, mpF, nthP, p64]; done)
    | (with_reducible apply Ob.mk; skip)
    | ((conv => whnf); skip)
def sp_Plain : SpW
  | [.agg [.seg z m f, .seg z' m' h, .b64 true nx], .agg [.slc 0 0 1 _, .b64 true pk], .agg [.b64 true a1, .b64 true a2, .b64 true a3, .b64 true a4, .b64 true a5, .b64 false aa, .b64 false ab, .b64 false ac, .b64 false ad, .b64 true ae, .b64 true af], .one (.b64 true n)], [(0, .ro T [.seg y l f'])] => match Nat.beq z 11, Nat.beq m 11, Nat.beq z' 12, Nat.beq m' 64, Nat.beq y 4, Nat.beq l 1 with
    | true, true, true, true, true, true => some (Cond.p (f = rgF (rOf f) ∧ h = plF (gOf h) ∧ f' = mp0 f'), .one (.b64 true (plainV (gOf h) ⟨a1, a2, a3, a4, a5, ⟨aa, ab, ac, ad, ae, af⟩⟩ n (p64 (nthP (f' 0) 2)))), [])
    | _, _, _, _, _, _ => none
  | _, _ => none
set_option maxRecDepth 100000 in
set_option maxHeartbeats 8000000 in
theorem e_Plain : EntryW Try.prog anyWorld 21 sp_Plain := by
  refine .of_FI C_s (by kernel_rfl) Try.func21 (by kernel_rfl) (by kernel_rfl) (fun args ch c v ups h hc => ?_)
  unfold sp_Plain at h
  split at h
  · rename_i z m f z' m' g nx cap pk a1 a2 a3 a4 a5 aa ab ac ad ae af n T y l f'
    split at h
    · rename_i h1 h2 h3 h4 h5 h6
      obtain rfl : z = 11 := by simpa using h1
      obtain rfl : m = 11 := by simpa using h2
      obtain rfl : z' = 12 := by simpa using h3
      obtain rfl : m' = 64 := by simpa using h4
      obtain rfl : y = 4 := by simpa using h5
      obtain rfl : l = 1 := by simpa using h6
      cases h
      obtain ⟨e1, e2, e⟩ := hc
      generalize rOf f = r at e1 ⊢
      generalize gOf g = p at e2 ⊢
      subst e1 e2
      rw [mp0] at e
      revert e
      generalize (fun j => p64 (nthP (f' j) 0)) = a
      generalize (fun j => p64 (nthP (f' j) 1)) = b
      generalize hcc : (fun j => p64 (nthP (f' j) 2)) = cc
      generalize (fun j => p64 (nthP (f' j) 3)) = d
      intro e
      rw [show p64 (nthP (f' 0) 2) = cc 0 from congrFun hcc 0]
      clear hcc
      subst e
      exact Plain_walk T cap a b cc d pk r p nx n a1 a2 a3 a4 a5 aa ab ac ad ae af
    · cases h
  · cases h
def refP (p q r : Bool) (s : BitVec 64) : BitVec 64 := if p then 101#64 else if !q then 180#64 else if !r then 181#64 else s
def sp_refP : Sp
  | [.one (.bool p), .one (.bool q), .one (.bool r), .one (.b64 true s)] => some (Cond.t, .one (.b64 true (refP p q r s)))
  | _ => none
set_option maxRecDepth 100000 in
set_option maxHeartbeats 8000000 in
theorem e_refP : EntryOK Try.prog anyWorld 22 sp_refP := by
  refine .of_F C_start (by kernel_rfl) Try.func22 (by kernel_rfl) (by kernel_rfl) (fun args c v h hc => ?_)
  unfold sp_refP at h
  split at h
  · rename_i p q r s
    cases h
    refine ⟨rfl, rfl, ?_⟩
    cases p <;> cases q <;> cases r <;> (repeat' (first
    | (with_reducible apply Given.mk; intro h; (try exact absurd h (by decide)))
    | ((conv => whnf); with_reducible apply Both.mk)))
    all_goals first
      | (with_reducible apply Ob.mk; kernel_rfl)
      | ((conv => whnf); exact ⟨rfl⟩)
      | ((conv => whnf); skip)
  · cases h
theorem put_ix {k : BitVec 64} (h : (0#64).sle k = true) (h' : k.slt 11#64 = true) : 0 ≤ k.toInt ∧ k.toNat < 11 := by
  have h1 : 0 ≤ k.toInt := by rw [BitVec.sle_iff_toInt_le] at h; exact h
  have h2 : k.toInt < 11 := by rw [BitVec.slt_iff_toInt_lt] at h'; exact h'
  have h3 := k.isLt
  rw [BitVec.toInt_eq_toNat_cond] at h1 h2
  refine ⟨by rw [BitVec.toInt_eq_toNat_cond]; exact h1, ?_⟩
  split at h2 <;> split at h1 <;> omega
set_option maxRecDepth 100000 in
set_option maxHeartbeats 8000000 in
theorem Drop_walk (T : TypeId) (cap : Nat) (r : RG) (g : PG) (nx k : BitVec 64) (hk : (0#64).sle k = true ∧ k.slt 11#64 = true) :
    FI Try.prog (tab noData []) Try.f24 1 [.agg [.seg 11 11 (rgF r), .seg 12 64 (plF g), .b64 true nx], .one (.slc 0 0 1 cap)] [(0, .ro T [.seg 1 1 (fun _ => [.b64 true k])])] (fun u h => u = .agg [.seg 11 11 (rgF (r.put k.toNat vZ)), .seg 12 64 (plF g), .b64 true nx] ∧ ∀ i d', Go.Ep.look [(0, .ro T [.seg 1 1 (fun _ => [.b64 true k])])] i = some d' → Go.Ep.look h i = lookU [] i (some d')) := by
  repeat' (first
    | (with_reducible apply Given.mk; intro h; (try exact absurd h (by decide)))
    | ((conv => whnf); first
      | with_reducible apply Both.mk
      | (refine LoopP.times 2 ?_)))
  all_goals first
    | (with_reducible apply Ob.mk; kernel_rfl)
    | (with_reducible apply Ob.mk; decide)
    | ((with_reducible apply Ob.mk); exact put_ix hk.1 hk.2)
    | ((with_reducible apply Ob.mk); exact (put_ix hk.1 hk.2).2)
    | (exfalso; rw [hk.1, hk.2] at *; simp_all; done)
    | (exfalso; simp_all; done)
    | ((conv => whnf); exact ⟨congrArg (fun f => AV.agg [.seg 11 11 f, .seg 12 64 (plF g), .b64 true nx]) (rput_upd r k.toNat vZ), fun i d' hd => hd⟩)
    | (with_reducible apply Ob.mk; skip)
    | ((conv => whnf); skip)
def sp_Drop : SpW
  | [.agg [.seg z m f, .seg z' m' h, .b64 true nx], .one (.slc 0 0 1 _)], [(0, .ro T [.seg y l f'])] => match Nat.beq z 11, Nat.beq m 11, Nat.beq z' 12, Nat.beq m' 64, Nat.beq y 1, Nat.beq l 1 with
    | true, true, true, true, true, true => some (Cond.p (f = rgF (rOf f) ∧ h = plF (gOf h) ∧ f' = (fun _ => [.b64 true (p64 (nthP (f' 0) 0))]) ∧ (0#64).sle (p64 (nthP (f' 0) 0)) = true ∧ (p64 (nthP (f' 0) 0)).slt 11#64 = true), .agg [.seg 11 11 (rgF ((rOf f).put (p64 (nthP (f' 0) 0)).toNat vZ)), .seg 12 64 (plF (gOf h)), .b64 true nx], [])
    | _, _, _, _, _, _ => none
  | _, _ => none
set_option maxRecDepth 100000 in
set_option maxHeartbeats 8000000 in
theorem e_Drop : EntryW Try.prog anyWorld 24 sp_Drop := by
  refine .of_FI C_start (by kernel_rfl) Try.func24 (by kernel_rfl) (by kernel_rfl) (fun args ch c v ups h hc => ?_)
  unfold sp_Drop at h
  split at h
  · rename_i z m f z' m' g nx cap T y l f'
    split at h
    · rename_i h1 h2 h3 h4 h5 h6
      obtain rfl : z = 11 := by simpa using h1
      obtain rfl : m = 11 := by simpa using h2
      obtain rfl : z' = 12 := by simpa using h3
      obtain rfl : m' = 64 := by simpa using h4
      obtain rfl : y = 1 := by simpa using h5
      obtain rfl : l = 1 := by simpa using h6
      cases h
      obtain ⟨e1, e2, e3, e4⟩ := hc
      generalize rOf f = r at e1 ⊢
      generalize gOf g = p at e2 ⊢
      subst e1 e2
      generalize p64 (nthP (f' 0) 0) = k at e3 e4 ⊢
      subst e3
      exact Drop_walk T cap r p nx k e4
    · cases h
  · cases h
abbrev tb_21 : List (Nat × Sp) := (25, sp_framesIn) :: (22, sp_refP) :: tb_20
abbrev ms_21 : List (Nat × SpM) := (24, spR sp_Drop) :: (21, spR sp_Plain) :: ms_20
theorem C_21 : CSound Try.prog anyWorld (tabM noData tb_21 ms_21) := CSound.consM (CSound.consM (CSound.consM (CSound.startM ((C_20.cons e_refP).cons e_framesIn)) e_Frame) (EntryM.of_R e_Plain)) (EntryM.of_R e_Drop)
end Go.Proofs.Ytiopddomdpoaaaa
