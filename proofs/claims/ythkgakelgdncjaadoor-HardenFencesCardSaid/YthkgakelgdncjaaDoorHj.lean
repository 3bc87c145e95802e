/-
  Chapter 23: HardenFences: its walk where the program is refused, or too long. Conditions: as typed.
-/
import Derived.Test.YthkgakelgdncjaaDoorHr
import Derived.Test.YthkgakelgdncjaaDoorPl
import Derived.Test.YthkgakelgdncjaaDoorHs
import Derived.Test.YthkgakelgdncjaaDoorHt
import Derived.Test.YthkgakelgdncjaaDoorHu
import Derived.Test.YthkgakelgdncjaaDoorHa
namespace Go.Proofs.YthkgakelgdncjaaDoor
open Go.Ep Go.RowKit
set_option linter.unusedVariables false
set_option linter.unusedSimpArgs false
set_option maxRecDepth 100000 in
set_option maxHeartbeats 16000000 in
theorem Fen_errRawNil (eb ab jb : BitVec 8 → Bool) (T T2 : TypeId) (len cap ns cap2 : Nat) (a1 ad : Option Addr) (x : IT) (st : Nat → Bool) :
    FI Tryd.prog (C_F eb ab jb) Tryd.f5 2 [.one (.raw (.slice a1 0 cap)), .one (.raw (.slice ad 0 cap2))] [] (fun r _ => r = .one (.bool true)) := by
  repeat' (first
    | ((with_reducible apply Given.mk); intro h; (try simp only [bne, beq_self_eq_true, Bool.not_true, Bool.not_false, Bool.true_eq_false, Bool.false_eq_true] at h); (try exact absurd h (by decide)))
    | ((conv => whnf); first
      | with_reducible apply Both.mk
      | fail))
  all_goals first
    | ((with_reducible apply Ob.mk); exact ⟨by decide, .inl rfl⟩)
    | ((with_reducible apply Ob.mk); with_reducible exact Nat.le_refl _)
    | ((with_reducible apply Ob.mk); with_reducible exact h1)
    | ((with_reducible apply Ob.mk); decide)
    | ((with_reducible apply Ob.mk); exact fun _ => rfl)
    | (with_reducible apply Ob.mk; kernel_rfl)
    | ((conv => whnf); exact ⟨rfl⟩)
    | ((conv => whnf); exact rfl)
    | ((conv => whnf); skip)
set_option maxRecDepth 100000 in
set_option maxHeartbeats 16000000 in
theorem Fen_errRaw (eb ab jb : BitVec 8 → Bool) (T T2 : TypeId) (len cap ns cap2 : Nat) (a1 ad : Option Addr) (x : IT) (st : Nat → Bool) :
    FI Tryd.prog (C_F eb ab jb) Tryd.f5 2 [.one (.raw (.slice a1 0 cap)), .one (.slc 1 0 ns cap2)] [(1, .ro T2 [.seg 1 ns (bF st)])] (fun r _ => r = .one (.bool true)) := by
  repeat' (first
    | ((with_reducible apply Given.mk); intro h; (try simp only [bne, beq_self_eq_true, Bool.not_true, Bool.not_false, Bool.true_eq_false, Bool.false_eq_true] at h); (try exact absurd h (by decide)))
    | ((conv => whnf); first
      | with_reducible apply Both.mk
      | fail))
  all_goals first
    | ((with_reducible apply Ob.mk); exact ⟨by decide, .inl rfl⟩)
    | ((with_reducible apply Ob.mk); with_reducible exact Nat.le_refl _)
    | ((with_reducible apply Ob.mk); with_reducible exact h1)
    | ((with_reducible apply Ob.mk); decide)
    | ((with_reducible apply Ob.mk); exact fun _ => rfl)
    | (with_reducible apply Ob.mk; kernel_rfl)
    | ((conv => whnf); exact ⟨rfl⟩)
    | ((conv => whnf); exact rfl)
    | ((conv => whnf); skip)
set_option maxRecDepth 100000 in
set_option maxHeartbeats 16000000 in
theorem Fen_errNil (eb ab jb : BitVec 8 → Bool) (T T2 : TypeId) (len cap ns cap2 : Nat) (a1 ad : Option Addr) (x : IT) (st : Nat → Bool) (hl : len ≤ 64) (h0 : 0 < len) (f1 : (64#64).slt (BitVec.ofNat 64 len) = false) (f0 : len.beq 0 = false) (f2 : ((chk4 (inOf (inF x)) len 4#64 false).2 == 0#64) = false) :
    FI Tryd.prog (C_F eb ab jb) Tryd.f5 2 [.one (.slc 0 0 len cap), .one (.raw (.slice ad 0 cap2))] [(0, .ro T [.seg 5 len (inF x)])] (fun r _ => r = .one (.bool true)) := by
  repeat' (first
    | ((with_reducible apply Given.mk); intro h; (try simp only [f0, f1, f2, bne, beq_self_eq_true, Bool.not_true, Bool.not_false, Bool.true_eq_false, Bool.false_eq_true] at h); (try exact absurd h (by decide)))
    | ((conv => whnf); first
      | with_reducible apply Both.mk
      | fail))
  all_goals first
    | ((with_reducible apply Ob.mk); exact ⟨by decide, .inl rfl⟩)
    | ((with_reducible apply Ob.mk); with_reducible exact Nat.le_refl _)
    | ((with_reducible apply Ob.mk); with_reducible exact h1)
    | ((with_reducible apply Ob.mk); show len < 9223372036854775808; omega)
    | ((with_reducible apply Ob.mk); show 0 + len < 65536; omega)
    | ((with_reducible apply Ob.mk); exact ⟨Nat.le_refl _, (by omega), .inr rfl⟩)
    | ((with_reducible apply Ob.mk); exact ⟨Nat.le_refl _, (by omega), .inl rfl⟩)
    | ((with_reducible apply Ob.mk); decide)
    | ((with_reducible apply Ob.mk); exact fun _ => rfl)
    | (with_reducible apply Ob.mk; kernel_rfl)
    | ((conv => whnf); exact ⟨rfl⟩)
    | ((conv => whnf); exact rfl)
    | ((conv => whnf); skip)
set_option maxRecDepth 100000 in
set_option maxHeartbeats 16000000 in
theorem Fen_bigNil (eb ab jb : BitVec 8 → Bool) (T T2 : TypeId) (len cap ns cap2 : Nat) (a1 ad : Option Addr) (x : IT) (st : Nat → Bool) (h1 : len < 9223372036854775808) (f1 : (64#64).slt (BitVec.ofNat 64 len) = true) :
    FI Tryd.prog (C_F eb ab jb) Tryd.f5 2 [.one (.slc 0 0 len cap), .one (.raw (.slice ad 0 cap2))] [(0, .ro T [.seg 5 len (inF x)])] (fun r _ => r = .one (.bool true)) := by
  repeat' (first
    | ((with_reducible apply Given.mk); intro h; (try simp only [f1, bne, beq_self_eq_true, Bool.not_true, Bool.not_false, Bool.true_eq_false, Bool.false_eq_true] at h); (try exact absurd h (by decide)))
    | ((conv => whnf); first
      | with_reducible apply Both.mk
      | fail))
  all_goals first
    | ((with_reducible apply Ob.mk); exact ⟨by decide, .inl rfl⟩)
    | ((with_reducible apply Ob.mk); with_reducible exact Nat.le_refl _)
    | ((with_reducible apply Ob.mk); with_reducible exact h1)
    | ((with_reducible apply Ob.mk); decide)
    | ((with_reducible apply Ob.mk); exact fun _ => rfl)
    | (with_reducible apply Ob.mk; kernel_rfl)
    | ((conv => whnf); exact ⟨rfl⟩)
    | ((conv => whnf); exact rfl)
    | ((conv => whnf); skip)
set_option maxRecDepth 100000 in
set_option maxHeartbeats 16000000 in
theorem Fen_err (eb ab jb : BitVec 8 → Bool) (T T2 : TypeId) (len cap ns cap2 : Nat) (a1 ad : Option Addr) (x : IT) (st : Nat → Bool) (hl : len ≤ 64) (h0 : 0 < len) (f1 : (64#64).slt (BitVec.ofNat 64 len) = false) (f0 : len.beq 0 = false) (f2 : ((chk4 (inOf (inF x)) len 4#64 false).2 == 0#64) = false) :
    FI Tryd.prog (C_F eb ab jb) Tryd.f5 2 [.one (.slc 0 0 len cap), .one (.slc 1 0 ns cap2)] [(0, .ro T [.seg 5 len (inF x)]), (1, .ro T2 [.seg 1 ns (bF st)])] (fun r _ => r = .one (.bool true)) := by
  repeat' (first
    | ((with_reducible apply Given.mk); intro h; (try simp only [f0, f1, f2, bne, beq_self_eq_true, Bool.not_true, Bool.not_false, Bool.true_eq_false, Bool.false_eq_true] at h); (try exact absurd h (by decide)))
    | ((conv => whnf); first
      | with_reducible apply Both.mk
      | fail))
  all_goals first
    | ((with_reducible apply Ob.mk); exact ⟨by decide, .inl rfl⟩)
    | ((with_reducible apply Ob.mk); with_reducible exact Nat.le_refl _)
    | ((with_reducible apply Ob.mk); with_reducible exact h1)
    | ((with_reducible apply Ob.mk); show len < 9223372036854775808; omega)
    | ((with_reducible apply Ob.mk); show 0 + len < 65536; omega)
    | ((with_reducible apply Ob.mk); exact ⟨Nat.le_refl _, (by omega), .inr rfl⟩)
    | ((with_reducible apply Ob.mk); exact ⟨Nat.le_refl _, (by omega), .inl rfl⟩)
    | ((with_reducible apply Ob.mk); decide)
    | ((with_reducible apply Ob.mk); exact fun _ => rfl)
    | (with_reducible apply Ob.mk; kernel_rfl)
    | ((conv => whnf); exact ⟨rfl⟩)
    | ((conv => whnf); exact rfl)
    | ((conv => whnf); skip)
set_option maxRecDepth 100000 in
set_option maxHeartbeats 16000000 in
theorem Fen_big (eb ab jb : BitVec 8 → Bool) (T T2 : TypeId) (len cap ns cap2 : Nat) (a1 ad : Option Addr) (x : IT) (st : Nat → Bool) (h1 : len < 9223372036854775808) (f1 : (64#64).slt (BitVec.ofNat 64 len) = true) :
    FI Tryd.prog (C_F eb ab jb) Tryd.f5 2 [.one (.slc 0 0 len cap), .one (.slc 1 0 ns cap2)] [(0, .ro T [.seg 5 len (inF x)]), (1, .ro T2 [.seg 1 ns (bF st)])] (fun r _ => r = .one (.bool true)) := by
  repeat' (first
    | ((with_reducible apply Given.mk); intro h; (try simp only [f1, bne, beq_self_eq_true, Bool.not_true, Bool.not_false, Bool.true_eq_false, Bool.false_eq_true] at h); (try exact absurd h (by decide)))
    | ((conv => whnf); first
      | with_reducible apply Both.mk
      | fail))
  all_goals first
    | ((with_reducible apply Ob.mk); exact ⟨by decide, .inl rfl⟩)
    | ((with_reducible apply Ob.mk); with_reducible exact Nat.le_refl _)
    | ((with_reducible apply Ob.mk); with_reducible exact h1)
    | ((with_reducible apply Ob.mk); decide)
    | ((with_reducible apply Ob.mk); exact fun _ => rfl)
    | (with_reducible apply Ob.mk; kernel_rfl)
    | ((conv => whnf); exact ⟨rfl⟩)
    | ((conv => whnf); exact rfl)
    | ((conv => whnf); skip)
end Go.Proofs.YthkgakelgdncjaaDoor
/-
  Chapter 23: fenced's contract. Conditions: as typed.
-/
namespace Go.Proofs.YthkgakelgdncjaaDoor
open Go.Ep Go.RowKit
set_option linter.unusedVariables false
theorem bnd3 (k : Nat) : bndK k 3 ≤ 3 := by
  unfold bndK
  split
  · rename_i h; exact Nat.le_of_ble_eq_true h
  · exact Nat.le_refl _
theorem fen_g (z : Nat) (ps : List PL) (h0 : cutF z ps 0 = inF (inOf (cutF z ps)) 0) (h1 : cutF z ps 1 = inF (inOf (cutF z ps)) 1) (h2 : cutF z ps 2 = inF (inOf (cutF z ps)) 2) (h3 : cutF z ps 3 = inF (inOf (cutF z ps)) 3) : cutN 4 z ps = inF (inOf (cutN 4 z ps)) := by
  have key : ∀ j, j ≤ 3 → cutF z ps j = inF (inOf (cutF z ps)) j := fun j hj => by
    rcases (by omega : j = 0 ∨ j = 1 ∨ j = 2 ∨ j = 3) with rfl | rfl | rfl | rfl
    · exact h0
    · exact h1
    · exact h2
    · exact h3
  exact funext fun k => key _ (bnd3 k)
theorem mrg_len (c : Prop) [Decidable c] : ∀ (p : Nat) (vs xs : List PL), (mergeP c p vs xs).length = xs.length
  | _, _, [] => by simp [mergeP]
  | 0, [], x :: xs => by simp [mergeP]
  | 0, v :: vs, x :: xs => by simp [mergeP, mrg_len c 0 vs xs]
  | p + 1, vs, x :: xs => by simp [mergeP, mrg_len c p vs xs]
theorem join_len {z n : Nat} {f g : Nat → List PL} (hf : ∀ j, (f j).length = z) : ∀ j, (joinF n f g j).length = z := fun j => by
  unfold joinF
  rw [mrg_len]
  exact hf j
theorem four {f : Nat → Bool} (h0 : f 0 = false) (h1 : f 1 = false) (h2 : f 2 = false) (h3 : f 3 = false) : ∀ j, j < 4 → f j = false := fun j hj => by
  rcases (by omega : j = 0 ∨ j = 1 ∨ j = 2 ∨ j = 3) with rfl | rfl | rfl | rfl
  · exact h0
  · exact h1
  · exact h2
  · exact h3
theorem chk_no {x : IT} {m : BitVec 64} (a0 : badA x 4 m false 0 = false) (a1 : badA x 4 m false 1 = false) (a2 : badA x 4 m false 2 = false) (a3 : badA x 4 m false 3 = false)
    (b0 : badW x 4 0 = false) (b1 : badW x 4 1 = false) (b2 : badW x 4 2 = false) (b3 : badW x 4 3 = false)
    (s1 : List.elem 1 (succ x 0) = true) (s2 : List.elem 2 (succ x 1) = true) (s3 : List.elem 3 (succ x 2) = true) (h : ((chk4 x 4 m false).2 != 0#64) = true) : False := by
  have r0 : Reach x 0 := .zero
  have r1 : Reach x 1 := .step r0 (List.mem_of_elem_eq_true s1)
  have r2 : Reach x 2 := .step r1 (List.mem_of_elem_eq_true s2)
  have r3 : Reach x 3 := .step r2 (List.mem_of_elem_eq_true s3)
  have g : ∀ p, Reach x p → (!hf x p && !reachB x p) = false := fun p hp => by rw [(reachB_iff x p).2 hp]; simp
  have e : chk4 x 4 m false = (0#64, 0#64) := by
    unfold chk4
    rw [if_neg (by decide), fstN_none (four a0 a1 a2 a3), fstN_none (four b0 b1 b2 b3), fstN_none (four (g 0 r0) (g 1 r1) (g 2 r2) (g 3 r3))]
  rw [e] at h
  exact absurd h (by decide)
set_option maxRecDepth 100000 in
set_option maxHeartbeats 8000000 in
theorem fen_walk : F Tryd.prog C_f Tryd.f6 [] (fun r => r = .one (.bool true)) := by
  repeat' (first
    | ((with_reducible apply Given.mk); intro h; first | exact absurd h (by decide) | exact (chk_no (by kernel_rfl) (by kernel_rfl) (by kernel_rfl) (by kernel_rfl) (by kernel_rfl) (by kernel_rfl) (by kernel_rfl) (by kernel_rfl) (by kernel_rfl) (by kernel_rfl) (by kernel_rfl) h).elim | skip)
    | ((conv => whnf); first | with_reducible apply Both.mk | refine LoopP.times 9 ?_))
  all_goals first
    | (with_reducible apply Ob.mk; exact ⟨Nat.le_refl _, (by decide), .inr (fen_g _ _ (by kernel_rfl) (by kernel_rfl) (by kernel_rfl) (by kernel_rfl))⟩)
    | (with_reducible apply Ob.mk; exact ⟨Nat.le_refl _, (by decide), fen_g _ _ (by kernel_rfl) (by kernel_rfl) (by kernel_rfl) (by kernel_rfl)⟩)
    | (with_reducible apply Ob.mk; exact ⟨Nat.le_refl _, (by decide), fen_g _ _ (by kernel_rfl) (by kernel_rfl) (by kernel_rfl) (by kernel_rfl), (by unfold TgOK; decide +kernel)⟩)
    | ((with_reducible apply Ob.mk); intro j; kernel_rfl)
    | ((with_reducible apply Ob.mk); refine ⟨rfl, ?_, ?_⟩ <;> (repeat' (first | with_reducible apply join_len | (intro j; kernel_rfl))))
    | (with_reducible apply Ob.mk; decide)
    | (with_reducible apply Ob.mk; kernel_rfl)
    | (with_reducible apply Ob.mk; decide)
    | ((conv => whnf); refine ⟨rfl⟩)
set_option maxRecDepth 100000 in
theorem e_fen : EntryOK Tryd.prog Gbar 6 sp_fen := by
  refine .of_F C_f_ok (by kernel_rfl) Tryd.func6 (by kernel_rfl) (by kernel_rfl) (fun args c v h hc => ?_)
  unfold sp_fen at h
  split at h
  · cases h
    exact ⟨rfl, rfl, fen_walk⟩
  · cases h
theorem C_H_fin : CSound Tryd.prog Gbar C_H := C_H_ok e_fen
end Go.Proofs.YthkgakelgdncjaaDoor
/-
  Laws that are handed two slices. Conditions: as typed.
-/
namespace Go.Ep
open Go.RowKit
set_option linter.unusedVariables false
section
variable {P : Program} {G : World → Prop}
def rho2 (q q' : Loc) : Nat → Loc := fun n => match n with
  | 0 => q
  | _ => q'
theorem RelH.two {q q' : Loc} {T T' : TypeId} {ls ls' : List L} {w : World} {cs cs' : Array Value} {fr fr' : Nat × Nat} (hw : w.heap[q.b]? = some (.cells cs T fr)) {us ws us' ws' : List Value} (hd : cs.toList.drop q.o = us ++ ws) (hr : RelLs (rho2 q q') ls us) (hn : lnames ls = [])
    (hw' : w.heap[q'.b]? = some (.cells cs' T' fr')) (hd' : cs'.toList.drop q'.o = us' ++ ws') (hr' : RelLs (rho2 q q') ls' us') (hn' : lnames ls' = []) :
    RelH w.heap.size w (rho2 q q') (look [(0, .ro T ls), (1, .ro T' ls')]) w := by
  have hlt : q.b < w.heap.size := (Array.getElem?_eq_some_iff.1 hw).1
  have hlt' : q'.b < w.heap.size := (Array.getElem?_eq_some_iff.1 hw').1
  have key : ∀ i c, look [(0, Blk.ro T ls), (1, Blk.ro T' ls')] i = some c → (c = .ro T ls ∧ i = 0) ∨ (c = .ro T' ls' ∧ i = 1) := fun i c hi => by
    rw [look_eq_beq] at hi
    split at hi
    · rename_i e; exact .inl ⟨(Option.some.inj hi).symm, e.symm⟩
    · rw [look_eq_beq] at hi
      split at hi
      · rename_i e; exact .inr ⟨(Option.some.inj hi).symm, e.symm⟩
      · simp [look] at hi
  refine ⟨fun i c hi => ?_, fun i c hi m hm => ?_, fun i c hi => ?_, fun i j c d hi hj ho _ => ?_, Below.refl _ _, Nat.le_refl _⟩
  · rcases key i c hi with ⟨rfl, rfl⟩ | ⟨rfl, rfl⟩
    · exact ⟨cs, fr, hw, us, ws, hd, hr⟩
    · exact ⟨cs', fr', hw', us', ws', hd', hr'⟩
  · rcases key i c hi with ⟨rfl, rfl⟩ | ⟨rfl, rfl⟩
    · rw [show (Blk.ro T ls).names = lnames ls from rfl, hn] at hm; simp at hm
    · rw [show (Blk.ro T' ls').names = lnames ls' from rfl, hn'] at hm; simp at hm
  · rcases key i c hi with ⟨rfl, rfl⟩ | ⟨rfl, rfl⟩
    · exact ⟨(fun h => by cases h), fun _ => hlt⟩
    · exact ⟨(fun h => by cases h), fun _ => hlt'⟩
  · rcases key i c hi with ⟨rfl, rfl⟩ | ⟨rfl, rfl⟩
    · cases ho
    · cases ho
/-- A law's call over a heap that is told. -/
theorem law_of_FIH {C : Table} (hC : CSound P G C) (hm : P.follows .mixedOrders = true) {f : FuncId} {fn : Func} (hf : P.funcs[f]? = some fn) {nm : Nat} {args : List AV} {h : List (Nat × Blk)}
    (hF : FI P C fn nm args h (fun r _ => r = .one (.bool true))) (hlt : ∀ m, look h m ≠ none → m < nm) (hn : ∀ v ∈ args, ∀ m ∈ v.names, look h m ≠ none) {ρ : Nat → Loc} {us : List Value} {w : World} (hG : G w)
    (hrel : RelAs ρ args us) (H : RelH w.heap.size w ρ (look h) w) : Calls P f us.toArray w (fun e w' => e = .returned (.bool true) ∧ Below w.heap.size w w') := by
  refine (calls_of_FI hC hm hf hF hlt hn rfl hG hrel H).mono ?_
  rintro e w' ⟨u', rfl, h6, h7⟩
  have := h6 ρ (by simp)
  simp only [gL] at this
  exact ⟨by rw [this], h7⟩
end
end Go.Ep
/-
  Chapter 23: HardenFences answers true, over each form of its two slices. Conditions: as typed.
-/
namespace Go.Proofs.YthkgakelgdncjaaDoor
open Go.Ep Go.RowKit
set_option linter.unusedVariables false
theorem le64 {len : Nat} (h1 : len < 9223372036854775808) (f1 : (64#64).slt (BitVec.ofNat 64 len) = false) : len ≤ 64 := by
  have e : (64#64).slt (BitVec.ofNat 64 len) = decide (64 < len) := slt_nat (a := 64) (by omega) h1
  rw [e, decide_eq_false_iff_not] at f1
  omega
theorem C_F_fin : CSound Tryd.prog Gbar (C_F endB alwB jmpB) := C_F_ok e_fen
set_option maxRecDepth 100000 in
theorem Fen_mainSS (T T2 : TypeId) (len cap ns cap2 : Nat) (x : IT) (st : Nat → Bool) (h0 : 0 < len) (h1 : len < 9223372036854775808) (hn : ns < 9223372036854775808) :
    FI Tryd.prog (C_F endB alwB jmpB) Tryd.f5 2 [.one (.slc 0 0 len cap), .one (.slc 1 0 ns cap2)] [(0, .ro T [.seg 5 len (inF x)]), (1, .ro T2 [.seg 1 ns (bF st)])] (fun r _ => r = .one (.bool true)) := by
  have f0 : len.beq 0 = false := by cases len with
    | zero => omega
    | succ n => rfl
  cases f1 : (64#64).slt (BitVec.ofNat 64 len)
  · have hl := le64 h1 f1
    cases f2 : ((chk4 (inOf (inF x)) len 4#64 false).2 == 0#64)
    · exact Fen_err endB alwB jmpB T T2 len cap ns cap2 none none x st hl h0 f1 f0 f2
    · have G : Good x len 4#64 false := good_of (eq_of_beq f2)
      cases hB : barB x len st ns 0
      · exact Fen_goodF endB alwB jmpB rfl rfl rfl T T2 len cap ns cap2 x st hl hn G f1 f0 f2 hB
      · exact Fen_goodT endB alwB jmpB rfl rfl rfl T T2 len cap ns cap2 x st hl hn G f1 f0 f2 hB
  · exact Fen_big endB alwB jmpB T T2 len cap ns cap2 none none x st h1 f1
set_option maxRecDepth 100000 in
theorem Fen_mainSN (T : TypeId) (len cap cap2 : Nat) (ad : Option Addr) (x : IT) (h0 : 0 < len) (h1 : len < 9223372036854775808) :
    FI Tryd.prog (C_F endB alwB jmpB) Tryd.f5 2 [.one (.slc 0 0 len cap), .one (.raw (.slice ad 0 cap2))] [(0, .ro T [.seg 5 len (inF x)])] (fun r _ => r = .one (.bool true)) := by
  have f0 : len.beq 0 = false := by cases len with
    | zero => omega
    | succ n => rfl
  cases f1 : (64#64).slt (BitVec.ofNat 64 len)
  · have hl := le64 h1 f1
    cases f2 : ((chk4 (inOf (inF x)) len 4#64 false).2 == 0#64)
    · exact Fen_errNil endB alwB jmpB T 0 len cap 0 cap2 none ad x (fun _ => false) hl h0 f1 f0 f2
    · have G : Good x len 4#64 false := good_of (eq_of_beq f2)
      cases hB : barB x len (fun _ => false) 0 0
      · exact Fen_nilF endB alwB jmpB rfl rfl rfl T 0 len cap cap2 ad x (fun _ => false) hl (by omega) G f1 f0 f2 hB
      · exact Fen_nilT endB alwB jmpB rfl rfl rfl T 0 len cap cap2 ad x (fun _ => false) hl (by omega) G f1 f0 f2 hB
  · exact Fen_bigNil endB alwB jmpB T 0 len cap 0 cap2 none ad x (fun _ => false) h1 f1
set_option maxRecDepth 100000 in
theorem Fen_mainNS (T2 : TypeId) (cap ns cap2 : Nat) (a1 : Option Addr) (st : Nat → Bool) :
    FI Tryd.prog (C_F endB alwB jmpB) Tryd.f5 2 [.one (.raw (.slice a1 0 cap)), .one (.slc 1 0 ns cap2)] [(1, .ro T2 [.seg 1 ns (bF st)])] (fun r _ => r = .one (.bool true)) :=
  Fen_errRaw endB alwB jmpB 0 T2 0 cap ns cap2 a1 none (fun _ => ⟨0#8, 0#8, 0#8, 0#16, 0#32⟩) st
set_option maxRecDepth 100000 in
theorem Fen_mainNN (cap cap2 : Nat) (a1 ad : Option Addr) :
    FI Tryd.prog (C_F endB alwB jmpB) Tryd.f5 2 [.one (.raw (.slice a1 0 cap)), .one (.raw (.slice ad 0 cap2))] [] (fun r _ => r = .one (.bool true)) :=
  Fen_errRawNil endB alwB jmpB 0 0 0 cap 0 cap2 a1 ad (fun _ => ⟨0#8, 0#8, 0#8, 0#16, 0#32⟩) (fun _ => false)
end Go.Proofs.YthkgakelgdncjaaDoor
