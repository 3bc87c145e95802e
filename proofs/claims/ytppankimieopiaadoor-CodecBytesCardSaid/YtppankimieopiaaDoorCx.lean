/-
  Chapter 11: an instruction's bytes, by the document. Conditions: none.
-/
import Derived.Test.YtppankimieopiaaDoorCw
import Derived.Test.YtppankimieopiaaDoorPr
namespace Go.Ep
open Go.RowKit
set_option linter.unusedVariables false
set_option linter.unusedSimpArgs false
/-- A contract of a function whose first argument is a slice of its caller's own literal cells, that it reads. -/
def spC1 (sq : List PL → List AV → Option (Cond × AV)) : SpM := fun args bs => match args with
  | .one (.slc i 0 len _) :: rest => match bs with
    | [(j, .cells _ ls)] => match Nat.beq i j, toPLs ls with
      | true, some ps => match Nat.beq len ps.length with
        | true => sq ps rest
        | false => none
      | _, _ => none
    | _ => none
  | _ => none
theorem toLs_of : ∀ {ls : List L} {ps : List PL}, toPLs ls = some ps → ls = toLs ps
  | [], ps, h => by cases h; rfl
  | l :: ls, ps, h => by
    simp only [toPLs] at h
    split at h
    · rename_i p hp
      split at h
      · rename_i ps' hps
        cases h
        rw [toLs_of hps]
        have : l = p.toL := by cases l <;> simp [L.pl] at hp <;> subst hp <;> rfl
        rw [this]; rfl
      · cases h
    · cases h
theorem lnames_toLs (ps : List PL) : lnames (toLs ps) = [] := by
  induction ps with
  | nil => rfl
  | cons p ps ih => cases p <;> simp_all [toLs, PL.toL, lnames, L.names]
theorem relLs_plain {ρ ρ' : Nat → Loc} : ∀ {ps : List PL} {vs : List Value}, RelLs ρ (toLs ps) vs → RelLs ρ' (toLs ps) vs
  | [], _, h => h
  | p :: ps, _, h => by
    have hs : isSeg p.toL = false := by cases p <;> rfl
    obtain ⟨v, ws, rfl, h1, h2⟩ := (relLs_cons hs).1 h
    exact (relLs_cons hs).2 ⟨v, ws, rfl, by cases p <;> exact h1, relLs_plain h2⟩
theorem EntryM.of_cells {P : Program} {G : World → Prop} {C : Table} (hC : CSound P G C) (hm : P.follows .mixedOrders = true) {f : FuncId} {fn : Func} {sq : List PL → List AV → Option (Cond × AV)} (hf : P.funcs[f]? = some fn)
    (hn : (fn.name == "runtime.NumGoroutine") = false) (hb : fn.body.isNone = false)
    (h : ∀ ps rest c v, sq ps rest = some (c, v) → c.holds → closed rest = true ∧ v.names = [] ∧ ∀ (T : TypeId) (cap : Nat), FI P C fn 1 (.one (.slc 0 0 ps.length cap) :: rest) [(0, .ro T (toLs ps))] (fun r _ => r = v)) : EntryM P G f (spC1 sq) := by
  refine ⟨⟨fn, hf, hn, hb⟩, fun args bs c v hs hc => ?_⟩
  unfold spC1 at hs
  split at hs
  · rename_i i len cap rest
    split at hs
    · rename_i j T ls
      split at hs
      · rename_i ps hij hps
        obtain rfl : i = j := by simpa using hij
        split at hs
        · rename_i hl
          obtain rfl : len = ps.length := by simpa using hl
          obtain ⟨h1, h2, h3⟩ := h ps rest c v hs hc
          refine ⟨h2, fun us ρ hrel w hG hB hlt => ?_⟩
          have hcl := closed_spec h1
          obtain rfl := toLs_of hps
          obtain ⟨cs, e, ho, hr⟩ := hB (i, .cells T (toLs ps)) (by simp)
          match us, hrel with
          | u :: us, ⟨g1, g2⟩ =>
            have hu : RelA (fun _ => ρ i) (.one (.slc 0 0 ps.length cap)) u := fun _ => g1 (by simp)
            refine (calls_of_FI hC hm hf (h3 T cap) (fun m hm => ?_) (fun v hv m hm => ?_) h2 hG (us := u :: us) (ρ := fun _ => ρ i) ⟨hu, relAs_any hcl g2⟩
              (RelH.one (q := ρ i) (T := T) (us := cs.toList) (ws := []) (fr := (0, 0)) (cs := cs) e (by rw [ho]; simp) (relLs_plain hr) (lnames_toLs ps))).mono fun e w' ⟨u, h3, h4, h5⟩ => ⟨u, h3, h4 ρ, h5⟩
            · rw [look_eq_beq] at hm
              split at hm
              · rename_i e; omega
              · simp [look] at hm
            · rcases List.mem_cons.1 hv with rfl | hv
              · obtain rfl : m = 0 := by simpa [AV.names, L.names] using hm
                rw [look_eq_beq]; simp
              · rw [hcl v hv] at hm; simp at hm
        · cases hs
      · cases hs
    · cases hs
  · cases hs
end Go.Ep
namespace Go.Proofs.YtppankimieopiaaDoor
open Go.Ep Go.RowKit
set_option linter.unusedVariables false
set_option linter.unusedSimpArgs false
def sq_rb (ps : List PL) (rest : List AV) : Option (Cond × AV) := match rest with
  | [] => match ps with
    | [.b64 true x] => some (Cond.t, .one (.str ⟨⟨[⟨BitVec.signExtend 8 x⟩]⟩⟩))
    | [.b64 true x, .b64 true y] => some (Cond.t, .one (.str ⟨⟨[⟨BitVec.signExtend 8 x⟩, ⟨BitVec.signExtend 8 y⟩]⟩⟩))
    | [.b64 true x, .b64 true y, .b64 true z] => some (Cond.t, .one (.str ⟨⟨[⟨BitVec.signExtend 8 x⟩, ⟨BitVec.signExtend 8 y⟩, ⟨BitVec.signExtend 8 z⟩]⟩⟩))
    | _ => none
  | _ => none
set_option maxRecDepth 100000 in
set_option maxHeartbeats 4000000 in
theorem e_rb (G2 : World → Prop) (D2 : VData) (k2 : DataOK Tryd.prog G2 D2) (m : Nat → Nat) : EntryM Tryd.prog (GN m G2) 47 (spC1 sq_rb) := by
  refine .of_cells (C_rValid G2 D2 k2 m) (by kernel_rfl) Tryd.func47 (by kernel_rfl) (by kernel_rfl) (fun ps rest c v h hc => ?_)
  unfold sq_rb at h
  split at h
  · split at h
    iterate 3
      · cases h
        refine ⟨rfl, rfl, fun T cap => ?_⟩
        repeat' (first
          | (with_reducible apply Given.mk; intro h; (try simp only [List.length_cons, List.length_nil] at h); (try exact absurd h (by decide)))
          | ((conv => whnf); first | with_reducible apply Both.mk | refine LoopP.times 5 ?_))
        all_goals first
          | (with_reducible apply Ob.mk; kernel_rfl)
          | (with_reducible apply Ob.mk; decide)
          | ((with_reducible apply Ob.mk); show 0 + 1 < 9223372036854775808; decide)
          | ((with_reducible apply Ob.mk); show 1 + 1 < 9223372036854775808; decide)
          | ((with_reducible apply Ob.mk); show 2 + 1 < 9223372036854775808; decide)
          | ((with_reducible apply Ob.mk); simp only [List.length_cons, List.length_nil]; decide)
          | ((conv => whnf); exact rfl)
          | ((conv => whnf); skip)
    · cases h
  · cases h
abbrev ms_b : List (Nat × SpM) := [(47, spC1 sq_rb)]
abbrev TB (m : Nat → Nat) (D2 : VData) : Table := tabM (DN m D2) (tb_rValid m) ms_b
theorem C_rb (G2 : World → Prop) (D2 : VData) (k2 : DataOK Tryd.prog G2 D2) (m : Nat → Nat) : CSound Tryd.prog (GN m G2) (TB m D2) := (C_rValid G2 D2 k2 m).startM.consM (e_rb G2 D2 k2 m)
theorem cat_0 (a : ByteArray) : catB a s0 = a := by
  obtain ⟨⟨a⟩⟩ := a
  simp [catB]
theorem me_le (a b : BitVec 64) (dp : BitVec 32) {n : Nat} (hn : 10 ≤ n) : (meB a b dp).size ≤ n := by
  refine Nat.le_trans (?_ : _ ≤ 10) hn
  unfold meB
  rw [cat_sz2]
  cases (b.srem 8#64 == 4#64)
  · show 1 + 4 ≤ 10; decide
  · show (1 + 1) + 4 ≤ 10; decide
theorem reg0 : regB 0#64 = true := by decide
theorem reg3 : regB 3#64 = true := by decide
theorem reg4 : regB 4#64 = true := by decide
theorem reg6 : regB 6#64 = true := by decide
theorem alu_reg {x : BitVec 64} (h : aluB x = true) : regB x = true := by
  simp only [aluB, Bool.or_eq_true, beq_iff_eq] at h
  rcases h with ((((rfl | rfl) | rfl) | rfl) | rfl) | rfl <;> decide
theorem shift_reg {x : BitVec 64} (h : shiftB x = true) : regB x = true := by
  simp only [shiftB, Bool.or_eq_true, beq_iff_eq] at h
  rcases h with (rfl | rfl) | rfl <;> decide
theorem b8_eq {d : BitVec 64} (h : regB d = true) : BitVec.signExtend 8 (184#64 + d.srem 8#64) = 184#8 + BitVec.signExtend 8 (d.srem 8#64) := by
  obtain ⟨i, rfl⟩ := reg_in h
  revert i; decide +kernel
theorem b50_eq {d : BitVec 64} (h : regB d = true) : BitVec.signExtend 8 (80#64 + d.srem 8#64) = 80#8 + BitVec.signExtend 8 (d.srem 8#64) := by
  obtain ⟨i, rfl⟩ := reg_in h
  revert i; decide +kernel
theorem b58_eq {d : BitVec 64} (h : regB d = true) : BitVec.signExtend 8 (88#64 + d.srem 8#64) = 88#8 + BitVec.signExtend 8 (d.srem 8#64) := by
  obtain ⟨i, rfl⟩ := reg_in h
  revert i; decide +kernel
theorem cc_in {x : BitVec 64} (h : condB x = true) : ∃ i : Fin 16, x = BitVec.ofNat 64 i := by
  refine reg_in ?_
  simp only [condB, Bool.or_eq_true, beq_iff_eq] at h
  rcases h with ((((((((rfl | rfl) | rfl) | rfl) | rfl) | rfl) | rfl) | rfl) | rfl) | rfl <;> decide
theorem b70_eq {d : BitVec 64} (h : condB d = true) : BitVec.signExtend 8 (112#64 + d) = 112#8 + BitVec.signExtend 8 d := by
  obtain ⟨i, rfl⟩ := cc_in h
  revert i; decide +kernel
theorem b80_eq {d : BitVec 64} (h : condB d = true) : BitVec.signExtend 8 (128#64 + d) = 128#8 + BitVec.signExtend 8 d := by
  obtain ⟨i, rfl⟩ := cc_in h
  revert i; decide +kernel
theorem size_in {x : BitVec 64} (h : sizeB x = true) : x = 1#64 ∨ x = 2#64 ∨ x = 4#64 ∨ x = 8#64 := by
  simp only [sizeB, Bool.or_eq_true, beq_iff_eq] at h
  rcases h with ((rfl | rfl) | rfl) | rfl <;> simp
set_option maxRecDepth 100000 in
set_option maxHeartbeats 4000000 in
theorem enr_1 (D2 : VData) (m : Nat → Nat) (al cc sz : BitVec 64) (w sh : Bool) (d s : BitVec 64) (dp rl : BitVec 32) (im : BitVec 64) : F Tryd.prog (TB m D2) Tryd.f19 [.agg [.b64 true 1#64, .b64 true al, .b64 true cc, .b64 true sz, .bool w, .bool sh, .b64 true d, .b64 true s, .b32 true dp, .b32 true rl, .b64 true im]] (fun r => r = .tup [(false, [.str (if v1 al cc sz w sh d s dp rl im then en1 al cc sz w sh d s dp rl im else s0)]), (false, [.b64 true (if v1 al cc sz w sh d s dp rl im then 0#64 else 2#64)])]) := by
  cases hv : v1 al cc sz w sh d s dp rl im with
  | false =>
    have hw : vld 1#64 al cc sz w sh d s dp rl im = false := hv
    repeat' (first
      | (with_reducible apply Given.mk; intro h; (try simp only [hw, Bool.not_false, Bool.true_eq_false] at h); (try exact absurd h (by decide)))
      | ((conv => whnf); with_reducible apply Both.mk))
    all_goals first
      | (with_reducible apply Ob.mk; kernel_rfl)
      | ((conv => whnf); exact ⟨rfl⟩)
      | ((conv => whnf); skip)
  | true =>
    have hw : vld 1#64 al cc sz w sh d s dp rl im = true := hv
    have hp := hv
    unfold v1 at hp
    simp only [Bool.and_eq_true, Bool.not_eq_true', Bool.or_eq_true] at hp
    have hd : regB d = true := hp.2.1
    have hs : regB s = true := hp.2.2
    all_goals clear hp
    all_goals
      repeat' (first
        | (with_reducible apply Given.mk; intro h; (try simp only [hw, Bool.not_true, Bool.false_eq_true] at h); (try exact absurd h (by decide)))
        | ((conv => whnf); with_reducible apply Both.mk))
      all_goals first
        | ((with_reducible apply Ob.mk); first | exact ⟨hd, hs⟩ | exact ⟨hs, hd⟩ | exact ⟨reg0, hd⟩ | exact ⟨reg3, hd⟩ | exact ⟨reg4, hd⟩ | exact ⟨reg6, hd⟩ | exact ⟨ha, hd⟩)
        | (with_reducible apply Ob.mk; kernel_rfl)
        | (with_reducible apply Ob.mk; decide)
        | ((with_reducible apply Ob.mk); first | exact ⟨by decide, by decide⟩ | (show 1 ≤ 20 ∧ 1 ≤ 20; decide) | (show 1 ≤ 20 ∧ 2 ≤ 20; decide) | (show 0 ≤ 20 ∧ 1 ≤ 20; decide))
        | ((with_reducible apply Ob.mk); (refine lt_sz ?_ ?_) <;> (repeat' (first | ((with_reducible refine rx_le _ _ _ _ ?_); decide) | ((with_reducible refine mr_le _ _ _ ?_); decide) | ((with_reducible refine b4_le _ ?_); decide) | ((with_reducible refine b1_le _ ?_); decide) | ((with_reducible refine b8_le _ ?_); decide) | ((with_reducible refine me_le _ _ _ ?_); decide) | (with_reducible refine cat10 ?_ ?_) | (with_reducible refine cat5 ?_ ?_) | (with_reducible refine cat20 ?_ ?_) | decide | (show 1 ≤ 100; decide) | (show 2 ≤ 100; decide) | (show 1 ≤ 80; decide) | (show 2 ≤ 80; decide) | (show 1 ≤ 20; decide) | (show 2 ≤ 20; decide) | (show 1 ≤ 5; decide) | (show 2 ≤ 5; decide))); done)
        | ((conv => whnf); refine ⟨?_⟩; refine congrArg (a₂ := en1 _ _ _ _ _ _ _ _ _ _) (fun x => AV.tup [(false, [.str x]), (false, [.b64 true 0#64])]) ?_; unfold en1; simp only [cat0, cat_0, cat0]; first | rfl | (simp only [cat0, cat_0, cond_true, cond_false, Bool.and_true, Bool.and_false, Bool.true_and]; rfl))
        | ((conv => whnf); skip)
set_option maxRecDepth 100000 in
set_option maxHeartbeats 4000000 in
theorem enr_2 (D2 : VData) (m : Nat → Nat) (al cc sz : BitVec 64) (w sh : Bool) (d s : BitVec 64) (dp rl : BitVec 32) (im : BitVec 64) : F Tryd.prog (TB m D2) Tryd.f19 [.agg [.b64 true 2#64, .b64 true al, .b64 true cc, .b64 true sz, .bool w, .bool sh, .b64 true d, .b64 true s, .b32 true dp, .b32 true rl, .b64 true im]] (fun r => r = .tup [(false, [.str (if v2 al cc sz w sh d s dp rl im then en2 al cc sz w sh d s dp rl im else s0)]), (false, [.b64 true (if v2 al cc sz w sh d s dp rl im then 0#64 else 2#64)])]) := by
  cases hv : v2 al cc sz w sh d s dp rl im with
  | false =>
    have hw : vld 2#64 al cc sz w sh d s dp rl im = false := hv
    repeat' (first
      | (with_reducible apply Given.mk; intro h; (try simp only [hw, Bool.not_false, Bool.true_eq_false] at h); (try exact absurd h (by decide)))
      | ((conv => whnf); with_reducible apply Both.mk))
    all_goals first
      | (with_reducible apply Ob.mk; kernel_rfl)
      | ((conv => whnf); exact ⟨rfl⟩)
      | ((conv => whnf); skip)
  | true =>
    have hw : vld 2#64 al cc sz w sh d s dp rl im = true := hv
    have hp := hv
    unfold v2 at hp
    simp only [Bool.and_eq_true, Bool.not_eq_true', Bool.or_eq_true] at hp
    have hd : regB d = true := hp.2.1
    have hs : regB s = true := hp.2.2
    all_goals clear hp
    all_goals
      repeat' (first
        | (with_reducible apply Given.mk; intro h; (try simp only [hw, Bool.not_true, Bool.false_eq_true] at h); (try exact absurd h (by decide)))
        | ((conv => whnf); with_reducible apply Both.mk))
      all_goals first
        | ((with_reducible apply Ob.mk); first | exact ⟨hd, hs⟩ | exact ⟨hs, hd⟩ | exact ⟨reg0, hd⟩ | exact ⟨reg3, hd⟩ | exact ⟨reg4, hd⟩ | exact ⟨reg6, hd⟩ | exact ⟨ha, hd⟩)
        | (with_reducible apply Ob.mk; kernel_rfl)
        | (with_reducible apply Ob.mk; decide)
        | ((with_reducible apply Ob.mk); first | exact ⟨by decide, by decide⟩ | (show 1 ≤ 20 ∧ 1 ≤ 20; decide) | (show 1 ≤ 20 ∧ 2 ≤ 20; decide) | (show 0 ≤ 20 ∧ 1 ≤ 20; decide))
        | ((with_reducible apply Ob.mk); (refine lt_sz ?_ ?_) <;> (repeat' (first | ((with_reducible refine rx_le _ _ _ _ ?_); decide) | ((with_reducible refine mr_le _ _ _ ?_); decide) | ((with_reducible refine b4_le _ ?_); decide) | ((with_reducible refine b1_le _ ?_); decide) | ((with_reducible refine b8_le _ ?_); decide) | ((with_reducible refine me_le _ _ _ ?_); decide) | (with_reducible refine cat10 ?_ ?_) | (with_reducible refine cat5 ?_ ?_) | (with_reducible refine cat20 ?_ ?_) | decide | (show 1 ≤ 100; decide) | (show 2 ≤ 100; decide) | (show 1 ≤ 80; decide) | (show 2 ≤ 80; decide) | (show 1 ≤ 20; decide) | (show 2 ≤ 20; decide) | (show 1 ≤ 5; decide) | (show 2 ≤ 5; decide))); done)
        | ((conv => whnf); refine ⟨?_⟩; refine congrArg (a₂ := en2 _ _ _ _ _ _ _ _ _ _) (fun x => AV.tup [(false, [.str x]), (false, [.b64 true 0#64])]) ?_; unfold en2; simp only [cat0, cat_0, cat0]; first | rfl | (simp only [cat0, cat_0, cond_true, cond_false, Bool.and_true, Bool.and_false, Bool.true_and]; rfl))
        | ((conv => whnf); skip)
set_option maxRecDepth 100000 in
set_option maxHeartbeats 4000000 in
theorem enr_3 (D2 : VData) (m : Nat → Nat) (al cc sz : BitVec 64) (w sh : Bool) (d s : BitVec 64) (dp rl : BitVec 32) (im : BitVec 64) : F Tryd.prog (TB m D2) Tryd.f19 [.agg [.b64 true 3#64, .b64 true al, .b64 true cc, .b64 true sz, .bool w, .bool sh, .b64 true d, .b64 true s, .b32 true dp, .b32 true rl, .b64 true im]] (fun r => r = .tup [(false, [.str (if v3 al cc sz w sh d s dp rl im then en3 al cc sz w sh d s dp rl im else s0)]), (false, [.b64 true (if v3 al cc sz w sh d s dp rl im then 0#64 else 2#64)])]) := by
  cases hv : v3 al cc sz w sh d s dp rl im with
  | false =>
    have hw : vld 3#64 al cc sz w sh d s dp rl im = false := hv
    repeat' (first
      | (with_reducible apply Given.mk; intro h; (try simp only [hw, Bool.not_false, Bool.true_eq_false] at h); (try exact absurd h (by decide)))
      | ((conv => whnf); with_reducible apply Both.mk))
    all_goals first
      | (with_reducible apply Ob.mk; kernel_rfl)
      | ((conv => whnf); exact ⟨rfl⟩)
      | ((conv => whnf); skip)
  | true =>
    have hw : vld 3#64 al cc sz w sh d s dp rl im = true := hv
    have hp := hv
    unfold v3 at hp
    simp only [Bool.and_eq_true, Bool.not_eq_true', Bool.or_eq_true] at hp
    have hd : regB d = true := hp.2.1
    have hs : regB s = true := hp.2.2
    all_goals clear hp
    all_goals
      repeat' (first
        | (with_reducible apply Given.mk; intro h; (try simp only [hw, Bool.not_true, Bool.false_eq_true] at h); (try exact absurd h (by decide)))
        | ((conv => whnf); with_reducible apply Both.mk))
      all_goals first
        | ((with_reducible apply Ob.mk); first | exact ⟨hd, hs⟩ | exact ⟨hs, hd⟩ | exact ⟨reg0, hd⟩ | exact ⟨reg3, hd⟩ | exact ⟨reg4, hd⟩ | exact ⟨reg6, hd⟩ | exact ⟨ha, hd⟩)
        | (with_reducible apply Ob.mk; kernel_rfl)
        | (with_reducible apply Ob.mk; decide)
        | ((with_reducible apply Ob.mk); first | exact ⟨by decide, by decide⟩ | (show 1 ≤ 20 ∧ 1 ≤ 20; decide) | (show 1 ≤ 20 ∧ 2 ≤ 20; decide) | (show 0 ≤ 20 ∧ 1 ≤ 20; decide))
        | ((with_reducible apply Ob.mk); (refine lt_sz ?_ ?_) <;> (repeat' (first | ((with_reducible refine rx_le _ _ _ _ ?_); decide) | ((with_reducible refine mr_le _ _ _ ?_); decide) | ((with_reducible refine b4_le _ ?_); decide) | ((with_reducible refine b1_le _ ?_); decide) | ((with_reducible refine b8_le _ ?_); decide) | ((with_reducible refine me_le _ _ _ ?_); decide) | (with_reducible refine cat10 ?_ ?_) | (with_reducible refine cat5 ?_ ?_) | (with_reducible refine cat20 ?_ ?_) | decide | (show 1 ≤ 100; decide) | (show 2 ≤ 100; decide) | (show 1 ≤ 80; decide) | (show 2 ≤ 80; decide) | (show 1 ≤ 20; decide) | (show 2 ≤ 20; decide) | (show 1 ≤ 5; decide) | (show 2 ≤ 5; decide))); done)
        | ((conv => whnf); refine ⟨?_⟩; refine congrArg (a₂ := en3 _ _ _ _ _ _ _ _ _ _) (fun x => AV.tup [(false, [.str x]), (false, [.b64 true 0#64])]) ?_; unfold en3; simp only [cat0, cat_0, b8_eq hd]; first | rfl | (simp only [cat0, cat_0, cond_true, cond_false, Bool.and_true, Bool.and_false, Bool.true_and]; rfl))
        | ((conv => whnf); skip)
set_option maxRecDepth 100000 in
set_option maxHeartbeats 4000000 in
theorem enr_4 (D2 : VData) (m : Nat → Nat) (al cc sz : BitVec 64) (w sh : Bool) (d s : BitVec 64) (dp rl : BitVec 32) (im : BitVec 64) : F Tryd.prog (TB m D2) Tryd.f19 [.agg [.b64 true 4#64, .b64 true al, .b64 true cc, .b64 true sz, .bool w, .bool sh, .b64 true d, .b64 true s, .b32 true dp, .b32 true rl, .b64 true im]] (fun r => r = .tup [(false, [.str (if v4 al cc sz w sh d s dp rl im then en4 al cc sz w sh d s dp rl im else s0)]), (false, [.b64 true (if v4 al cc sz w sh d s dp rl im then 0#64 else 2#64)])]) := by
  cases hv : v4 al cc sz w sh d s dp rl im with
  | false =>
    have hw : vld 4#64 al cc sz w sh d s dp rl im = false := hv
    repeat' (first
      | (with_reducible apply Given.mk; intro h; (try simp only [hw, Bool.not_false, Bool.true_eq_false] at h); (try exact absurd h (by decide)))
      | ((conv => whnf); with_reducible apply Both.mk))
    all_goals first
      | (with_reducible apply Ob.mk; kernel_rfl)
      | ((conv => whnf); exact ⟨rfl⟩)
      | ((conv => whnf); skip)
  | true =>
    have hw : vld 4#64 al cc sz w sh d s dp rl im = true := hv
    have hp := hv
    unfold v4 at hp
    simp only [Bool.and_eq_true, Bool.not_eq_true', Bool.or_eq_true] at hp
    have hd : regB d = true := hp.2.1
    have hs : regB s = true := hp.2.2
    have ha : regB al = true := alu_reg (by exact hp.1.2)
    all_goals clear hp
    all_goals
      repeat' (first
        | (with_reducible apply Given.mk; intro h; (try simp only [hw, Bool.not_true, Bool.false_eq_true] at h); (try exact absurd h (by decide)))
        | ((conv => whnf); with_reducible apply Both.mk))
      all_goals first
        | ((with_reducible apply Ob.mk); first | exact ⟨hd, hs⟩ | exact ⟨hs, hd⟩ | exact ⟨reg0, hd⟩ | exact ⟨reg3, hd⟩ | exact ⟨reg4, hd⟩ | exact ⟨reg6, hd⟩ | exact ⟨ha, hd⟩)
        | (with_reducible apply Ob.mk; kernel_rfl)
        | (with_reducible apply Ob.mk; decide)
        | ((with_reducible apply Ob.mk); first | exact ⟨by decide, by decide⟩ | (show 1 ≤ 20 ∧ 1 ≤ 20; decide) | (show 1 ≤ 20 ∧ 2 ≤ 20; decide) | (show 0 ≤ 20 ∧ 1 ≤ 20; decide))
        | ((with_reducible apply Ob.mk); (refine lt_sz ?_ ?_) <;> (repeat' (first | ((with_reducible refine rx_le _ _ _ _ ?_); decide) | ((with_reducible refine mr_le _ _ _ ?_); decide) | ((with_reducible refine b4_le _ ?_); decide) | ((with_reducible refine b1_le _ ?_); decide) | ((with_reducible refine b8_le _ ?_); decide) | ((with_reducible refine me_le _ _ _ ?_); decide) | (with_reducible refine cat10 ?_ ?_) | (with_reducible refine cat5 ?_ ?_) | (with_reducible refine cat20 ?_ ?_) | decide | (show 1 ≤ 100; decide) | (show 2 ≤ 100; decide) | (show 1 ≤ 80; decide) | (show 2 ≤ 80; decide) | (show 1 ≤ 20; decide) | (show 2 ≤ 20; decide) | (show 1 ≤ 5; decide) | (show 2 ≤ 5; decide))); done)
        | ((conv => whnf); refine ⟨?_⟩; refine congrArg (a₂ := en4 _ _ _ _ _ _ _ _ _ _) (fun x => AV.tup [(false, [.str x]), (false, [.b64 true 0#64])]) ?_; unfold en4; simp only [cat0, cat_0, cat0]; first | rfl | (simp only [cat0, cat_0, cond_true, cond_false, Bool.and_true, Bool.and_false, Bool.true_and]; rfl))
        | ((conv => whnf); skip)
set_option maxRecDepth 100000 in
set_option maxHeartbeats 4000000 in
theorem enr_5 (D2 : VData) (m : Nat → Nat) (al cc sz : BitVec 64) (w sh : Bool) (d s : BitVec 64) (dp rl : BitVec 32) (im : BitVec 64) : F Tryd.prog (TB m D2) Tryd.f19 [.agg [.b64 true 5#64, .b64 true al, .b64 true cc, .b64 true sz, .bool w, .bool sh, .b64 true d, .b64 true s, .b32 true dp, .b32 true rl, .b64 true im]] (fun r => r = .tup [(false, [.str (if v5 al cc sz w sh d s dp rl im then en5 al cc sz w sh d s dp rl im else s0)]), (false, [.b64 true (if v5 al cc sz w sh d s dp rl im then 0#64 else 2#64)])]) := by
  cases hv : v5 al cc sz w sh d s dp rl im with
  | false =>
    have hw : vld 5#64 al cc sz w sh d s dp rl im = false := hv
    repeat' (first
      | (with_reducible apply Given.mk; intro h; (try simp only [hw, Bool.not_false, Bool.true_eq_false] at h); (try exact absurd h (by decide)))
      | ((conv => whnf); with_reducible apply Both.mk))
    all_goals first
      | (with_reducible apply Ob.mk; kernel_rfl)
      | ((conv => whnf); exact ⟨rfl⟩)
      | ((conv => whnf); skip)
  | true =>
    have hw : vld 5#64 al cc sz w sh d s dp rl im = true := hv
    have hp := hv
    unfold v5 at hp
    simp only [Bool.and_eq_true, Bool.not_eq_true', Bool.or_eq_true] at hp
    have hd : regB d = true := hp.2.1
    have hs : regB s = true := hp.2.2
    have ha : regB al = true := alu_reg (by exact hp.1.1.2)
    all_goals clear hp
    all_goals
      repeat' (first
        | (with_reducible apply Given.mk; intro h; (try simp only [hw, Bool.not_true, Bool.false_eq_true] at h); (try exact absurd h (by decide)))
        | ((conv => whnf); with_reducible apply Both.mk))
      all_goals first
        | ((with_reducible apply Ob.mk); first | exact ⟨hd, hs⟩ | exact ⟨hs, hd⟩ | exact ⟨reg0, hd⟩ | exact ⟨reg3, hd⟩ | exact ⟨reg4, hd⟩ | exact ⟨reg6, hd⟩ | exact ⟨ha, hd⟩)
        | (with_reducible apply Ob.mk; kernel_rfl)
        | (with_reducible apply Ob.mk; decide)
        | ((with_reducible apply Ob.mk); first | exact ⟨by decide, by decide⟩ | (show 1 ≤ 20 ∧ 1 ≤ 20; decide) | (show 1 ≤ 20 ∧ 2 ≤ 20; decide) | (show 0 ≤ 20 ∧ 1 ≤ 20; decide))
        | ((with_reducible apply Ob.mk); (refine lt_sz ?_ ?_) <;> (repeat' (first | ((with_reducible refine rx_le _ _ _ _ ?_); decide) | ((with_reducible refine mr_le _ _ _ ?_); decide) | ((with_reducible refine b4_le _ ?_); decide) | ((with_reducible refine b1_le _ ?_); decide) | ((with_reducible refine b8_le _ ?_); decide) | ((with_reducible refine me_le _ _ _ ?_); decide) | (with_reducible refine cat10 ?_ ?_) | (with_reducible refine cat5 ?_ ?_) | (with_reducible refine cat20 ?_ ?_) | decide | (show 1 ≤ 100; decide) | (show 2 ≤ 100; decide) | (show 1 ≤ 80; decide) | (show 2 ≤ 80; decide) | (show 1 ≤ 20; decide) | (show 2 ≤ 20; decide) | (show 1 ≤ 5; decide) | (show 2 ≤ 5; decide))); done)
        | ((conv => whnf); refine ⟨?_⟩; refine congrArg (a₂ := en5 _ _ _ _ _ _ _ _ _ _) (fun x => AV.tup [(false, [.str x]), (false, [.b64 true 0#64])]) ?_; unfold en5; simp only [cat0, cat_0, cat0]; first | rfl | (simp only [cat0, cat_0, cond_true, cond_false, Bool.and_true, Bool.and_false, Bool.true_and]; rfl))
        | ((conv => whnf); skip)
set_option maxRecDepth 100000 in
set_option maxHeartbeats 4000000 in
theorem enr_6 (D2 : VData) (m : Nat → Nat) (al cc sz : BitVec 64) (w sh : Bool) (d s : BitVec 64) (dp rl : BitVec 32) (im : BitVec 64) : F Tryd.prog (TB m D2) Tryd.f19 [.agg [.b64 true 6#64, .b64 true al, .b64 true cc, .b64 true sz, .bool w, .bool sh, .b64 true d, .b64 true s, .b32 true dp, .b32 true rl, .b64 true im]] (fun r => r = .tup [(false, [.str (if v6 al cc sz w sh d s dp rl im then en6 al cc sz w sh d s dp rl im else s0)]), (false, [.b64 true (if v6 al cc sz w sh d s dp rl im then 0#64 else 2#64)])]) := by
  cases hv : v6 al cc sz w sh d s dp rl im with
  | false =>
    have hw : vld 6#64 al cc sz w sh d s dp rl im = false := hv
    repeat' (first
      | (with_reducible apply Given.mk; intro h; (try simp only [hw, Bool.not_false, Bool.true_eq_false] at h); (try exact absurd h (by decide)))
      | ((conv => whnf); with_reducible apply Both.mk))
    all_goals first
      | (with_reducible apply Ob.mk; kernel_rfl)
      | ((conv => whnf); exact ⟨rfl⟩)
      | ((conv => whnf); skip)
  | true =>
    have hw : vld 6#64 al cc sz w sh d s dp rl im = true := hv
    have hp := hv
    unfold v6 at hp
    simp only [Bool.and_eq_true, Bool.not_eq_true', Bool.or_eq_true] at hp
    have hd : regB d = true := hp.2.1
    have hs : regB s = true := hp.2.2
    all_goals clear hp
    all_goals
      repeat' (first
        | (with_reducible apply Given.mk; intro h; (try simp only [hw, Bool.not_true, Bool.false_eq_true] at h); (try exact absurd h (by decide)))
        | ((conv => whnf); with_reducible apply Both.mk))
      all_goals first
        | ((with_reducible apply Ob.mk); first | exact ⟨hd, hs⟩ | exact ⟨hs, hd⟩ | exact ⟨reg0, hd⟩ | exact ⟨reg3, hd⟩ | exact ⟨reg4, hd⟩ | exact ⟨reg6, hd⟩ | exact ⟨ha, hd⟩)
        | (with_reducible apply Ob.mk; kernel_rfl)
        | (with_reducible apply Ob.mk; decide)
        | ((with_reducible apply Ob.mk); first | exact ⟨by decide, by decide⟩ | (show 1 ≤ 20 ∧ 1 ≤ 20; decide) | (show 1 ≤ 20 ∧ 2 ≤ 20; decide) | (show 0 ≤ 20 ∧ 1 ≤ 20; decide))
        | ((with_reducible apply Ob.mk); (refine lt_sz ?_ ?_) <;> (repeat' (first | ((with_reducible refine rx_le _ _ _ _ ?_); decide) | ((with_reducible refine mr_le _ _ _ ?_); decide) | ((with_reducible refine b4_le _ ?_); decide) | ((with_reducible refine b1_le _ ?_); decide) | ((with_reducible refine b8_le _ ?_); decide) | ((with_reducible refine me_le _ _ _ ?_); decide) | (with_reducible refine cat10 ?_ ?_) | (with_reducible refine cat5 ?_ ?_) | (with_reducible refine cat20 ?_ ?_) | decide | (show 1 ≤ 100; decide) | (show 2 ≤ 100; decide) | (show 1 ≤ 80; decide) | (show 2 ≤ 80; decide) | (show 1 ≤ 20; decide) | (show 2 ≤ 20; decide) | (show 1 ≤ 5; decide) | (show 2 ≤ 5; decide))); done)
        | ((conv => whnf); refine ⟨?_⟩; refine congrArg (a₂ := en6 _ _ _ _ _ _ _ _ _ _) (fun x => AV.tup [(false, [.str x]), (false, [.b64 true 0#64])]) ?_; unfold en6; simp only [cat0, cat_0, cat0]; first | rfl | (simp only [cat0, cat_0, cond_true, cond_false, Bool.and_true, Bool.and_false, Bool.true_and]; rfl))
        | ((conv => whnf); skip)
set_option maxRecDepth 100000 in
set_option maxHeartbeats 4000000 in
theorem enr_7 (D2 : VData) (m : Nat → Nat) (al cc sz : BitVec 64) (w sh : Bool) (d s : BitVec 64) (dp rl : BitVec 32) (im : BitVec 64) : F Tryd.prog (TB m D2) Tryd.f19 [.agg [.b64 true 7#64, .b64 true al, .b64 true cc, .b64 true sz, .bool w, .bool sh, .b64 true d, .b64 true s, .b32 true dp, .b32 true rl, .b64 true im]] (fun r => r = .tup [(false, [.str (if v7 al cc sz w sh d s dp rl im then en7 al cc sz w sh d s dp rl im else s0)]), (false, [.b64 true (if v7 al cc sz w sh d s dp rl im then 0#64 else 2#64)])]) := by
  cases hv : v7 al cc sz w sh d s dp rl im with
  | false =>
    have hw : vld 7#64 al cc sz w sh d s dp rl im = false := hv
    repeat' (first
      | (with_reducible apply Given.mk; intro h; (try simp only [hw, Bool.not_false, Bool.true_eq_false] at h); (try exact absurd h (by decide)))
      | ((conv => whnf); with_reducible apply Both.mk))
    all_goals first
      | (with_reducible apply Ob.mk; kernel_rfl)
      | ((conv => whnf); exact ⟨rfl⟩)
      | ((conv => whnf); skip)
  | true =>
    have hw : vld 7#64 al cc sz w sh d s dp rl im = true := hv
    have hp := hv
    unfold v7 at hp
    simp only [Bool.and_eq_true, Bool.not_eq_true', Bool.or_eq_true] at hp
    have hd : regB d = true := hp.2.1
    have hs : regB s = true := hp.2.2
    all_goals clear hp
    all_goals
      repeat' (first
        | (with_reducible apply Given.mk; intro h; (try simp only [hw, Bool.not_true, Bool.false_eq_true] at h); (try exact absurd h (by decide)))
        | ((conv => whnf); with_reducible apply Both.mk))
      all_goals first
        | ((with_reducible apply Ob.mk); first | exact ⟨hd, hs⟩ | exact ⟨hs, hd⟩ | exact ⟨reg0, hd⟩ | exact ⟨reg3, hd⟩ | exact ⟨reg4, hd⟩ | exact ⟨reg6, hd⟩ | exact ⟨ha, hd⟩)
        | (with_reducible apply Ob.mk; kernel_rfl)
        | (with_reducible apply Ob.mk; decide)
        | ((with_reducible apply Ob.mk); first | exact ⟨by decide, by decide⟩ | (show 1 ≤ 20 ∧ 1 ≤ 20; decide) | (show 1 ≤ 20 ∧ 2 ≤ 20; decide) | (show 0 ≤ 20 ∧ 1 ≤ 20; decide))
        | ((with_reducible apply Ob.mk); (refine lt_sz ?_ ?_) <;> (repeat' (first | ((with_reducible refine rx_le _ _ _ _ ?_); decide) | ((with_reducible refine mr_le _ _ _ ?_); decide) | ((with_reducible refine b4_le _ ?_); decide) | ((with_reducible refine b1_le _ ?_); decide) | ((with_reducible refine b8_le _ ?_); decide) | ((with_reducible refine me_le _ _ _ ?_); decide) | (with_reducible refine cat10 ?_ ?_) | (with_reducible refine cat5 ?_ ?_) | (with_reducible refine cat20 ?_ ?_) | decide | (show 1 ≤ 100; decide) | (show 2 ≤ 100; decide) | (show 1 ≤ 80; decide) | (show 2 ≤ 80; decide) | (show 1 ≤ 20; decide) | (show 2 ≤ 20; decide) | (show 1 ≤ 5; decide) | (show 2 ≤ 5; decide))); done)
        | ((conv => whnf); refine ⟨?_⟩; refine congrArg (a₂ := en7 _ _ _ _ _ _ _ _ _ _) (fun x => AV.tup [(false, [.str x]), (false, [.b64 true 0#64])]) ?_; unfold en7; simp only [cat0, cat_0, cat0]; first | rfl | (simp only [cat0, cat_0, cond_true, cond_false, Bool.and_true, Bool.and_false, Bool.true_and]; rfl))
        | ((conv => whnf); skip)
set_option maxRecDepth 100000 in
set_option maxHeartbeats 4000000 in
theorem enr_8 (D2 : VData) (m : Nat → Nat) (al cc sz : BitVec 64) (w sh : Bool) (d s : BitVec 64) (dp rl : BitVec 32) (im : BitVec 64) : F Tryd.prog (TB m D2) Tryd.f19 [.agg [.b64 true 8#64, .b64 true al, .b64 true cc, .b64 true sz, .bool w, .bool sh, .b64 true d, .b64 true s, .b32 true dp, .b32 true rl, .b64 true im]] (fun r => r = .tup [(false, [.str (if v8 al cc sz w sh d s dp rl im then en8 al cc sz w sh d s dp rl im else s0)]), (false, [.b64 true (if v8 al cc sz w sh d s dp rl im then 0#64 else 2#64)])]) := by
  cases hv : v8 al cc sz w sh d s dp rl im with
  | false =>
    have hw : vld 8#64 al cc sz w sh d s dp rl im = false := hv
    repeat' (first
      | (with_reducible apply Given.mk; intro h; (try simp only [hw, Bool.not_false, Bool.true_eq_false] at h); (try exact absurd h (by decide)))
      | ((conv => whnf); with_reducible apply Both.mk))
    all_goals first
      | (with_reducible apply Ob.mk; kernel_rfl)
      | ((conv => whnf); exact ⟨rfl⟩)
      | ((conv => whnf); skip)
  | true =>
    have hw : vld 8#64 al cc sz w sh d s dp rl im = true := hv
    have hp := hv
    unfold v8 at hp
    simp only [Bool.and_eq_true, Bool.not_eq_true', Bool.or_eq_true] at hp
    have hd : regB d = true := hp.2.1
    have hs : regB s = true := hp.2.2
    all_goals clear hp
    all_goals
      repeat' (first
        | (with_reducible apply Given.mk; intro h; (try simp only [hw, Bool.not_true, Bool.false_eq_true] at h); (try exact absurd h (by decide)))
        | ((conv => whnf); with_reducible apply Both.mk))
      all_goals first
        | ((with_reducible apply Ob.mk); first | exact ⟨hd, hs⟩ | exact ⟨hs, hd⟩ | exact ⟨reg0, hd⟩ | exact ⟨reg3, hd⟩ | exact ⟨reg4, hd⟩ | exact ⟨reg6, hd⟩ | exact ⟨ha, hd⟩)
        | (with_reducible apply Ob.mk; kernel_rfl)
        | (with_reducible apply Ob.mk; decide)
        | ((with_reducible apply Ob.mk); first | exact ⟨by decide, by decide⟩ | (show 1 ≤ 20 ∧ 1 ≤ 20; decide) | (show 1 ≤ 20 ∧ 2 ≤ 20; decide) | (show 0 ≤ 20 ∧ 1 ≤ 20; decide))
        | ((with_reducible apply Ob.mk); (refine lt_sz ?_ ?_) <;> (repeat' (first | ((with_reducible refine rx_le _ _ _ _ ?_); decide) | ((with_reducible refine mr_le _ _ _ ?_); decide) | ((with_reducible refine b4_le _ ?_); decide) | ((with_reducible refine b1_le _ ?_); decide) | ((with_reducible refine b8_le _ ?_); decide) | ((with_reducible refine me_le _ _ _ ?_); decide) | (with_reducible refine cat10 ?_ ?_) | (with_reducible refine cat5 ?_ ?_) | (with_reducible refine cat20 ?_ ?_) | decide | (show 1 ≤ 100; decide) | (show 2 ≤ 100; decide) | (show 1 ≤ 80; decide) | (show 2 ≤ 80; decide) | (show 1 ≤ 20; decide) | (show 2 ≤ 20; decide) | (show 1 ≤ 5; decide) | (show 2 ≤ 5; decide))); done)
        | ((conv => whnf); refine ⟨?_⟩; refine congrArg (a₂ := en8 _ _ _ _ _ _ _ _ _ _) (fun x => AV.tup [(false, [.str x]), (false, [.b64 true 0#64])]) ?_; unfold en8; simp only [cat0, cat_0, cat0]; first | rfl | (simp only [cat0, cat_0, cond_true, cond_false, Bool.and_true, Bool.and_false, Bool.true_and]; rfl))
        | ((conv => whnf); skip)
set_option maxRecDepth 100000 in
set_option maxHeartbeats 4000000 in
theorem enr_9 (D2 : VData) (m : Nat → Nat) (al cc sz : BitVec 64) (w sh : Bool) (d s : BitVec 64) (dp rl : BitVec 32) (im : BitVec 64) : F Tryd.prog (TB m D2) Tryd.f19 [.agg [.b64 true 9#64, .b64 true al, .b64 true cc, .b64 true sz, .bool w, .bool sh, .b64 true d, .b64 true s, .b32 true dp, .b32 true rl, .b64 true im]] (fun r => r = .tup [(false, [.str (if v9 al cc sz w sh d s dp rl im then en9 al cc sz w sh d s dp rl im else s0)]), (false, [.b64 true (if v9 al cc sz w sh d s dp rl im then 0#64 else 2#64)])]) := by
  cases hv : v9 al cc sz w sh d s dp rl im with
  | false =>
    have hw : vld 9#64 al cc sz w sh d s dp rl im = false := hv
    repeat' (first
      | (with_reducible apply Given.mk; intro h; (try simp only [hw, Bool.not_false, Bool.true_eq_false] at h); (try exact absurd h (by decide)))
      | ((conv => whnf); with_reducible apply Both.mk))
    all_goals first
      | (with_reducible apply Ob.mk; kernel_rfl)
      | ((conv => whnf); exact ⟨rfl⟩)
      | ((conv => whnf); skip)
  | true =>
    have hw : vld 9#64 al cc sz w sh d s dp rl im = true := hv
    have hp := hv
    unfold v9 at hp
    simp only [Bool.and_eq_true, Bool.not_eq_true', Bool.or_eq_true] at hp
    have hd : regB d = true := hp.2.1
    have hs : regB s = true := hp.2.2
    all_goals clear hp
    all_goals
      repeat' (first
        | (with_reducible apply Given.mk; intro h; (try simp only [hw, Bool.not_true, Bool.false_eq_true] at h); (try exact absurd h (by decide)))
        | ((conv => whnf); with_reducible apply Both.mk))
      all_goals first
        | ((with_reducible apply Ob.mk); first | exact ⟨hd, hs⟩ | exact ⟨hs, hd⟩ | exact ⟨reg0, hd⟩ | exact ⟨reg3, hd⟩ | exact ⟨reg4, hd⟩ | exact ⟨reg6, hd⟩ | exact ⟨ha, hd⟩)
        | (with_reducible apply Ob.mk; kernel_rfl)
        | (with_reducible apply Ob.mk; decide)
        | ((with_reducible apply Ob.mk); first | exact ⟨by decide, by decide⟩ | (show 1 ≤ 20 ∧ 1 ≤ 20; decide) | (show 1 ≤ 20 ∧ 2 ≤ 20; decide) | (show 0 ≤ 20 ∧ 1 ≤ 20; decide))
        | ((with_reducible apply Ob.mk); (refine lt_sz ?_ ?_) <;> (repeat' (first | ((with_reducible refine rx_le _ _ _ _ ?_); decide) | ((with_reducible refine mr_le _ _ _ ?_); decide) | ((with_reducible refine b4_le _ ?_); decide) | ((with_reducible refine b1_le _ ?_); decide) | ((with_reducible refine b8_le _ ?_); decide) | ((with_reducible refine me_le _ _ _ ?_); decide) | (with_reducible refine cat10 ?_ ?_) | (with_reducible refine cat5 ?_ ?_) | (with_reducible refine cat20 ?_ ?_) | decide | (show 1 ≤ 100; decide) | (show 2 ≤ 100; decide) | (show 1 ≤ 80; decide) | (show 2 ≤ 80; decide) | (show 1 ≤ 20; decide) | (show 2 ≤ 20; decide) | (show 1 ≤ 5; decide) | (show 2 ≤ 5; decide))); done)
        | ((conv => whnf); refine ⟨?_⟩; refine congrArg (a₂ := en9 _ _ _ _ _ _ _ _ _ _) (fun x => AV.tup [(false, [.str x]), (false, [.b64 true 0#64])]) ?_; unfold en9; simp only [cat0, cat_0, cat0]; first | rfl | (simp only [cat0, cat_0, cond_true, cond_false, Bool.and_true, Bool.and_false, Bool.true_and]; rfl))
        | ((conv => whnf); skip)
set_option maxRecDepth 100000 in
set_option maxHeartbeats 4000000 in
theorem enr_10 (D2 : VData) (m : Nat → Nat) (al cc sz : BitVec 64) (w sh : Bool) (d s : BitVec 64) (dp rl : BitVec 32) (im : BitVec 64) : F Tryd.prog (TB m D2) Tryd.f19 [.agg [.b64 true 10#64, .b64 true al, .b64 true cc, .b64 true sz, .bool w, .bool sh, .b64 true d, .b64 true s, .b32 true dp, .b32 true rl, .b64 true im]] (fun r => r = .tup [(false, [.str (if v10 al cc sz w sh d s dp rl im then en10 al cc sz w sh d s dp rl im else s0)]), (false, [.b64 true (if v10 al cc sz w sh d s dp rl im then 0#64 else 2#64)])]) := by
  cases hv : v10 al cc sz w sh d s dp rl im with
  | false =>
    have hw : vld 10#64 al cc sz w sh d s dp rl im = false := hv
    repeat' (first
      | (with_reducible apply Given.mk; intro h; (try simp only [hw, Bool.not_false, Bool.true_eq_false] at h); (try exact absurd h (by decide)))
      | ((conv => whnf); with_reducible apply Both.mk))
    all_goals first
      | (with_reducible apply Ob.mk; kernel_rfl)
      | ((conv => whnf); exact ⟨rfl⟩)
      | ((conv => whnf); skip)
  | true =>
    have hw : vld 10#64 al cc sz w sh d s dp rl im = true := hv
    have hp := hv
    unfold v10 at hp
    simp only [Bool.and_eq_true, Bool.not_eq_true', Bool.or_eq_true] at hp
    have hd : regB d = true := hp.2.1
    have hs : regB s = true := hp.2.2
    all_goals clear hp
    all_goals
      repeat' (first
        | (with_reducible apply Given.mk; intro h; (try simp only [hw, Bool.not_true, Bool.false_eq_true] at h); (try exact absurd h (by decide)))
        | ((conv => whnf); with_reducible apply Both.mk))
      all_goals first
        | ((with_reducible apply Ob.mk); first | exact ⟨hd, hs⟩ | exact ⟨hs, hd⟩ | exact ⟨reg0, hd⟩ | exact ⟨reg3, hd⟩ | exact ⟨reg4, hd⟩ | exact ⟨reg6, hd⟩ | exact ⟨ha, hd⟩)
        | (with_reducible apply Ob.mk; kernel_rfl)
        | (with_reducible apply Ob.mk; decide)
        | ((with_reducible apply Ob.mk); first | exact ⟨by decide, by decide⟩ | (show 1 ≤ 20 ∧ 1 ≤ 20; decide) | (show 1 ≤ 20 ∧ 2 ≤ 20; decide) | (show 0 ≤ 20 ∧ 1 ≤ 20; decide))
        | ((with_reducible apply Ob.mk); (refine lt_sz ?_ ?_) <;> (repeat' (first | ((with_reducible refine rx_le _ _ _ _ ?_); decide) | ((with_reducible refine mr_le _ _ _ ?_); decide) | ((with_reducible refine b4_le _ ?_); decide) | ((with_reducible refine b1_le _ ?_); decide) | ((with_reducible refine b8_le _ ?_); decide) | ((with_reducible refine me_le _ _ _ ?_); decide) | (with_reducible refine cat10 ?_ ?_) | (with_reducible refine cat5 ?_ ?_) | (with_reducible refine cat20 ?_ ?_) | decide | (show 1 ≤ 100; decide) | (show 2 ≤ 100; decide) | (show 1 ≤ 80; decide) | (show 2 ≤ 80; decide) | (show 1 ≤ 20; decide) | (show 2 ≤ 20; decide) | (show 1 ≤ 5; decide) | (show 2 ≤ 5; decide))); done)
        | ((conv => whnf); refine ⟨?_⟩; refine congrArg (a₂ := en10 _ _ _ _ _ _ _ _ _ _) (fun x => AV.tup [(false, [.str x]), (false, [.b64 true 0#64])]) ?_; unfold en10; simp only [cat0, cat_0, cat0]; first | rfl | (simp only [cat0, cat_0, cond_true, cond_false, Bool.and_true, Bool.and_false, Bool.true_and]; rfl))
        | ((conv => whnf); skip)
set_option maxRecDepth 100000 in
set_option maxHeartbeats 4000000 in
theorem enr_11 (D2 : VData) (m : Nat → Nat) (al cc sz : BitVec 64) (w sh : Bool) (d s : BitVec 64) (dp rl : BitVec 32) (im : BitVec 64) : F Tryd.prog (TB m D2) Tryd.f19 [.agg [.b64 true 11#64, .b64 true al, .b64 true cc, .b64 true sz, .bool w, .bool sh, .b64 true d, .b64 true s, .b32 true dp, .b32 true rl, .b64 true im]] (fun r => r = .tup [(false, [.str (if v11 al cc sz w sh d s dp rl im then en11 al cc sz w sh d s dp rl im else s0)]), (false, [.b64 true (if v11 al cc sz w sh d s dp rl im then 0#64 else 2#64)])]) := by
  cases hv : v11 al cc sz w sh d s dp rl im with
  | false =>
    have hw : vld 11#64 al cc sz w sh d s dp rl im = false := hv
    repeat' (first
      | (with_reducible apply Given.mk; intro h; (try simp only [hw, Bool.not_false, Bool.true_eq_false] at h); (try exact absurd h (by decide)))
      | ((conv => whnf); with_reducible apply Both.mk))
    all_goals first
      | (with_reducible apply Ob.mk; kernel_rfl)
      | ((conv => whnf); exact ⟨rfl⟩)
      | ((conv => whnf); skip)
  | true =>
    have hw : vld 11#64 al cc sz w sh d s dp rl im = true := hv
    have hp := hv
    unfold v11 at hp
    simp only [Bool.and_eq_true, Bool.not_eq_true', Bool.or_eq_true] at hp
    have hd : regB d = true := hp.2.1
    have hs : regB s = true := hp.2.2
    have ha : regB al = true := shift_reg (by exact hp.1.1.2)
    all_goals clear hp
    all_goals
      repeat' (first
        | (with_reducible apply Given.mk; intro h; (try simp only [hw, Bool.not_true, Bool.false_eq_true] at h); (try exact absurd h (by decide)))
        | ((conv => whnf); with_reducible apply Both.mk))
      all_goals first
        | ((with_reducible apply Ob.mk); first | exact ⟨hd, hs⟩ | exact ⟨hs, hd⟩ | exact ⟨reg0, hd⟩ | exact ⟨reg3, hd⟩ | exact ⟨reg4, hd⟩ | exact ⟨reg6, hd⟩ | exact ⟨ha, hd⟩)
        | (with_reducible apply Ob.mk; kernel_rfl)
        | (with_reducible apply Ob.mk; decide)
        | ((with_reducible apply Ob.mk); first | exact ⟨by decide, by decide⟩ | (show 1 ≤ 20 ∧ 1 ≤ 20; decide) | (show 1 ≤ 20 ∧ 2 ≤ 20; decide) | (show 0 ≤ 20 ∧ 1 ≤ 20; decide))
        | ((with_reducible apply Ob.mk); (refine lt_sz ?_ ?_) <;> (repeat' (first | ((with_reducible refine rx_le _ _ _ _ ?_); decide) | ((with_reducible refine mr_le _ _ _ ?_); decide) | ((with_reducible refine b4_le _ ?_); decide) | ((with_reducible refine b1_le _ ?_); decide) | ((with_reducible refine b8_le _ ?_); decide) | ((with_reducible refine me_le _ _ _ ?_); decide) | (with_reducible refine cat10 ?_ ?_) | (with_reducible refine cat5 ?_ ?_) | (with_reducible refine cat20 ?_ ?_) | decide | (show 1 ≤ 100; decide) | (show 2 ≤ 100; decide) | (show 1 ≤ 80; decide) | (show 2 ≤ 80; decide) | (show 1 ≤ 20; decide) | (show 2 ≤ 20; decide) | (show 1 ≤ 5; decide) | (show 2 ≤ 5; decide))); done)
        | ((conv => whnf); refine ⟨?_⟩; refine congrArg (a₂ := en11 _ _ _ _ _ _ _ _ _ _) (fun x => AV.tup [(false, [.str x]), (false, [.b64 true 0#64])]) ?_; unfold en11; simp only [cat0, cat_0, cat0]; first | rfl | (simp only [cat0, cat_0, cond_true, cond_false, Bool.and_true, Bool.and_false, Bool.true_and]; rfl))
        | ((conv => whnf); skip)
set_option maxRecDepth 100000 in
set_option maxHeartbeats 4000000 in
theorem enr_12 (D2 : VData) (m : Nat → Nat) (al cc sz : BitVec 64) (w sh : Bool) (d s : BitVec 64) (dp rl : BitVec 32) (im : BitVec 64) : F Tryd.prog (TB m D2) Tryd.f19 [.agg [.b64 true 12#64, .b64 true al, .b64 true cc, .b64 true sz, .bool w, .bool sh, .b64 true d, .b64 true s, .b32 true dp, .b32 true rl, .b64 true im]] (fun r => r = .tup [(false, [.str (if v12 al cc sz w sh d s dp rl im then en12 al cc sz w sh d s dp rl im else s0)]), (false, [.b64 true (if v12 al cc sz w sh d s dp rl im then 0#64 else 2#64)])]) := by
  cases hv : v12 al cc sz w sh d s dp rl im with
  | false =>
    have hw : vld 12#64 al cc sz w sh d s dp rl im = false := hv
    repeat' (first
      | (with_reducible apply Given.mk; intro h; (try simp only [hw, Bool.not_false, Bool.true_eq_false] at h); (try exact absurd h (by decide)))
      | ((conv => whnf); with_reducible apply Both.mk))
    all_goals first
      | (with_reducible apply Ob.mk; kernel_rfl)
      | ((conv => whnf); exact ⟨rfl⟩)
      | ((conv => whnf); skip)
  | true =>
    have hw : vld 12#64 al cc sz w sh d s dp rl im = true := hv
    have hp := hv
    unfold v12 at hp
    simp only [Bool.and_eq_true, Bool.not_eq_true', Bool.or_eq_true] at hp
    have hd : regB d = true := hp.2.1
    have hs : regB s = true := hp.2.2
    have ha : regB al = true := shift_reg (by exact hp.1.2)
    all_goals clear hp
    all_goals
      repeat' (first
        | (with_reducible apply Given.mk; intro h; (try simp only [hw, Bool.not_true, Bool.false_eq_true] at h); (try exact absurd h (by decide)))
        | ((conv => whnf); with_reducible apply Both.mk))
      all_goals first
        | ((with_reducible apply Ob.mk); first | exact ⟨hd, hs⟩ | exact ⟨hs, hd⟩ | exact ⟨reg0, hd⟩ | exact ⟨reg3, hd⟩ | exact ⟨reg4, hd⟩ | exact ⟨reg6, hd⟩ | exact ⟨ha, hd⟩)
        | (with_reducible apply Ob.mk; kernel_rfl)
        | (with_reducible apply Ob.mk; decide)
        | ((with_reducible apply Ob.mk); first | exact ⟨by decide, by decide⟩ | (show 1 ≤ 20 ∧ 1 ≤ 20; decide) | (show 1 ≤ 20 ∧ 2 ≤ 20; decide) | (show 0 ≤ 20 ∧ 1 ≤ 20; decide))
        | ((with_reducible apply Ob.mk); (refine lt_sz ?_ ?_) <;> (repeat' (first | ((with_reducible refine rx_le _ _ _ _ ?_); decide) | ((with_reducible refine mr_le _ _ _ ?_); decide) | ((with_reducible refine b4_le _ ?_); decide) | ((with_reducible refine b1_le _ ?_); decide) | ((with_reducible refine b8_le _ ?_); decide) | ((with_reducible refine me_le _ _ _ ?_); decide) | (with_reducible refine cat10 ?_ ?_) | (with_reducible refine cat5 ?_ ?_) | (with_reducible refine cat20 ?_ ?_) | decide | (show 1 ≤ 100; decide) | (show 2 ≤ 100; decide) | (show 1 ≤ 80; decide) | (show 2 ≤ 80; decide) | (show 1 ≤ 20; decide) | (show 2 ≤ 20; decide) | (show 1 ≤ 5; decide) | (show 2 ≤ 5; decide))); done)
        | ((conv => whnf); refine ⟨?_⟩; refine congrArg (a₂ := en12 _ _ _ _ _ _ _ _ _ _) (fun x => AV.tup [(false, [.str x]), (false, [.b64 true 0#64])]) ?_; unfold en12; simp only [cat0, cat_0, cat0]; first | rfl | (simp only [cat0, cat_0, cond_true, cond_false, Bool.and_true, Bool.and_false, Bool.true_and]; rfl))
        | ((conv => whnf); skip)
set_option maxRecDepth 100000 in
set_option maxHeartbeats 4000000 in
theorem enr_13 (D2 : VData) (m : Nat → Nat) (al cc sz : BitVec 64) (w sh : Bool) (d s : BitVec 64) (dp rl : BitVec 32) (im : BitVec 64) : F Tryd.prog (TB m D2) Tryd.f19 [.agg [.b64 true 13#64, .b64 true al, .b64 true cc, .b64 true sz, .bool w, .bool sh, .b64 true d, .b64 true s, .b32 true dp, .b32 true rl, .b64 true im]] (fun r => r = .tup [(false, [.str (if v13 al cc sz w sh d s dp rl im then en13 al cc sz w sh d s dp rl im else s0)]), (false, [.b64 true (if v13 al cc sz w sh d s dp rl im then 0#64 else 2#64)])]) := by
  cases hv : v13 al cc sz w sh d s dp rl im with
  | false =>
    have hw : vld 13#64 al cc sz w sh d s dp rl im = false := hv
    repeat' (first
      | (with_reducible apply Given.mk; intro h; (try simp only [hw, Bool.not_false, Bool.true_eq_false] at h); (try exact absurd h (by decide)))
      | ((conv => whnf); with_reducible apply Both.mk))
    all_goals first
      | (with_reducible apply Ob.mk; kernel_rfl)
      | ((conv => whnf); exact ⟨rfl⟩)
      | ((conv => whnf); skip)
  | true =>
    have hw : vld 13#64 al cc sz w sh d s dp rl im = true := hv
    have hp := hv
    unfold v13 at hp
    simp only [Bool.and_eq_true, Bool.not_eq_true', Bool.or_eq_true] at hp
    have hd : regB d = true := hp.2.1
    have hs : regB s = true := hp.2.2
    rcases size_in (hp.1.1.2) with rfl | rfl | rfl | rfl
    all_goals clear hp
    all_goals
      repeat' (first
        | (with_reducible apply Given.mk; intro h; (try simp only [hw, Bool.not_true, Bool.false_eq_true] at h); (try exact absurd h (by decide)))
        | ((conv => whnf); with_reducible apply Both.mk))
      all_goals first
        | ((with_reducible apply Ob.mk); first | exact ⟨hd, hs⟩ | exact ⟨hs, hd⟩ | exact ⟨reg0, hd⟩ | exact ⟨reg3, hd⟩ | exact ⟨reg4, hd⟩ | exact ⟨reg6, hd⟩ | exact ⟨ha, hd⟩)
        | (with_reducible apply Ob.mk; kernel_rfl)
        | (with_reducible apply Ob.mk; decide)
        | ((with_reducible apply Ob.mk); first | exact ⟨by decide, by decide⟩ | (show 1 ≤ 20 ∧ 1 ≤ 20; decide) | (show 1 ≤ 20 ∧ 2 ≤ 20; decide) | (show 0 ≤ 20 ∧ 1 ≤ 20; decide))
        | ((with_reducible apply Ob.mk); (refine lt_sz ?_ ?_) <;> (repeat' (first | ((with_reducible refine rx_le _ _ _ _ ?_); decide) | ((with_reducible refine mr_le _ _ _ ?_); decide) | ((with_reducible refine b4_le _ ?_); decide) | ((with_reducible refine b1_le _ ?_); decide) | ((with_reducible refine b8_le _ ?_); decide) | ((with_reducible refine me_le _ _ _ ?_); decide) | (with_reducible refine cat10 ?_ ?_) | (with_reducible refine cat5 ?_ ?_) | (with_reducible refine cat20 ?_ ?_) | decide | (show 1 ≤ 100; decide) | (show 2 ≤ 100; decide) | (show 1 ≤ 80; decide) | (show 2 ≤ 80; decide) | (show 1 ≤ 20; decide) | (show 2 ≤ 20; decide) | (show 1 ≤ 5; decide) | (show 2 ≤ 5; decide))); done)
        | ((conv => whnf); refine ⟨?_⟩; refine congrArg (a₂ := en13 _ _ _ _ _ _ _ _ _ _) (fun x => AV.tup [(false, [.str x]), (false, [.b64 true 0#64])]) ?_; unfold en13; simp only [cat0, cat_0, cat0]; first | rfl | (simp only [cat0, cat_0, cond_true, cond_false, Bool.and_true, Bool.and_false, Bool.true_and]; rfl))
        | ((conv => whnf); skip)
set_option maxRecDepth 100000 in
set_option maxHeartbeats 4000000 in
theorem enr_14 (D2 : VData) (m : Nat → Nat) (al cc sz : BitVec 64) (w sh : Bool) (d s : BitVec 64) (dp rl : BitVec 32) (im : BitVec 64) : F Tryd.prog (TB m D2) Tryd.f19 [.agg [.b64 true 14#64, .b64 true al, .b64 true cc, .b64 true sz, .bool w, .bool sh, .b64 true d, .b64 true s, .b32 true dp, .b32 true rl, .b64 true im]] (fun r => r = .tup [(false, [.str (if v14 al cc sz w sh d s dp rl im then en14 al cc sz w sh d s dp rl im else s0)]), (false, [.b64 true (if v14 al cc sz w sh d s dp rl im then 0#64 else 2#64)])]) := by
  cases hv : v14 al cc sz w sh d s dp rl im with
  | false =>
    have hw : vld 14#64 al cc sz w sh d s dp rl im = false := hv
    repeat' (first
      | (with_reducible apply Given.mk; intro h; (try simp only [hw, Bool.not_false, Bool.true_eq_false] at h); (try exact absurd h (by decide)))
      | ((conv => whnf); with_reducible apply Both.mk))
    all_goals first
      | (with_reducible apply Ob.mk; kernel_rfl)
      | ((conv => whnf); exact ⟨rfl⟩)
      | ((conv => whnf); skip)
  | true =>
    have hw : vld 14#64 al cc sz w sh d s dp rl im = true := hv
    have hp := hv
    unfold v14 at hp
    simp only [Bool.and_eq_true, Bool.not_eq_true', Bool.or_eq_true] at hp
    have hd : regB d = true := hp.2.1
    have hs : regB s = true := hp.2.2
    rcases size_in (hp.1.1.2) with rfl | rfl | rfl | rfl
    all_goals clear hp
    all_goals
      repeat' (first
        | (with_reducible apply Given.mk; intro h; (try simp only [hw, Bool.not_true, Bool.false_eq_true] at h); (try exact absurd h (by decide)))
        | ((conv => whnf); with_reducible apply Both.mk))
      all_goals first
        | ((with_reducible apply Ob.mk); first | exact ⟨hd, hs⟩ | exact ⟨hs, hd⟩ | exact ⟨reg0, hd⟩ | exact ⟨reg3, hd⟩ | exact ⟨reg4, hd⟩ | exact ⟨reg6, hd⟩ | exact ⟨ha, hd⟩)
        | (with_reducible apply Ob.mk; kernel_rfl)
        | (with_reducible apply Ob.mk; decide)
        | ((with_reducible apply Ob.mk); first | exact ⟨by decide, by decide⟩ | (show 1 ≤ 20 ∧ 1 ≤ 20; decide) | (show 1 ≤ 20 ∧ 2 ≤ 20; decide) | (show 0 ≤ 20 ∧ 1 ≤ 20; decide))
        | ((with_reducible apply Ob.mk); (refine lt_sz ?_ ?_) <;> (repeat' (first | ((with_reducible refine rx_le _ _ _ _ ?_); decide) | ((with_reducible refine mr_le _ _ _ ?_); decide) | ((with_reducible refine b4_le _ ?_); decide) | ((with_reducible refine b1_le _ ?_); decide) | ((with_reducible refine b8_le _ ?_); decide) | ((with_reducible refine me_le _ _ _ ?_); decide) | (with_reducible refine cat10 ?_ ?_) | (with_reducible refine cat5 ?_ ?_) | (with_reducible refine cat20 ?_ ?_) | decide | (show 1 ≤ 100; decide) | (show 2 ≤ 100; decide) | (show 1 ≤ 80; decide) | (show 2 ≤ 80; decide) | (show 1 ≤ 20; decide) | (show 2 ≤ 20; decide) | (show 1 ≤ 5; decide) | (show 2 ≤ 5; decide))); done)
        | ((conv => whnf); refine ⟨?_⟩; refine congrArg (a₂ := en14 _ _ _ _ _ _ _ _ _ _) (fun x => AV.tup [(false, [.str x]), (false, [.b64 true 0#64])]) ?_; unfold en14; simp only [cat0, cat_0, cat0]; first | rfl | (simp only [cat0, cat_0, cond_true, cond_false, Bool.and_true, Bool.and_false, Bool.true_and]; rfl))
        | ((conv => whnf); skip)
set_option maxRecDepth 100000 in
set_option maxHeartbeats 4000000 in
theorem enr_15 (D2 : VData) (m : Nat → Nat) (al cc sz : BitVec 64) (w sh : Bool) (d s : BitVec 64) (dp rl : BitVec 32) (im : BitVec 64) : F Tryd.prog (TB m D2) Tryd.f19 [.agg [.b64 true 15#64, .b64 true al, .b64 true cc, .b64 true sz, .bool w, .bool sh, .b64 true d, .b64 true s, .b32 true dp, .b32 true rl, .b64 true im]] (fun r => r = .tup [(false, [.str (if v15 al cc sz w sh d s dp rl im then en15 al cc sz w sh d s dp rl im else s0)]), (false, [.b64 true (if v15 al cc sz w sh d s dp rl im then 0#64 else 2#64)])]) := by
  cases hv : v15 al cc sz w sh d s dp rl im with
  | false =>
    have hw : vld 15#64 al cc sz w sh d s dp rl im = false := hv
    repeat' (first
      | (with_reducible apply Given.mk; intro h; (try simp only [hw, Bool.not_false, Bool.true_eq_false] at h); (try exact absurd h (by decide)))
      | ((conv => whnf); with_reducible apply Both.mk))
    all_goals first
      | (with_reducible apply Ob.mk; kernel_rfl)
      | ((conv => whnf); exact ⟨rfl⟩)
      | ((conv => whnf); skip)
  | true =>
    have hw : vld 15#64 al cc sz w sh d s dp rl im = true := hv
    have hp := hv
    unfold v15 at hp
    simp only [Bool.and_eq_true, Bool.not_eq_true', Bool.or_eq_true] at hp
    have hd : regB d = true := hp.2.1
    have hs : regB s = true := hp.2.2
    obtain rfl : w = false := by simp_all
    cases sh
    all_goals clear hp
    all_goals
      repeat' (first
        | (with_reducible apply Given.mk; intro h; (try simp only [hw, Bool.not_true, Bool.false_eq_true] at h); (try exact absurd h (by decide)))
        | ((conv => whnf); with_reducible apply Both.mk))
      all_goals first
        | ((with_reducible apply Ob.mk); first | exact ⟨hd, hs⟩ | exact ⟨hs, hd⟩ | exact ⟨reg0, hd⟩ | exact ⟨reg3, hd⟩ | exact ⟨reg4, hd⟩ | exact ⟨reg6, hd⟩ | exact ⟨ha, hd⟩)
        | (with_reducible apply Ob.mk; kernel_rfl)
        | (with_reducible apply Ob.mk; decide)
        | ((with_reducible apply Ob.mk); first | exact ⟨by decide, by decide⟩ | (show 1 ≤ 20 ∧ 1 ≤ 20; decide) | (show 1 ≤ 20 ∧ 2 ≤ 20; decide) | (show 0 ≤ 20 ∧ 1 ≤ 20; decide))
        | ((with_reducible apply Ob.mk); (refine lt_sz ?_ ?_) <;> (repeat' (first | ((with_reducible refine rx_le _ _ _ _ ?_); decide) | ((with_reducible refine mr_le _ _ _ ?_); decide) | ((with_reducible refine b4_le _ ?_); decide) | ((with_reducible refine b1_le _ ?_); decide) | ((with_reducible refine b8_le _ ?_); decide) | ((with_reducible refine me_le _ _ _ ?_); decide) | (with_reducible refine cat10 ?_ ?_) | (with_reducible refine cat5 ?_ ?_) | (with_reducible refine cat20 ?_ ?_) | decide | (show 1 ≤ 100; decide) | (show 2 ≤ 100; decide) | (show 1 ≤ 80; decide) | (show 2 ≤ 80; decide) | (show 1 ≤ 20; decide) | (show 2 ≤ 20; decide) | (show 1 ≤ 5; decide) | (show 2 ≤ 5; decide))); done)
        | ((conv => whnf); refine ⟨?_⟩; refine congrArg (a₂ := en15 _ _ _ _ _ _ _ _ _ _) (fun x => AV.tup [(false, [.str x]), (false, [.b64 true 0#64])]) ?_; unfold en15; simp only [cat0, cat_0, cat0]; first | rfl | (simp only [cat0, cat_0, cond_true, cond_false, Bool.and_true, Bool.and_false, Bool.true_and]; rfl))
        | ((conv => whnf); skip)
set_option maxRecDepth 100000 in
set_option maxHeartbeats 4000000 in
theorem enr_16 (D2 : VData) (m : Nat → Nat) (al cc sz : BitVec 64) (w sh : Bool) (d s : BitVec 64) (dp rl : BitVec 32) (im : BitVec 64) : F Tryd.prog (TB m D2) Tryd.f19 [.agg [.b64 true 16#64, .b64 true al, .b64 true cc, .b64 true sz, .bool w, .bool sh, .b64 true d, .b64 true s, .b32 true dp, .b32 true rl, .b64 true im]] (fun r => r = .tup [(false, [.str (if v16 al cc sz w sh d s dp rl im then en16 al cc sz w sh d s dp rl im else s0)]), (false, [.b64 true (if v16 al cc sz w sh d s dp rl im then 0#64 else 2#64)])]) := by
  cases hv : v16 al cc sz w sh d s dp rl im with
  | false =>
    have hw : vld 16#64 al cc sz w sh d s dp rl im = false := hv
    repeat' (first
      | (with_reducible apply Given.mk; intro h; (try simp only [hw, Bool.not_false, Bool.true_eq_false] at h); (try exact absurd h (by decide)))
      | ((conv => whnf); with_reducible apply Both.mk))
    all_goals first
      | (with_reducible apply Ob.mk; kernel_rfl)
      | ((conv => whnf); exact ⟨rfl⟩)
      | ((conv => whnf); skip)
  | true =>
    have hw : vld 16#64 al cc sz w sh d s dp rl im = true := hv
    have hp := hv
    unfold v16 at hp
    simp only [Bool.and_eq_true, Bool.not_eq_true', Bool.or_eq_true] at hp
    have hd : regB d = true := hp.2.1
    have hs : regB s = true := hp.2.2
    have hc : condB cc = true := hp.1.2
    obtain rfl : w = false := by simp_all
    cases sh
    all_goals clear hp
    all_goals
      repeat' (first
        | (with_reducible apply Given.mk; intro h; (try simp only [hw, Bool.not_true, Bool.false_eq_true] at h); (try exact absurd h (by decide)))
        | ((conv => whnf); with_reducible apply Both.mk))
      all_goals first
        | ((with_reducible apply Ob.mk); first | exact ⟨hd, hs⟩ | exact ⟨hs, hd⟩ | exact ⟨reg0, hd⟩ | exact ⟨reg3, hd⟩ | exact ⟨reg4, hd⟩ | exact ⟨reg6, hd⟩ | exact ⟨ha, hd⟩)
        | (with_reducible apply Ob.mk; kernel_rfl)
        | (with_reducible apply Ob.mk; decide)
        | ((with_reducible apply Ob.mk); first | exact ⟨by decide, by decide⟩ | (show 1 ≤ 20 ∧ 1 ≤ 20; decide) | (show 1 ≤ 20 ∧ 2 ≤ 20; decide) | (show 0 ≤ 20 ∧ 1 ≤ 20; decide))
        | ((with_reducible apply Ob.mk); (refine lt_sz ?_ ?_) <;> (repeat' (first | ((with_reducible refine rx_le _ _ _ _ ?_); decide) | ((with_reducible refine mr_le _ _ _ ?_); decide) | ((with_reducible refine b4_le _ ?_); decide) | ((with_reducible refine b1_le _ ?_); decide) | ((with_reducible refine b8_le _ ?_); decide) | ((with_reducible refine me_le _ _ _ ?_); decide) | (with_reducible refine cat10 ?_ ?_) | (with_reducible refine cat5 ?_ ?_) | (with_reducible refine cat20 ?_ ?_) | decide | (show 1 ≤ 100; decide) | (show 2 ≤ 100; decide) | (show 1 ≤ 80; decide) | (show 2 ≤ 80; decide) | (show 1 ≤ 20; decide) | (show 2 ≤ 20; decide) | (show 1 ≤ 5; decide) | (show 2 ≤ 5; decide))); done)
        | ((conv => whnf); refine ⟨?_⟩; refine congrArg (a₂ := en16 _ _ _ _ _ _ _ _ _ _) (fun x => AV.tup [(false, [.str x]), (false, [.b64 true 0#64])]) ?_; unfold en16; simp only [cat0, cat_0, b70_eq hc, b80_eq hc]; first | rfl | (simp only [cat0, cat_0, cond_true, cond_false, Bool.and_true, Bool.and_false, Bool.true_and]; rfl))
        | ((conv => whnf); skip)
set_option maxRecDepth 100000 in
set_option maxHeartbeats 4000000 in
theorem enr_17 (D2 : VData) (m : Nat → Nat) (al cc sz : BitVec 64) (w sh : Bool) (d s : BitVec 64) (dp rl : BitVec 32) (im : BitVec 64) : F Tryd.prog (TB m D2) Tryd.f19 [.agg [.b64 true 17#64, .b64 true al, .b64 true cc, .b64 true sz, .bool w, .bool sh, .b64 true d, .b64 true s, .b32 true dp, .b32 true rl, .b64 true im]] (fun r => r = .tup [(false, [.str (if v17 al cc sz w sh d s dp rl im then en17 al cc sz w sh d s dp rl im else s0)]), (false, [.b64 true (if v17 al cc sz w sh d s dp rl im then 0#64 else 2#64)])]) := by
  cases hv : v17 al cc sz w sh d s dp rl im with
  | false =>
    have hw : vld 17#64 al cc sz w sh d s dp rl im = false := hv
    repeat' (first
      | (with_reducible apply Given.mk; intro h; (try simp only [hw, Bool.not_false, Bool.true_eq_false] at h); (try exact absurd h (by decide)))
      | ((conv => whnf); with_reducible apply Both.mk))
    all_goals first
      | (with_reducible apply Ob.mk; kernel_rfl)
      | ((conv => whnf); exact ⟨rfl⟩)
      | ((conv => whnf); skip)
  | true =>
    have hw : vld 17#64 al cc sz w sh d s dp rl im = true := hv
    have hp := hv
    unfold v17 at hp
    simp only [Bool.and_eq_true, Bool.not_eq_true', Bool.or_eq_true] at hp
    have hd : regB d = true := hp.2.1
    have hs : regB s = true := hp.2.2
    obtain rfl : w = false := by simp_all
    all_goals clear hp
    all_goals
      repeat' (first
        | (with_reducible apply Given.mk; intro h; (try simp only [hw, Bool.not_true, Bool.false_eq_true] at h); (try exact absurd h (by decide)))
        | ((conv => whnf); with_reducible apply Both.mk))
      all_goals first
        | ((with_reducible apply Ob.mk); first | exact ⟨hd, hs⟩ | exact ⟨hs, hd⟩ | exact ⟨reg0, hd⟩ | exact ⟨reg3, hd⟩ | exact ⟨reg4, hd⟩ | exact ⟨reg6, hd⟩ | exact ⟨ha, hd⟩)
        | (with_reducible apply Ob.mk; kernel_rfl)
        | (with_reducible apply Ob.mk; decide)
        | ((with_reducible apply Ob.mk); first | exact ⟨by decide, by decide⟩ | (show 1 ≤ 20 ∧ 1 ≤ 20; decide) | (show 1 ≤ 20 ∧ 2 ≤ 20; decide) | (show 0 ≤ 20 ∧ 1 ≤ 20; decide))
        | ((with_reducible apply Ob.mk); (refine lt_sz ?_ ?_) <;> (repeat' (first | ((with_reducible refine rx_le _ _ _ _ ?_); decide) | ((with_reducible refine mr_le _ _ _ ?_); decide) | ((with_reducible refine b4_le _ ?_); decide) | ((with_reducible refine b1_le _ ?_); decide) | ((with_reducible refine b8_le _ ?_); decide) | ((with_reducible refine me_le _ _ _ ?_); decide) | (with_reducible refine cat10 ?_ ?_) | (with_reducible refine cat5 ?_ ?_) | (with_reducible refine cat20 ?_ ?_) | decide | (show 1 ≤ 100; decide) | (show 2 ≤ 100; decide) | (show 1 ≤ 80; decide) | (show 2 ≤ 80; decide) | (show 1 ≤ 20; decide) | (show 2 ≤ 20; decide) | (show 1 ≤ 5; decide) | (show 2 ≤ 5; decide))); done)
        | ((conv => whnf); refine ⟨?_⟩; refine congrArg (a₂ := en17 _ _ _ _ _ _ _ _ _ _) (fun x => AV.tup [(false, [.str x]), (false, [.b64 true 0#64])]) ?_; unfold en17; simp only [cat0, cat_0, b50_eq hd]; first | rfl | (simp only [cat0, cat_0, cond_true, cond_false, Bool.and_true, Bool.and_false, Bool.true_and]; rfl))
        | ((conv => whnf); skip)
set_option maxRecDepth 100000 in
set_option maxHeartbeats 4000000 in
theorem enr_18 (D2 : VData) (m : Nat → Nat) (al cc sz : BitVec 64) (w sh : Bool) (d s : BitVec 64) (dp rl : BitVec 32) (im : BitVec 64) : F Tryd.prog (TB m D2) Tryd.f19 [.agg [.b64 true 18#64, .b64 true al, .b64 true cc, .b64 true sz, .bool w, .bool sh, .b64 true d, .b64 true s, .b32 true dp, .b32 true rl, .b64 true im]] (fun r => r = .tup [(false, [.str (if v18 al cc sz w sh d s dp rl im then en18 al cc sz w sh d s dp rl im else s0)]), (false, [.b64 true (if v18 al cc sz w sh d s dp rl im then 0#64 else 2#64)])]) := by
  cases hv : v18 al cc sz w sh d s dp rl im with
  | false =>
    have hw : vld 18#64 al cc sz w sh d s dp rl im = false := hv
    repeat' (first
      | (with_reducible apply Given.mk; intro h; (try simp only [hw, Bool.not_false, Bool.true_eq_false] at h); (try exact absurd h (by decide)))
      | ((conv => whnf); with_reducible apply Both.mk))
    all_goals first
      | (with_reducible apply Ob.mk; kernel_rfl)
      | ((conv => whnf); exact ⟨rfl⟩)
      | ((conv => whnf); skip)
  | true =>
    have hw : vld 18#64 al cc sz w sh d s dp rl im = true := hv
    have hp := hv
    unfold v18 at hp
    simp only [Bool.and_eq_true, Bool.not_eq_true', Bool.or_eq_true] at hp
    have hd : regB d = true := hp.2.1
    have hs : regB s = true := hp.2.2
    obtain rfl : w = false := by simp_all
    all_goals clear hp
    all_goals
      repeat' (first
        | (with_reducible apply Given.mk; intro h; (try simp only [hw, Bool.not_true, Bool.false_eq_true] at h); (try exact absurd h (by decide)))
        | ((conv => whnf); with_reducible apply Both.mk))
      all_goals first
        | ((with_reducible apply Ob.mk); first | exact ⟨hd, hs⟩ | exact ⟨hs, hd⟩ | exact ⟨reg0, hd⟩ | exact ⟨reg3, hd⟩ | exact ⟨reg4, hd⟩ | exact ⟨reg6, hd⟩ | exact ⟨ha, hd⟩)
        | (with_reducible apply Ob.mk; kernel_rfl)
        | (with_reducible apply Ob.mk; decide)
        | ((with_reducible apply Ob.mk); first | exact ⟨by decide, by decide⟩ | (show 1 ≤ 20 ∧ 1 ≤ 20; decide) | (show 1 ≤ 20 ∧ 2 ≤ 20; decide) | (show 0 ≤ 20 ∧ 1 ≤ 20; decide))
        | ((with_reducible apply Ob.mk); (refine lt_sz ?_ ?_) <;> (repeat' (first | ((with_reducible refine rx_le _ _ _ _ ?_); decide) | ((with_reducible refine mr_le _ _ _ ?_); decide) | ((with_reducible refine b4_le _ ?_); decide) | ((with_reducible refine b1_le _ ?_); decide) | ((with_reducible refine b8_le _ ?_); decide) | ((with_reducible refine me_le _ _ _ ?_); decide) | (with_reducible refine cat10 ?_ ?_) | (with_reducible refine cat5 ?_ ?_) | (with_reducible refine cat20 ?_ ?_) | decide | (show 1 ≤ 100; decide) | (show 2 ≤ 100; decide) | (show 1 ≤ 80; decide) | (show 2 ≤ 80; decide) | (show 1 ≤ 20; decide) | (show 2 ≤ 20; decide) | (show 1 ≤ 5; decide) | (show 2 ≤ 5; decide))); done)
        | ((conv => whnf); refine ⟨?_⟩; refine congrArg (a₂ := en18 _ _ _ _ _ _ _ _ _ _) (fun x => AV.tup [(false, [.str x]), (false, [.b64 true 0#64])]) ?_; unfold en18; simp only [cat0, cat_0, b58_eq hd]; first | rfl | (simp only [cat0, cat_0, cond_true, cond_false, Bool.and_true, Bool.and_false, Bool.true_and]; rfl))
        | ((conv => whnf); skip)
set_option maxRecDepth 100000 in
set_option maxHeartbeats 4000000 in
theorem enr_19 (D2 : VData) (m : Nat → Nat) (al cc sz : BitVec 64) (w sh : Bool) (d s : BitVec 64) (dp rl : BitVec 32) (im : BitVec 64) : F Tryd.prog (TB m D2) Tryd.f19 [.agg [.b64 true 19#64, .b64 true al, .b64 true cc, .b64 true sz, .bool w, .bool sh, .b64 true d, .b64 true s, .b32 true dp, .b32 true rl, .b64 true im]] (fun r => r = .tup [(false, [.str (if v19 al cc sz w sh d s dp rl im then en19 al cc sz w sh d s dp rl im else s0)]), (false, [.b64 true (if v19 al cc sz w sh d s dp rl im then 0#64 else 2#64)])]) := by
  cases hv : v19 al cc sz w sh d s dp rl im with
  | false =>
    have hw : vld 19#64 al cc sz w sh d s dp rl im = false := hv
    repeat' (first
      | (with_reducible apply Given.mk; intro h; (try simp only [hw, Bool.not_false, Bool.true_eq_false] at h); (try exact absurd h (by decide)))
      | ((conv => whnf); with_reducible apply Both.mk))
    all_goals first
      | (with_reducible apply Ob.mk; kernel_rfl)
      | ((conv => whnf); exact ⟨rfl⟩)
      | ((conv => whnf); skip)
  | true =>
    have hw : vld 19#64 al cc sz w sh d s dp rl im = true := hv
    have hp := hv
    unfold v19 at hp
    simp only [Bool.and_eq_true, Bool.not_eq_true', Bool.or_eq_true] at hp
    have hd : regB d = true := hp.2.1
    have hs : regB s = true := hp.2.2
    obtain rfl : w = false := by simp_all
    all_goals clear hp
    all_goals
      repeat' (first
        | (with_reducible apply Given.mk; intro h; (try simp only [hw, Bool.not_true, Bool.false_eq_true] at h); (try exact absurd h (by decide)))
        | ((conv => whnf); with_reducible apply Both.mk))
      all_goals first
        | ((with_reducible apply Ob.mk); first | exact ⟨hd, hs⟩ | exact ⟨hs, hd⟩ | exact ⟨reg0, hd⟩ | exact ⟨reg3, hd⟩ | exact ⟨reg4, hd⟩ | exact ⟨reg6, hd⟩ | exact ⟨ha, hd⟩)
        | (with_reducible apply Ob.mk; kernel_rfl)
        | (with_reducible apply Ob.mk; decide)
        | ((with_reducible apply Ob.mk); first | exact ⟨by decide, by decide⟩ | (show 1 ≤ 20 ∧ 1 ≤ 20; decide) | (show 1 ≤ 20 ∧ 2 ≤ 20; decide) | (show 0 ≤ 20 ∧ 1 ≤ 20; decide))
        | ((with_reducible apply Ob.mk); (refine lt_sz ?_ ?_) <;> (repeat' (first | ((with_reducible refine rx_le _ _ _ _ ?_); decide) | ((with_reducible refine mr_le _ _ _ ?_); decide) | ((with_reducible refine b4_le _ ?_); decide) | ((with_reducible refine b1_le _ ?_); decide) | ((with_reducible refine b8_le _ ?_); decide) | ((with_reducible refine me_le _ _ _ ?_); decide) | (with_reducible refine cat10 ?_ ?_) | (with_reducible refine cat5 ?_ ?_) | (with_reducible refine cat20 ?_ ?_) | decide | (show 1 ≤ 100; decide) | (show 2 ≤ 100; decide) | (show 1 ≤ 80; decide) | (show 2 ≤ 80; decide) | (show 1 ≤ 20; decide) | (show 2 ≤ 20; decide) | (show 1 ≤ 5; decide) | (show 2 ≤ 5; decide))); done)
        | ((conv => whnf); refine ⟨?_⟩; refine congrArg (a₂ := en19 _ _ _ _ _ _ _ _ _ _) (fun x => AV.tup [(false, [.str x]), (false, [.b64 true 0#64])]) ?_; unfold en19; simp only [cat0, cat_0, cat0]; first | rfl | (simp only [cat0, cat_0, cond_true, cond_false, Bool.and_true, Bool.and_false, Bool.true_and]; rfl))
        | ((conv => whnf); skip)
set_option maxRecDepth 100000 in
set_option maxHeartbeats 4000000 in
theorem enr_20 (D2 : VData) (m : Nat → Nat) (al cc sz : BitVec 64) (w sh : Bool) (d s : BitVec 64) (dp rl : BitVec 32) (im : BitVec 64) : F Tryd.prog (TB m D2) Tryd.f19 [.agg [.b64 true 20#64, .b64 true al, .b64 true cc, .b64 true sz, .bool w, .bool sh, .b64 true d, .b64 true s, .b32 true dp, .b32 true rl, .b64 true im]] (fun r => r = .tup [(false, [.str (if v20 al cc sz w sh d s dp rl im then en20 al cc sz w sh d s dp rl im else s0)]), (false, [.b64 true (if v20 al cc sz w sh d s dp rl im then 0#64 else 2#64)])]) := by
  cases hv : v20 al cc sz w sh d s dp rl im with
  | false =>
    have hw : vld 20#64 al cc sz w sh d s dp rl im = false := hv
    repeat' (first
      | (with_reducible apply Given.mk; intro h; (try simp only [hw, Bool.not_false, Bool.true_eq_false] at h); (try exact absurd h (by decide)))
      | ((conv => whnf); with_reducible apply Both.mk))
    all_goals first
      | (with_reducible apply Ob.mk; kernel_rfl)
      | ((conv => whnf); exact ⟨rfl⟩)
      | ((conv => whnf); skip)
  | true =>
    have hw : vld 20#64 al cc sz w sh d s dp rl im = true := hv
    have hp := hv
    unfold v20 at hp
    simp only [Bool.and_eq_true, Bool.not_eq_true', Bool.or_eq_true] at hp
    have hd : regB d = true := hp.2.1
    have hs : regB s = true := hp.2.2
    obtain rfl : w = false := by simp_all
    obtain rfl : sh = false := by simp_all
    all_goals clear hp
    all_goals
      repeat' (first
        | (with_reducible apply Given.mk; intro h; (try simp only [hw, Bool.not_true, Bool.false_eq_true] at h); (try exact absurd h (by decide)))
        | ((conv => whnf); with_reducible apply Both.mk))
      all_goals first
        | ((with_reducible apply Ob.mk); first | exact ⟨hd, hs⟩ | exact ⟨hs, hd⟩ | exact ⟨reg0, hd⟩ | exact ⟨reg3, hd⟩ | exact ⟨reg4, hd⟩ | exact ⟨reg6, hd⟩ | exact ⟨ha, hd⟩)
        | (with_reducible apply Ob.mk; kernel_rfl)
        | (with_reducible apply Ob.mk; decide)
        | ((with_reducible apply Ob.mk); first | exact ⟨by decide, by decide⟩ | (show 1 ≤ 20 ∧ 1 ≤ 20; decide) | (show 1 ≤ 20 ∧ 2 ≤ 20; decide) | (show 0 ≤ 20 ∧ 1 ≤ 20; decide))
        | ((with_reducible apply Ob.mk); (refine lt_sz ?_ ?_) <;> (repeat' (first | ((with_reducible refine rx_le _ _ _ _ ?_); decide) | ((with_reducible refine mr_le _ _ _ ?_); decide) | ((with_reducible refine b4_le _ ?_); decide) | ((with_reducible refine b1_le _ ?_); decide) | ((with_reducible refine b8_le _ ?_); decide) | ((with_reducible refine me_le _ _ _ ?_); decide) | (with_reducible refine cat10 ?_ ?_) | (with_reducible refine cat5 ?_ ?_) | (with_reducible refine cat20 ?_ ?_) | decide | (show 1 ≤ 100; decide) | (show 2 ≤ 100; decide) | (show 1 ≤ 80; decide) | (show 2 ≤ 80; decide) | (show 1 ≤ 20; decide) | (show 2 ≤ 20; decide) | (show 1 ≤ 5; decide) | (show 2 ≤ 5; decide))); done)
        | ((conv => whnf); refine ⟨?_⟩; refine congrArg (a₂ := en20 _ _ _ _ _ _ _ _ _ _) (fun x => AV.tup [(false, [.str x]), (false, [.b64 true 0#64])]) ?_; unfold en20; simp only [cat0, cat_0, cat0]; first | rfl | (simp only [cat0, cat_0, cond_true, cond_false, Bool.and_true, Bool.and_false, Bool.true_and]; rfl))
        | ((conv => whnf); skip)
set_option maxRecDepth 100000 in
set_option maxHeartbeats 4000000 in
theorem enr_21 (D2 : VData) (m : Nat → Nat) (al cc sz : BitVec 64) (w sh : Bool) (d s : BitVec 64) (dp rl : BitVec 32) (im : BitVec 64) : F Tryd.prog (TB m D2) Tryd.f19 [.agg [.b64 true 21#64, .b64 true al, .b64 true cc, .b64 true sz, .bool w, .bool sh, .b64 true d, .b64 true s, .b32 true dp, .b32 true rl, .b64 true im]] (fun r => r = .tup [(false, [.str (if v21 al cc sz w sh d s dp rl im then en21 al cc sz w sh d s dp rl im else s0)]), (false, [.b64 true (if v21 al cc sz w sh d s dp rl im then 0#64 else 2#64)])]) := by
  cases hv : v21 al cc sz w sh d s dp rl im with
  | false =>
    have hw : vld 21#64 al cc sz w sh d s dp rl im = false := hv
    repeat' (first
      | (with_reducible apply Given.mk; intro h; (try simp only [hw, Bool.not_false, Bool.true_eq_false] at h); (try exact absurd h (by decide)))
      | ((conv => whnf); with_reducible apply Both.mk))
    all_goals first
      | (with_reducible apply Ob.mk; kernel_rfl)
      | ((conv => whnf); exact ⟨rfl⟩)
      | ((conv => whnf); skip)
  | true =>
    have hw : vld 21#64 al cc sz w sh d s dp rl im = true := hv
    have hp := hv
    unfold v21 at hp
    simp only [Bool.and_eq_true, Bool.not_eq_true', Bool.or_eq_true] at hp
    have hd : regB d = true := hp.2.1
    have hs : regB s = true := hp.2.2
    obtain rfl : w = false := by simp_all
    all_goals clear hp
    all_goals
      repeat' (first
        | (with_reducible apply Given.mk; intro h; (try simp only [hw, Bool.not_true, Bool.false_eq_true] at h); (try exact absurd h (by decide)))
        | ((conv => whnf); with_reducible apply Both.mk))
      all_goals first
        | ((with_reducible apply Ob.mk); first | exact ⟨hd, hs⟩ | exact ⟨hs, hd⟩ | exact ⟨reg0, hd⟩ | exact ⟨reg3, hd⟩ | exact ⟨reg4, hd⟩ | exact ⟨reg6, hd⟩ | exact ⟨ha, hd⟩)
        | (with_reducible apply Ob.mk; kernel_rfl)
        | (with_reducible apply Ob.mk; decide)
        | ((with_reducible apply Ob.mk); first | exact ⟨by decide, by decide⟩ | (show 1 ≤ 20 ∧ 1 ≤ 20; decide) | (show 1 ≤ 20 ∧ 2 ≤ 20; decide) | (show 0 ≤ 20 ∧ 1 ≤ 20; decide))
        | ((with_reducible apply Ob.mk); (refine lt_sz ?_ ?_) <;> (repeat' (first | ((with_reducible refine rx_le _ _ _ _ ?_); decide) | ((with_reducible refine mr_le _ _ _ ?_); decide) | ((with_reducible refine b4_le _ ?_); decide) | ((with_reducible refine b1_le _ ?_); decide) | ((with_reducible refine b8_le _ ?_); decide) | ((with_reducible refine me_le _ _ _ ?_); decide) | (with_reducible refine cat10 ?_ ?_) | (with_reducible refine cat5 ?_ ?_) | (with_reducible refine cat20 ?_ ?_) | decide | (show 1 ≤ 100; decide) | (show 2 ≤ 100; decide) | (show 1 ≤ 80; decide) | (show 2 ≤ 80; decide) | (show 1 ≤ 20; decide) | (show 2 ≤ 20; decide) | (show 1 ≤ 5; decide) | (show 2 ≤ 5; decide))); done)
        | ((conv => whnf); refine ⟨?_⟩; refine congrArg (a₂ := en21 _ _ _ _ _ _ _ _ _ _) (fun x => AV.tup [(false, [.str x]), (false, [.b64 true 0#64])]) ?_; unfold en21; simp only [cat0, cat_0, cat0]; first | rfl | (simp only [cat0, cat_0, cond_true, cond_false, Bool.and_true, Bool.and_false, Bool.true_and]; rfl))
        | ((conv => whnf); skip)
def sp_rEncode : Sp
  | [.agg [.b64 true k, .b64 true al, .b64 true cc, .b64 true sz, .bool w, .bool sh, .b64 true d, .b64 true s, .b32 true dp, .b32 true rl, .b64 true im]] => some (Cond.t, .tup [(false, [.str (if vld k al cc sz w sh d s dp rl im then encB k al cc sz w sh d s dp rl im else s0)]), (false, [.b64 true (if vld k al cc sz w sh d s dp rl im then 0#64 else 2#64)])])
  | _ => none
set_option maxRecDepth 100000 in
set_option maxHeartbeats 16000000 in
theorem e_rEncode (G2 : World → Prop) (D2 : VData) (k2 : DataOK Tryd.prog G2 D2) (m : Nat → Nat) : EntryOK Tryd.prog (GN m G2) 19 sp_rEncode := by
  refine .of_F (C_rb G2 D2 k2 m) (by kernel_rfl) Tryd.func19 (by kernel_rfl) (by kernel_rfl) (fun args c v h hc => ?_)
  unfold sp_rEncode at h
  split at h
  · rename_i k al cc sz w sh d s dp rl im; cases h
    refine ⟨rfl, rfl, ?_⟩
    rcases ks k with rfl | rfl | rfl | rfl | rfl | rfl | rfl | rfl | rfl | rfl | rfl | rfl | rfl | rfl | rfl | rfl | rfl | rfl | rfl | rfl | rfl | hk
    rotate_right 1
    · rw [show vld k al cc sz w sh d s dp rl im = false from vld_none hk]
      have hw : vld k al cc sz w sh d s dp rl im = false := vld_none hk
      repeat' (first
        | (with_reducible apply Given.mk; intro h; (try simp only [hw, Bool.not_false, Bool.true_eq_false] at h); (try exact absurd h (by decide)))
        | ((conv => whnf); with_reducible apply Both.mk))
      all_goals first
        | (with_reducible apply Ob.mk; kernel_rfl)
        | ((conv => whnf); exact ⟨rfl⟩)
        | ((conv => whnf); skip)
    · exact enr_1 D2 m al cc sz w sh d s dp rl im
    · exact enr_2 D2 m al cc sz w sh d s dp rl im
    · exact enr_3 D2 m al cc sz w sh d s dp rl im
    · exact enr_4 D2 m al cc sz w sh d s dp rl im
    · exact enr_5 D2 m al cc sz w sh d s dp rl im
    · exact enr_6 D2 m al cc sz w sh d s dp rl im
    · exact enr_7 D2 m al cc sz w sh d s dp rl im
    · exact enr_8 D2 m al cc sz w sh d s dp rl im
    · exact enr_9 D2 m al cc sz w sh d s dp rl im
    · exact enr_10 D2 m al cc sz w sh d s dp rl im
    · exact enr_11 D2 m al cc sz w sh d s dp rl im
    · exact enr_12 D2 m al cc sz w sh d s dp rl im
    · exact enr_13 D2 m al cc sz w sh d s dp rl im
    · exact enr_14 D2 m al cc sz w sh d s dp rl im
    · exact enr_15 D2 m al cc sz w sh d s dp rl im
    · exact enr_16 D2 m al cc sz w sh d s dp rl im
    · exact enr_17 D2 m al cc sz w sh d s dp rl im
    · exact enr_18 D2 m al cc sz w sh d s dp rl im
    · exact enr_19 D2 m al cc sz w sh d s dp rl im
    · exact enr_20 D2 m al cc sz w sh d s dp rl im
    · exact enr_21 D2 m al cc sz w sh d s dp rl im
  · cases h
abbrev tb_rEnc (m : Nat → Nat) : List (Nat × Sp) := (19, sp_rEncode) :: tb_rValid m
theorem C_rEnc (G2 : World → Prop) (D2 : VData) (k2 : DataOK Tryd.prog G2 D2) (m : Nat → Nat) : CSound Tryd.prog (GN m G2) (tab (DN m D2) (tb_rEnc m)) := (C_rValid G2 D2 k2 m).cons (e_rEncode G2 D2 k2 m)
end Go.Proofs.YtppankimieopiaaDoor
