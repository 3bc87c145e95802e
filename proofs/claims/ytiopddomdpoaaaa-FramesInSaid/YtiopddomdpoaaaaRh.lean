/-
  kinds.In, slots.place, slots.In, frames.In: what they answer, and what stands in the map of IDs then. Conditions: as typed.
-/
import Derived.Test.YtiopddomdpoaaaaRf
import Derived.Test.YtiopddomdpoaaaaQg
import Derived.Test.YtiopddomdpoaaaaPs
namespace Go.Proofs.Ytiopddomdpoaaaa
open Go.Ep Go.RowKit
set_option linter.unusedVariables false
set_option linter.unusedSimpArgs false
abbrev Ids := List (BitVec 64 × BitVec 64)
def kAlike (a b : VV) : Bool := (a.mp == b.mp && (a.off == b.off && (nIn a.n b.n && a.su.sle b.su)))
def kInB (a b : VV) (es : Ids) : Bool := if a.k == 0#64 then true else if (a.k != b.k) then false else if a.k == 1#64 then nIn a.n b.n else if (a.k == 6#64 || a.k == 7#64) then (kAlike a b && (!(mhas es a.id) || mval es a.id == b.id)) else kAlike a b
def kInE (a b : VV) (es : Ids) : Ids := if a.k == 0#64 then es else if (a.k != b.k) then es else if a.k == 1#64 then es else if (a.k == 6#64 || a.k == 7#64) then (if kAlike a b then (if mhas es a.id then es else mput es a.id b.id) else es) else es
theorem look1 {d d' : Blk} : ∀ i c, Go.Ep.look [(0, d)] i = some c → Go.Ep.look [(0, d')] i = lookU [(0, d')] i (some c) := fun i c h => by
  cases i with
  | zero => rfl
  | succ i => cases (show (none : Option Blk) = some c from h)
abbrev outK1 (b : Bool) (es' : Ids) (es : Ids) (u : AV) (g : List (Nat × Blk)) : Prop := u = .one (.bool b) ∧ ∀ i d, Go.Ep.look [(0, .imap es)] i = some d → Go.Ep.look g i = lookU [(0, .imap es')] i (some d)
theorem out1 {b b' : Bool} {e e' es : Ids} (hb : b' = b) (he : e' = e) : outK1 b' e' es (.one (.bool b)) [(0, .imap e)] := by subst hb he; exact ⟨rfl, look1⟩
theorem mhas_mval (es : Ids) (a : BitVec 64) : True := trivial
noncomputable abbrev FSm : List (Nat × Func) := [(50, Try.f50)]
theorem fs_Sm : FsOK Try.prog FSm := FsOK.cons Try.func50 (by kernel_rfl) (by kernel_rfl) FsOK.nil
set_option maxRecDepth 100000 in
set_option maxHeartbeats 8000000 in
theorem kInW (a1 a2 a3 a4 a5 aa ab ac ad ae af b1 b2 b3 b4 b5 ba bb bc bd be bf : BitVec 64) (es : Ids) :
    FI Try.prog (tabI Try.prog noData tb_firewalllaw19_value FSm 2) Try.f42 1 [.agg [.b64 true a1, .b64 true a2, .b64 true a3, .b64 true a4, .b64 true a5, .b64 false aa, .b64 false ab, .b64 false ac, .b64 false ad, .b64 true ae, .b64 true af], .agg [.b64 true b1, .b64 true b2, .b64 true b3, .b64 true b4, .b64 true b5, .b64 false ba, .b64 false bb, .b64 false bc, .b64 false bd, .b64 true be, .b64 true bf], .one (.imap 0)] [(0, .imap es)] (outK1 (kInB ⟨a1, a2, a3, a4, a5, ⟨aa, ab, ac, ad, ae, af⟩⟩ ⟨b1, b2, b3, b4, b5, ⟨ba, bb, bc, bd, be, bf⟩⟩ es) (kInE ⟨a1, a2, a3, a4, a5, ⟨aa, ab, ac, ad, ae, af⟩⟩ ⟨b1, b2, b3, b4, b5, ⟨ba, bb, bc, bd, be, bf⟩⟩ es) es) := by
  repeat' (first
    | (with_reducible apply Given.mk; intro h; (try exact absurd h (by decide)))
    | ((conv => whnf); with_reducible apply Both.mk))
  all_goals first
    | (with_reducible apply Ob.mk; kernel_rfl)
    | (with_reducible apply Ob.mk; decide)
    | ((conv => whnf); refine out1 ?_ ?_ <;> (simp only [kInB, kInE, kAlike, *, Bool.and_true, Bool.and_false, Bool.true_and, Bool.false_and, Bool.or_true, Bool.true_or, Bool.or_false, Bool.false_or, Bool.not_true, Bool.not_false, Bool.false_eq_true, Bool.true_eq_false, if_true, if_false, reduceCtorEq]; done))
    | ((conv => whnf); refine out1 ?_ ?_ <;> (simp_all [kInB, kInE, kAlike]; done))
    | ((conv => whnf); skip)
def sp_kInW : SpW
  | [.agg [.b64 true a1, .b64 true a2, .b64 true a3, .b64 true a4, .b64 true a5, .b64 false aa, .b64 false ab, .b64 false ac, .b64 false ad, .b64 true ae, .b64 true af], .agg [.b64 true b1, .b64 true b2, .b64 true b3, .b64 true b4, .b64 true b5, .b64 false ba, .b64 false bb, .b64 false bc, .b64 false bd, .b64 true be, .b64 true bf], .one (.imap 0)], [(0, .imap es)] => some (Cond.t, .one (.bool (kInB ⟨a1, a2, a3, a4, a5, ⟨aa, ab, ac, ad, ae, af⟩⟩ ⟨b1, b2, b3, b4, b5, ⟨ba, bb, bc, bd, be, bf⟩⟩ es)), [(0, .imap (kInE ⟨a1, a2, a3, a4, a5, ⟨aa, ab, ac, ad, ae, af⟩⟩ ⟨b1, b2, b3, b4, b5, ⟨ba, bb, bc, bd, be, bf⟩⟩ es))])
  | _, _ => none
set_option maxRecDepth 100000 in
set_option maxHeartbeats 8000000 in
theorem e_kInW : EntryW Try.prog anyWorld 42 sp_kInW := by
  refine .of_FI (C_firewalllaw19_value.tabI (by kernel_rfl) fs_Sm 2) (by kernel_rfl) Try.func42 (by kernel_rfl) (by kernel_rfl) (fun args ch c v ups h hc => ?_)
  unfold sp_kInW at h
  split at h
  · cases h
    exact kInW _ _ _ _ _ _ _ _ _ _ _ _ _ _ _ _ _ _ _ _ _ _ _
  · cases h
abbrev w_1 : List (Nat × SpW) := [(42, sp_kInW)]
abbrev T_1 : Table := withW (tab noData tb_firewalllaw19_value) w_1
theorem C_1 : CSound Try.prog anyWorld T_1 := C_firewalllaw19_value.withW (.cons e_kInW .nil)
def pcB (p q : BitVec 8) (a b : VV) (es : Ids) : Bool := if (p &&& ~~~ q != 0#8) then false else if a.k != 0#64 then kInB a b es else (p == 0#8 || !vPts b)
def pcE (p q : BitVec 8) (a b : VV) (es : Ids) : Ids := if (p &&& ~~~ q != 0#8) then es else if a.k != 0#64 then kInE a b es else es
set_option maxRecDepth 100000 in
set_option maxHeartbeats 8000000 in
theorem placeW (p q : BitVec 8) (a1 a2 a3 a4 a5 aa ab ac ad ae af b1 b2 b3 b4 b5 ba bb bc bd be bf : BitVec 64) (es : Ids) :
    FI Try.prog T_1 Try.f31 1 [.agg [.b8 false p, .b64 true a1, .b64 true a2, .b64 true a3, .b64 true a4, .b64 true a5, .b64 false aa, .b64 false ab, .b64 false ac, .b64 false ad, .b64 true ae, .b64 true af], .agg [.b8 false q, .b64 true b1, .b64 true b2, .b64 true b3, .b64 true b4, .b64 true b5, .b64 false ba, .b64 false bb, .b64 false bc, .b64 false bd, .b64 true be, .b64 true bf], .one (.imap 0)] [(0, .imap es)] (outK1 (pcB p q ⟨a1, a2, a3, a4, a5, ⟨aa, ab, ac, ad, ae, af⟩⟩ ⟨b1, b2, b3, b4, b5, ⟨ba, bb, bc, bd, be, bf⟩⟩ es) (pcE p q ⟨a1, a2, a3, a4, a5, ⟨aa, ab, ac, ad, ae, af⟩⟩ ⟨b1, b2, b3, b4, b5, ⟨ba, bb, bc, bd, be, bf⟩⟩ es) es) := by
  repeat' (first
    | (with_reducible apply Given.mk; intro h; (try exact absurd h (by decide)))
    | ((conv => whnf); with_reducible apply Both.mk))
  all_goals first
    | (with_reducible apply Ob.mk; kernel_rfl)
    | (with_reducible apply Ob.mk; decide)
    | ((conv => whnf); refine out1 ?_ ?_ <;> (simp only [pcB, pcE, *, Bool.and_true, Bool.and_false, Bool.true_and, Bool.false_and, Bool.or_true, Bool.true_or, Bool.or_false, Bool.false_or, Bool.not_true, Bool.not_false, Bool.false_eq_true, Bool.true_eq_false, if_true, if_false, reduceCtorEq]; done))
    | ((conv => whnf); refine out1 ?_ ?_ <;> (simp_all [pcB, pcE]; done))
    | ((conv => whnf); skip)
def sp_placeW : SpW
  | [.agg [.b8 false p, .b64 true a1, .b64 true a2, .b64 true a3, .b64 true a4, .b64 true a5, .b64 false aa, .b64 false ab, .b64 false ac, .b64 false ad, .b64 true ae, .b64 true af], .agg [.b8 false q, .b64 true b1, .b64 true b2, .b64 true b3, .b64 true b4, .b64 true b5, .b64 false ba, .b64 false bb, .b64 false bc, .b64 false bd, .b64 true be, .b64 true bf], .one (.imap 0)], [(0, .imap es)] => some (Cond.t, .one (.bool (pcB p q ⟨a1, a2, a3, a4, a5, ⟨aa, ab, ac, ad, ae, af⟩⟩ ⟨b1, b2, b3, b4, b5, ⟨ba, bb, bc, bd, be, bf⟩⟩ es)), [(0, .imap (pcE p q ⟨a1, a2, a3, a4, a5, ⟨aa, ab, ac, ad, ae, af⟩⟩ ⟨b1, b2, b3, b4, b5, ⟨ba, bb, bc, bd, be, bf⟩⟩ es))])
  | _, _ => none
set_option maxRecDepth 100000 in
set_option maxHeartbeats 8000000 in
theorem e_placeW : EntryW Try.prog anyWorld 31 sp_placeW := by
  refine .of_FI C_1 (by kernel_rfl) Try.func31 (by kernel_rfl) (by kernel_rfl) (fun args ch c v ups h hc => ?_)
  unfold sp_placeW at h
  split at h
  · cases h
    exact placeW _ _ _ _ _ _ _ _ _ _ _ _ _ _ _ _ _ _ _ _ _ _ _ _ _
  · cases h
abbrev w_2 : List (Nat × SpW) := (31, sp_placeW) :: w_1
abbrev T_2 : Table := withIm (withW (tab noData tb_firewalllaw19_value) w_2) [31]
theorem C_2 : CSound Try.prog anyWorld T_2 := (C_firewalllaw19_value.withW (.cons e_placeW (.cons e_kInW .nil))).withIm _
/-- The places from one on, n of them. -/
def inPl (g g' : PG) : Nat → Nat → Ids → Bool × Ids
  | 0, _, es => (true, es)
  | n + 1, j, es => if pcB (g.b (BitVec.ofNat 64 j).toNat) (g'.b (BitVec.ofNat 64 j).toNat) (g.v (BitVec.ofNat 64 j).toNat) (g'.v (BitVec.ofNat 64 j).toNat) es then inPl g g' n (j + 1) (pcE (g.b (BitVec.ofNat 64 j).toNat) (g'.b (BitVec.ofNat 64 j).toNat) (g.v (BitVec.ofNat 64 j).toNat) (g'.v (BitVec.ofNat 64 j).toNat) es) else (false, pcE (g.b (BitVec.ofNat 64 j).toNat) (g'.b (BitVec.ofNat 64 j).toNat) (g.v (BitVec.ofNat 64 j).toNat) (g'.v (BitVec.ofNat 64 j).toNat) es)
theorem inPl_go {g g' : PG} {m : Nat} {es : Ids} (hn : m + 1 ≤ 64) (h : (!pcB (g.b (BitVec.ofNat 64 (64 - (m + 1))).toNat) (g'.b (BitVec.ofNat 64 (64 - (m + 1))).toNat) (g.v (BitVec.ofNat 64 (64 - (m + 1))).toNat) (g'.v (BitVec.ofNat 64 (64 - (m + 1))).toNat) es) = false) :
    inPl g g' (m + 1) (64 - (m + 1)) es = inPl g g' m (64 - m) (pcE (g.b (BitVec.ofNat 64 (64 - (m + 1))).toNat) (g'.b (BitVec.ofNat 64 (64 - (m + 1))).toNat) (g.v (BitVec.ofNat 64 (64 - (m + 1))).toNat) (g'.v (BitVec.ofNat 64 (64 - (m + 1))).toNat) es) := by
  rw [inPl, if_pos (by simpa using h), show 64 - (m + 1) + 1 = 64 - m by omega]
theorem inPl_no {g g' : PG} {m : Nat} {es : Ids} (h : (!pcB (g.b (BitVec.ofNat 64 (64 - (m + 1))).toNat) (g'.b (BitVec.ofNat 64 (64 - (m + 1))).toNat) (g.v (BitVec.ofNat 64 (64 - (m + 1))).toNat) (g'.v (BitVec.ofNat 64 (64 - (m + 1))).toNat) es) = true) :
    inPl g g' (m + 1) (64 - (m + 1)) es = (false, pcE (g.b (BitVec.ofNat 64 (64 - (m + 1))).toNat) (g'.b (BitVec.ofNat 64 (64 - (m + 1))).toNat) (g.v (BitVec.ofNat 64 (64 - (m + 1))).toNat) (g'.v (BitVec.ofNat 64 (64 - (m + 1))).toNat) es) := by
  rw [inPl, if_neg (by simpa using h)]
theorem iN_up {m : Nat} (hn : m + 1 ≤ 64) : AV.one (.b64 true (BitVec.ofNat 64 (64 - (m + 1)) + 1#64)) = iN (64 - m) := by
  rw [succ_ofNat, show 64 - (m + 1) + 1 = 64 - m by omega]
set_option maxRecDepth 100000 in
set_option maxHeartbeats 8000000 in
theorem slotsInW (g g' : PG) (es0 : Ids) :
    FI Try.prog T_2 Try.f11 1 [.agg [.seg 12 64 (plF g)], .agg [.seg 12 64 (plF g')], .one (.imap 0)] [(0, .imap es0)] (outK1 (inPl g g' 64 0 es0).1 (inPl g g' 64 0 es0).2 es0) := by
  repeat' (first
    | (with_reducible apply Given.mk; intro h; (try exact absurd h (by decide)))
    | ((conv => whnf); first
      | with_reducible apply Both.mk
      | ((fail_if_success (have _q := hn)); refine LoopP.mk (Nat × Ids) (fun y => inPl g g' 64 0 es0 = inPl g g' y.1 (64 - y.1) y.2 ∧ y.1 ≤ 64) (fun y => mkS (Try.f11).ntmps [(2, .one (.imap 0)), (3, .one (.ptr 4 0)), (4, .one (.ptr 5 0)), (6, .one (.bool false)), (8, iN (64 - y.1))] [(5, .cells 36 [.seg 12 64 (plF g')]), (4, .cells 36 [.seg 12 64 (plF g)]), (0, .imap y.2)]) (fun y => y.1) ⟨(64, es0), ⟨rfl, Nat.le_refl _⟩, ⟨?_, ?_, ?_, ?_, ?_⟩⟩ ?_; (focus ((repeat' ((conv => whnf); first | exact trivial | refine Both.mk (by first | with_reducible rfl | exact iN_succ _ | rfl) ?_)); done)); (focus ((repeat' ((conv => whnf); first | exact trivial | refine Both.mk (by first | with_reducible rfl | exact iN_succ _ | rfl) ?_)); done)); (focus exact rfl); (focus exact rfl); (focus exact rfl); rintro ⟨n, es⟩ ⟨hw, hn⟩; dsimp only at hw hn ⊢)
      | ((have _q := hn); (obtain ⟨m, rfl⟩ : ∃ m, n = m + 1 := ⟨n - 1, by have := ltS64 (Nat.sub_le 64 n) (by with_reducible assumption); omega⟩); refine ⟨(m, pcE (g.b (BitVec.ofNat 64 (64 - (m + 1))).toNat) (g'.b (BitVec.ofNat 64 (64 - (m + 1))).toNat) (g.v (BitVec.ofNat 64 (64 - (m + 1))).toNat) (g'.v (BitVec.ofNat 64 (64 - (m + 1))).toNat) es), ?_, ?_, ⟨?_, ?_, ?_, ?_, ?_⟩⟩; (focus (exact ⟨hw.trans (inPl_go hn (by assumption)), by omega⟩; done)); (focus (exact Nat.lt_succ_self _; done)); (focus ((repeat' ((conv => whnf); first | exact trivial | refine Both.mk (by first | with_reducible rfl | exact iN_succ _ | rfl | exact iN_up hn) ?_)); done)); (focus ((repeat' ((conv => whnf); first | exact trivial | refine Both.mk (by first | with_reducible rfl | exact iN_succ _ | rfl | exact iN_up hn) ?_)); done)); (focus exact rfl); (focus exact rfl); (focus exact rfl))))
  all_goals first
    | (with_reducible apply Ob.mk; kernel_rfl)
    | (with_reducible apply Ob.mk; decide)
    | ((with_reducible apply Ob.mk); exact ixS64 (Nat.sub_le 64 n) (by with_reducible assumption))
    | ((with_reducible apply Ob.mk); exact (ixS64 (Nat.sub_le 64 n) (by with_reducible assumption)).2)
    | ((conv => whnf); (obtain ⟨m, rfl⟩ : ∃ m, n = m + 1 := ⟨n - 1, by have := ltS64 (Nat.sub_le 64 n) (by with_reducible assumption); omega⟩); have hq := hw.trans (inPl_no (by assumption)); refine out1 ?_ ?_ <;> (first | (rw [hq]; done) | (rw [hq]; rfl)))
    | ((conv => whnf); (have h0 : n = 0 := by have := done64 (Nat.sub_le 64 n) (by with_reducible assumption); omega); subst h0; refine out1 ?_ ?_ <;> (rw [hw]; rfl))
    | (with_reducible apply Ob.mk; skip)
    | ((conv => whnf); skip)
def sp_slotsInW : SpW
  | [.agg [.seg z m f], .agg [.seg z' m' f'], .one (.imap 0)], [(0, .imap es)] => match Nat.beq z 12, Nat.beq m 64, Nat.beq z' 12, Nat.beq m' 64 with
    | true, true, true, true => some (Cond.p (f = plF (gOf f) ∧ f' = plF (gOf f')), .one (.bool (inPl (gOf f) (gOf f') 64 0 es).1), [(0, .imap (inPl (gOf f) (gOf f') 64 0 es).2)])
    | _, _, _, _ => none
  | _, _ => none
set_option maxRecDepth 100000 in
set_option maxHeartbeats 8000000 in
theorem e_slotsInW : EntryW Try.prog anyWorld 11 sp_slotsInW := by
  refine .of_FI C_2 (by kernel_rfl) Try.func11 (by kernel_rfl) (by kernel_rfl) (fun args ch c v ups h hc => ?_)
  unfold sp_slotsInW at h
  split at h
  · rename_i z m f z' m' f' es
    split at h
    · rename_i h1 h2 h3 h4
      obtain rfl : z = 12 := by simpa using h1
      obtain rfl : m = 64 := by simpa using h2
      obtain rfl : z' = 12 := by simpa using h3
      obtain rfl : m' = 64 := by simpa using h4
      cases h
      obtain ⟨e1, e2⟩ := hc
      generalize gOf f = g at e1 ⊢
      generalize gOf f' = g' at e2 ⊢
      subst e1 e2
      exact slotsInW g g' es
    · cases h
  · cases h
abbrev w_3 : List (Nat × SpW) := (11, sp_slotsInW) :: w_1
abbrev T_3 : Table := withIm (withW (tab noData tb_firewalllaw19_value) w_3) [42]
theorem C_3 : CSound Try.prog anyWorld T_3 := (C_firewalllaw19_value.withW (.cons e_slotsInW (.cons e_kInW .nil))).withIm _
/-- The registers from one on, n of them. -/
def inRg (r r' : RG) : Nat → Nat → Ids → Bool × Ids
  | 0, _, es => (true, es)
  | n + 1, j, es => if kInB (r.v (BitVec.ofNat 64 j).toNat) (r'.v (BitVec.ofNat 64 j).toNat) es then inRg r r' n (j + 1) (kInE (r.v (BitVec.ofNat 64 j).toNat) (r'.v (BitVec.ofNat 64 j).toNat) es) else (false, kInE (r.v (BitVec.ofNat 64 j).toNat) (r'.v (BitVec.ofNat 64 j).toNat) es)
def inF (r r' : RG) (g g' : PG) : Bool := if (inRg r r' 11 0 []).1 then (inPl g g' 64 0 (inRg r r' 11 0 []).2).1 else false
theorem inRg_go {r r' : RG} {m : Nat} {es : Ids} (hn : m + 1 ≤ 11) (h : (!kInB (r.v (BitVec.ofNat 64 (11 - (m + 1))).toNat) (r'.v (BitVec.ofNat 64 (11 - (m + 1))).toNat) es) = false) : inRg r r' (m + 1) (11 - (m + 1)) es = inRg r r' m (11 - m) (kInE (r.v (BitVec.ofNat 64 (11 - (m + 1))).toNat) (r'.v (BitVec.ofNat 64 (11 - (m + 1))).toNat) es) := by
  rw [inRg, if_pos (by simpa using h), show 11 - (m + 1) + 1 = 11 - m by omega]
theorem inRg_no {r r' : RG} {m : Nat} {es : Ids} (h : (!kInB (r.v (BitVec.ofNat 64 (11 - (m + 1))).toNat) (r'.v (BitVec.ofNat 64 (11 - (m + 1))).toNat) es) = true) : inRg r r' (m + 1) (11 - (m + 1)) es = (false, kInE (r.v (BitVec.ofNat 64 (11 - (m + 1))).toNat) (r'.v (BitVec.ofNat 64 (11 - (m + 1))).toNat) es) := by
  rw [inRg, if_neg (by simpa using h)]
theorem iN_up11 {m : Nat} (hn : m + 1 ≤ 11) : AV.one (.b64 true (BitVec.ofNat 64 (11 - (m + 1)) + 1#64)) = iN (11 - m) := by
  rw [succ_ofNat, show 11 - (m + 1) + 1 = 11 - m by omega]
set_option maxRecDepth 100000 in
set_option maxHeartbeats 8000000 in
theorem framesIn (r r' : RG) (g g' : PG) (nx nx' : BitVec 64) :
    F Try.prog T_3 Try.f25 [.agg [.seg 11 11 (rgF r), .seg 12 64 (plF g), .b64 true nx], .agg [.seg 11 11 (rgF r'), .seg 12 64 (plF g'), .b64 true nx']] (fun v => v = .one (.bool (inF r r' g g'))) := by
  repeat' (first
    | (with_reducible apply Given.mk; intro h; (try exact absurd h (by decide)))
    | ((conv => whnf); first
      | with_reducible apply Both.mk
      | ((fail_if_success (have _q := hn)); refine LoopP.mk (Nat × Ids) (fun y => inRg r r' 11 0 [] = inRg r r' y.1 (11 - y.1) y.2 ∧ y.1 ≤ 11) (fun y => mkS (Try.f25).ntmps [(2, .one (.ptr 2 0)), (3, .one (.ptr 3 0)), (4, .one (.bool false)), (5, .one (.imap 7)), (8, iN (11 - y.1))] [(7, .imap y.2), (3, .cells 62 [.seg 11 11 (rgF r'), .seg 12 64 (plF g'), .b64 true nx']), (2, .cells 62 [.seg 11 11 (rgF r), .seg 12 64 (plF g), .b64 true nx])]) (fun y => y.1) ⟨(11, []), ⟨rfl, Nat.le_refl _⟩, ⟨?_, ?_, ?_, ?_, ?_⟩⟩ ?_; (focus ((repeat' ((conv => whnf); first | exact trivial | refine Both.mk (by first | with_reducible rfl | exact iN_succ _ | rfl) ?_)); done)); (focus ((repeat' ((conv => whnf); first | exact trivial | refine Both.mk (by first | with_reducible rfl | exact iN_succ _ | rfl) ?_)); done)); (focus exact rfl); (focus exact rfl); (focus exact rfl); rintro ⟨n, es⟩ ⟨hw, hn⟩; dsimp only at hw hn ⊢)
      | ((have _q := hn); (obtain ⟨m, rfl⟩ : ∃ m, n = m + 1 := ⟨n - 1, by have := lt11 (Nat.sub_le 11 n) (by with_reducible assumption); omega⟩); refine ⟨(m, kInE (r.v (BitVec.ofNat 64 (11 - (m + 1))).toNat) (r'.v (BitVec.ofNat 64 (11 - (m + 1))).toNat) es), ?_, ?_, ⟨?_, ?_, ?_, ?_, ?_⟩⟩; (focus (exact ⟨hw.trans (inRg_go hn (by assumption)), by omega⟩; done)); (focus (exact Nat.lt_succ_self _; done)); (focus ((repeat' ((conv => whnf); first | exact trivial | refine Both.mk (by first | with_reducible rfl | exact iN_succ _ | rfl | exact iN_up11 hn) ?_)); done)); (focus ((repeat' ((conv => whnf); first | exact trivial | refine Both.mk (by first | with_reducible rfl | exact iN_succ _ | rfl | exact iN_up11 hn) ?_)); done)); (focus exact rfl); (focus exact rfl); (focus exact rfl))))
  all_goals first
    | (with_reducible apply Ob.mk; kernel_rfl)
    | (with_reducible apply Ob.mk; decide)
    | ((with_reducible apply Ob.mk); exact ix11 (Nat.sub_le 11 n) (by with_reducible assumption))
    | ((with_reducible apply Ob.mk); exact (ix11 (Nat.sub_le 11 n) (by with_reducible assumption)).2)
    | ((with_reducible apply Ob.mk); exact ⟨plF_ok _, plF_ok _⟩)
    | ((conv => whnf); (with_reducible apply Ob.mk); (obtain ⟨m, rfl⟩ : ∃ m, n = m + 1 := ⟨n - 1, by have := lt11 (Nat.sub_le 11 n) (by with_reducible assumption); omega⟩); have hq := hw.trans (inRg_no (by assumption)); rw [inF, hq]; rfl)
    | ((conv => whnf); (with_reducible apply Ob.mk); (have h0 : n = 0 := by have := done11 (Nat.sub_le 11 n) (by with_reducible assumption); omega); subst h0; rw [inF, hw]; rfl)
    | (with_reducible apply Ob.mk; skip)
    | ((conv => whnf); skip)
def sp_framesIn : Sp
  | [.agg [.seg z m f, .seg z' m' h, .b64 true nx], .agg [.seg y l f', .seg y' l' h', .b64 true nx']] => match Nat.beq z 11, Nat.beq m 11, Nat.beq z' 12, Nat.beq m' 64, Nat.beq y 11, Nat.beq l 11, Nat.beq y' 12, Nat.beq l' 64 with
    | true, true, true, true, true, true, true, true => some (Cond.p (f = rgF (rOf f) ∧ h = plF (gOf h) ∧ f' = rgF (rOf f') ∧ h' = plF (gOf h')), .one (.bool (inF (rOf f) (rOf f') (gOf h) (gOf h'))))
    | _, _, _, _, _, _, _, _ => none
  | _ => none
set_option maxRecDepth 100000 in
set_option maxHeartbeats 8000000 in
theorem e_framesIn : EntryOK Try.prog anyWorld 25 sp_framesIn := by
  refine .of_F C_3 (by kernel_rfl) Try.func25 (by kernel_rfl) (by kernel_rfl) (fun args c v h hc => ?_)
  unfold sp_framesIn at h
  split at h
  · rename_i z m f z' m' g nx y l f' y' l' g' nx'
    split at h
    · rename_i h1 h2 h3 h4 h5 h6 h7 h8
      obtain rfl : z = 11 := by simpa using h1
      obtain rfl : m = 11 := by simpa using h2
      obtain rfl : z' = 12 := by simpa using h3
      obtain rfl : m' = 64 := by simpa using h4
      obtain rfl : y = 11 := by simpa using h5
      obtain rfl : l = 11 := by simpa using h6
      obtain rfl : y' = 12 := by simpa using h7
      obtain rfl : l' = 64 := by simpa using h8
      cases h
      obtain ⟨e1, e2, e3, e4⟩ := hc
      refine ⟨rfl, rfl, ?_⟩
      generalize rOf f = r at e1 ⊢
      generalize gOf g = p at e2 ⊢
      generalize rOf f' = r' at e3 ⊢
      generalize gOf g' = p' at e4 ⊢
      subst e1 e2 e3 e4
      exact framesIn r r' p p' nx nx'
    · cases h
  · cases h
end Go.Proofs.Ytiopddomdpoaaaa
