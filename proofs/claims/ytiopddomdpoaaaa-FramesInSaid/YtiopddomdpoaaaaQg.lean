/-
  slots.In, handed a map, where no value tells an ID: what it answers, by the evaluator. Conditions: as typed.
-/
import Derived.Test.YtiopddomdpoaaaaQd
import Derived.Test.YtiopddomdpoaaaaPl
namespace Go.Proofs.Ytiopddomdpoaaaa
open Go.Ep Go.RowKit
set_option linter.unusedVariables false
set_option linter.unusedSimpArgs false

def kIn (a b : VV) : Bool := if (a.k != b.k) then false else if a.k == 1#64 then nIn a.n b.n else (a.mp == b.mp && (a.off == b.off && (nIn a.n b.n && a.su.sle b.su)))
def kInF (a b : VV) : Bool := if a.k == 0#64 then true else kIn a b
theorem ktrue {a b : VV} (h : (a.k == 0#64) = true) : kInF a b = true := by rw [kInF, h]; rfl
theorem kfalse {a b : VV} (h : (a.k == 0#64) = false) : kInF a b = kIn a b := by rw [kInF, h]; rfl
def sp_kinds_In : Sp
  | [.agg [.b64 true a1, .b64 true a2, .b64 true a3, .b64 true a4, .b64 true a5, .b64 false aa, .b64 false ab, .b64 false ac, .b64 false ad, .b64 true ae, .b64 true af], .agg [.b64 true b1, .b64 true b2, .b64 true b3, .b64 true b4, .b64 true b5, .b64 false ba, .b64 false bb, .b64 false bc, .b64 false bd, .b64 true be, .b64 true bf]] => some (Cond.p ((a1 == 6#64) = false ∧ (a1 == 7#64) = false), .one (.bool (kInF ⟨a1, a2, a3, a4, a5, ⟨aa, ab, ac, ad, ae, af⟩⟩ ⟨b1, b2, b3, b4, b5, ⟨ba, bb, bc, bd, be, bf⟩⟩)))
  | _ => none
set_option maxRecDepth 100000 in
set_option maxHeartbeats 8000000 in
theorem kinds_In_walk (a1 a2 a3 a4 a5 aa ab ac ad ae af b1 b2 b3 b4 b5 ba bb bc bd be bf : BitVec 64) (es : List (BitVec 64 × BitVec 64)) (hk : (a1 == 6#64) = false ∧ (a1 == 7#64) = false) :
    FI Try.prog (tabM noData tb_firewalllaw19_value []) Try.f42 1 [.agg [.b64 true a1, .b64 true a2, .b64 true a3, .b64 true a4, .b64 true a5, .b64 false aa, .b64 false ab, .b64 false ac, .b64 false ad, .b64 true ae, .b64 true af], .agg [.b64 true b1, .b64 true b2, .b64 true b3, .b64 true b4, .b64 true b5, .b64 false ba, .b64 false bb, .b64 false bc, .b64 false bd, .b64 true be, .b64 true bf], .one (.imap 0)] [(0, .romap es)] (fun r _ => r = .one (.bool (kInF ⟨a1, a2, a3, a4, a5, ⟨aa, ab, ac, ad, ae, af⟩⟩ ⟨b1, b2, b3, b4, b5, ⟨ba, bb, bc, bd, be, bf⟩⟩))) := by
  repeat' (first
    | (with_reducible apply Given.mk; intro h; (try exact absurd h (by decide)); (try (rw [hk.1] at h; cases h)); (try (rw [hk.2] at h; cases h)))
    | ((conv => whnf); with_reducible apply Both.mk))
  all_goals first
    | (with_reducible apply Ob.mk; kernel_rfl)
    | (with_reducible apply Ob.mk; decide)
    | ((conv => whnf); rw [ktrue (by with_reducible assumption)])
    | ((conv => whnf); rw [kfalse (by with_reducible assumption)]; simp only [kIn, *, Bool.and_true, Bool.and_false, Bool.true_and, Bool.false_and, Bool.or_true, Bool.true_or, Bool.or_false, Bool.false_or, Bool.not_true, Bool.not_false, Bool.false_eq_true, Bool.true_eq_false, if_true, if_false, reduceCtorEq]; done)
    | ((conv => whnf); skip)
set_option maxRecDepth 100000 in
theorem e_kinds_In : EntryM Try.prog anyWorld 42 (spM sp_kinds_In) := by
  refine .of_FI (CSound.startM C_firewalllaw19_value) (by kernel_rfl) Try.func42 (by kernel_rfl) (by kernel_rfl) (fun args c v es h hc => ?_)
  unfold sp_kinds_In at h
  split at h
  · cases h
    exact ⟨rfl, rfl, kinds_In_walk _ _ _ _ _ _ _ _ _ _ _ _ _ _ _ _ _ _ _ _ _ _ es hc⟩
  · cases h
abbrev ms_1 : List (Nat × SpM) := [(42, spM sp_kinds_In)]
theorem C_kinds_In : CSound Try.prog anyWorld (tabM noData tb_firewalllaw19_value ms_1) := CSound.consM (CSound.startM C_firewalllaw19_value) e_kinds_In

def plInV (p q : BitVec 8) (a b : VV) : Bool := if (p &&& ~~~ q != 0#8) then false else if a.k != 0#64 then kInF a b else (p == 0#8 || !vPts b)
def sp_slots_place : Sp
  | [.agg [.b8 false p, .b64 true a1, .b64 true a2, .b64 true a3, .b64 true a4, .b64 true a5, .b64 false aa, .b64 false ab, .b64 false ac, .b64 false ad, .b64 true ae, .b64 true af], .agg [.b8 false q, .b64 true b1, .b64 true b2, .b64 true b3, .b64 true b4, .b64 true b5, .b64 false ba, .b64 false bb, .b64 false bc, .b64 false bd, .b64 true be, .b64 true bf]] => some (Cond.p ((a1 == 6#64) = false ∧ (a1 == 7#64) = false), .one (.bool (plInV p q ⟨a1, a2, a3, a4, a5, ⟨aa, ab, ac, ad, ae, af⟩⟩ ⟨b1, b2, b3, b4, b5, ⟨ba, bb, bc, bd, be, bf⟩⟩)))
  | _ => none
set_option maxRecDepth 100000 in
set_option maxHeartbeats 8000000 in
theorem slots_place_walk (p q : BitVec 8) (a1 a2 a3 a4 a5 aa ab ac ad ae af b1 b2 b3 b4 b5 ba bb bc bd be bf : BitVec 64) (es : List (BitVec 64 × BitVec 64)) (hk : (a1 == 6#64) = false ∧ (a1 == 7#64) = false) :
    FI Try.prog (tabM noData tb_firewalllaw19_value ms_1) Try.f31 1 [.agg [.b8 false p, .b64 true a1, .b64 true a2, .b64 true a3, .b64 true a4, .b64 true a5, .b64 false aa, .b64 false ab, .b64 false ac, .b64 false ad, .b64 true ae, .b64 true af], .agg [.b8 false q, .b64 true b1, .b64 true b2, .b64 true b3, .b64 true b4, .b64 true b5, .b64 false ba, .b64 false bb, .b64 false bc, .b64 false bd, .b64 true be, .b64 true bf], .one (.imap 0)] [(0, .romap es)] (fun r _ => r = .one (.bool (plInV p q ⟨a1, a2, a3, a4, a5, ⟨aa, ab, ac, ad, ae, af⟩⟩ ⟨b1, b2, b3, b4, b5, ⟨ba, bb, bc, bd, be, bf⟩⟩))) := by
  repeat' (first
    | (with_reducible apply Given.mk; intro h; (try exact absurd h (by decide)))
    | ((conv => whnf); with_reducible apply Both.mk))
  all_goals first
    | (with_reducible apply Ob.mk; exact hk)
    | (with_reducible apply Ob.mk; kernel_rfl)
    | (with_reducible apply Ob.mk; decide)
    | ((conv => whnf); simp only [plInV, *, Bool.and_true, Bool.and_false, Bool.true_and, Bool.false_and, Bool.or_true, Bool.true_or, Bool.or_false, Bool.false_or, Bool.not_true, Bool.not_false, Bool.false_eq_true, Bool.true_eq_false, if_true, if_false, reduceCtorEq]; done)
    | ((conv => whnf); skip)
set_option maxRecDepth 100000 in
theorem e_slots_place : EntryM Try.prog anyWorld 31 (spM sp_slots_place) := by
  refine .of_FI C_kinds_In (by kernel_rfl) Try.func31 (by kernel_rfl) (by kernel_rfl) (fun args c v es h hc => ?_)
  unfold sp_slots_place at h
  split at h
  · cases h
    exact ⟨rfl, rfl, slots_place_walk _ _ _ _ _ _ _ _ _ _ _ _ _ _ _ _ _ _ _ _ _ _ _ _ es hc⟩
  · cases h
abbrev ms_2 : List (Nat × SpM) := (31, spM sp_slots_place) :: ms_1
theorem C_slots_place : CSound Try.prog anyWorld (tabM noData tb_firewalllaw19_value ms_2) := CSound.consM C_kinds_In e_slots_place

def plIn (g g' : PG) (j : Nat) : Bool := plInV (g.b j) (g'.b j) (g.v j) (g'.v j)
def inR (g g' : PG) : Nat → BitVec 64 → Bool
  | 0, _ => true
  | r + 1, k => if plIn g g' k.toNat then inR g g' r (k + 1#64) else false
def inG (g g' : PG) : Bool := inR g g' 64 0#64
theorem inR_go {g g' : PG} {r : Nat} {k : BitVec 64} (h : (!plIn g g' k.toNat) = false) : inR g g' (r + 1) k = inR g g' r (k + 1#64) := by
  have h : plIn g g' k.toNat = true := by simpa using h
  rw [inR, h]; rfl
theorem inR_no {g g' : PG} {r : Nat} {k : BitVec 64} (h : (!plIn g g' k.toNat) = true) : inR g g' (r + 1) k = false := by
  have h : plIn g g' k.toNat = false := by simpa using h
  rw [inR, h]; rfl
theorem lt64 {k : BitVec 64} {a : Nat} (e : k = BitVec.ofNat 64 a) (ha : a ≤ 64) (h : k.slt 64#64 = true) : a < 64 := by
  rw [e] at h; exact slt_yes (n := 64) (by omega) (by omega) h
theorem ge64 {k : BitVec 64} {a : Nat} (e : k = BitVec.ofNat 64 a) (ha : a ≤ 64) (h : k.slt 64#64 = false) : 64 ≤ a := by
  rw [e] at h; exact slt_no (n := 64) (by omega) (by omega) h
theorem ix64 {k : BitVec 64} {a : Nat} (e : k = BitVec.ofNat 64 a) (ha : a < 64) : 0 ≤ k.toInt ∧ k.toNat < 64 := by
  rw [e, toInt_small (by omega), Go.Ep.toNat_ofNat (by omega)]; omega
/-- No value tells an ID. -/
def okK (g : PG) : Prop := ∀ k, (g.k k == 6#64) = false ∧ (g.k k == 7#64) = false
def spIn (inn : PG → PG → Bool) : Sp
  | [.agg [.seg z m f], .agg [.seg z' m' f']] => match Nat.beq z 12, Nat.beq m 64, Nat.beq z' 12, Nat.beq m' 64 with
      | true, true, true, true => some (Cond.p (f = plF (gOf f) ∧ f' = plF (gOf f') ∧ okK (gOf f)), .one (.bool (inn (gOf f) (gOf f'))))
      | _, _, _, _ => none
  | _ => none
def sp_slots_In : Sp := spIn inG
set_option maxRecDepth 100000 in
set_option maxHeartbeats 8000000 in
theorem slots_In_walk (g g' : PG) (es : List (BitVec 64 × BitVec 64)) (hk : ∀ k, (g.k k == 6#64) = false ∧ (g.k k == 7#64) = false) :
    FI Try.prog (tabM noData tb_firewalllaw19_value ms_2) Try.f11 1 [.agg [.seg 12 64 (plF g)], .agg [.seg 12 64 (plF g')], .one (.imap 0)] [(0, .romap es)] (fun r _ => r = .one (.bool (inG g g'))) := by
  repeat' (first
    | (with_reducible apply Given.mk; intro h; (try exact absurd h (by decide)); (try (rw [(hk _).1] at h; cases h)); (try (rw [(hk _).2] at h; cases h)))
    | ((conv => whnf); first
      | with_reducible apply Both.mk
      | (refine LoopP.mk (Nat × BitVec 64) (fun x => inG g g' = inR g g' x.1 x.2 ∧ ∃ a, x.2 = BitVec.ofNat 64 a ∧ a + x.1 = 64) (fun x => mkS (Try.f11).ntmps [(2, .one (.imap 0)), (3, .one (.ptr 4 0)), (4, .one (.ptr 5 0)), (6, .one (.bool false)), (8, .one (.b64 true x.2))] [(5, .cells 36 [.seg 12 64 (plF g')]), (4, .cells 36 [.seg 12 64 (plF g)]), (0, .romap es)]) (fun x => x.1) ⟨(64, 0#64), ⟨rfl, 0, rfl, rfl⟩, ⟨?_, ?_, ?_, ?_, ?_⟩⟩ ?_; (focus ((repeat' ((conv => whnf); first | exact trivial | refine Both.mk (by first | with_reducible rfl | exact iN_succ _ | rfl) ?_)); done)); (focus ((repeat' ((conv => whnf); first | exact trivial | refine Both.mk (by first | with_reducible rfl | exact iN_succ _ | rfl) ?_)); done)); (focus exact rfl); (focus exact rfl); (focus exact rfl); rintro ⟨r, k⟩ ⟨hw, a, ek, ha⟩; dsimp only at hw ek ha ⊢)
      | (obtain ⟨r', rfl⟩ : ∃ r', r = r' + 1 := ⟨r - 1, by have := lt64 ek (by omega) (by with_reducible assumption); omega⟩; refine ⟨(r', k + 1#64), ?_, ?_, ⟨?_, ?_, ?_, ?_, ?_⟩⟩; (focus (exact ⟨hw.trans (inR_go (by assumption)), a + 1, by dsimp only; rw [ek, Go.Ep.succ_ofNat], by dsimp only; omega⟩; done)); (focus (exact Nat.lt_succ_self _; done)); (focus ((repeat' ((conv => whnf); first | exact trivial | refine Both.mk (by first | with_reducible rfl | exact iN_succ _ | rfl) ?_)); done)); (focus ((repeat' ((conv => whnf); first | exact trivial | refine Both.mk (by first | with_reducible rfl | exact iN_succ _ | rfl) ?_)); done)); (focus exact rfl); (focus exact rfl); (focus exact rfl))))
  all_goals first
    | (with_reducible apply Ob.mk; exact hk _)
    | (with_reducible apply Ob.mk; kernel_rfl)
    | (with_reducible apply Ob.mk; decide)
    | (with_reducible apply Ob.mk; first | exact ix64 ek (lt64 ek (by omega) (by with_reducible assumption)) | exact (ix64 ek (lt64 ek (by omega) (by with_reducible assumption))).2)
    | ((conv => whnf); obtain ⟨r', rfl⟩ : ∃ r', r = r' + 1 := ⟨r - 1, by have := lt64 ek (by omega) (by with_reducible assumption); omega⟩; rw [hw, inR_no (by assumption)])
    | ((conv => whnf); obtain rfl : r = 0 := (by { have := ge64 ek (by omega) (by with_reducible assumption); omega }); rw [hw]; rfl)
    | ((conv => whnf); skip)
set_option maxRecDepth 100000 in
theorem e_slots_In : EntryM Try.prog anyWorld 11 (spM sp_slots_In) := by
  refine .of_FI C_slots_place (by kernel_rfl) Try.func11 (by kernel_rfl) (by kernel_rfl) (fun args c v es h hc => ?_)
  unfold sp_slots_In spIn at h
  split at h
  · rename_i z m f z' m' f'
    split at h
    · rename_i h1 h2 h3 h4
      obtain rfl : z = 12 := by simpa using h1
      obtain rfl : m = 64 := by simpa using h2
      obtain rfl : z' = 12 := by simpa using h3
      obtain rfl : m' = 64 := by simpa using h4
      cases h
      obtain ⟨e1, e2, e3⟩ := hc
      refine ⟨rfl, rfl, ?_⟩
      generalize gOf f = g at e1 e3 ⊢
      generalize gOf f' = g' at e2 ⊢
      subst e1 e2
      exact slots_In_walk g g' es e3
    · cases h
  · cases h
abbrev ms_3 : List (Nat × SpM) := (11, spM sp_slots_In) :: ms_2
theorem C_slots_In : CSound Try.prog anyWorld (tabM noData tb_firewalllaw19_value ms_3) := CSound.consM C_slots_place e_slots_In
end Go.Proofs.Ytiopddomdpoaaaa
