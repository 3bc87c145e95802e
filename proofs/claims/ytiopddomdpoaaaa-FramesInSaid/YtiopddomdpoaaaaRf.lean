/-
  The law's helper Frame: what it answers. Conditions: as typed.
-/
import Derived.Test.YtiopddomdpoaaaaRe
namespace Go.Proofs.Ytiopddomdpoaaaa
open Go.Ep Go.RowKit
set_option linter.unusedVariables false
set_option linter.unusedSimpArgs false
/-- The values that a law is handed, as functions of their numbers. -/
structure AT where
  k : Nat → BitVec 64
  mp : Nat → BitVec 64
  id : Nat → BitVec 64
  off : Nat → BitVec 64
  su : Nat → BitVec 64
  nu : Nat → BitVec 32
  ms : Nat → BitVec 64
  ls : Nat → BitVec 64
  mo : Nat → BitVec 64
  bl : Nat → BitVec 64
  be : Nat → BitVec 64
def atF (x : AT) (j : Nat) : List PL := [.b64 true (x.k j), .b64 true (x.mp j), .b64 true (x.id j), .b64 true (x.off j), .b64 true (x.su j), .b32 false (x.nu j), .b64 false (x.ms j), .b64 false (x.ls j), .b64 false (x.mo j), .b64 false (x.bl j), .b64 false (x.be j)]
def AT.v (x : AT) (j : Nat) : VV := ⟨x.k j, x.mp j, x.id j, x.off j, x.su j, nMade ((x.nu j).setWidth 64) (x.ms j) (x.ls j) (x.mo j) (x.bl j) (x.be j)⟩

def p32 : PL → BitVec 32
  | .b32 _ x => x
  | _ => 0#32
def atOf (f : Nat → List PL) : AT := ⟨fun j => p64 (nthP (f j) 0), fun j => p64 (nthP (f j) 1), fun j => p64 (nthP (f j) 2), fun j => p64 (nthP (f j) 3), fun j => p64 (nthP (f j) 4), fun j => p32 (nthP (f j) 5), fun j => p64 (nthP (f j) 6), fun j => p64 (nthP (f j) 7), fun j => p64 (nthP (f j) 8), fun j => p64 (nthP (f j) 9), fun j => p64 (nthP (f j) 10)⟩
theorem atOf_atF (x : AT) : atOf (atF x) = x := by cases x; rfl
/-- The registers, of which some are laid; the places, behind so many stores. -/
def frRn (x : AT) (i : Nat) : RG := mkR fun j => if j < i then x.v j else vZ
def frR (x : AT) (len : Nat) : RG := frRn x (min len 11)
def offA (m : Nat) : BitVec 64 := BitVec.ofInt 64 (Int.negSucc 7) * (BitVec.ofNat 64 (11 + m) - 10#64)
def stP (x : AT) : Nat → PG
  | 0 => gZ
  | m + 1 => if (stR (stP x m) (offA m) 8#64 (x.v (BitVec.ofNat 64 (11 + m)).toNat)).e == 0#64 then (stR (stP x m) (offA m) 8#64 (x.v (BitVec.ofNat 64 (11 + m)).toNat)).g else stP x m
def frP (x : AT) (len : Nat) : PG := stP x (min len 75 - 11)
theorem stP_1 {x : AT} {m : Nat} (h : ((stR (stP x m) (offA m) 8#64 (x.v (BitVec.ofNat 64 (11 + m)).toNat)).e == 0#64) = true) : (stR (stP x m) (offA m) 8#64 (x.v (BitVec.ofNat 64 (11 + m)).toNat)).g = stP x (m + 1) := by
  rw [stP, if_pos h]
theorem stP_0 {x : AT} {m : Nat} (h : ((stR (stP x m) (offA m) 8#64 (x.v (BitVec.ofNat 64 (11 + m)).toNat)).e == 0#64) = false) : stP x m = stP x (m + 1) := by
  rw [stP, if_neg (by rw [h]; decide)]
theorem frRn_put (x : AT) (i : Nat) : (frRn x i).put i (x.v i) = frRn x (i + 1) := by
  rw [← mkR_eta ((frRn x i).put i (x.v i)), frRn]
  conv => rhs; rw [frRn]
  congr 1
  funext j
  by_cases h : j = i
  · subst h; rw [rput_v, if_pos (by omega)]
  · rw [rput_o _ _ h]
    show (if j < i then x.v j else vZ) = _
    by_cases h2 : j < i
    · rw [if_pos h2, if_pos (by omega)]
    · rw [if_neg h2, if_neg (by omega)]
theorem frame_upd (x : AT) {i : Nat} (hi : i ≤ 11) (f : Nat → List PL) (nx : BitVec 64) : Blk.cells 62 [.seg 11 11 (updF (rgF (frRn x i)) (BitVec.ofNat 64 i).toNat 0 [.b64 true (x.v (BitVec.ofNat 64 i).toNat).k, .b64 true (x.v (BitVec.ofNat 64 i).toNat).mp, .b64 true (x.v (BitVec.ofNat 64 i).toNat).id, .b64 true (x.v (BitVec.ofNat 64 i).toNat).off, .b64 true (x.v (BitVec.ofNat 64 i).toNat).su, .b64 false (x.v (BitVec.ofNat 64 i).toNat).n.tv, .b64 false (x.v (BitVec.ofNat 64 i).toNat).n.tm, .b64 false (x.v (BitVec.ofNat 64 i).toNat).n.lo, .b64 false (x.v (BitVec.ofNat 64 i).toNat).n.hi, .b64 true (x.v (BitVec.ofNat 64 i).toNat).n.slo, .b64 true (x.v (BitVec.ofNat 64 i).toNat).n.shi]), .seg 12 64 f, .b64 true nx] = Blk.cells 62 [.seg 11 11 (rgF (frRn x (i + 1))), .seg 12 64 f, .b64 true nx] := by
  rw [rput_upd, nat11 hi, frRn_put]
theorem ixl {i len : Nat} (hi : i < 9223372036854775808) (hl : len < 9223372036854775808) (h : (BitVec.ofNat 64 i).slt (BitVec.ofNat 64 len) = true) : 0 ≤ (BitVec.ofNat 64 i).toInt ∧ (BitVec.ofNat 64 i).toNat < len := ix_i (slt_yes hi hl h) hl
theorem exA1 {i len : Nat} (hA : i ≤ 11 ∧ i ≤ len) (h : (BitVec.ofNat 64 i).slt 11#64 = false) : i = min len 11 := by
  have := done11 hA.1 h
  omega
theorem exA2 {i len : Nat} (hl : len < 9223372036854775808) (hA : i ≤ 11 ∧ i ≤ len) (h : (BitVec.ofNat 64 i).slt (BitVec.ofNat 64 len) = false) : i = min len 11 := by
  have := slt_no (by omega) hl h
  omega
theorem goA {i len : Nat} (hl : len < 9223372036854775808) (hA : i ≤ 11 ∧ i ≤ len) (h : (BitVec.ofNat 64 i).slt (BitVec.ofNat 64 len) = true) (h' : (BitVec.ofNat 64 i).slt 11#64 = true) : i + 1 ≤ 11 ∧ i + 1 ≤ len :=
  ⟨lt11 hA.1 h', slt_yes (by omega) hl h⟩
theorem goB {m len : Nat} (hl : len < 9223372036854775808) (hB : m ≤ 64 ∧ (11 + m ≤ len ∨ m = 0)) (h : (BitVec.ofNat 64 (11 + m)).slt (BitVec.ofNat 64 len) = true) (h' : (BitVec.ofNat 64 (11 + m)).slt 75#64 = true) : m + 1 ≤ 64 ∧ (11 + (m + 1) ≤ len ∨ m + 1 = 0) := by
  have h1 := slt_yes (n := 75) (by omega) (by omega) h'
  have h2 := slt_yes (by omega) hl h
  exact ⟨by omega, .inl (by omega)⟩
theorem exB1 {m len : Nat} (hB : m ≤ 64 ∧ (11 + m ≤ len ∨ m = 0)) (h : (BitVec.ofNat 64 (11 + m)).slt 75#64 = false) : m = min len 75 - 11 := by
  have := slt_no (n := 75) (by omega) (by omega) h
  omega
theorem exB2 {m len : Nat} (hl : len < 9223372036854775808) (hB : m ≤ 64 ∧ (11 + m ≤ len ∨ m = 0)) (h : (BitVec.ofNat 64 (11 + m)).slt (BitVec.ofNat 64 len) = false) : m = min len 75 - 11 := by
  have := slt_no (by omega) hl h
  omega
set_option maxRecDepth 100000 in
set_option maxHeartbeats 8000000 in
theorem Frame_walk (T : TypeId) (len cap : Nat) (hl : len < 9223372036854775808) (x : AT) :
    FI Try.prog (tab noData tb_20) Try.f18 1 [.one (.slc 0 0 len cap)] [(0, .ro T [.seg 11 len (atF x)])] (fun v _ => v = .agg [.seg 11 11 (rgF (frR x len)), .seg 12 64 (plF (frP x len)), .b64 true 0#64]) := by
  repeat' (first
    | (with_reducible apply Given.mk; intro h; (try exact absurd h (by decide)))
    | ((conv => whnf); first
      | with_reducible apply Both.mk
      | ((fail_if_success (have _q := hA)); refine LoopP.mk (Nat) (fun y => y ≤ 11 ∧ y ≤ len) (fun y => mkS (Try.f18).ntmps [(0, .one (.slc 0 0 len cap)), (2, .one (.ptr 3 0)), (3, .one (.ptr 4 0)), (4, iN y)] [(4, .cells 62 [.seg 11 11 (rgF (frRn x y)), .seg 12 64 (plF gZ), .b64 true 0#64]), (3, .cells 62 [.seg 11 11 (rgF rZ), .seg 12 64 (plF gZ), .b64 true 0#64]), (0, .ro T [.seg 11 len (atF x)])]) (fun y => 11 - y) ⟨0, ⟨Nat.zero_le _, Nat.zero_le _⟩, ⟨?_, ?_, ?_, ?_, ?_⟩⟩ ?_; (focus ((repeat' ((conv => whnf); first | exact trivial | refine Both.mk (by first | with_reducible rfl | exact iN_succ _ | rfl) ?_)); done)); (focus ((repeat' ((conv => whnf); first | exact trivial | refine Both.mk (by first | with_reducible rfl | exact iN_succ _ | rfl) ?_)); done)); (focus exact rfl); (focus exact rfl); (focus exact rfl); rintro i hA; dsimp only at hA ⊢)
      | ((have _q := hA); (fail_if_success (have _q := hB)); (have ei : i = min len 11 := (by first | exact exA1 hA (by with_reducible assumption) | exact exA2 hl hA (by with_reducible assumption))); subst ei; refine LoopP.mk (Nat) (fun y => y ≤ 64 ∧ (11 + y ≤ len ∨ y = 0)) (fun y => mkS (Try.f18).ntmps [(0, .one (.slc 0 0 len cap)), (2, .one (.ptr 3 0)), (3, .one (.ptr 4 0)), (5, iN (11 + y))] [(4, .cells 62 [.seg 11 11 (rgF (frR x len)), .seg 12 64 (plF (stP x y)), .b64 true 0#64]), (3, .cells 62 [.seg 11 11 (rgF rZ), .seg 12 64 (plF gZ), .b64 true 0#64]), (0, .ro T [.seg 11 len (atF x)])]) (fun y => 64 - y) ⟨0, ⟨Nat.zero_le _, .inr rfl⟩, ⟨?_, ?_, ?_, ?_, ?_⟩⟩ ?_; (focus ((repeat' ((conv => whnf); first | exact trivial | refine Both.mk (by first | with_reducible rfl | exact iN_succ _ | rfl) ?_)); done)); (focus ((repeat' ((conv => whnf); first | exact trivial | refine Both.mk (by first | with_reducible rfl | exact iN_succ _ | rfl) ?_)); done)); (focus exact rfl); (focus exact rfl); (focus exact rfl); rintro m hB; dsimp only at hB ⊢)
      | (((fail_if_success (have _q := hB)); have hlt := goA hl hA (by with_reducible assumption) (by with_reducible assumption); refine ⟨i + 1, ?_, ?_, ⟨?_, ?_, ?_, ?_, ?_⟩⟩; (focus (exact hlt; done)); (focus ((try dsimp only); omega; done)); (focus ((repeat' ((conv => whnf); first | exact trivial | refine Both.mk (by first | with_reducible rfl | exact iN_succ _ | rfl | exact frame_upd x hA.1 _ _) ?_)); done)); (focus ((repeat' ((conv => whnf); first | exact trivial | refine Both.mk (by first | with_reducible rfl | exact iN_succ _ | rfl | exact frame_upd x hA.1 _ _) ?_)); done)); (focus exact rfl); (focus exact rfl); (focus exact rfl)))
      | ((have hlt := goB hl hB (by with_reducible assumption) (by with_reducible assumption); refine ⟨m + 1, ?_, ?_, ⟨?_, ?_, ?_, ?_, ?_⟩⟩; (focus (exact hlt; done)); (focus ((try dsimp only); omega; done)); (focus ((repeat' ((conv => whnf); first | exact trivial | refine Both.mk (by first | with_reducible rfl | exact iN_succ _ | rfl | exact congrArg (fun g => Blk.cells 62 [.seg 11 11 (rgF (frR x len)), .seg 12 64 (plF g), .b64 true 0#64]) (stP_1 (by assumption)) | exact congrArg (fun g => Blk.cells 62 [.seg 11 11 (rgF (frR x len)), .seg 12 64 (plF g), .b64 true 0#64]) (stP_0 (by assumption))) ?_)); done)); (focus ((repeat' ((conv => whnf); first | exact trivial | refine Both.mk (by first | with_reducible rfl | exact iN_succ _ | rfl | exact congrArg (fun g => Blk.cells 62 [.seg 11 11 (rgF (frR x len)), .seg 12 64 (plF g), .b64 true 0#64]) (stP_1 (by assumption)) | exact congrArg (fun g => Blk.cells 62 [.seg 11 11 (rgF (frR x len)), .seg 12 64 (plF g), .b64 true 0#64]) (stP_0 (by assumption))) ?_)); done)); (focus exact rfl); (focus exact rfl); (focus exact rfl)))))
  all_goals first
    | (with_reducible apply Ob.mk; kernel_rfl)
    | (with_reducible apply Ob.mk; decide)
    | ((with_reducible apply Ob.mk); exact hl)
    | ((with_reducible apply Ob.mk); exact ixl (Nat.lt_of_le_of_lt hA.1 (by decide)) hl (by with_reducible assumption))
    | ((with_reducible apply Ob.mk); exact (ixl (Nat.lt_of_le_of_lt hA.1 (by decide)) hl (by with_reducible assumption)).2)
    | ((with_reducible apply Ob.mk); exact ix11 hA.1 (by with_reducible assumption))
    | ((with_reducible apply Ob.mk); exact (ix11 hA.1 (by with_reducible assumption)).2)
    | ((with_reducible apply Ob.mk); exact ixl (by omega) hl (by with_reducible assumption))
    | ((with_reducible apply Ob.mk); exact (ixl (by omega) hl (by with_reducible assumption)).2)
    | ((with_reducible apply Ob.mk); with_reducible exact plF_ok _)
    | ((conv => whnf); (have em : m = min len 75 - 11 := (by first | exact exB1 hB (by with_reducible assumption) | exact exB2 hl hB (by with_reducible assumption))); subst em; rfl)
    | (with_reducible apply Ob.mk; skip)
    | ((conv => whnf); skip)
set_option maxRecDepth 100000 in
set_option maxHeartbeats 8000000 in
theorem Frame_walk0 (ad : Option Addr) (cap : Nat) :
    FI Try.prog (tab noData tb_20) Try.f18 1 [.one (.raw (.slice ad 0 cap))] [] (fun v _ => v = .agg [.seg 11 11 (rgF rZ), .seg 12 64 (plF gZ), .b64 true 0#64]) := by
  repeat' (first
    | (with_reducible apply Given.mk; intro h; (try exact absurd h (by decide)))
    | ((conv => whnf); first
      | with_reducible apply Both.mk
      | (refine LoopP.times 1 ?_)))
  all_goals first
    | (with_reducible apply Ob.mk; kernel_rfl)
    | (with_reducible apply Ob.mk; decide)
    | ((conv => whnf); rfl)
    | (with_reducible apply Ob.mk; skip)
    | ((conv => whnf); skip)
set_option maxRecDepth 100000 in
set_option maxHeartbeats 8000000 in
theorem Frame_walkZ (T : TypeId) (cap : Nat) (f : Nat → List PL) :
    FI Try.prog (tab noData tb_20) Try.f18 1 [.one (.slc 0 0 0 cap)] [(0, .ro T [.seg 11 0 f])] (fun v _ => v = .agg [.seg 11 11 (rgF rZ), .seg 12 64 (plF gZ), .b64 true 0#64]) := by
  repeat' (first
    | (with_reducible apply Given.mk; intro h; (try exact absurd h (by decide)))
    | ((conv => whnf); first
      | with_reducible apply Both.mk
      | (refine LoopP.times 1 ?_)))
  all_goals first
    | (with_reducible apply Ob.mk; kernel_rfl)
    | (with_reducible apply Ob.mk; decide)
    | ((conv => whnf); rfl)
    | (with_reducible apply Ob.mk; skip)
    | ((conv => whnf); skip)
theorem frR_0 (x : AT) : frR x 0 = rZ := by
  rw [frR, frRn, ← mkR_eta rZ]; congr 1
theorem frP_0 (x : AT) : frP x 0 = gZ := rfl
def sqFrame (len : Nat) (f : Nat → List PL) (rest : List AV) : Option (Cond × AV) := match rest with
  | [] => some (Cond.p (len < 9223372036854775808 ∧ (len = 0 ∨ f = atF (atOf f))), .agg [.seg 11 11 (rgF (frR (atOf f) len)), .seg 12 64 (plF (frP (atOf f) len)), .b64 true 0#64])
  | _ => none
set_option maxRecDepth 100000 in
set_option maxHeartbeats 8000000 in
theorem e_Frame : EntryM Try.prog anyWorld 18 (spS 11 sqFrame) := by
  refine .of_slice C_20 (by kernel_rfl) Try.func18 (by kernel_rfl) (by kernel_rfl) (fun len f rest c v h hc => ?_) (fun rest c v h hc => ?_)
  · unfold sqFrame at h
    split at h
    · cases h
      obtain ⟨hl, h0⟩ := hc
      refine ⟨rfl, rfl, fun T cap => ?_⟩
      rcases h0 with rfl | e
      · rw [frR_0, frP_0]
        exact Frame_walkZ T cap f
      · generalize atOf f = x at e ⊢
        subst e
        exact Frame_walk T len cap hl x
    · cases h
  · unfold sqFrame at h
    split at h
    · cases h
      intro ad cap
      rw [frR_0, frP_0]
      exact Frame_walk0 ad cap
    · cases h
abbrev ms_20 : List (Nat × SpM) := [(18, spS 11 sqFrame)]
theorem C_M2 : CSound Try.prog anyWorld (withMk (tabM noData tb_20 ms_20) ks_20) := (CSound.consM (CSound.startM C_20) e_Frame).withMk (.cons e_all .nil)
end Go.Proofs.Ytiopddomdpoaaaa
