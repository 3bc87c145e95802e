/-
  Chapter 04: the document's lines: contracts by the kind of the answer. Conditions: as typed.
-/
import Derived.Test.YtdaioplfgbgggaaTb
import Derived.Test.YtdaioplfgbgggaaPy
namespace Go.Proofs.Ytdaioplfgbgggaa
open Go.Ep Go.RowKit
set_option linter.unusedVariables false
set_option linter.unusedSimpArgs false
def sOf (f : Nat → List PL) : Nat → ByteArray := fun j => match f j with
  | [.str s] => s
  | _ => eB
abbrev Short (g : Nat → List PL) : Prop := g = sF (sOf g) ∧ ∀ j, (sOf g j).size ≤ 4000
/-- A program's slots, or none, and whether it is one. -/
def hkI (c : Cond) : HK := ⟨c, Bool, fun b => b = false, fun b => .tup [(false, [.raw (.slice none 0 0)]), (false, [.bool b])], IN × Bool, fun _ => True, fun _ => 1, fun k => [(false, [.bool k.2])], fun k => .row 37 5 1 (inF fun _ => k.1)⟩
abbrev KI (c : Cond) : AV → List (Nat × Blk) → Prop := fun r h => (∃ k, (hkI c).ok1 k ∧ r = (hkI c).v1 k) ∨ ∃ k x, (hkI c).ok2 k ∧ r = rowV (hkI c) k x ∧ Go.Ep.look h x = some ((hkI c).b2 k)
theorem wgs {wg : Nat → ByteArray} (H : ∀ j, (wg j).size ≤ 4000) (j : Nat) : (wg j).size < 9223372036854775808 := Nat.lt_of_le_of_lt (H j) (by decide)
theorem C_flds : CSound Try.prog anyWorld (withIm (withH (tab noData tb_t) [(80, h_fldT)]) [80]) := (C_t.withH (.cons e_fldT .nil)).withIm _
theorem flen {a b : Nat} (ha : a ≤ 4001) (hb : b ≤ 3) (h : (BitVec.ofNat 64 a != BitVec.ofNat 64 b) = false) : a = b := by
  have h : BitVec.ofNat 64 a = BitVec.ofNat 64 b := by simpa using h
  have := congrArg BitVec.toNat h
  rwa [nat_ofNat (by omega), nat_ofNat (by omega)] at this
set_option maxRecDepth 100000 in
set_option maxHeartbeats 16000000 in
theorem flds_walk (a1 a2 a3 : BitVec 8) (a4 : BitVec 16) (a5 : BitVec 32) (kd : ByteArray) (hk : kd.size ≤ 3) (T : TypeId) (len cap : Nat) (wg : Nat → ByteArray) (hl : len ≤ 4001) (hg : ∀ j, (wg j).size ≤ 4000) :
    FI Try.prog (withIm (withH (tab noData tb_t) [(80, h_fldT)]) [80]) Try.f58 1 [.agg [.b8 false a1, .b8 false a2, .b8 false a3, .b16 true a4, .b32 true a5], .one (.str kd), .one (.slc 0 0 len cap)] [(0, .ro T [.seg 1 len (sF wg)])] (KI (.t)) := by
  repeat' (first
    | ((with_reducible apply Given.mk); intro h; (try (have el : len = kd.size := flen hl hk h)); (try (have hlt : k < len := lt63 (by omega) q1 h)); (try simp only [BitVec.reduceBNe, BitVec.reduceBEq, beq_self_eq_true, bne_self_eq_false, Bool.or_false, Bool.false_or, Bool.and_true, Bool.true_and, decide_true, Bool.true_eq_false, Bool.false_eq_true, Bool.not_true, Bool.not_false] at h))
    | ((conv => whnf); first
      | with_reducible apply Both.mk
      | ((with_reducible apply Each.mk); intro kk)
      | ((fail_if_success (have _q := q1)); refine LoopP.mk (IN × Nat) (fun k => k.2 ≤ len) ((fun k => mkS (Try.f58).ntmps [(1, .one (.str kd)), (2, .one (.slc 0 0 len cap)), (3, .one (.ptr 4 0)), (8, iN k.2)] [(4, .cells 37 [.b8 false k.1.o, .b8 false k.1.d, .b8 false k.1.s, .b16 true k.1.f, .b32 true k.1.i]), (0, .ro T [.seg 1 len (sF wg)])])) (fun k => len - k.2) ⟨(⟨a1, a2, a3, a4, a5⟩, 0), Nat.zero_le _, ⟨?_, ?_, ?_, ?_, ?_⟩⟩ ?_; (focus ((repeat' ((conv => whnf); first | exact trivial | refine Both.mk (by first | with_reducible rfl | exact iN_succ _ | rfl) ?_)); done)); (focus ((repeat' ((conv => whnf); first | exact trivial | refine Both.mk (by first | with_reducible rfl | exact iN_succ _ | rfl) ?_)); done)); (focus exact rfl); (focus exact rfl); (focus exact rfl); (rintro ⟨y, k⟩ q1 <;> dsimp only at q1 <;> dsimp only))))
  all_goals first
    | ((with_reducible apply Ob.mk); with_reducible assumption)
    | (with_reducible apply Ob.mk; kernel_rfl)
    | ((with_reducible apply Ob.mk); show len < 9223372036854775808; omega)
    | ((with_reducible apply Ob.mk); show kd.size < 9223372036854775808; omega)
    | ((with_reducible apply Ob.mk); exact ix_ofNat (by omega) (by omega))
    | ((with_reducible apply Ob.mk); exact (ix_ofNat (a := k) (n := len) (by omega) hlt).2)
    | ((with_reducible apply Ob.mk); exact wgs hg _)
    | ((with_reducible apply Ob.mk); exact fun _ => rfl)
    | ((conv => whnf); exact .inl ⟨false, rfl, rfl⟩)
    | ((conv => whnf); exact .inr ⟨(y, true), _, trivial, rfl, rfl⟩)
    | ((conv => whnf); refine ⟨(kk.1, k + 1), (by show k + 1 ≤ len; omega), (by show len - (k + 1) < len - k; omega), ⟨?_, ?_, ?_, ?_, ?_⟩⟩; (focus ((repeat' ((conv => whnf); first | exact trivial | refine Both.mk (by first | with_reducible rfl | exact iN_succ _ | rfl) ?_)); done)); (focus ((repeat' ((conv => whnf); first | exact trivial | refine Both.mk (by first | with_reducible rfl | exact iN_succ _ | rfl) ?_)); done)); (focus exact rfl); (focus exact rfl); (focus exact rfl))
    | (with_reducible apply Ob.mk; skip)
    | ((conv => whnf); skip)
def h_flds : SpHL := fun len g pre => match pre with
  | [.agg [.b8 false a1, .b8 false a2, .b8 false a3, .b16 true a4, .b32 true a5], .one (.str kd)] => some (hkI (Cond.p (len ≤ 4001 ∧ Short g ∧ kd.size ≤ 3)))
  | _ => none
set_option maxRecDepth 100000 in
theorem e_flds : EntryHL Try.prog anyWorld 58 h_flds := by
  refine .of_FI C_flds (by kernel_rfl) Try.func58 (by kernel_rfl) (by kernel_rfl) (fun len g pre a h hc => ?_)
  unfold h_flds at h
  split at h
  · cases h
    refine ⟨rfl, fun _ => rfl, fun _ => rfl, fun _ => ⟨rfl, rfl⟩, fun T cap hlc => ?_⟩
    obtain ⟨hl, ⟨hg, hz⟩, hx⟩ := hc
    generalize sOf g = wg at hg hz
    subst hg
    exact flds_walk _ _ _ _ _ _ hx T len cap wg hl hz
  · cases h
end Go.Proofs.Ytdaioplfgbgggaa
