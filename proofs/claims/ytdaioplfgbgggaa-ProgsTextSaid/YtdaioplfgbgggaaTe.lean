/-
  Chapter 04: the document's raw and line: contracts by the kind of the answer. Conditions: as typed.
-/
import Derived.Test.YtdaioplfgbgggaaTc
import Derived.Test.YtdaioplfgbgggaaPy
namespace Go.Proofs.Ytdaioplfgbgggaa
open Go.Ep Go.RowKit
set_option linter.unusedVariables false
set_option linter.unusedSimpArgs false
theorem C_raw : CSound Try.prog anyWorld (withIm (withHL (withH (tab noData tb_t) [(57, h_parse)]) [(58, h_flds)]) [58]) := ((C_t.withH (.cons e_parse .nil)).withHL (.cons e_flds .nil)).withIm _
theorem flen5 {a : Nat} (ha : a ≤ 4001) (h : (BitVec.ofNat 64 a != 5#64) = false) : a = 5 := by
  have h : BitVec.ofNat 64 a = BitVec.ofNat 64 5 := by simpa using h
  have := congrArg BitVec.toNat h
  rwa [nat_ofNat (by omega), nat_ofNat (by omega)] at this
theorem short_from {wg : Nat → ByteArray} (hz : ∀ j, (wg j).size ≤ 4000) (k : Nat) : Short (fun t => sF wg (k + t)) := ⟨rfl, fun j => hz (k + j)⟩
set_option maxRecDepth 100000 in
set_option maxHeartbeats 16000000 in
theorem raw_walk (T : TypeId) (len cap : Nat) (wg : Nat → ByteArray) (hl : len ≤ 4001) (hg : ∀ j, (wg j).size ≤ 4000) (hlc : len ≤ cap) :
    FI Try.prog (withIm (withHL (withH (tab noData tb_t) [(57, h_parse)]) [(58, h_flds)]) [58]) Try.f55 1 [.one (.slc 0 0 len cap)] [(0, .ro T [.seg 1 len (sF wg)])] (KI .t) := by
  repeat' (first
    | ((with_reducible apply Given.mk); intro h; (try dsimp only [hkI] at h); (try (have el : len = 5 := flen5 hl h; subst el; obtain ⟨c, rfl⟩ : ∃ c, cap = c + 5 := ⟨cap - 5, by omega⟩)); (try (first | exact absurd (show (0#64).slt 3#64 = false from h) (by decide) | exact absurd (show (0#64 + 1#64).slt 3#64 = false from h) (by decide) | exact absurd (show (0#64 + 1#64 + 1#64).slt 3#64 = false from h) (by decide) | exact absurd (show (0#64 + 1#64 + 1#64 + 1#64).slt 3#64 = true from h) (by decide) |  skip)); (try simp only [BitVec.reduceBNe, BitVec.reduceBEq, beq_self_eq_true, bne_self_eq_false, Bool.or_false, Bool.false_or, Bool.and_true, Bool.true_and, decide_true, Bool.true_eq_false, Bool.false_eq_true, Bool.not_true, Bool.not_false] at h))
    | ((conv => whnf); first
      | with_reducible apply Both.mk
      | ((with_reducible apply Each.mk); intro kk)
      | (refine LoopP.times 4 ?_)))
  all_goals first
    | ((with_reducible apply Ob.mk); with_reducible assumption)
    | (with_reducible apply Ob.mk; kernel_rfl)
    | ((with_reducible apply Ob.mk); show len < 9223372036854775808; omega)
    | ((with_reducible apply Ob.mk); exact wgs hg _)
    | ((with_reducible apply Ob.mk); exact fun _ => rfl)
    | ((with_reducible apply Ob.mk); exact ⟨by decide, hlc⟩)
    | ((with_reducible apply Ob.mk); show 3 + 2 ≤ 5 ∧ 2 ≤ c + 5 - 3; omega)
    | ((with_reducible apply Ob.mk); exact ⟨by decide, short_from hg _, by decide⟩)
    | ((with_reducible apply Ob.mk); exact Nat.le_refl _)
    | ((with_reducible apply Ob.mk); decide)
    | ((conv => whnf); exact .inl ⟨false, rfl, rfl⟩)
    | ((conv => whnf); exact .inl ⟨kk, h, rfl⟩)
    | ((conv => whnf); exact .inr ⟨kk, _, trivial, rfl, rfl⟩)
    | (with_reducible apply Ob.mk; skip)
    | ((conv => whnf); skip)
def h_raw : SpHL := fun len g pre => match pre with
  | [] => some (hkI (Cond.p (len ≤ 4001 ∧ Short g ∧ True)))
  | _ => none
set_option maxRecDepth 100000 in
theorem e_raw : EntryHL Try.prog anyWorld 55 h_raw := by
  refine .of_FI C_raw (by kernel_rfl) Try.func55 (by kernel_rfl) (by kernel_rfl) (fun len g pre a h hc => ?_)
  unfold h_raw at h
  split at h
  · cases h
    refine ⟨rfl, fun _ => rfl, fun _ => rfl, fun _ => ⟨rfl, rfl⟩, fun T cap hlc => ?_⟩
    obtain ⟨hl, ⟨hg, hz⟩, hx⟩ := hc
    generalize sOf g = wg at hg hz
    subst hg
    exact raw_walk T len cap wg hl hz hlc
  · cases h
theorem C_line : CSound Try.prog anyWorld (withIm (withHL (withH (tab noData ((67, sp_nm) :: tb_t)) [(59, h_num), (56, h_reg), (57, h_parse)]) [(58, h_flds), (55, h_raw)]) [58, 55]) := (((C_t.cons e_nm).withH (.cons e_num (.cons e_reg (.cons e_parse .nil)))).withHL (.cons e_flds (.cons e_raw .nil))).withIm _
/-- Slots, one or two, or none; and whether it is a line. -/
def hkL (c : Cond) : HK := ⟨c, Bool, fun b => b = false, fun b => .tup [(false, [.raw (.slice none 0 0)]), (false, [.bool b])], Nat × IT × Bool, fun k => 1 ≤ k.1 ∧ k.1 ≤ 2, fun k => k.1, fun k => [(false, [.bool k.2.2])], fun k => .row 37 5 k.1 (inF k.2.1)⟩
abbrev KL (c : Cond) : AV → List (Nat × Blk) → Prop := fun r h => (∃ k, (hkL c).ok1 k ∧ r = (hkL c).v1 k) ∨ ∃ k x, (hkL c).ok2 k ∧ r = rowV (hkL c) k x ∧ Go.Ep.look h x = some ((hkL c).b2 k)
theorem joinF_in2 (n : Nat) (y z : IT) : joinF n (inF y) (inF z) = inF (fun j => if n ≤ j then z (j - n) else y j) := by
  funext j
  by_cases h : n ≤ j <;> simp [joinF, mergeP, pickP, inF, h]
theorem isI_join {n : Nat} {f g : Nat → List PL} (hf : f = inF (inOf f)) (hg : g = inF (inOf g)) : joinF n f g = inF (inOf (joinF n f g)) := by
  rw [hf, hg, joinF_in2]
  rfl
theorem isI_cut2 (a1 a2 a3 b1 b2 b3 : BitVec 8) (a4 b4 : BitVec 16) (a5 b5 : BitVec 32) (z : Nat) (hz : z = 5) : cutN 2 z [.b8 false a1, .b8 false a2, .b8 false a3, .b16 true a4, .b32 true a5, .b8 false b1, .b8 false b2, .b8 false b3, .b16 true b4, .b32 true b5] = inF (inOf (cutN 2 z [.b8 false a1, .b8 false a2, .b8 false a3, .b16 true a4, .b32 true a5, .b8 false b1, .b8 false b2, .b8 false b3, .b16 true b4, .b32 true b5])) := by
  subst hz
  funext k
  cases k with
  | zero => rfl
  | succ k => cases k <;> rfl
abbrev zL : List PL := [.b8 false 0#8, .b8 false 0#8, .b8 false 0#8, .b16 true 0#16, .b32 true 0#32]
theorem len3 {a : Nat} (ha : a ≤ 4001) (hx : 1 ≤ a) (h : (BitVec.ofNat 64 (a - 1) == 2#64) = true) : a = 3 := by
  have h : BitVec.ofNat 64 (a - 1) = BitVec.ofNat 64 2 := by simpa using h
  have := congrArg BitVec.toNat h
  rw [nat_ofNat (by omega), nat_ofNat (by omega)] at this
  omega
theorem le256 {k : Nat} (h : k ≤ 256) (h2 : (BitVec.ofNat 64 k).slt 256#64 = true) : k + 1 ≤ 256 := by
  have h3 : (BitVec.ofNat 64 k).slt (BitVec.ofNat 64 256) = true := h2
  rw [slt_nat (by omega) (by decide)] at h3
  have := of_decide_eq_true h3
  omega
theorem lcls_of {C : Prop} (o : BitVec 8) (k0 : (o == 194#8) = true → (o == 149#8) = false → (o == 133#8) = false → (o == 5#8) = false → isLx o = false → isSt o = false → isSx o = false → isA o = false → isJ o = false → C) (k1 : (o == 194#8) = false → (o == 149#8) = true → (o == 133#8) = false → (o == 5#8) = false → isLx o = false → isSt o = false → isSx o = false → isA o = false → isJ o = true → orr o = false → decide (nameS o = ⟨#[]⟩) = true → C) (k2 : (o == 194#8) = false → (o == 149#8) = false → (o == 133#8) = true → (o == 5#8) = false → isLx o = false → isSt o = false → isSx o = false → isA o = false → isJ o = true → orr o = false → decide (nameS o = ⟨#[]⟩) = true → C) (k3 : (o == 194#8) = false → (o == 149#8) = false → (o == 133#8) = false → (o == 5#8) = true → isLx o = false → isSt o = false → isSx o = false → isA o = false → isJ o = true → orr o = false → decide (nameS o = ⟨#[]⟩) = true → C) (k4 : (o == 194#8) = false → (o == 149#8) = false → (o == 133#8) = false → (o == 5#8) = false → isLx o = true → isSt o = false → isSx o = false → isA o = false → isJ o = false → C) (k5 : (o == 194#8) = false → (o == 149#8) = false → (o == 133#8) = false → (o == 5#8) = false → isLx o = false → isSt o = true → isSx o = false → isA o = false → isJ o = false → C) (k6 : (o == 194#8) = false → (o == 149#8) = false → (o == 133#8) = false → (o == 5#8) = false → isLx o = false → isSt o = false → isSx o = true → isA o = false → isJ o = false → C) (k7 : (o == 194#8) = false → (o == 149#8) = false → (o == 133#8) = false → (o == 5#8) = false → isLx o = false → isSt o = false → isSx o = false → orr o = true → C) (k8 : (o == 194#8) = false → (o == 149#8) = false → (o == 133#8) = false → (o == 5#8) = false → isLx o = false → isSt o = false → isSx o = false → isA o = false → isJ o = false → orr o = false → C) (k9 : (o == 194#8) = false → (o == 149#8) = false → (o == 133#8) = false → (o == 5#8) = false → isLx o = false → isSt o = false → isSx o = false → isA o = true → isJ o = false → orr o = false → C) (k10 : (o == 194#8) = false → (o == 149#8) = false → (o == 133#8) = false → (o == 5#8) = false → isLx o = false → isSt o = false → isSx o = false → isA o = false → isJ o = true → orr o = false → C) : C := by
  have h := all8 (p := fun o => ((o == 194#8) && !((o == 149#8)) && !((o == 133#8)) && !((o == 5#8)) && !(isLx o) && !(isSt o) && !(isSx o) && !(isA o) && !(isJ o)) || (!((o == 194#8)) && (o == 149#8) && !((o == 133#8)) && !((o == 5#8)) && !(isLx o) && !(isSt o) && !(isSx o) && !(isA o) && isJ o && !(orr o) && decide (nameS o = ⟨#[]⟩)) || (!((o == 194#8)) && !((o == 149#8)) && (o == 133#8) && !((o == 5#8)) && !(isLx o) && !(isSt o) && !(isSx o) && !(isA o) && isJ o && !(orr o) && decide (nameS o = ⟨#[]⟩)) || (!((o == 194#8)) && !((o == 149#8)) && !((o == 133#8)) && (o == 5#8) && !(isLx o) && !(isSt o) && !(isSx o) && !(isA o) && isJ o && !(orr o) && decide (nameS o = ⟨#[]⟩)) || (!((o == 194#8)) && !((o == 149#8)) && !((o == 133#8)) && !((o == 5#8)) && isLx o && !(isSt o) && !(isSx o) && !(isA o) && !(isJ o)) || (!((o == 194#8)) && !((o == 149#8)) && !((o == 133#8)) && !((o == 5#8)) && !(isLx o) && isSt o && !(isSx o) && !(isA o) && !(isJ o)) || (!((o == 194#8)) && !((o == 149#8)) && !((o == 133#8)) && !((o == 5#8)) && !(isLx o) && !(isSt o) && isSx o && !(isA o) && !(isJ o)) || (!((o == 194#8)) && !((o == 149#8)) && !((o == 133#8)) && !((o == 5#8)) && !(isLx o) && !(isSt o) && !(isSx o) && orr o) || (!((o == 194#8)) && !((o == 149#8)) && !((o == 133#8)) && !((o == 5#8)) && !(isLx o) && !(isSt o) && !(isSx o) && !(isA o) && !(isJ o) && !(orr o)) || (!((o == 194#8)) && !((o == 149#8)) && !((o == 133#8)) && !((o == 5#8)) && !(isLx o) && !(isSt o) && !(isSx o) && isA o && !(isJ o) && !(orr o)) || (!((o == 194#8)) && !((o == 149#8)) && !((o == 133#8)) && !((o == 5#8)) && !(isLx o) && !(isSt o) && !(isSx o) && !(isA o) && isJ o && !(orr o))) (by decide +kernel) o
  simp only [Bool.or_eq_true, Bool.and_eq_true, Bool.not_eq_true'] at h
  rcases h with (((((((((h | h) | h) | h) | h) | h) | h) | h) | h) | h) | h
  · exact k0 h.1.1.1.1.1.1.1.1 h.1.1.1.1.1.1.1.2 h.1.1.1.1.1.1.2 h.1.1.1.1.1.2 h.1.1.1.1.2 h.1.1.1.2 h.1.1.2 h.1.2 h.2
  · exact k1 h.1.1.1.1.1.1.1.1.1.1 h.1.1.1.1.1.1.1.1.1.2 h.1.1.1.1.1.1.1.1.2 h.1.1.1.1.1.1.1.2 h.1.1.1.1.1.1.2 h.1.1.1.1.1.2 h.1.1.1.1.2 h.1.1.1.2 h.1.1.2 h.1.2 h.2
  · exact k2 h.1.1.1.1.1.1.1.1.1.1 h.1.1.1.1.1.1.1.1.1.2 h.1.1.1.1.1.1.1.1.2 h.1.1.1.1.1.1.1.2 h.1.1.1.1.1.1.2 h.1.1.1.1.1.2 h.1.1.1.1.2 h.1.1.1.2 h.1.1.2 h.1.2 h.2
  · exact k3 h.1.1.1.1.1.1.1.1.1.1 h.1.1.1.1.1.1.1.1.1.2 h.1.1.1.1.1.1.1.1.2 h.1.1.1.1.1.1.1.2 h.1.1.1.1.1.1.2 h.1.1.1.1.1.2 h.1.1.1.1.2 h.1.1.1.2 h.1.1.2 h.1.2 h.2
  · exact k4 h.1.1.1.1.1.1.1.1 h.1.1.1.1.1.1.1.2 h.1.1.1.1.1.1.2 h.1.1.1.1.1.2 h.1.1.1.1.2 h.1.1.1.2 h.1.1.2 h.1.2 h.2
  · exact k5 h.1.1.1.1.1.1.1.1 h.1.1.1.1.1.1.1.2 h.1.1.1.1.1.1.2 h.1.1.1.1.1.2 h.1.1.1.1.2 h.1.1.1.2 h.1.1.2 h.1.2 h.2
  · exact k6 h.1.1.1.1.1.1.1.1 h.1.1.1.1.1.1.1.2 h.1.1.1.1.1.1.2 h.1.1.1.1.1.2 h.1.1.1.1.2 h.1.1.1.2 h.1.1.2 h.1.2 h.2
  · exact k7 h.1.1.1.1.1.1.1 h.1.1.1.1.1.1.2 h.1.1.1.1.1.2 h.1.1.1.1.2 h.1.1.1.2 h.1.1.2 h.1.2 h.2
  · exact k8 h.1.1.1.1.1.1.1.1.1 h.1.1.1.1.1.1.1.1.2 h.1.1.1.1.1.1.1.2 h.1.1.1.1.1.1.2 h.1.1.1.1.1.2 h.1.1.1.1.2 h.1.1.1.2 h.1.1.2 h.1.2 h.2
  · exact k9 h.1.1.1.1.1.1.1.1.1 h.1.1.1.1.1.1.1.1.2 h.1.1.1.1.1.1.1.2 h.1.1.1.1.1.1.2 h.1.1.1.1.1.2 h.1.1.1.1.2 h.1.1.1.2 h.1.1.2 h.1.2 h.2
  · exact k10 h.1.1.1.1.1.1.1.1.1 h.1.1.1.1.1.1.1.1.2 h.1.1.1.1.1.1.1.2 h.1.1.1.1.1.1.2 h.1.1.1.1.1.2 h.1.1.1.1.2 h.1.1.1.2 h.1.1.2 h.1.2 h.2
end Go.Proofs.Ytdaioplfgbgggaa
