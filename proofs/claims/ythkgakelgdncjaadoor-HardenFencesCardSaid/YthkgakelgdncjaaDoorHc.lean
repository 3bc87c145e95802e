/-
  Chapter 23: the barrier's world; what follows where nothing is wrong. Conditions: as typed.
-/
import Derived.Test.YthkgakelgdncjaaDoorHb
import Derived.Test.YthkgakelgdncjaaDoorFd
import Derived.Test.YthkgakelgdncjaaDoorRows
namespace Go.Proofs.YthkgakelgdncjaaDoor
open Go.Ep Go.RowKit Go.ChangeShapes Go.WideShapes
set_option linter.unusedVariables false
set_option linter.unusedSimpArgs false
abbrev gBar : Nat := 0
def Gbar : World → Prop := fun w => gBar < w.heap.size ∧ ∀ j, j < (flatC 8 (Rows.laid_firewall_harden_barrier : DataW Unit)).length → w.cell? ⟨gBar, j, none⟩ = (flatC 8 (Rows.laid_firewall_harden_barrier : DataW Unit))[j]?
def Dbar : VData where
  glob := fun T g off => match Nat.beq T 54, Nat.beq g gBar, Nat.beq off 0 with
    | true, true, true => some (.agg (inL barI))
    | _, _, _ => none
  look := fun _ _ _ _ _ => none
theorem bar_len : (flatC 8 (Rows.laid_firewall_harden_barrier : DataW Unit)).length = 5 := by kernel_rfl
theorem bar_eq : mapLeaf (flatC 8 (Rows.laid_firewall_harden_barrier : DataW Unit)) = inL barI := by kernel_rfl
theorem glob_agg {P : Program} {w : World} {g T off : Nat} {inf : TypeInfo} (hi : P.info? T = some inf) (hA : isAggT P T = some true) (vs : List Value) (hn : vs.length = inf.size)
    (hc : ∀ j v, vs[j]? = some v → w.cell? ⟨g, off + j, none⟩ = some v) : (loadVar T ⟨g, off, none⟩).run P w = .ok (.agg vs.toArray) w := by
  have hl' := run_loadCells_list (P := P) w ⟨g, off, none⟩ vs (fun j v hv => by rw [addr_add]; exact hc j v hv)
  rw [hn] at hl'
  simp [loadVar, isAgg_run hA, sizeOf_run hi, hl']
theorem Dbar_ok : DataOK Tryd.prog Gbar Dbar := by
  refine ⟨fun w w' h hb => ⟨Nat.lt_of_lt_of_le h.1 hb.size, fun j hj => by rw [World.cell?_of_block (w := w) (hb.block _ h.1)]; exact h.2 j hj⟩, fun T g off v h => ?_, fun T ok g b key c v h => by cases h⟩
  simp only [Dbar] at h
  split at h
  · rename_i h1 h2 h3
    obtain rfl : T = 54 := by simpa using h1
    obtain rfl : g = gBar := by simpa using h2
    obtain rfl : off = 0 := by simpa using h3
    obtain rfl := Option.some.inj h
    refine ⟨rfl, fun w hw => ?_⟩
    obtain ⟨inf, hi, hs⟩ : ∃ inf, Tryd.prog.info? 54 = some inf ∧ inf.size = 5 := by
      cases hh : Tryd.prog.info? 54 with
      | none => exact absurd hh (by have : (Tryd.prog.info? 54).isSome = true := by kernel_rfl
                                    intro e; rw [e] at this; cases this)
      | some inf =>
        refine ⟨inf, rfl, ?_⟩
        have : (Tryd.prog.info? 54).map (·.size) = some 5 := by kernel_rfl
        rw [hh] at this; simpa using this
    refine ⟨_, glob_agg hi (by kernel_rfl) (flatC 8 (Rows.laid_firewall_harden_barrier : DataW Unit)) (by rw [bar_len, hs]) (fun j v hv => ?_), fun ρ => ⟨_, rfl, ?_⟩⟩
    · have hj : j < 5 := by have := (List.getElem?_eq_some_iff.1 hv).1; rw [bar_len] at this; exact this
      rw [Nat.zero_add, hw.2 j (by rw [bar_len]; exact hj)]
      exact hv
    · rw [← bar_eq]; exact mapLeaf_rel _
  · cases h
theorem Gbar_of {W : World} (h : laidMetH Tryd.prog [("firewall/harden.barrier", Rows.laid_firewall_harden_barrier)] W) : Gbar W := by
  rw [MakeChecks.laidMetH_plain _ _ _ (by kernel_rfl)] at h
  obtain ⟨ps, h, _⟩ := h
  obtain ⟨h1, q1, h⟩ := laid_flat (g := gBar) (T := 54) (l := [.int .u8, .int .u8, .int .u8, .int .i16, .int .i32]) h (by kernel_rfl) (by kernel_rfl) 8 (by kernel_rfl)
  have f0 := h1 0 (by rw [bar_len]; decide)
  refine ⟨?_, h1⟩
  have : ((flatC 8 (Rows.laid_firewall_harden_barrier : DataW Unit))[0]?).isSome = true := by kernel_rfl
  cases hf : (flatC 8 (Rows.laid_firewall_harden_barrier : DataW Unit))[0]? with
  | none => rw [hf] at this; cases this
  | some v =>
    rw [hf] at f0
    cases ho : W.heap[gBar]? with
    | none => simp [World.cell?, ho] at f0
    | some o => exact (Array.getElem?_eq_some_iff.1 ho).1
/- What follows where nothing is wrong. -/
theorem may_jmp {o : BitVec 8} (h : mayB o = true) : jmpB o = true := by
  unfold mayB at h
  rw [Bool.and_eq_true] at h
  exact h.1
theorem may_first {x : IT} {n k : Nat} {m : BitVec 64} {w : Bool} (G : Good x n m w) (hk : k < n) (h : mayB (x k).o = true) : hf x k = false := by
  cases e : hf x k with
  | false => rfl
  | true =>
    rw [(half_o G hk e).1] at h
    exact absurd h (by decide)
theorem tg_ok {x : IT} {n : Nat} {m : BitVec 64} {w : Bool} (G : Good x n m w) : TgOK x n := by
  intro k hk h
  obtain ⟨h1, _, h3, _⟩ := toV_lt G.ways hk (may_first G hk h) (may_jmp h)
  refine ⟨?_, by omega⟩
  have e0 : (0#64).toInt = 0 := rfl
  have : ¬ ((toV x (bv k)).slt 0#64 = true) := by rw [h3]; decide
  rw [BitVec.slt_iff_toInt_lt, e0] at this
  omega
theorem fK_jmp : ∀ (o : BitVec 8) (w : Bool), fK o w = true → jmpB o = (mayB o || o == 5#8) := by decide +kernel
theorem is_eq {x : IT} {n k : Nat} {m : BitVec 64} {w : Bool} (G : Good x n m w) (hk : k < n) (h : hf x k = false) : jmpB (x k).o = (mayB (x k).o || (x k).o == 5#8) := by
  have h1 := G.alone k hk h
  have hb : (bv k).toNat = k := nat_ofNat (by have := G.ways.small; omega)
  unfold aloneE at h1
  rw [hb] at h1
  refine fK_jmp _ w ?_
  cases e : fK (x k).o w with
  | true => rfl
  | false =>
    exfalso
    have e2 : iCheck (x k).o (x k).d (x k).s (x k).f (x k).i w = 20#64 := by unfold iCheck; rw [e]; rfl
    rw [e2, if_pos (by decide)] at h1
    exact absurd h1 (by decide)
theorem jto_lt {x : IT} {n k : Nat} {m : BitVec 64} {w : Bool} (G : Good x n m w) (hk : k < n) (h : hf x k = false) (hj : jmpB (x k).o = true) : 0 ≤ (toV x (bv k)).toInt ∧ (toV x (bv k)).toNat < n := by
  obtain ⟨h1, _, h3, _⟩ := toV_lt G.ways hk h hj
  refine ⟨?_, h1⟩
  have e0 : (0#64).toInt = 0 := rfl
  have : ¬ ((toV x (bv k)).slt 0#64 = true) := by rw [h3]; decide
  rw [BitVec.slt_iff_toInt_lt, e0] at this
  omega
end Go.Proofs.YthkgakelgdncjaaDoor
