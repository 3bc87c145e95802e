/-
  The world of the tied laws of chapter 12. Conditions: as typed.
-/
import Derived.Test.YtppankimieopiaaDoorCpE
namespace Go.Proofs.YtppankimieopiaaDoor
open Go.Ep Go.RowKit Go.ChangeShapes Go.WideShapes
set_option linter.unusedVariables false
set_option linter.unusedSimpArgs false

def GU (m : Nat → Nat) : World → Prop := and2 (GB m) (and2 (GP m) anyWorld)
abbrev DU (m : Nat → Nat) : VData := or2 (DB m) (or2 (DP m) noData)
theorem C_u (m : Nat → Nat) : CSound Tryd.prog (GU m) (tab (DU m) (tb_firewalllaw12_done m)) := C_firewalllaw12_done anyWorld noData .none m
abbrev gLd : Nat := 2
abbrev gDz : Nat := 6
abbrev gSf : Nat := 0
theorem GU_of {W : World} (h : laidMetH Tryd.prog [("firewall/codec.forms", Rows.laid_firewall_codec_forms), ("firewall/codec.loads", Rows.laid_firewall_codec_loads), ("firewall/codec.conds", Rows.laid_firewall_codec_conds),
    ("firewall/cpu.does", Rows.laid_firewall_cpu_does), ("firewall/cpu.shifts", Rows.laid_firewall_cpu_shifts)] W) : ∃ m, GU m W := by
  rw [MakeChecks.laidMetH_plain _ _ _ (by kernel_rfl)] at h
  obtain ⟨ps, h, _⟩ := h
  obtain ⟨h1, q1, h⟩ := laid_flat (g := 1) (T := 82) (l := (List.replicate 22 [Leaf.str, .int .i64, .int .i64, .int .i64, .int .i64, .bool, .bool]).flatten) h (by kernel_rfl) (by kernel_rfl) 8 (by kernel_rfl)
  obtain ⟨⟨b2, h2⟩, q2, h⟩ := laid_map (g := gLd) (T := 95) h (by kernel_rfl) (by kernel_rfl) Tryd.underlying95
  obtain ⟨⟨b3, o3, h3, h3'⟩, q3, h⟩ := laid_ints (g := gCd) (T := 97) (ns := condZ) (k := .i64) h (by kernel_rfl) (by kernel_rfl) Tryd.underlying97 Tryd.underlying3 (by kernel_rfl) (by decide)
  obtain ⟨⟨b4, h4⟩, q4, h⟩ := laid_map (g := gDz) (T := 65) h (by kernel_rfl) (by kernel_rfl) Tryd.underlying65
  obtain ⟨⟨b5, h5⟩, _⟩ := laid_map (g := gSf) (T := 65) h (by kernel_rfl) (by kernel_rfl) Tryd.underlying65
  have low : ∀ {a : Addr} {v : Value}, W.cell? a = some v → a.block < W.heap.size := by
    intro a v e
    cases ho : W.heap[a.block]? with
    | none => simp [World.cell?, ho] at e
    | some o => exact (Array.getElem?_eq_some_iff.1 ho).1
  have z0 := h3' 0 (by decide)
  have f0 := h1 0 (by rw [forms_len]; decide)
  refine ⟨fun g => if g = gLd then b2 else if g = gCd then b3 else if g = gCd + 1000 then o3 else if g = gDz then b4 else b5, ⟨⟨?_, h1⟩, h2, ?_, ?_, ?_, ?_⟩, ⟨h4, h5⟩, trivial⟩
  · have : ((flatC 8 (Rows.laid_firewall_codec_forms : DataW Unit))[0]?).isSome = true := by kernel_rfl
    cases hf : (flatC 8 (Rows.laid_firewall_codec_forms : DataW Unit))[0]? with
    | none => rw [hf] at this; cases this
    | some v => rw [hf] at f0; exact low f0
  · exact low h3
  · exact low z0
  · exact h3
  · exact h3'
end Go.Proofs.YtppankimieopiaaDoor
