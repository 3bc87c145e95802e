/-
  Chapter 11: CodecUnused: all kinds; the world of the tied laws of chapter 11. Conditions: as typed.
-/
import Derived.Test.YtppankimieopiaaDoorCua
import Derived.Test.YtppankimieopiaaDoorCub
import Derived.Test.YtppankimieopiaaDoorCuc
import Derived.Test.YtppankimieopiaaDoorCud
import Derived.Test.YtppankimieopiaaDoorCue
import Derived.Test.YtppankimieopiaaDoorCuf
import Derived.Test.YtppankimieopiaaDoorCug
import Derived.Test.YtppankimieopiaaDoorRows
namespace Go.Proofs.YtppankimieopiaaDoor
open Go.Ep Go.RowKit Go.ChangeShapes Go.WideShapes
set_option linter.unusedVariables false
set_option linter.unusedSimpArgs false
set_option maxRecDepth 100000 in
theorem CodecUnused_main (m : Nat → Nat) (k al cc sz : BitVec 64) (w sh : Bool) (d s : BitVec 64) (dp rl : BitVec 32) (im : BitVec 64) (wh : BitVec 8) (to : BitVec 64) : F Tryd.prog (tabI Tryd.prog (DN m noData) (tb_coded m) FSc 2) Tryd.f10 [.agg [.b64 true k, .b64 true al, .b64 true cc, .b64 true sz, .bool w, .bool sh, .b64 true d, .b64 true s, .b32 true dp, .b32 true rl, .b64 true im], .one (.b8 false wh), .one (.b64 true to)] (fun r => r = .one (.bool true)) := by
  obtain ⟨i, hi, e⟩ := srem_in k 21 (by decide) (by decide)
  have h21 : i = 0 ∨ i = 1 ∨ i = 2 ∨ i = 3 ∨ i = 4 ∨ i = 5 ∨ i = 6 ∨ i = 7 ∨ i = 8 ∨ i = 9 ∨ i = 10 ∨ i = 11 ∨ i = 12 ∨ i = 13 ∨ i = 14 ∨ i = 15 ∨ i = 16 ∨ i = 17 ∨ i = 18 ∨ i = 19 ∨ i = 20 := by omega
  rcases h21 with rfl | rfl | rfl | rfl | rfl | rfl | rfl | rfl | rfl | rfl | rfl | rfl | rfl | rfl | rfl | rfl | rfl | rfl | rfl | rfl | rfl
  · exact cu_0 noData m k al cc sz w sh d s dp rl im wh to e
  · exact cu_1 noData m k al cc sz w sh d s dp rl im wh to e
  · exact cu_2 noData m k al cc sz w sh d s dp rl im wh to e
  · exact cu_3 noData m k al cc sz w sh d s dp rl im wh to e
  · exact cu_4 noData m k al cc sz w sh d s dp rl im wh to e
  · exact cu_5 noData m k al cc sz w sh d s dp rl im wh to e
  · exact cu_6 noData m k al cc sz w sh d s dp rl im wh to e
  · exact cu_7 noData m k al cc sz w sh d s dp rl im wh to e
  · exact cu_8 noData m k al cc sz w sh d s dp rl im wh to e
  · exact cu_9 noData m k al cc sz w sh d s dp rl im wh to e
  · exact cu_10 noData m k al cc sz w sh d s dp rl im wh to e
  · exact cu_11 noData m k al cc sz w sh d s dp rl im wh to e
  · obtain ⟨j, hj, es⟩ := sz3 sz
    have h4 : j = 0 ∨ j = 1 ∨ j = 2 ∨ j = 3 := by omega
    rcases h4 with rfl | rfl | rfl | rfl
    · exact cu_12_0 noData m k al cc sz w sh d s dp rl im wh to e es
    · exact cu_12_1 noData m k al cc sz w sh d s dp rl im wh to e es
    · exact cu_12_2 noData m k al cc sz w sh d s dp rl im wh to e es
    · exact cu_12_3 noData m k al cc sz w sh d s dp rl im wh to e es
  · obtain ⟨j, hj, es⟩ := sz3 sz
    have h4 : j = 0 ∨ j = 1 ∨ j = 2 ∨ j = 3 := by omega
    rcases h4 with rfl | rfl | rfl | rfl
    · exact cu_13_0 noData m k al cc sz w sh d s dp rl im wh to e es
    · exact cu_13_1 noData m k al cc sz w sh d s dp rl im wh to e es
    · exact cu_13_2 noData m k al cc sz w sh d s dp rl im wh to e es
    · exact cu_13_3 noData m k al cc sz w sh d s dp rl im wh to e es
  · exact cu_14 noData m k al cc sz w sh d s dp rl im wh to e
  · exact cu_15 noData m k al cc sz w sh d s dp rl im wh to e
  · exact cu_16 noData m k al cc sz w sh d s dp rl im wh to e
  · exact cu_17 noData m k al cc sz w sh d s dp rl im wh to e
  · exact cu_18 noData m k al cc sz w sh d s dp rl im wh to e
  · exact cu_19 noData m k al cc sz w sh d s dp rl im wh to e
  · exact cu_20 noData m k al cc sz w sh d s dp rl im wh to e
def GV (m : Nat → Nat) : World → Prop := GN m anyWorld
theorem C_cu (m : Nat → Nat) : CSound Tryd.prog (GV m) (tabI Tryd.prog (DN m noData) (tb_coded m) FSc 2) := CSound.tabI (C_coded anyWorld noData .none m) (by kernel_rfl) fs_c 2
abbrev gLd : Nat := 2
abbrev gSt : Nat := 7
theorem GV_of {W : World} (h : laidMetH Tryd.prog [("firewall/codec.forms", Rows.laid_firewall_codec_forms), ("firewall/codec.loads", Rows.laid_firewall_codec_loads), ("firewall/codec.stores", Rows.laid_firewall_codec_stores), ("firewall/codec.conds", Rows.laid_firewall_codec_conds)] W) : ∃ m, GV m W := by
  rw [MakeChecks.laidMetH_plain _ _ _ (by kernel_rfl)] at h
  obtain ⟨ps, h, _⟩ := h
  obtain ⟨h1, q1, h⟩ := laid_flat (g := 1) (T := 82) (l := (List.replicate 22 [Leaf.str, .int .i64, .int .i64, .int .i64, .int .i64, .bool, .bool]).flatten) h (by kernel_rfl) (by kernel_rfl) 8 (by kernel_rfl)
  obtain ⟨⟨b2, h2⟩, q2, h⟩ := laid_map (g := gLd) (T := 95) h (by kernel_rfl) (by kernel_rfl) Tryd.underlying95
  obtain ⟨⟨b4, h4⟩, q4, h⟩ := laid_map (g := gSt) (T := 95) h (by kernel_rfl) (by kernel_rfl) Tryd.underlying95
  obtain ⟨⟨b3, o3, h3, h3'⟩, _⟩ := laid_ints (g := gCd) (T := 97) (ns := condZ) (k := .i64) h (by kernel_rfl) (by kernel_rfl) Tryd.underlying97 Tryd.underlying3 (by kernel_rfl) (by decide)
  have low : ∀ {a : Addr} {v : Value}, W.cell? a = some v → a.block < W.heap.size := by
    intro a v e
    cases ho : W.heap[a.block]? with
    | none => simp [World.cell?, ho] at e
    | some o => exact (Array.getElem?_eq_some_iff.1 ho).1
  have z0 := h3' 0 (by decide)
  have f0 := h1 0 (by rw [forms_len]; decide)
  have hf : Gfm W := by
    refine ⟨?_, h1⟩
    have : ((flatC 8 (Rows.laid_firewall_codec_forms : DataW Unit))[0]?).isSome = true := by kernel_rfl
    cases hf : (flatC 8 (Rows.laid_firewall_codec_forms : DataW Unit))[0]? with
    | none => rw [hf] at this; cases this
    | some v => rw [hf] at f0; exact low f0
  refine ⟨fun g => if g = gLd then b2 else if g = gCd then b3 else if g = gCd + 1000 then o3 else b4, ⟨hf, h2, ?_, ?_, ?_, ?_⟩, hf, h4, trivial⟩
  · exact low h3
  · exact low z0
  · exact h3
  · exact h3'
end Go.Proofs.YtppankimieopiaaDoor
