/-
  Chapter 11: the world of its tied laws. Conditions: as typed.
-/
import Derived.Test.YtppankimieopiaaDoorCm
import Derived.Test.YtppankimieopiaaDoorCq
import Derived.Test.YtppankimieopiaaDoorRows
namespace Go.Proofs.YtppankimieopiaaDoor
open Go.Ep Go.RowKit Go.ChangeShapes Go.WideShapes
set_option linter.unusedVariables false
set_option linter.unusedSimpArgs false
def GV (m : Nat → Nat) : World → Prop := GN m anyWorld
abbrev gLd : Nat := 2
abbrev gSt : Nat := 7
theorem GV_of {W : World} (h : laidMetH Tryd.prog [("firewall/codec.forms", Rows.laid_firewall_codec_forms), ("firewall/codec.loads", Rows.laid_firewall_codec_loads), ("firewall/codec.stores", Rows.laid_firewall_codec_stores), ("firewall/codec.conds", Rows.laid_firewall_codec_conds)] W) : ∃ m, GV m W := by
  rw [MakeChecks.laidMetH_plain _ _ _ (by kernel_rfl)] at h
  obtain ⟨ps, h, _⟩ := h
  obtain ⟨h1, q1, h⟩ := laid_flat (g := 1) (T := 82) (l := (List.replicate 22 [Leaf.str, .int .i64, .int .i64, .int .i64, .int .i64, .bool, .bool]).flatten) h (by kernel_rfl) (by kernel_rfl) 8 (by kernel_rfl)
  obtain ⟨⟨b2, h2⟩, q2, h⟩ := laid_map (g := gLd) (T := 95) h (by kernel_rfl) (by kernel_rfl) Tryd.underlying95
  obtain ⟨⟨b4, h4⟩, q4, h⟩ := laid_map (g := gSt) (T := 95) h (by kernel_rfl) (by kernel_rfl) Tryd.underlying95
  obtain ⟨⟨b3, o3, h3, h3'⟩, _⟩ := laid_ints (g := gCd) (T := 97) (ns := condZ) (k := .i64) h (by kernel_rfl) (by kernel_rfl) Tryd.underlying97 Tryd.underlying3 (by kernel_rfl) (by decide)
  have low : ∀ {a : Addr} {v : Value}, W.cell? a = some v → a.block < W.heap.size := by
    intro a v e
    cases ho : W.heap[a.block]? with
    | none => simp [World.cell?, ho] at e
    | some o => exact (Array.getElem?_eq_some_iff.1 ho).1
  have z0 := h3' 0 (by decide)
  have f0 := h1 0 (by rw [forms_len]; decide)
  have hf : Gfm W := by
    refine ⟨?_, h1⟩
    have : ((flatC 8 (Rows.laid_firewall_codec_forms : DataW Unit))[0]?).isSome = true := by kernel_rfl
    cases hf : (flatC 8 (Rows.laid_firewall_codec_forms : DataW Unit))[0]? with
    | none => rw [hf] at this; cases this
    | some v => rw [hf] at f0; exact low f0
  refine ⟨fun g => if g = gLd then b2 else if g = gCd then b3 else if g = gCd + 1000 then o3 else b4, ⟨hf, h2, ?_, ?_, ?_, ?_⟩, hf, h4, trivial⟩
  · exact low h3
  · exact low z0
  · exact h3
  · exact h3'
theorem EntryOK_le {P : Program} {G : World → Prop} {f : FuncId} {sp sp' : Sp} (e : EntryOK P G f sp) (h : ∀ a c v, sp' a = some (c, v) → sp a = some (c, v)) : EntryOK P G f sp' := ⟨e.fn, fun a c v h1 hc => e.calls a c v (h a c v h1) hc⟩
def sp_EncV : Sp
  | [.agg [.b64 true k, .b64 true al, .b64 true cc, .b64 true sz, .bool w, .bool sh, .b64 true d, .b64 true s, .b32 true dp, .b32 true rl, .b64 true im]] => some (Cond.t, .tup [(false, [.str (if vld k al cc sz w sh d s dp rl im then encB k al cc sz w sh d s dp rl im else s0)]), (false, [.b64 true (if vld k al cc sz w sh d s dp rl im then 0#64 else 2#64)])])
  | _ => none
def sp_ValV : Sp
  | [.agg [.b64 true k, .b64 true al, .b64 true cc, .b64 true sz, .bool w, .bool sh, .b64 true d, .b64 true s, .b32 true dp, .b32 true rl, .b64 true im]] => some (Cond.t, .one (.bool (vld k al cc sz w sh d s dp rl im)))
  | _ => none
theorem e_EncV (G2 : World → Prop) (D2 : VData) (k2 : DataOK Tryd.prog G2 D2) (m : Nat → Nat) : EntryOK Tryd.prog (GN m G2) 18 sp_EncV := EntryOK_le (e_Encode G2 D2 k2 m) (fun a c v h => by
  unfold sp_EncV at h
  split at h
  · cases h; rw [← qld_vld]; rfl
  · cases h)
theorem e_ValV (G2 : World → Prop) (D2 : VData) (k2 : DataOK Tryd.prog G2 D2) (m : Nat → Nat) : EntryOK Tryd.prog (GN m G2) 20 sp_ValV := EntryOK_le (e_codec_Valid _ _ (kN k2 m) m) (fun a c v h => by
  unfold sp_ValV at h
  split at h
  · cases h; rw [← qld_vld]; rfl
  · cases h)
end Go.Proofs.YtppankimieopiaaDoor
