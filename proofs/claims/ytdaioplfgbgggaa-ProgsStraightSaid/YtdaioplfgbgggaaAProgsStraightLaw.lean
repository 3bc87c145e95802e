/-
  The statement 'Rows.ProgsStraightSaid': for every input the law firewall/firewalllaw04.ProgsStraight returns true, and its arguments read as before. Conditions: none. (The walk is ProgsStraight_walk; here is the frame, written by a program of mine after the guide's way.)
-/
import Derived.Test.YtdaioplfgbgggaaRows
import Derived.Test.YtdaioplfgbgggaaAProgsStraightWalk
import Derived.Test.YtdaioplfgbgggaaPo
import Derived.ChangeOld
import Derived.Below
namespace Go.Proofs.Ytdaioplfgbgggaa.progsStraightLaw
open Go.Ep Go.ChangeShapes Go.WideShapes Go.ChangeAt Go.RowKit
open Go.ChangeMaps (open_string shut_string)
set_option linter.unusedVariables false

theorem own : ownKnob Try.prog.godebug = none := by kernel_rfl
theorem laidOut : laidOutB Try.prog = true := by kernel_rfl

set_option maxRecDepth 100000 in
theorem lifted (os : Os) (started : os.Started) (H : Type) (enc : TypeId × Value → H) :
    ReturnsInHanded {} Try.checked os 7 .any (Rows.progsStraightSpec.pre6 enc Try.prog Try.f7 Rows.progsStraightRow.domain false) (Rows.progsStraightSpec.post enc Try.prog Try.f7 false true false false) := by
  refine returnsInHanded_of_change (C := Try.checked) own started (by kernel_rfl) Try.func7
    (ChangeSpec.witness6 (enc := enc) (C := Try.checked) false ⟨#[], #[.slice none 0 0], []⟩ 8 (by kernel_rfl) (by kernel_rfl) (by kernel_rfl) (by kernel_rfl)) ?_
  intro W base args ds gs before hval0 hW hcnd _
  have hval : ∀ (j : Nat) t v, Try.f7.params[j]? = some t → args[j]? = some v → Value.okWide Try.prog W .any base t v := hval0
  have hW' := hW
  obtain ⟨p, q, hA0, hV, rfl, hfz, hnd⟩ := hW
  have hA : DataW.TrodAll enc Try.prog W 0 (fun _ => true) true Try.f7.params.toList args.toList ds p := hA0
  rw [Try.params7] at hA hval
  obtain ⟨v0, vs0, d0, ds0, p0, q0, hargs, rfl, rfl, h0, r0⟩ := trodAll_cons hA
  obtain ⟨rfl, rfl, rfl⟩ := trodAll_nil r0
  obtain rfl : args = #[v0] := by cases args; simp_all
  obtain ⟨rfl, rfl⟩ := trodVars_none hV
  have k0 := h0
  have lt0 : ∀ x ∈ p0, x.block < W.heap.size := by obtain ⟨m, hm⟩ := k0; exact DataW.trod_lt m _ _ _ hm
  obtain ⟨sa, sl, sc, sv⟩ := okWide_slice Try.underlying42 (hval 0 42 v0 rfl rfl)
  have hc : v0.cells.toList = [v0] := by rw [sv]; rfl
  clear hA0 hval0
  obtain ⟨fuel0, hf0⟩ := h0
  rw [hc] at hf0
  clear hc sv
  rcases open_rows (ls := [Leaf.int .i32]) 8 Try.underlying42 (by kernel_rfl) rfl (by kernel_rfl) (by decide) hf0 with ⟨ad, cap, rfl⟩ | ⟨b, o, len, cap, cs, T, fr, us, ws, f, hpos, hlen, rfl, hblk, hdrop, hseg, hok⟩
  · refine (ProgsStraight_walk0 ad cap  W ).mono fun e W' ⟨he, bel⟩ => ?_
    subst he
    exact ⟨_, rfl, _, _, _, [], _, [], hW', trodAll_mk1 (shut_bool Try.underlying4 _), (trodAll_cons_mk (Below.trod laidOut (by kernel_rfl) (of_decide_eq_true (by kernel_rfl)) k0 bel lt0) trodAll_mk0), rfl, bel.frame _, fun h => by cases h⟩
  · refine (ProgsStraight_walk1 b o len cap cs T fr us ws f hpos hlen  W hblk hdrop hseg hok ).mono fun e W' ⟨he, bel⟩ => ?_
    subst he
    exact ⟨_, rfl, _, _, _, [], _, [], hW', trodAll_mk1 (shut_bool Try.underlying4 _), (trodAll_cons_mk (Below.trod laidOut (by kernel_rfl) (of_decide_eq_true (by kernel_rfl)) k0 bel lt0) trodAll_mk0), rfl, bel.frame _, fun h => by cases h⟩

theorem over : Rows.progsStraightRow.holds Try.pinned (OpenSpec.ofChange Rows.progsStraightSpec) :=
  OpenClaim.holds_of_wide 7 Try.f7 rfl rfl rfl rfl rfl rfl rfl ⟨rfl, rfl, rfl, rfl, rfl⟩ rfl rfl rfl rfl rfl (by kernel_rfl) Try.func7 (by kernel_rfl)
    (of_decide_eq_true (by kernel_rfl)) (by unfold Func.isWrapper; first | (rw [if_pos (by decide +kernel)]; kernel_rfl) | (rw [if_neg (by decide +kernel)]; exact ⟨rfl, rfl⟩))
    (fun os started H enc _ => lifted os started H enc)

/-- THE STATEMENT -/
theorem proved : Rows.ProgsStraightSaid := over
#print axioms proved
end Go.Proofs.Ytdaioplfgbgggaa.progsStraightLaw
