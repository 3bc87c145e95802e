/-
  The statement 'Rows.HardenFencesSaid': for every input the law firewall/firewalllaw23.HardenFences returns true, and its arguments read as before. Conditions: none. (The walk is HardenFences_walk; here is the frame, written by a program of mine after the guide's way.)
-/
import Derived.Test.YthkgakelgdncjaaDoorRows
import Derived.Test.YthkgakelgdncjaaDoorTie
import Derived.Test.YthkgakelgdncjaaDoorCards
import Derived.Test.YthkgakelgdncjaaDoorHardenFencesWalk
import Derived.Test.YthkgakelgdncjaaDoorPo
import Derived.ChangeOld
import Derived.Below
import Derived.ProofKit
import Derived.LaidMore
import Derived.OpenShut
import Derived.Stop.Joined
import Derived.SevenTiedAt
namespace Go.Proofs.YthkgakelgdncjaaDoor.hardenFencesLaw
open Go.Ep Go.ChangeShapes Go.WideShapes Go.ChangeAt Go.RowKit
open Go.ChangeMaps (open_string shut_string)
set_option linter.unusedVariables false

theorem own : ownKnob Tryd.prog.godebug = none := by kernel_rfl
theorem laidOut : laidOutB Tryd.prog = true := by kernel_rfl
/-- The door's own heap meets the condition. -/
theorem door_met (os : Os) (args : Array Value) : laidMetH Tryd.prog Rows.hardenFencesRow.laid ((World.doorLaid Tryd.prog 14 os).forCall (fun _ _ => 0) ⟨#[], args, []⟩).memory :=
  laidMetH_of_parts3 (fuel := 8) (laidMet_of_run' 8 (by kernel_rfl) (by kernel_rfl)) (by kernel_rfl) (by kernel_rfl)

set_option maxRecDepth 100000 in
theorem lifted (os : Os) (started : os.Started) (H : Type) (enc : TypeId × Value → H) :
    ReturnsInHanded {} Tryd.checked os 5 .any (fun w args => (Rows.hardenFencesSpec.pre enc Tryd.prog Tryd.f5 [] false w args ∧ laidMetH Tryd.prog Rows.hardenFencesRow.laid w) ∧ sizedMet enc Tryd.prog Tryd.f5 (OpenSpec.ofChange Rows.hardenFencesSpec) false w args)
      (Rows.hardenFencesSpec.post enc Tryd.prog Tryd.f5 false true false false) := by
  refine returnsInHanded_of_change_and (C := Tryd.checked) (X := fun w _ => laidMetH Tryd.prog Rows.hardenFencesRow.laid w) (fun _ _ _ hh h => h.of_heap hh) own started (by kernel_rfl) Tryd.func5
    (ChangeSpec.witness_shaped (enc := enc) (C := Tryd.checked) (os := os) (X := fun w _ => laidMetH Tryd.prog Rows.hardenFencesRow.laid w) false (World.doorLaid Tryd.prog 14 os) #[.slice none 0 0, .slice none 0 0] 8 rfl (World.shaped_of_RefB (by kernel_rfl) (by kernel_rfl)) (by kernel_rfl) (by kernel_rfl) (by kernel_rfl) (door_met os _)) ?_
  intro W base args ds gs before hval0 hW _ _ hL _
  have hval : ∀ (j : Nat) t v, Tryd.f5.params[j]? = some t → args[j]? = some v → Value.okWide Tryd.prog W .any base t v := hval0
  have hW' := hW
  obtain ⟨p, q, hA0, hV, rfl, hfz, hnd⟩ := hW
  have hA : DataW.TrodAll enc Tryd.prog W 0 (fun _ => true) true Tryd.f5.params.toList args.toList ds p := hA0
  rw [Tryd.params5] at hA hval
  obtain ⟨v0, vs0, d0, ds0, p0, q0, hargs, rfl, rfl, h0, r0⟩ := trodAll_cons hA
  obtain ⟨v1, vs1, d1, ds1, p1, q1, rfl, rfl, rfl, h1, r1⟩ := trodAll_cons r0
  obtain ⟨rfl, rfl, rfl⟩ := trodAll_nil r1
  obtain rfl : args = #[v0, v1] := by cases args; simp_all
  obtain ⟨rfl, rfl⟩ := trodVars_none hV
  have k0 := h0
  have lt0 : ∀ x ∈ p0, x.block < W.heap.size := by obtain ⟨m, hm⟩ := k0; exact DataW.trod_lt m _ _ _ hm
  have k1 := h1
  have lt1 : ∀ x ∈ p1, x.block < W.heap.size := by obtain ⟨m, hm⟩ := k1; exact DataW.trod_lt m _ _ _ hm
  obtain ⟨sa0, sl0, sc0, sv0⟩ := okWide_slice Tryd.underlying22 (hval 0 22 v0 rfl rfl)
  have hc0 : v0.cells.toList = [v0] := by rw [sv0]; rfl
  obtain ⟨sa1, sl1, sc1, sv1⟩ := okWide_slice Tryd.underlying23 (hval 1 23 v1 rfl rfl)
  have hc1 : v1.cells.toList = [v1] := by rw [sv1]; rfl
  clear hA0 hval0
  simp only [List.append_nil] at hW'
  have hG := Gbar_of hL
  obtain ⟨fuel0, hf0⟩ := h0
  rw [hc0] at hf0
  clear hc0 sv0
  obtain ⟨fuel1, hf1⟩ := h1
  rw [hc1] at hf1
  clear hc1 sv1
  rcases open_rows (ls := [Leaf.int .u8, Leaf.int .u8, Leaf.int .u8, Leaf.int .i16, Leaf.int .i32]) 8 Tryd.underlying22 (by kernel_rfl) rfl (by kernel_rfl) (by decide) hf0 with ⟨ad0, cap0, rfl⟩ | ⟨b0, o0, len0, cap0, cs0, T0, fr0, us0, ws0, f0, hpos0, hlen0, rfl, hblk0, hdrop0, hseg0, hok0⟩
  · rcases open_rows (ls := [Leaf.bool]) 8 Tryd.underlying23 (by kernel_rfl) rfl (by kernel_rfl) (by decide) hf1 with ⟨ad1, cap1, rfl⟩ | ⟨b1, o1, len1, cap1, cs1, T1, fr1, us1, ws1, f1, hpos1, hlen1, rfl, hblk1, hdrop1, hseg1, hok1⟩
    · refine (HardenFences_walk00 W hG ad0 cap0 ad1 cap1).mono fun e W' ⟨he, bel⟩ => ?_
      subst he
      exact ⟨_, rfl, _, _, _, [], _, [], hW', trodAll_mk1 (shut_bool Tryd.underlying4 _), (trodAll_cons_mk (Below.trod laidOut (by kernel_rfl) (of_decide_eq_true (by kernel_rfl)) k0 bel lt0) (trodAll_cons_mk (Below.trod laidOut (by kernel_rfl) (of_decide_eq_true (by kernel_rfl)) k1 bel lt1) trodAll_mk0)), rfl, bel.frame _, fun h => by cases h⟩
    · refine (HardenFences_walk01 W hG ad0 cap0 b1 o1 len1 cap1 cs1 T1 fr1 us1 ws1 f1 hpos1 hlen1 hblk1 hdrop1 hseg1 hok1).mono fun e W' ⟨he, bel⟩ => ?_
      subst he
      exact ⟨_, rfl, _, _, _, [], _, [], hW', trodAll_mk1 (shut_bool Tryd.underlying4 _), (trodAll_cons_mk (Below.trod laidOut (by kernel_rfl) (of_decide_eq_true (by kernel_rfl)) k0 bel lt0) (trodAll_cons_mk (Below.trod laidOut (by kernel_rfl) (of_decide_eq_true (by kernel_rfl)) k1 bel lt1) trodAll_mk0)), rfl, bel.frame _, fun h => by cases h⟩
  · rcases open_rows (ls := [Leaf.bool]) 8 Tryd.underlying23 (by kernel_rfl) rfl (by kernel_rfl) (by decide) hf1 with ⟨ad1, cap1, rfl⟩ | ⟨b1, o1, len1, cap1, cs1, T1, fr1, us1, ws1, f1, hpos1, hlen1, rfl, hblk1, hdrop1, hseg1, hok1⟩
    · refine (HardenFences_walk10 W hG b0 o0 len0 cap0 cs0 T0 fr0 us0 ws0 f0 hpos0 hlen0 hblk0 hdrop0 hseg0 hok0 ad1 cap1).mono fun e W' ⟨he, bel⟩ => ?_
      subst he
      exact ⟨_, rfl, _, _, _, [], _, [], hW', trodAll_mk1 (shut_bool Tryd.underlying4 _), (trodAll_cons_mk (Below.trod laidOut (by kernel_rfl) (of_decide_eq_true (by kernel_rfl)) k0 bel lt0) (trodAll_cons_mk (Below.trod laidOut (by kernel_rfl) (of_decide_eq_true (by kernel_rfl)) k1 bel lt1) trodAll_mk0)), rfl, bel.frame _, fun h => by cases h⟩
    · refine (HardenFences_walk11 W hG b0 o0 len0 cap0 cs0 T0 fr0 us0 ws0 f0 hpos0 hlen0 hblk0 hdrop0 hseg0 hok0 b1 o1 len1 cap1 cs1 T1 fr1 us1 ws1 f1 hpos1 hlen1 hblk1 hdrop1 hseg1 hok1).mono fun e W' ⟨he, bel⟩ => ?_
      subst he
      exact ⟨_, rfl, _, _, _, [], _, [], hW', trodAll_mk1 (shut_bool Tryd.underlying4 _), (trodAll_cons_mk (Below.trod laidOut (by kernel_rfl) (of_decide_eq_true (by kernel_rfl)) k0 bel lt0) (trodAll_cons_mk (Below.trod laidOut (by kernel_rfl) (of_decide_eq_true (by kernel_rfl)) k1 bel lt1) trodAll_mk0)), rfl, bel.frame _, fun h => by cases h⟩

theorem over : Rows.hardenFencesRow.holds Tryd.pinned (OpenSpec.ofChange Rows.hardenFencesSpec) :=
  OpenClaim.holds_of_wide 5 Tryd.f5 rfl rfl rfl rfl rfl rfl rfl ⟨rfl, rfl, rfl, rfl, rfl⟩ rfl rfl rfl rfl rfl (by kernel_rfl) Tryd.func5 (by kernel_rfl)
    (of_decide_eq_true (by kernel_rfl)) (by unfold Func.isWrapper; first | (rw [if_pos (by decide +kernel)]; kernel_rfl) | (rw [if_neg (by decide +kernel)]; exact ⟨rfl, rfl⟩))
    (fun os started H enc _ => lifted os started H enc)

/-- THE STATEMENT -/
theorem proved : Rows.HardenFencesCardSaid :=
  Claim7.holds_tied_plain_at .later [] [.data] true (true, "9e599aecad9be4ab35b5a969a60fb8ea55e7705696d0f6f4b94b4967a5dcea33") false
    over (fun _ h => by cases h) (by kernel_rfl) (fun _ h => by cases h) hardenFences_row_tie rfl ⟨rfl, rfl⟩ (by kernel_rfl) rfl
    (fun f fn hf hfn => by
      obtain rfl : f = 5 := Option.some.inj ((show Tryd.prog.funcNamed "firewall/firewalllaw23.HardenFences" = some 5 by kernel_rfl).symm.trans hf) |>.symm
      obtain rfl : fn = Tryd.f5 := (Option.some.inj (Tryd.func5.symm.trans hfn)).symm
      exact ⟨by kernel_rfl, fun j t ht => by
        rw [Tryd.params5] at ht
        have hm : t ∈ [22, 23] := by simpa using Array.mem_of_getElem? ht
        have hall : ([22, 23].all fun u => !Tryd.prog.wantsStandIn u) = true := by kernel_rfl
        exact (show Tryd.prog.wantsStandIn t = false by simpa using List.all_eq_true.1 hall t hm)⟩)
    (by kernel_rfl)
#print axioms proved
end Go.Proofs.YthkgakelgdncjaaDoor.hardenFencesLaw
