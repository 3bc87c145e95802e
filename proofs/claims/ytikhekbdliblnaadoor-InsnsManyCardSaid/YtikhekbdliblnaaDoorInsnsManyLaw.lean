/-
  The statement 'Rows.InsnsManySaid': for every input the law firewall/firewalllaw02.InsnsMany returns true, and its arguments read as before. Conditions: none. (The walk is InsnsMany_walk; here is the frame, written by a program of mine after the guide's way.)
-/
import Derived.Test.YtikhekbdliblnaaDoorRows
import Derived.Test.YtikhekbdliblnaaDoorTie
import Derived.Test.YtikhekbdliblnaaDoorCards
import Derived.Test.YtikhekbdliblnaaDoorInsnsManyWalk
import Derived.Test.YtikhekbdliblnaaDoorFlat
import Derived.ChangeOld
import Derived.Below
import Derived.ProofKit
import Derived.LaidMore
import Derived.OpenShut
import Derived.Stop.Joined
import Derived.SevenTiedAt
namespace Go.Proofs.YtikhekbdliblnaaDoor.insnsManyLaw
open Go.ChangeShapes Go.WideShapes Go.ChangeAt Go.RowKit
open Go.ChangeMaps (open_string shut_string)
set_option linter.unusedVariables false

theorem own : ownKnob Tryd.prog.godebug = none := by kernel_rfl
theorem laidOut : laidOutB Tryd.prog = true := by kernel_rfl
/-- The door's own heap meets the condition. -/
theorem door_met (os : Os) (args : Array Value) : laidMetH Tryd.prog Rows.insnsManyRow.laid ((World.doorLaid Tryd.prog 140 os).forCall (fun _ _ => 0) ⟨#[], args, []⟩).memory :=
  laidMetH_of_parts3 (fuel := 8) (laidMet_of_run' 8 (by kernel_rfl) (by kernel_rfl)) (by kernel_rfl) (by kernel_rfl)

set_option maxRecDepth 100000 in
theorem lifted (os : Os) (started : os.Started) (H : Type) (enc : TypeId × Value → H) :
    ReturnsInHanded {} Tryd.checked os 8 .any (fun w args => (Rows.insnsManySpec.pre enc Tryd.prog Tryd.f8 [] false w args ∧ laidMetH Tryd.prog Rows.insnsManyRow.laid w) ∧ sizedMet enc Tryd.prog Tryd.f8 (OpenSpec.ofChange Rows.insnsManySpec) false w args)
      (Rows.insnsManySpec.post enc Tryd.prog Tryd.f8 false true false false) := by
  refine returnsInHanded_of_change_and (C := Tryd.checked) (X := fun w _ => laidMetH Tryd.prog Rows.insnsManyRow.laid w) (fun _ _ _ hh h => h.of_heap hh) own started (by kernel_rfl) Tryd.func8
    (ChangeSpec.witness_shaped (enc := enc) (C := Tryd.checked) (os := os) (X := fun w _ => laidMetH Tryd.prog Rows.insnsManyRow.laid w) false (World.doorLaid Tryd.prog 140 os) #[.agg #[.int .u8 0, .int .u8 0, .int .u8 0, .int .i16 0, .int .i32 0]] 8 rfl (World.shaped_of_RefB (by kernel_rfl) (by kernel_rfl)) (by kernel_rfl) (by kernel_rfl) (by kernel_rfl) (door_met os _)) ?_
  intro W base args ds gs before hval0 hW _ _ hL _
  have hval : ∀ (j : Nat) t v, Tryd.f8.params[j]? = some t → args[j]? = some v → Value.okWide Tryd.prog W .any base t v := hval0
  have hW' := hW
  obtain ⟨p, q, hA0, hV, rfl, hfz, hnd⟩ := hW
  have hA : DataW.TrodAll enc Tryd.prog W 0 (fun _ => true) true Tryd.f8.params.toList args.toList ds p := hA0
  rw [Tryd.params8] at hA hval
  obtain ⟨v0, vs0, d0, ds0, p0, q0, hargs, rfl, rfl, h0, r0⟩ := trodAll_cons hA
  obtain ⟨rfl, rfl, rfl⟩ := trodAll_nil r0
  obtain rfl : args = #[v0] := by cases args; simp_all
  obtain ⟨rfl, rfl⟩ := trodVars_none hV
  have k0 := h0
  have lt0 : ∀ x ∈ p0, x.block < W.heap.size := by obtain ⟨m, hm⟩ := k0; exact DataW.trod_lt m _ _ _ hm
  obtain ⟨c0, e0, ok0⟩ := open_flat 8 (ls := [Leaf.int .u8, Leaf.int .u8, Leaf.int .u8, Leaf.int .i16, Leaf.int .i32]) (by kernel_rfl) (by kernel_rfl) (hval 0 33 v0 rfl rfl) h0
  obtain ⟨x0_0, cs0_0, z0_0, ⟨a0_0, rfl, w0_0⟩, ok0⟩ := oks_cons ok0
  obtain ⟨x0_1, cs0_1, z0_1, ⟨a0_1, rfl, w0_1⟩, ok0⟩ := oks_cons ok0
  obtain ⟨x0_2, cs0_2, z0_2, ⟨a0_2, rfl, w0_2⟩, ok0⟩ := oks_cons ok0
  obtain ⟨x0_3, cs0_3, z0_3, ⟨a0_3, rfl, w0_3⟩, ok0⟩ := oks_cons ok0
  obtain ⟨x0_4, cs0_4, z0_4, ⟨a0_4, rfl, w0_4⟩, ok0⟩ := oks_cons ok0
  have ze0 := oks_nil ok0
  subst ze0
  subst z0_4
  subst z0_3
  subst z0_2
  subst z0_1
  subst z0_0
  subst e0
  clear hA0 hval0
  simp only [List.append_nil] at hW'
  obtain ⟨m, hG⟩ := GI_of hL
  refine (InsnsMany_walk a0_0 a0_1 a0_2 a0_3 a0_4 W m hG w0_0 w0_1 w0_2 w0_3 w0_4).mono fun e W' ⟨he, bel⟩ => ?_
  subst he
  exact ⟨_, rfl, _, _, _, [], _, [], hW', trodAll_mk1 (shut_bool Tryd.underlying4 _), (trodAll_cons_mk (Below.trod laidOut (by kernel_rfl) (of_decide_eq_true (by kernel_rfl)) k0 bel lt0) trodAll_mk0), rfl, bel.frame _, fun h => by cases h⟩

theorem over : Rows.insnsManyRow.holds Tryd.pinned (OpenSpec.ofChange Rows.insnsManySpec) :=
  OpenClaim.holds_of_wide 8 Tryd.f8 rfl rfl rfl rfl rfl rfl rfl ⟨rfl, rfl, rfl, rfl, rfl⟩ rfl rfl rfl rfl rfl (by kernel_rfl) Tryd.func8 (by kernel_rfl)
    (of_decide_eq_true (by kernel_rfl)) (by unfold Func.isWrapper; first | (rw [if_pos (by decide +kernel)]; kernel_rfl) | (rw [if_neg (by decide +kernel)]; exact ⟨rfl, rfl⟩))
    (fun os started H enc _ => lifted os started H enc)

/-- THE STATEMENT -/
theorem proved : Rows.InsnsManyCardSaid :=
  Claim7.holds_tied_plain_at .later [] [.mapped] true (true, "55efa8dad91a1e7bb2da77b5f4264bdf7172c6854bb48f4c69247ca8e9e4dee6") false
    over (fun _ h => by cases h) (by kernel_rfl) (fun _ h => by cases h) insnsMany_row_tie rfl ⟨rfl, rfl⟩ (by kernel_rfl) rfl
    (fun f fn hf hfn => by
      obtain rfl : f = 8 := Option.some.inj ((show Tryd.prog.funcNamed "firewall/firewalllaw02.InsnsMany" = some 8 by kernel_rfl).symm.trans hf) |>.symm
      obtain rfl : fn = Tryd.f8 := (Option.some.inj (Tryd.func8.symm.trans hfn)).symm
      exact ⟨by kernel_rfl, fun j t ht => by
        rw [Tryd.params8] at ht
        have hm : t ∈ [33] := by simpa using Array.mem_of_getElem? ht
        have hall : ([33].all fun u => !Tryd.prog.wantsStandIn u) = true := by kernel_rfl
        exact (show Tryd.prog.wantsStandIn t = false by simpa using List.all_eq_true.1 hall t hm)⟩)
    (by kernel_rfl)
#print axioms proved
end Go.Proofs.YtikhekbdliblnaaDoor.insnsManyLaw
