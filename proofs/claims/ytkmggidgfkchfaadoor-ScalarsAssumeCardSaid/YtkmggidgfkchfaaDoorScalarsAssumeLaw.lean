/-
  The statement 'Rows.ScalarsAssumeSaid': for every input the law firewall/firewalllaw17.ScalarsAssume returns true, and its arguments read as before. Conditions: none. (The walk is ScalarsAssume_walk; here is the frame, written by a program of mine after the guide's way.)
-/
import Derived.Test.YtkmggidgfkchfaaDoorRows
import Derived.Test.YtkmggidgfkchfaaDoorTie
import Derived.Test.YtkmggidgfkchfaaDoorCards
import Derived.Test.YtkmggidgfkchfaaDoorScalarsAssumeWalk
import Derived.Test.YtkmggidgfkchfaaDoorFlat
import Derived.ChangeOld
import Derived.Below
import Derived.ProofKit
import Derived.LaidMore
import Derived.OpenShut
import Derived.Stop.Joined
import Derived.SevenTiedAt
namespace Go.Proofs.YtkmggidgfkchfaaDoor.scalarsAssumeLaw
open Go.ChangeShapes Go.WideShapes Go.ChangeAt Go.RowKit
open Go.ChangeMaps (open_string shut_string)
set_option linter.unusedVariables false

theorem own : ownKnob Tryd.prog.godebug = none := by kernel_rfl
theorem laidOut : laidOutB Tryd.prog = true := by kernel_rfl
/-- The door's own heap meets the condition. -/
theorem door_met (os : Os) (args : Array Value) : laidMetH Tryd.prog Rows.scalarsAssumeRow.laid ((World.doorLaid Tryd.prog 117 os).forCall (fun _ _ => 0) ⟨#[], args, []⟩).memory :=
  laidMetH_of_parts3 (fuel := 8) (laidMet_of_run' 8 (by kernel_rfl) (by kernel_rfl)) (by kernel_rfl) (by kernel_rfl)

set_option maxRecDepth 100000 in
theorem lifted (os : Os) (started : os.Started) (H : Type) (enc : TypeId × Value → H) :
    ReturnsInHanded {} Tryd.checked os 7 .any (fun w args => (Rows.scalarsAssumeSpec.pre enc Tryd.prog Tryd.f7 [] false w args ∧ laidMetH Tryd.prog Rows.scalarsAssumeRow.laid w) ∧ sizedMet enc Tryd.prog Tryd.f7 (OpenSpec.ofChange Rows.scalarsAssumeSpec) false w args)
      (Rows.scalarsAssumeSpec.post enc Tryd.prog Tryd.f7 false true false false) := by
  refine returnsInHanded_of_change_and (C := Tryd.checked) (X := fun w _ => laidMetH Tryd.prog Rows.scalarsAssumeRow.laid w) (fun _ _ _ hh h => h.of_heap hh) own started (by kernel_rfl) Tryd.func7
    (ChangeSpec.witness_shaped (enc := enc) (C := Tryd.checked) (os := os) (X := fun w _ => laidMetH Tryd.prog Rows.scalarsAssumeRow.laid w) false (World.doorLaid Tryd.prog 117 os) #[.int .u8 0, .agg #[.int .u64 0, .int .u64 0], .agg #[.int .u64 0, .int .u64 0, .int .u64 0, .int .u64 0, .int .u64 0, .int .u64 0, .int .u64 0, .int .u64 0, .int .u64 0, .int .u64 0]] 8 rfl (World.shaped_of_RefB (by kernel_rfl) (by kernel_rfl)) (by kernel_rfl) (by kernel_rfl) (by kernel_rfl) (door_met os _)) ?_
  intro W base args ds gs before hval0 hW _ _ hL _
  have hval : ∀ (j : Nat) t v, Tryd.f7.params[j]? = some t → args[j]? = some v → Value.okWide Tryd.prog W .any base t v := hval0
  have hW' := hW
  obtain ⟨p, q, hA0, hV, rfl, hfz, hnd⟩ := hW
  have hA : DataW.TrodAll enc Tryd.prog W 0 (fun _ => true) true Tryd.f7.params.toList args.toList ds p := hA0
  rw [Tryd.params7] at hA hval
  obtain ⟨v0, vs0, d0, ds0, p0, q0, hargs, rfl, rfl, h0, r0⟩ := trodAll_cons hA
  obtain ⟨v1, vs1, d1, ds1, p1, q1, rfl, rfl, rfl, h1, r1⟩ := trodAll_cons r0
  obtain ⟨v2, vs2, d2, ds2, p2, q2, rfl, rfl, rfl, h2, r2⟩ := trodAll_cons r1
  obtain ⟨rfl, rfl, rfl⟩ := trodAll_nil r2
  obtain rfl : args = #[v0, v1, v2] := by cases args; simp_all
  obtain ⟨rfl, rfl⟩ := trodVars_none hV
  have k0 := h0
  have lt0 : ∀ x ∈ p0, x.block < W.heap.size := by obtain ⟨m, hm⟩ := k0; exact DataW.trod_lt m _ _ _ hm
  have k1 := h1
  have lt1 : ∀ x ∈ p1, x.block < W.heap.size := by obtain ⟨m, hm⟩ := k1; exact DataW.trod_lt m _ _ _ hm
  have k2 := h2
  have lt2 : ∀ x ∈ p2, x.block < W.heap.size := by obtain ⟨m, hm⟩ := k2; exact DataW.trod_lt m _ _ _ hm
  obtain ⟨a0, e0, _, _, w0⟩ := open_int Tryd.underlying5 (hval 0 5 v0 rfl rfl) h0
  subst e0
  obtain ⟨c1, e1, ok1⟩ := open_flat 8 (ls := [Leaf.int .u64, Leaf.int .u64]) (by kernel_rfl) (by kernel_rfl) (hval 1 56 v1 rfl rfl) h1
  obtain ⟨x1_0, cs1_0, z1_0, ⟨a1_0, rfl, w1_0⟩, ok1⟩ := oks_cons ok1
  obtain ⟨x1_1, cs1_1, z1_1, ⟨a1_1, rfl, w1_1⟩, ok1⟩ := oks_cons ok1
  have ze1 := oks_nil ok1
  subst ze1
  subst z1_1
  subst z1_0
  subst e1
  obtain ⟨c2, e2, ok2⟩ := open_flat 8 (ls := [Leaf.int .u64, Leaf.int .u64, Leaf.int .u64, Leaf.int .u64, Leaf.int .u64, Leaf.int .u64, Leaf.int .u64, Leaf.int .u64, Leaf.int .u64, Leaf.int .u64]) (by kernel_rfl) (by kernel_rfl) (hval 2 57 v2 rfl rfl) h2
  obtain ⟨x2_0, cs2_0, z2_0, ⟨a2_0, rfl, w2_0⟩, ok2⟩ := oks_cons ok2
  obtain ⟨x2_1, cs2_1, z2_1, ⟨a2_1, rfl, w2_1⟩, ok2⟩ := oks_cons ok2
  obtain ⟨x2_2, cs2_2, z2_2, ⟨a2_2, rfl, w2_2⟩, ok2⟩ := oks_cons ok2
  obtain ⟨x2_3, cs2_3, z2_3, ⟨a2_3, rfl, w2_3⟩, ok2⟩ := oks_cons ok2
  obtain ⟨x2_4, cs2_4, z2_4, ⟨a2_4, rfl, w2_4⟩, ok2⟩ := oks_cons ok2
  obtain ⟨x2_5, cs2_5, z2_5, ⟨a2_5, rfl, w2_5⟩, ok2⟩ := oks_cons ok2
  obtain ⟨x2_6, cs2_6, z2_6, ⟨a2_6, rfl, w2_6⟩, ok2⟩ := oks_cons ok2
  obtain ⟨x2_7, cs2_7, z2_7, ⟨a2_7, rfl, w2_7⟩, ok2⟩ := oks_cons ok2
  obtain ⟨x2_8, cs2_8, z2_8, ⟨a2_8, rfl, w2_8⟩, ok2⟩ := oks_cons ok2
  obtain ⟨x2_9, cs2_9, z2_9, ⟨a2_9, rfl, w2_9⟩, ok2⟩ := oks_cons ok2
  have ze2 := oks_nil ok2
  subst ze2
  subst z2_9
  subst z2_8
  subst z2_7
  subst z2_6
  subst z2_5
  subst z2_4
  subst z2_3
  subst z2_2
  subst z2_1
  subst z2_0
  subst e2
  clear hA0 hval0
  simp only [List.append_nil] at hW'
  obtain ⟨m, hG⟩ := GS_of hL
  refine (ScalarsAssume_walk a0 a1_0 a1_1 a2_0 a2_1 a2_2 a2_3 a2_4 a2_5 a2_6 a2_7 a2_8 a2_9 W m hG w0 w1_0 w1_1 w2_0 w2_1 w2_2 w2_3 w2_4 w2_5 w2_6 w2_7 w2_8 w2_9).mono fun e W' ⟨he, bel⟩ => ?_
  subst he
  exact ⟨_, rfl, _, _, _, [], _, [], hW', trodAll_mk1 (shut_bool Tryd.underlying4 _), (trodAll_cons_mk (Below.trod laidOut (by kernel_rfl) (of_decide_eq_true (by kernel_rfl)) k0 bel lt0) (trodAll_cons_mk (Below.trod laidOut (by kernel_rfl) (of_decide_eq_true (by kernel_rfl)) k1 bel lt1) (trodAll_cons_mk (Below.trod laidOut (by kernel_rfl) (of_decide_eq_true (by kernel_rfl)) k2 bel lt2) trodAll_mk0))), rfl, bel.frame _, fun h => by cases h⟩

theorem over : Rows.scalarsAssumeRow.holds Tryd.pinned (OpenSpec.ofChange Rows.scalarsAssumeSpec) :=
  OpenClaim.holds_of_wide 7 Tryd.f7 rfl rfl rfl rfl rfl rfl rfl ⟨rfl, rfl, rfl, rfl, rfl⟩ rfl rfl rfl rfl rfl (by kernel_rfl) Tryd.func7 (by kernel_rfl)
    (of_decide_eq_true (by kernel_rfl)) (by unfold Func.isWrapper; first | (rw [if_pos (by decide +kernel)]; kernel_rfl) | (rw [if_neg (by decide +kernel)]; exact ⟨rfl, rfl⟩))
    (fun os started H enc _ => lifted os started H enc)

/-- THE STATEMENT -/
theorem proved : Rows.ScalarsAssumeCardSaid :=
  Claim7.holds_tied_plain_at .later [] [.funcs, .mapped] true (true, "c18fde940045e90fe0227b64cf13485d222e06e8f64a58806c5f845fc32906ba") false
    over (fun _ h => by cases h) (by kernel_rfl) (fun _ h => by cases h) scalarsAssume_row_tie rfl ⟨rfl, rfl⟩ (by kernel_rfl) rfl
    (fun f fn hf hfn => by
      obtain rfl : f = 7 := Option.some.inj ((show Tryd.prog.funcNamed "firewall/firewalllaw17.ScalarsAssume" = some 7 by kernel_rfl).symm.trans hf) |>.symm
      obtain rfl : fn = Tryd.f7 := (Option.some.inj (Tryd.func7.symm.trans hfn)).symm
      exact ⟨by kernel_rfl, fun j t ht => by
        rw [Tryd.params7] at ht
        have hm : t ∈ [5, 56, 57] := by simpa using Array.mem_of_getElem? ht
        have hall : ([5, 56, 57].all fun u => !Tryd.prog.wantsStandIn u) = true := by kernel_rfl
        exact (show Tryd.prog.wantsStandIn t = false by simpa using List.all_eq_true.1 hall t hm)⟩)
    (by kernel_rfl)
#print axioms proved
end Go.Proofs.YtkmggidgfkchfaaDoor.scalarsAssumeLaw
