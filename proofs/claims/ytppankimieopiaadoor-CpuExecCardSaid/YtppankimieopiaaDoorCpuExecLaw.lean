/-
  The statement 'Rows.CpuExecSaid': for every input the law firewall/firewalllaw12.CpuExec returns true, and its arguments read as before. Conditions: none. (The walk is CpuExec_walk; here is the frame, written by a program of mine after the guide's way.)
-/
import Derived.Test.YtppankimieopiaaDoorRows
import Derived.Test.YtppankimieopiaaDoorTie
import Derived.Test.YtppankimieopiaaDoorCards
import Derived.Test.YtppankimieopiaaDoorCpuExecWalk
import Derived.Test.YtppankimieopiaaDoorFlat
import Derived.ChangeOld
import Derived.Below
import Derived.ProofKit
import Derived.LaidMore
import Derived.OpenShut
import Derived.Stop.Joined
import Derived.SevenTiedAt
namespace Go.Proofs.YtppankimieopiaaDoor.cpuExecLaw
open Go.ChangeShapes Go.WideShapes Go.ChangeAt Go.RowKit
open Go.ChangeMaps (open_string shut_string)
set_option linter.unusedVariables false

theorem own : ownKnob Tryd.prog.godebug = none := by kernel_rfl
theorem laidOut : laidOutB Tryd.prog = true := by kernel_rfl
/-- The door's own heap meets the condition. -/
theorem door_met (os : Os) (args : Array Value) : laidMetH Tryd.prog Rows.cpuExecRow.laid ((World.doorLaid Tryd.prog 211 os).forCall (fun _ _ => 0) ⟨#[], args, []⟩).memory :=
  laidMetH_of_parts3 (fuel := 8) (laidMet_of_run' 8 (by kernel_rfl) (by kernel_rfl)) (by kernel_rfl) (by kernel_rfl)

set_option maxRecDepth 100000 in
theorem lifted (os : Os) (started : os.Started) (H : Type) (enc : TypeId × Value → H) :
    ReturnsInHanded {} Tryd.checked os 3 .any (fun w args => (Rows.cpuExecSpec.pre enc Tryd.prog Tryd.f3 [] false w args ∧ laidMetH Tryd.prog Rows.cpuExecRow.laid w) ∧ sizedMet enc Tryd.prog Tryd.f3 (OpenSpec.ofChange Rows.cpuExecSpec) false w args)
      (Rows.cpuExecSpec.post enc Tryd.prog Tryd.f3 false true false false) := by
  refine returnsInHanded_of_change_and (C := Tryd.checked) (X := fun w _ => laidMetH Tryd.prog Rows.cpuExecRow.laid w) (fun _ _ _ hh h => h.of_heap hh) own started (by kernel_rfl) Tryd.func3
    (ChangeSpec.witness_shaped (enc := enc) (C := Tryd.checked) (os := os) (X := fun w _ => laidMetH Tryd.prog Rows.cpuExecRow.laid w) false (World.doorLaid Tryd.prog 211 os) #[.agg #[.int .i64 0, .int .i64 0, .int .i64 0, .int .i64 0, .bool false, .bool false, .int .i64 0, .int .i64 0, .int .i32 0, .int .i32 0, .int .i64 0], .agg #[.int .u64 0, .int .u64 0, .int .u64 0, .int .u64 0, .int .u64 0, .int .u64 0, .int .u64 0, .int .u64 0, .int .u64 0, .int .u64 0, .int .u64 0, .int .u64 0, .int .u64 0, .int .u64 0, .int .u64 0, .int .u64 0, .bool false, .bool false, .bool false, .bool false, .int .u64 0]] 8 rfl (World.shaped_of_RefB (by kernel_rfl) (by kernel_rfl)) (by kernel_rfl) (by kernel_rfl) (by kernel_rfl) (door_met os _)) ?_
  intro W base args ds gs before hval0 hW _ _ hL _
  have hval : ∀ (j : Nat) t v, Tryd.f3.params[j]? = some t → args[j]? = some v → Value.okWide Tryd.prog W .any base t v := hval0
  have hW' := hW
  obtain ⟨p, q, hA0, hV, rfl, hfz, hnd⟩ := hW
  have hA : DataW.TrodAll enc Tryd.prog W 0 (fun _ => true) true Tryd.f3.params.toList args.toList ds p := hA0
  rw [Tryd.params3] at hA hval
  obtain ⟨v0, vs0, d0, ds0, p0, q0, hargs, rfl, rfl, h0, r0⟩ := trodAll_cons hA
  obtain ⟨v1, vs1, d1, ds1, p1, q1, rfl, rfl, rfl, h1, r1⟩ := trodAll_cons r0
  obtain ⟨rfl, rfl, rfl⟩ := trodAll_nil r1
  obtain rfl : args = #[v0, v1] := by cases args; simp_all
  obtain ⟨rfl, rfl⟩ := trodVars_none hV
  have k0 := h0
  have lt0 : ∀ x ∈ p0, x.block < W.heap.size := by obtain ⟨m, hm⟩ := k0; exact DataW.trod_lt m _ _ _ hm
  have k1 := h1
  have lt1 : ∀ x ∈ p1, x.block < W.heap.size := by obtain ⟨m, hm⟩ := k1; exact DataW.trod_lt m _ _ _ hm
  obtain ⟨c0, e0, ok0⟩ := open_flat 8 (ls := [Leaf.int .i64, Leaf.int .i64, Leaf.int .i64, Leaf.int .i64, Leaf.bool, Leaf.bool, Leaf.int .i64, Leaf.int .i64, Leaf.int .i32, Leaf.int .i32, Leaf.int .i64]) (by kernel_rfl) (by kernel_rfl) (hval 0 23 v0 rfl rfl) h0
  obtain ⟨x0_0, cs0_0, z0_0, ⟨a0_0, rfl, w0_0⟩, ok0⟩ := oks_cons ok0
  obtain ⟨x0_1, cs0_1, z0_1, ⟨a0_1, rfl, w0_1⟩, ok0⟩ := oks_cons ok0
  obtain ⟨x0_2, cs0_2, z0_2, ⟨a0_2, rfl, w0_2⟩, ok0⟩ := oks_cons ok0
  obtain ⟨x0_3, cs0_3, z0_3, ⟨a0_3, rfl, w0_3⟩, ok0⟩ := oks_cons ok0
  obtain ⟨x0_4, cs0_4, z0_4, ⟨a0_4, rfl⟩, ok0⟩ := oks_cons ok0
  obtain ⟨x0_5, cs0_5, z0_5, ⟨a0_5, rfl⟩, ok0⟩ := oks_cons ok0
  obtain ⟨x0_6, cs0_6, z0_6, ⟨a0_6, rfl, w0_6⟩, ok0⟩ := oks_cons ok0
  obtain ⟨x0_7, cs0_7, z0_7, ⟨a0_7, rfl, w0_7⟩, ok0⟩ := oks_cons ok0
  obtain ⟨x0_8, cs0_8, z0_8, ⟨a0_8, rfl, w0_8⟩, ok0⟩ := oks_cons ok0
  obtain ⟨x0_9, cs0_9, z0_9, ⟨a0_9, rfl, w0_9⟩, ok0⟩ := oks_cons ok0
  obtain ⟨x0_10, cs0_10, z0_10, ⟨a0_10, rfl, w0_10⟩, ok0⟩ := oks_cons ok0
  have ze0 := oks_nil ok0
  subst ze0
  subst z0_10
  subst z0_9
  subst z0_8
  subst z0_7
  subst z0_6
  subst z0_5
  subst z0_4
  subst z0_3
  subst z0_2
  subst z0_1
  subst z0_0
  subst e0
  obtain ⟨c1, e1, ok1⟩ := open_flat 8 (ls := [Leaf.int .u64, Leaf.int .u64, Leaf.int .u64, Leaf.int .u64, Leaf.int .u64, Leaf.int .u64, Leaf.int .u64, Leaf.int .u64, Leaf.int .u64, Leaf.int .u64, Leaf.int .u64, Leaf.int .u64, Leaf.int .u64, Leaf.int .u64, Leaf.int .u64, Leaf.int .u64, Leaf.bool, Leaf.bool, Leaf.bool, Leaf.bool, Leaf.int .u64]) (by kernel_rfl) (by kernel_rfl) (hval 1 27 v1 rfl rfl) h1
  obtain ⟨x1_0, cs1_0, z1_0, ⟨a1_0, rfl, w1_0⟩, ok1⟩ := oks_cons ok1
  obtain ⟨x1_1, cs1_1, z1_1, ⟨a1_1, rfl, w1_1⟩, ok1⟩ := oks_cons ok1
  obtain ⟨x1_2, cs1_2, z1_2, ⟨a1_2, rfl, w1_2⟩, ok1⟩ := oks_cons ok1
  obtain ⟨x1_3, cs1_3, z1_3, ⟨a1_3, rfl, w1_3⟩, ok1⟩ := oks_cons ok1
  obtain ⟨x1_4, cs1_4, z1_4, ⟨a1_4, rfl, w1_4⟩, ok1⟩ := oks_cons ok1
  obtain ⟨x1_5, cs1_5, z1_5, ⟨a1_5, rfl, w1_5⟩, ok1⟩ := oks_cons ok1
  obtain ⟨x1_6, cs1_6, z1_6, ⟨a1_6, rfl, w1_6⟩, ok1⟩ := oks_cons ok1
  obtain ⟨x1_7, cs1_7, z1_7, ⟨a1_7, rfl, w1_7⟩, ok1⟩ := oks_cons ok1
  obtain ⟨x1_8, cs1_8, z1_8, ⟨a1_8, rfl, w1_8⟩, ok1⟩ := oks_cons ok1
  obtain ⟨x1_9, cs1_9, z1_9, ⟨a1_9, rfl, w1_9⟩, ok1⟩ := oks_cons ok1
  obtain ⟨x1_10, cs1_10, z1_10, ⟨a1_10, rfl, w1_10⟩, ok1⟩ := oks_cons ok1
  obtain ⟨x1_11, cs1_11, z1_11, ⟨a1_11, rfl, w1_11⟩, ok1⟩ := oks_cons ok1
  obtain ⟨x1_12, cs1_12, z1_12, ⟨a1_12, rfl, w1_12⟩, ok1⟩ := oks_cons ok1
  obtain ⟨x1_13, cs1_13, z1_13, ⟨a1_13, rfl, w1_13⟩, ok1⟩ := oks_cons ok1
  obtain ⟨x1_14, cs1_14, z1_14, ⟨a1_14, rfl, w1_14⟩, ok1⟩ := oks_cons ok1
  obtain ⟨x1_15, cs1_15, z1_15, ⟨a1_15, rfl, w1_15⟩, ok1⟩ := oks_cons ok1
  obtain ⟨x1_16, cs1_16, z1_16, ⟨a1_16, rfl⟩, ok1⟩ := oks_cons ok1
  obtain ⟨x1_17, cs1_17, z1_17, ⟨a1_17, rfl⟩, ok1⟩ := oks_cons ok1
  obtain ⟨x1_18, cs1_18, z1_18, ⟨a1_18, rfl⟩, ok1⟩ := oks_cons ok1
  obtain ⟨x1_19, cs1_19, z1_19, ⟨a1_19, rfl⟩, ok1⟩ := oks_cons ok1
  obtain ⟨x1_20, cs1_20, z1_20, ⟨a1_20, rfl, w1_20⟩, ok1⟩ := oks_cons ok1
  have ze1 := oks_nil ok1
  subst ze1
  subst z1_20
  subst z1_19
  subst z1_18
  subst z1_17
  subst z1_16
  subst z1_15
  subst z1_14
  subst z1_13
  subst z1_12
  subst z1_11
  subst z1_10
  subst z1_9
  subst z1_8
  subst z1_7
  subst z1_6
  subst z1_5
  subst z1_4
  subst z1_3
  subst z1_2
  subst z1_1
  subst z1_0
  subst e1
  clear hA0 hval0
  simp only [List.append_nil] at hW'
  obtain ⟨m, hG⟩ := GU_of hL
  refine (CpuExec_walk a0_0 a0_1 a0_2 a0_3 a0_4 a0_5 a0_6 a0_7 a0_8 a0_9 a0_10 a1_0 a1_1 a1_2 a1_3 a1_4 a1_5 a1_6 a1_7 a1_8 a1_9 a1_10 a1_11 a1_12 a1_13 a1_14 a1_15 a1_16 a1_17 a1_18 a1_19 a1_20 W m hG w0_0 w0_1 w0_2 w0_3 w0_6 w0_7 w0_8 w0_9 w0_10 w1_0 w1_1 w1_2 w1_3 w1_4 w1_5 w1_6 w1_7 w1_8 w1_9 w1_10 w1_11 w1_12 w1_13 w1_14 w1_15 w1_20).mono fun e W' ⟨he, bel⟩ => ?_
  subst he
  exact ⟨_, rfl, _, _, _, [], _, [], hW', trodAll_mk1 (shut_bool Tryd.underlying4 _), (trodAll_cons_mk (Below.trod laidOut (by kernel_rfl) (of_decide_eq_true (by kernel_rfl)) k0 bel lt0) (trodAll_cons_mk (Below.trod laidOut (by kernel_rfl) (of_decide_eq_true (by kernel_rfl)) k1 bel lt1) trodAll_mk0)), rfl, bel.frame _, fun h => by cases h⟩

theorem over : Rows.cpuExecRow.holds Tryd.pinned (OpenSpec.ofChange Rows.cpuExecSpec) :=
  OpenClaim.holds_of_wide 3 Tryd.f3 rfl rfl rfl rfl rfl rfl rfl ⟨rfl, rfl, rfl, rfl, rfl⟩ rfl rfl rfl rfl rfl (by kernel_rfl) Tryd.func3 (by kernel_rfl)
    (of_decide_eq_true (by kernel_rfl)) (by unfold Func.isWrapper; first | (rw [if_pos (by decide +kernel)]; kernel_rfl) | (rw [if_neg (by decide +kernel)]; exact ⟨rfl, rfl⟩))
    (fun os started H enc _ => lifted os started H enc)

/-- THE STATEMENT -/
theorem proved : Rows.CpuExecCardSaid :=
  Claim7.holds_tied_plain_at .later [] [.data, .mapped, .widerDeep, .mapped, .mapped] true (true, "8a722fc3d6e6b9e3235fd79515e127cc47809f37613eaf0b2d685d0b7416774f") false
    over (fun _ h => by cases h) (by kernel_rfl) (fun _ h => by cases h) cpuExec_row_tie rfl ⟨rfl, rfl⟩ (by kernel_rfl) rfl
    (fun f fn hf hfn => by
      obtain rfl : f = 3 := Option.some.inj ((show Tryd.prog.funcNamed "firewall/firewalllaw12.CpuExec" = some 3 by kernel_rfl).symm.trans hf) |>.symm
      obtain rfl : fn = Tryd.f3 := (Option.some.inj (Tryd.func3.symm.trans hfn)).symm
      exact ⟨by kernel_rfl, fun j t ht => by
        rw [Tryd.params3] at ht
        have hm : t ∈ [23, 27] := by simpa using Array.mem_of_getElem? ht
        have hall : ([23, 27].all fun u => !Tryd.prog.wantsStandIn u) = true := by kernel_rfl
        exact (show Tryd.prog.wantsStandIn t = false by simpa using List.all_eq_true.1 hall t hm)⟩)
    (by kernel_rfl)
#print axioms proved
end Go.Proofs.YtppankimieopiaaDoor.cpuExecLaw
