/-
  The statement 'Rows.InsnsBackSaid': for every input the law firewall/firewalllaw02.InsnsBack returns true, and its arguments read as before. Conditions: none. (The walk is InsnsBack_walk; here is the frame, written by a program of mine after the guide's way.)
-/
import Derived.Test.YtikhekbdliblnaaRows
import Derived.Test.YtikhekbdliblnaaInsnsBackWalk
import Derived.Test.YtikhekbdliblnaaFlat
import Derived.ChangeOld
import Derived.Below
namespace Go.Proofs.Ytikhekbdliblnaa.insnsBackLaw
open Go.ChangeShapes Go.WideShapes Go.ChangeAt Go.RowKit
open Go.ChangeMaps (open_string shut_string)
set_option linter.unusedVariables false

theorem own : ownKnob Try.prog.godebug = none := by kernel_rfl
theorem laidOut : laidOutB Try.prog = true := by kernel_rfl

set_option maxRecDepth 100000 in
theorem lifted (os : Os) (started : os.Started) (H : Type) (enc : TypeId × Value → H) :
    ReturnsInHanded {} Try.checked os 6 .any (Rows.insnsBackSpec.pre6 enc Try.prog Try.f6 Rows.insnsBackRow.domain false) (Rows.insnsBackSpec.post enc Try.prog Try.f6 false true false false) := by
  refine returnsInHanded_of_change (C := Try.checked) own started (by kernel_rfl) Try.func6
    (ChangeSpec.witness6 (enc := enc) (C := Try.checked) false ⟨#[], #[.agg #[.int .u8 0, .int .u8 0, .int .u8 0, .int .i16 0, .int .i32 0], .agg #[.int .u8 0, .int .u8 0, .int .u8 0, .int .u8 0, .int .u8 0, .int .u8 0, .int .u8 0, .int .u8 0]], []⟩ 8 (by kernel_rfl) (by kernel_rfl) (by kernel_rfl) (by kernel_rfl)) ?_
  intro W base args ds gs before hval0 hW hcnd _
  have hval : ∀ (j : Nat) t v, Try.f6.params[j]? = some t → args[j]? = some v → Value.okWide Try.prog W .any base t v := hval0
  have hW' := hW
  obtain ⟨p, q, hA0, hV, rfl, hfz, hnd⟩ := hW
  have hA : DataW.TrodAll enc Try.prog W 0 (fun _ => true) true Try.f6.params.toList args.toList ds p := hA0
  rw [Try.params6] at hA hval
  obtain ⟨v0, vs0, d0, ds0, p0, q0, hargs, rfl, rfl, h0, r0⟩ := trodAll_cons hA
  obtain ⟨v1, vs1, d1, ds1, p1, q1, rfl, rfl, rfl, h1, r1⟩ := trodAll_cons r0
  obtain ⟨rfl, rfl, rfl⟩ := trodAll_nil r1
  obtain rfl : args = #[v0, v1] := by cases args; simp_all
  obtain ⟨rfl, rfl⟩ := trodVars_none hV
  have k0 := h0
  have lt0 : ∀ x ∈ p0, x.block < W.heap.size := by obtain ⟨m, hm⟩ := k0; exact DataW.trod_lt m _ _ _ hm
  have k1 := h1
  have lt1 : ∀ x ∈ p1, x.block < W.heap.size := by obtain ⟨m, hm⟩ := k1; exact DataW.trod_lt m _ _ _ hm
  obtain ⟨c0, e0, ok0⟩ := open_flat 8 (ls := [Leaf.int .u8, Leaf.int .u8, Leaf.int .u8, Leaf.int .i16, Leaf.int .i32]) (by kernel_rfl) (by kernel_rfl) (hval 0 24 v0 rfl rfl) h0
  obtain ⟨x0_0, cs0_0, z0_0, ⟨a0_0, rfl, w0_0⟩, ok0⟩ := oks_cons ok0
  obtain ⟨x0_1, cs0_1, z0_1, ⟨a0_1, rfl, w0_1⟩, ok0⟩ := oks_cons ok0
  obtain ⟨x0_2, cs0_2, z0_2, ⟨a0_2, rfl, w0_2⟩, ok0⟩ := oks_cons ok0
  obtain ⟨x0_3, cs0_3, z0_3, ⟨a0_3, rfl, w0_3⟩, ok0⟩ := oks_cons ok0
  obtain ⟨x0_4, cs0_4, z0_4, ⟨a0_4, rfl, w0_4⟩, ok0⟩ := oks_cons ok0
  have ze0 := oks_nil ok0
  subst ze0
  subst z0_4
  subst z0_3
  subst z0_2
  subst z0_1
  subst z0_0
  subst e0
  obtain ⟨c1, e1, ok1⟩ := open_flat 8 (ls := [Leaf.int .u8, Leaf.int .u8, Leaf.int .u8, Leaf.int .u8, Leaf.int .u8, Leaf.int .u8, Leaf.int .u8, Leaf.int .u8]) (by kernel_rfl) (by kernel_rfl) (hval 1 34 v1 rfl rfl) h1
  obtain ⟨x1_0, cs1_0, z1_0, ⟨a1_0, rfl, w1_0⟩, ok1⟩ := oks_cons ok1
  obtain ⟨x1_1, cs1_1, z1_1, ⟨a1_1, rfl, w1_1⟩, ok1⟩ := oks_cons ok1
  obtain ⟨x1_2, cs1_2, z1_2, ⟨a1_2, rfl, w1_2⟩, ok1⟩ := oks_cons ok1
  obtain ⟨x1_3, cs1_3, z1_3, ⟨a1_3, rfl, w1_3⟩, ok1⟩ := oks_cons ok1
  obtain ⟨x1_4, cs1_4, z1_4, ⟨a1_4, rfl, w1_4⟩, ok1⟩ := oks_cons ok1
  obtain ⟨x1_5, cs1_5, z1_5, ⟨a1_5, rfl, w1_5⟩, ok1⟩ := oks_cons ok1
  obtain ⟨x1_6, cs1_6, z1_6, ⟨a1_6, rfl, w1_6⟩, ok1⟩ := oks_cons ok1
  obtain ⟨x1_7, cs1_7, z1_7, ⟨a1_7, rfl, w1_7⟩, ok1⟩ := oks_cons ok1
  have ze1 := oks_nil ok1
  subst ze1
  subst z1_7
  subst z1_6
  subst z1_5
  subst z1_4
  subst z1_3
  subst z1_2
  subst z1_1
  subst z1_0
  subst e1
  clear hA0 hval0
  refine (InsnsBack_walk a0_0 a0_1 a0_2 a0_3 a0_4 a1_0 a1_1 a1_2 a1_3 a1_4 a1_5 a1_6 a1_7 W w0_0 w0_1 w0_2 w0_3 w0_4 w1_0 w1_1 w1_2 w1_3 w1_4 w1_5 w1_6 w1_7).mono fun e W' ⟨he, bel⟩ => ?_
  subst he
  exact ⟨_, rfl, _, _, _, [], _, [], hW', trodAll_mk1 (shut_bool Try.underlying4 _), (trodAll_cons_mk (Below.trod laidOut (by kernel_rfl) (of_decide_eq_true (by kernel_rfl)) k0 bel lt0) (trodAll_cons_mk (Below.trod laidOut (by kernel_rfl) (of_decide_eq_true (by kernel_rfl)) k1 bel lt1) trodAll_mk0)), rfl, bel.frame _, fun h => by cases h⟩

theorem over : Rows.insnsBackRow.holds Try.pinned (OpenSpec.ofChange Rows.insnsBackSpec) :=
  OpenClaim.holds_of_wide 6 Try.f6 rfl rfl rfl rfl rfl rfl rfl ⟨rfl, rfl, rfl, rfl, rfl⟩ rfl rfl rfl rfl rfl (by kernel_rfl) Try.func6 (by kernel_rfl)
    (of_decide_eq_true (by kernel_rfl)) (by unfold Func.isWrapper; first | (rw [if_pos (by decide +kernel)]; kernel_rfl) | (rw [if_neg (by decide +kernel)]; exact ⟨rfl, rfl⟩))
    (fun os started H enc _ => lifted os started H enc)

/-- THE STATEMENT -/
theorem proved : Rows.InsnsBackSaid := over
#print axioms proved
end Go.Proofs.Ytikhekbdliblnaa.insnsBackLaw
