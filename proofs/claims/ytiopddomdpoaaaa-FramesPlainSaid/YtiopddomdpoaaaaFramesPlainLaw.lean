/-
  The statement 'Rows.FramesPlainSaid': for every input the law firewall/firewalllaw20.FramesPlain returns true, and its arguments read as before. Conditions: none. (The walk is FramesPlain_walk; here is the frame, written by a program of mine after the guide's way.)
-/
import Derived.Test.YtiopddomdpoaaaaRows
import Derived.Test.YtiopddomdpoaaaaFramesPlainWalk
import Derived.Test.YtiopddomdpoaaaaPo
import Derived.ChangeOld
import Derived.Below
namespace Go.Proofs.Ytiopddomdpoaaaa.framesPlainLaw
open Go.Ep Go.ChangeShapes Go.WideShapes Go.ChangeAt Go.RowKit
open Go.ChangeMaps (open_string shut_string)
set_option linter.unusedVariables false

theorem own : ownKnob Try.prog.godebug = none := by kernel_rfl
theorem laidOut : laidOutB Try.prog = true := by kernel_rfl

set_option maxRecDepth 100000 in
theorem lifted (os : Os) (started : os.Started) (H : Type) (enc : TypeId × Value → H) :
    ReturnsInHanded {} Try.checked os 5 .any (Rows.framesPlainSpec.pre6 enc Try.prog Try.f5 Rows.framesPlainRow.domain false) (Rows.framesPlainSpec.post enc Try.prog Try.f5 false true false false) := by
  refine returnsInHanded_of_change (C := Try.checked) own started (by kernel_rfl) Try.func5
    (ChangeSpec.witness6 (enc := enc) (C := Try.checked) false ⟨#[], #[.slice none 0 0, .agg #[.int .i64 0, .int .i64 0, .int .i64 0, .int .i64 0, .int .i64 0, .int .u32 0, .int .u64 0, .int .u64 0, .int .u64 0, .int .u64 0, .int .u64 0], .agg #[.int .u16 0, .int .u16 0]], []⟩ 8 (by kernel_rfl) (by kernel_rfl) (by kernel_rfl) (by kernel_rfl)) ?_
  intro W base args ds gs before hval0 hW hcnd _
  have hval : ∀ (j : Nat) t v, Try.f5.params[j]? = some t → args[j]? = some v → Value.okWide Try.prog W .any base t v := hval0
  have hW' := hW
  obtain ⟨p, q, hA0, hV, rfl, hfz, hnd⟩ := hW
  have hA : DataW.TrodAll enc Try.prog W 0 (fun _ => true) true Try.f5.params.toList args.toList ds p := hA0
  rw [Try.params5] at hA hval
  obtain ⟨v0, vs0, d0, ds0, p0, q0, hargs, rfl, rfl, h0, r0⟩ := trodAll_cons hA
  obtain ⟨v1, vs1, d1, ds1, p1, q1, rfl, rfl, rfl, h1, r1⟩ := trodAll_cons r0
  obtain ⟨v2, vs2, d2, ds2, p2, q2, rfl, rfl, rfl, h2, r2⟩ := trodAll_cons r1
  obtain ⟨rfl, rfl, rfl⟩ := trodAll_nil r2
  obtain rfl : args = #[v0, v1, v2] := by cases args; simp_all
  obtain ⟨rfl, rfl⟩ := trodVars_none hV
  have k0 := h0
  have lt0 : ∀ x ∈ p0, x.block < W.heap.size := by obtain ⟨m, hm⟩ := k0; exact DataW.trod_lt m _ _ _ hm
  have k1 := h1
  have lt1 : ∀ x ∈ p1, x.block < W.heap.size := by obtain ⟨m, hm⟩ := k1; exact DataW.trod_lt m _ _ _ hm
  have k2 := h2
  have lt2 : ∀ x ∈ p2, x.block < W.heap.size := by obtain ⟨m, hm⟩ := k2; exact DataW.trod_lt m _ _ _ hm
  obtain ⟨c1, e1, ok1⟩ := open_flat 8 (ls := [Leaf.int .i64, Leaf.int .i64, Leaf.int .i64, Leaf.int .i64, Leaf.int .i64, Leaf.int .u32, Leaf.int .u64, Leaf.int .u64, Leaf.int .u64, Leaf.int .u64, Leaf.int .u64]) (by kernel_rfl) (by kernel_rfl) (hval 1 57 v1 rfl rfl) h1
  obtain ⟨x1_0, cs1_0, z1_0, ⟨a1_0, rfl, w1_0⟩, ok1⟩ := oks_cons ok1
  obtain ⟨x1_1, cs1_1, z1_1, ⟨a1_1, rfl, w1_1⟩, ok1⟩ := oks_cons ok1
  obtain ⟨x1_2, cs1_2, z1_2, ⟨a1_2, rfl, w1_2⟩, ok1⟩ := oks_cons ok1
  obtain ⟨x1_3, cs1_3, z1_3, ⟨a1_3, rfl, w1_3⟩, ok1⟩ := oks_cons ok1
  obtain ⟨x1_4, cs1_4, z1_4, ⟨a1_4, rfl, w1_4⟩, ok1⟩ := oks_cons ok1
  obtain ⟨x1_5, cs1_5, z1_5, ⟨a1_5, rfl, w1_5⟩, ok1⟩ := oks_cons ok1
  obtain ⟨x1_6, cs1_6, z1_6, ⟨a1_6, rfl, w1_6⟩, ok1⟩ := oks_cons ok1
  obtain ⟨x1_7, cs1_7, z1_7, ⟨a1_7, rfl, w1_7⟩, ok1⟩ := oks_cons ok1
  obtain ⟨x1_8, cs1_8, z1_8, ⟨a1_8, rfl, w1_8⟩, ok1⟩ := oks_cons ok1
  obtain ⟨x1_9, cs1_9, z1_9, ⟨a1_9, rfl, w1_9⟩, ok1⟩ := oks_cons ok1
  obtain ⟨x1_10, cs1_10, z1_10, ⟨a1_10, rfl, w1_10⟩, ok1⟩ := oks_cons ok1
  have ze1 := oks_nil ok1
  subst ze1
  subst z1_10
  subst z1_9
  subst z1_8
  subst z1_7
  subst z1_6
  subst z1_5
  subst z1_4
  subst z1_3
  subst z1_2
  subst z1_1
  subst z1_0
  subst e1
  obtain ⟨c2, e2, ok2⟩ := open_flat 8 (ls := [Leaf.int .u16, Leaf.int .u16]) (by kernel_rfl) (by kernel_rfl) (hval 2 59 v2 rfl rfl) h2
  obtain ⟨x2_0, cs2_0, z2_0, ⟨a2_0, rfl, w2_0⟩, ok2⟩ := oks_cons ok2
  obtain ⟨x2_1, cs2_1, z2_1, ⟨a2_1, rfl, w2_1⟩, ok2⟩ := oks_cons ok2
  have ze2 := oks_nil ok2
  subst ze2
  subst z2_1
  subst z2_0
  subst e2
  obtain ⟨sa, sl, sc, sv⟩ := okWide_slice Try.underlying52 (hval 0 52 v0 rfl rfl)
  have hc : v0.cells.toList = [v0] := by rw [sv]; rfl
  clear hA0 hval0
  obtain ⟨fuel0, hf0⟩ := h0
  rw [hc] at hf0
  clear hc sv
  rcases open_rows (ls := [Leaf.int .i64, Leaf.int .i64, Leaf.int .i64, Leaf.int .i64, Leaf.int .i64, Leaf.int .u32, Leaf.int .u64, Leaf.int .u64, Leaf.int .u64, Leaf.int .u64, Leaf.int .u64]) 8 Try.underlying52 (by kernel_rfl) rfl (by kernel_rfl) (by decide) hf0 with ⟨ad, cap, rfl⟩ | ⟨b, o, len, cap, cs, T, fr, us, ws, f, hpos, hlen, rfl, hblk, hdrop, hseg, hok⟩
  · refine (FramesPlain_walk0 ad cap a1_0 a1_1 a1_2 a1_3 a1_4 a1_5 a1_6 a1_7 a1_8 a1_9 a1_10 a2_0 a2_1 W w1_0 w1_1 w1_2 w1_3 w1_4 w1_5 w1_6 w1_7 w1_8 w1_9 w1_10 w2_0 w2_1).mono fun e W' ⟨he, bel⟩ => ?_
    subst he
    exact ⟨_, rfl, _, _, _, [], _, [], hW', trodAll_mk1 (shut_bool Try.underlying4 _), (trodAll_cons_mk (Below.trod laidOut (by kernel_rfl) (of_decide_eq_true (by kernel_rfl)) k0 bel lt0) (trodAll_cons_mk (Below.trod laidOut (by kernel_rfl) (of_decide_eq_true (by kernel_rfl)) k1 bel lt1) (trodAll_cons_mk (Below.trod laidOut (by kernel_rfl) (of_decide_eq_true (by kernel_rfl)) k2 bel lt2) trodAll_mk0))), rfl, bel.frame _, fun h => by cases h⟩
  · refine (FramesPlain_walk1 b o len cap cs T fr us ws f hpos hlen a1_0 a1_1 a1_2 a1_3 a1_4 a1_5 a1_6 a1_7 a1_8 a1_9 a1_10 a2_0 a2_1 W hblk hdrop hseg hok w1_0 w1_1 w1_2 w1_3 w1_4 w1_5 w1_6 w1_7 w1_8 w1_9 w1_10 w2_0 w2_1).mono fun e W' ⟨he, bel⟩ => ?_
    subst he
    exact ⟨_, rfl, _, _, _, [], _, [], hW', trodAll_mk1 (shut_bool Try.underlying4 _), (trodAll_cons_mk (Below.trod laidOut (by kernel_rfl) (of_decide_eq_true (by kernel_rfl)) k0 bel lt0) (trodAll_cons_mk (Below.trod laidOut (by kernel_rfl) (of_decide_eq_true (by kernel_rfl)) k1 bel lt1) (trodAll_cons_mk (Below.trod laidOut (by kernel_rfl) (of_decide_eq_true (by kernel_rfl)) k2 bel lt2) trodAll_mk0))), rfl, bel.frame _, fun h => by cases h⟩

theorem over : Rows.framesPlainRow.holds Try.pinned (OpenSpec.ofChange Rows.framesPlainSpec) :=
  OpenClaim.holds_of_wide 5 Try.f5 rfl rfl rfl rfl rfl rfl rfl ⟨rfl, rfl, rfl, rfl, rfl⟩ rfl rfl rfl rfl rfl (by kernel_rfl) Try.func5 (by kernel_rfl)
    (of_decide_eq_true (by kernel_rfl)) (by unfold Func.isWrapper; first | (rw [if_pos (by decide +kernel)]; kernel_rfl) | (rw [if_neg (by decide +kernel)]; exact ⟨rfl, rfl⟩))
    (fun os started H enc _ => lifted os started H enc)

/-- THE STATEMENT -/
theorem proved : Rows.FramesPlainSaid := over
#print axioms proved
end Go.Proofs.Ytiopddomdpoaaaa.framesPlainLaw
