/-
  The walk of the law FramesPlain, out of what the evaluator leaves of it. Conditions: the arguments fit their kinds.
-/
import Derived.Test.YtiopddomdpoaaaaRk
import Derived.Test.YtiopddomdpoaaaaPo
namespace Go.Proofs.Ytiopddomdpoaaaa
open Go.Ep Go.RowKit
set_option linter.unusedVariables false

theorem at_of {f : Nat → List PL} (h : ∀ k, oksP [Leaf.int .i64, Leaf.int .i64, Leaf.int .i64, Leaf.int .i64, Leaf.int .i64, Leaf.int .u32, Leaf.int .u64, Leaf.int .u64, Leaf.int .u64, Leaf.int .u64, Leaf.int .u64] (f k)) : ∃ x : AT, f = atF x := by
  refine ⟨atOf f, funext fun k => ?_⟩
  obtain ⟨p1, r1, e1, o1, h⟩ := oksP_cons (h k)
  obtain ⟨p2, r2, rfl, o2, h⟩ := oksP_cons h
  obtain ⟨p3, r3, rfl, o3, h⟩ := oksP_cons h
  obtain ⟨p4, r4, rfl, o4, h⟩ := oksP_cons h
  obtain ⟨p5, r5, rfl, o5, h⟩ := oksP_cons h
  obtain ⟨p6, r6, rfl, o6, h⟩ := oksP_cons h
  obtain ⟨p7, r7, rfl, o7, h⟩ := oksP_cons h
  obtain ⟨p8, r8, rfl, o8, h⟩ := oksP_cons h
  obtain ⟨p9, r9, rfl, o9, h⟩ := oksP_cons h
  obtain ⟨p10, r10, rfl, o10, h⟩ := oksP_cons h
  obtain ⟨p11, r11, rfl, o11, h⟩ := oksP_cons h
  obtain rfl := oksP_nil h
  obtain ⟨x1, rfl⟩ := ok_i64 o1
  obtain ⟨x2, rfl⟩ := ok_i64 o2
  obtain ⟨x3, rfl⟩ := ok_i64 o3
  obtain ⟨x4, rfl⟩ := ok_i64 o4
  obtain ⟨x5, rfl⟩ := ok_i64 o5
  obtain ⟨x6, rfl⟩ := ok_u32 o6
  obtain ⟨x7, rfl⟩ := ok_u64 o7
  obtain ⟨x8, rfl⟩ := ok_u64 o8
  obtain ⟨x9, rfl⟩ := ok_u64 o9
  obtain ⟨x10, rfl⟩ := ok_u64 o10
  obtain ⟨x11, rfl⟩ := ok_u64 o11
  simp only [atF, atOf, e1, nthP, p64, p32]
set_option maxRecDepth 100000 in
theorem FramesPlain_walk0 (ad : Option Addr) (cap : Nat) (a1_0 : Int) (a1_1 : Int) (a1_2 : Int) (a1_3 : Int) (a1_4 : Int) (a1_5 : Int) (a1_6 : Int) (a1_7 : Int) (a1_8 : Int) (a1_9 : Int) (a1_10 : Int) (a2_0 : Int) (a2_1 : Int) (w : World) (w1_0 : (Lit.int .i64 a1_0).wf = true) (w1_1 : (Lit.int .i64 a1_1).wf = true) (w1_2 : (Lit.int .i64 a1_2).wf = true) (w1_3 : (Lit.int .i64 a1_3).wf = true) (w1_4 : (Lit.int .i64 a1_4).wf = true) (w1_5 : (Lit.int .u32 a1_5).wf = true) (w1_6 : (Lit.int .u64 a1_6).wf = true) (w1_7 : (Lit.int .u64 a1_7).wf = true) (w1_8 : (Lit.int .u64 a1_8).wf = true) (w1_9 : (Lit.int .u64 a1_9).wf = true) (w1_10 : (Lit.int .u64 a1_10).wf = true) (w2_0 : (Lit.int .u16 a2_0).wf = true) (w2_1 : (Lit.int .u16 a2_1).wf = true) :
    Calls Try.prog 5 #[.slice ad 0 cap, .agg #[.int .i64 a1_0, .int .i64 a1_1, .int .i64 a1_2, .int .i64 a1_3, .int .i64 a1_4, .int .u32 a1_5, .int .u64 a1_6, .int .u64 a1_7, .int .u64 a1_8, .int .u64 a1_9, .int .u64 a1_10], .agg #[.int .u16 a2_0, .int .u16 a2_1]] w fun e w' => e = .returned (.bool true) ∧ Below w.heap.size w w' := by
  obtain ⟨x0, rfl⟩ := vI_of .i64 a1_0 w1_0
  obtain ⟨x1, rfl⟩ := vI_of .i64 a1_1 w1_1
  obtain ⟨x2, rfl⟩ := vI_of .i64 a1_2 w1_2
  obtain ⟨x3, rfl⟩ := vI_of .i64 a1_3 w1_3
  obtain ⟨x4, rfl⟩ := vI_of .i64 a1_4 w1_4
  obtain ⟨x5, rfl⟩ := vI_of .u32 a1_5 w1_5
  obtain ⟨x6, rfl⟩ := vI_of .u64 a1_6 w1_6
  obtain ⟨x7, rfl⟩ := vI_of .u64 a1_7 w1_7
  obtain ⟨x8, rfl⟩ := vI_of .u64 a1_8 w1_8
  obtain ⟨x9, rfl⟩ := vI_of .u64 a1_9 w1_9
  obtain ⟨x10, rfl⟩ := vI_of .u64 a1_10 w1_10
  obtain ⟨y0, rfl⟩ := vI_of .u16 a2_0 w2_0
  obtain ⟨y1, rfl⟩ := vI_of .u16 a2_1 w2_1
  exact law_of_FI0 C_21 (by kernel_rfl) Try.func5 (Plain_main0 x0 x1 x2 x3 x4 x5 x6 x7 x8 x9 x10 y0 y1 ad cap) rfl trivial ⟨fun _ => rfl, ⟨_, rfl, ⟨[_], _, rfl, ⟨_, rfl, fun _ => rfl⟩, ⟨[_], _, rfl, ⟨_, rfl, fun _ => rfl⟩, ⟨[_], _, rfl, ⟨_, rfl, fun _ => rfl⟩, ⟨[_], _, rfl, ⟨_, rfl, fun _ => rfl⟩, ⟨[_], _, rfl, ⟨_, rfl, fun _ => rfl⟩, ⟨[_], _, rfl, ⟨_, rfl, fun _ => rfl⟩, ⟨[_], _, rfl, ⟨_, rfl, fun _ => rfl⟩, ⟨[_], _, rfl, ⟨_, rfl, fun _ => rfl⟩, ⟨[_], _, rfl, ⟨_, rfl, fun _ => rfl⟩, ⟨[_], _, rfl, ⟨_, rfl, fun _ => rfl⟩, ⟨[_], _, rfl, ⟨_, rfl, fun _ => rfl⟩, rfl⟩⟩⟩⟩⟩⟩⟩⟩⟩⟩⟩⟩, ⟨_, rfl, ⟨[_], _, rfl, ⟨_, rfl, fun _ => rfl⟩, ⟨[_], _, rfl, ⟨_, rfl, fun _ => rfl⟩, rfl⟩⟩⟩, trivial⟩
set_option maxRecDepth 100000 in
theorem FramesPlain_walk1 (b o len cap : Nat) (cs : Array Value) (T : TypeId) (fr : Nat × Nat) (us ws : List Value) (f : Nat → List PL) (hpos : 0 < len) (hlen : len ≤ maxLen) (a1_0 : Int) (a1_1 : Int) (a1_2 : Int) (a1_3 : Int) (a1_4 : Int) (a1_5 : Int) (a1_6 : Int) (a1_7 : Int) (a1_8 : Int) (a1_9 : Int) (a1_10 : Int) (a2_0 : Int) (a2_1 : Int) (w : World) (hblk : w.heap[b]? = some (.cells cs T fr)) (hdrop : cs.toList.drop o = us ++ ws)
    (hseg : SegV 11 len f us) (hok : ∀ k, oksP [Leaf.int .i64, Leaf.int .i64, Leaf.int .i64, Leaf.int .i64, Leaf.int .i64, Leaf.int .u32, Leaf.int .u64, Leaf.int .u64, Leaf.int .u64, Leaf.int .u64, Leaf.int .u64] (f k)) (w1_0 : (Lit.int .i64 a1_0).wf = true) (w1_1 : (Lit.int .i64 a1_1).wf = true) (w1_2 : (Lit.int .i64 a1_2).wf = true) (w1_3 : (Lit.int .i64 a1_3).wf = true) (w1_4 : (Lit.int .i64 a1_4).wf = true) (w1_5 : (Lit.int .u32 a1_5).wf = true) (w1_6 : (Lit.int .u64 a1_6).wf = true) (w1_7 : (Lit.int .u64 a1_7).wf = true) (w1_8 : (Lit.int .u64 a1_8).wf = true) (w1_9 : (Lit.int .u64 a1_9).wf = true) (w1_10 : (Lit.int .u64 a1_10).wf = true) (w2_0 : (Lit.int .u16 a2_0).wf = true) (w2_1 : (Lit.int .u16 a2_1).wf = true) :
    Calls Try.prog 5 #[.slice (some ⟨b, o, none⟩) len cap, .agg #[.int .i64 a1_0, .int .i64 a1_1, .int .i64 a1_2, .int .i64 a1_3, .int .i64 a1_4, .int .u32 a1_5, .int .u64 a1_6, .int .u64 a1_7, .int .u64 a1_8, .int .u64 a1_9, .int .u64 a1_10], .agg #[.int .u16 a2_0, .int .u16 a2_1]] w fun e w' => e = .returned (.bool true) ∧ Below w.heap.size w w' := by
  obtain ⟨x0, rfl⟩ := vI_of .i64 a1_0 w1_0
  obtain ⟨x1, rfl⟩ := vI_of .i64 a1_1 w1_1
  obtain ⟨x2, rfl⟩ := vI_of .i64 a1_2 w1_2
  obtain ⟨x3, rfl⟩ := vI_of .i64 a1_3 w1_3
  obtain ⟨x4, rfl⟩ := vI_of .i64 a1_4 w1_4
  obtain ⟨x5, rfl⟩ := vI_of .u32 a1_5 w1_5
  obtain ⟨x6, rfl⟩ := vI_of .u64 a1_6 w1_6
  obtain ⟨x7, rfl⟩ := vI_of .u64 a1_7 w1_7
  obtain ⟨x8, rfl⟩ := vI_of .u64 a1_8 w1_8
  obtain ⟨x9, rfl⟩ := vI_of .u64 a1_9 w1_9
  obtain ⟨x10, rfl⟩ := vI_of .u64 a1_10 w1_10
  obtain ⟨y0, rfl⟩ := vI_of .u16 a2_0 w2_0
  obtain ⟨y1, rfl⟩ := vI_of .u16 a2_1 w2_1
  obtain ⟨x, rfl⟩ := at_of hok
  exact law_of_FI C_21 (by kernel_rfl) Try.func5 (Plain_main x0 x1 x2 x3 x4 x5 x6 x7 x8 x9 x10 y0 y1 T len cap (Nat.lt_of_le_of_lt hlen (by decide)) x) rfl rfl rfl (q := ⟨b, o, 0⟩) trivial hblk hdrop ⟨us, [], by simp, hseg, rfl⟩ ⟨fun _ => rfl, ⟨_, rfl, ⟨[_], _, rfl, ⟨_, rfl, fun _ => rfl⟩, ⟨[_], _, rfl, ⟨_, rfl, fun _ => rfl⟩, ⟨[_], _, rfl, ⟨_, rfl, fun _ => rfl⟩, ⟨[_], _, rfl, ⟨_, rfl, fun _ => rfl⟩, ⟨[_], _, rfl, ⟨_, rfl, fun _ => rfl⟩, ⟨[_], _, rfl, ⟨_, rfl, fun _ => rfl⟩, ⟨[_], _, rfl, ⟨_, rfl, fun _ => rfl⟩, ⟨[_], _, rfl, ⟨_, rfl, fun _ => rfl⟩, ⟨[_], _, rfl, ⟨_, rfl, fun _ => rfl⟩, ⟨[_], _, rfl, ⟨_, rfl, fun _ => rfl⟩, ⟨[_], _, rfl, ⟨_, rfl, fun _ => rfl⟩, rfl⟩⟩⟩⟩⟩⟩⟩⟩⟩⟩⟩⟩, ⟨_, rfl, ⟨[_], _, rfl, ⟨_, rfl, fun _ => rfl⟩, ⟨[_], _, rfl, ⟨_, rfl, fun _ => rfl⟩, rfl⟩⟩⟩, trivial⟩
end Go.Proofs.Ytiopddomdpoaaaa
