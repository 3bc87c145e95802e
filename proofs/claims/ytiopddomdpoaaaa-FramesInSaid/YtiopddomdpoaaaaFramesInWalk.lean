/-
  The walk of the law FramesIn, out of what the evaluator leaves of it. Conditions: the arguments fit their kinds.
-/
import Derived.Test.YtiopddomdpoaaaaRl
import Derived.Test.YtiopddomdpoaaaaPo
namespace Go.Proofs.Ytiopddomdpoaaaa
open Go.Ep Go.RowKit
set_option linter.unusedVariables false

theorem at_of {f : Nat → List PL} (h : ∀ k, oksP [Leaf.int .i64, Leaf.int .i64, Leaf.int .i64, Leaf.int .i64, Leaf.int .i64, Leaf.int .u32, Leaf.int .u64, Leaf.int .u64, Leaf.int .u64, Leaf.int .u64, Leaf.int .u64] (f k)) : ∃ x : AT, f = atF x := by
  refine ⟨atOf f, funext fun k => ?_⟩
  obtain ⟨p1, r1, e1, o1, h⟩ := oksP_cons (h k)
  obtain ⟨p2, r2, rfl, o2, h⟩ := oksP_cons h
  obtain ⟨p3, r3, rfl, o3, h⟩ := oksP_cons h
  obtain ⟨p4, r4, rfl, o4, h⟩ := oksP_cons h
  obtain ⟨p5, r5, rfl, o5, h⟩ := oksP_cons h
  obtain ⟨p6, r6, rfl, o6, h⟩ := oksP_cons h
  obtain ⟨p7, r7, rfl, o7, h⟩ := oksP_cons h
  obtain ⟨p8, r8, rfl, o8, h⟩ := oksP_cons h
  obtain ⟨p9, r9, rfl, o9, h⟩ := oksP_cons h
  obtain ⟨p10, r10, rfl, o10, h⟩ := oksP_cons h
  obtain ⟨p11, r11, rfl, o11, h⟩ := oksP_cons h
  obtain rfl := oksP_nil h
  obtain ⟨x1, rfl⟩ := ok_i64 o1
  obtain ⟨x2, rfl⟩ := ok_i64 o2
  obtain ⟨x3, rfl⟩ := ok_i64 o3
  obtain ⟨x4, rfl⟩ := ok_i64 o4
  obtain ⟨x5, rfl⟩ := ok_i64 o5
  obtain ⟨x6, rfl⟩ := ok_u32 o6
  obtain ⟨x7, rfl⟩ := ok_u64 o7
  obtain ⟨x8, rfl⟩ := ok_u64 o8
  obtain ⟨x9, rfl⟩ := ok_u64 o9
  obtain ⟨x10, rfl⟩ := ok_u64 o10
  obtain ⟨x11, rfl⟩ := ok_u64 o11
  simp only [atF, atOf, e1, nthP, p64, p32]
set_option maxRecDepth 100000 in
theorem FramesIn_walk0 (ad : Option Addr) (cap : Nat) (a1 : Int) (w : World) (w1 : (Lit.int .u8 a1).wf = true) :
    Calls Try.prog 6 #[.slice ad 0 cap, .int .u8 a1] w fun e w' => e = .returned (.bool true) ∧ Below w.heap.size w w' := by
  obtain ⟨a1x, rfl⟩ := vI_of .u8 a1 w1
  exact law_of_FI0 C_21 (by kernel_rfl) Try.func6 (In_main0 a1x ad cap) rfl trivial ⟨fun _ => rfl, fun _ => rfl, trivial⟩
set_option maxRecDepth 100000 in
theorem FramesIn_walk1 (b o len cap : Nat) (cs : Array Value) (T : TypeId) (fr : Nat × Nat) (us ws : List Value) (f : Nat → List PL) (hpos : 0 < len) (hlen : len ≤ maxLen) (a1 : Int) (w : World) (hblk : w.heap[b]? = some (.cells cs T fr)) (hdrop : cs.toList.drop o = us ++ ws)
    (hseg : SegV 11 len f us) (hok : ∀ k, oksP [Leaf.int .i64, Leaf.int .i64, Leaf.int .i64, Leaf.int .i64, Leaf.int .i64, Leaf.int .u32, Leaf.int .u64, Leaf.int .u64, Leaf.int .u64, Leaf.int .u64, Leaf.int .u64] (f k)) (w1 : (Lit.int .u8 a1).wf = true) :
    Calls Try.prog 6 #[.slice (some ⟨b, o, none⟩) len cap, .int .u8 a1] w fun e w' => e = .returned (.bool true) ∧ Below w.heap.size w w' := by
  obtain ⟨a1x, rfl⟩ := vI_of .u8 a1 w1
  obtain ⟨x, rfl⟩ := at_of hok
  exact law_of_FI C_21 (by kernel_rfl) Try.func6 (In_main a1x T len cap (Nat.lt_of_le_of_lt hlen (by decide)) x) rfl rfl rfl (q := ⟨b, o, 0⟩) trivial hblk hdrop ⟨us, [], by simp, hseg, rfl⟩ ⟨fun _ => rfl, fun _ => rfl, trivial⟩
end Go.Proofs.Ytiopddomdpoaaaa
