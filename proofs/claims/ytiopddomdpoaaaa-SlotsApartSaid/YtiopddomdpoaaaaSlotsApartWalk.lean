/-
  The walk of the law SlotsApart, out of what the evaluator leaves of it. Conditions: the arguments fit their kinds.
-/
import Derived.Test.YtiopddomdpoaaaaQe
import Derived.Test.YtiopddomdpoaaaaPo
namespace Go.Proofs.Ytiopddomdpoaaaa
open Go.Ep Go.RowKit
set_option linter.unusedVariables false

theorem act_of {f : Nat → List PL} (h : ∀ k, oksP [Leaf.int .i64, Leaf.int .i64, Leaf.int .u8, Leaf.bool] (f k)) : ∃ ao an ak al, f = actF ao an ak al := by
  have h1 : ∀ k, ∃ p : BitVec 64 × BitVec 64 × BitVec 8 × Bool, f k = [.b64 true p.1, .b64 true p.2.1, .b8 false p.2.2.1, .bool p.2.2.2] := by
    intro k
    obtain ⟨p1, r1, e1, o1, h⟩ := oksP_cons (h k)
    obtain ⟨p2, r2, rfl, o2, h⟩ := oksP_cons h
    obtain ⟨p3, r3, rfl, o3, h⟩ := oksP_cons h
    obtain ⟨p4, r4, rfl, o4, h⟩ := oksP_cons h
    obtain rfl := oksP_nil h
    obtain ⟨a, rfl⟩ := ok_i64 o1
    obtain ⟨b, rfl⟩ := ok_i64 o2
    obtain ⟨c, rfl⟩ := ok_u8 o3
    obtain ⟨d, rfl⟩ := ok_bool o4
    exact ⟨(a, b, c, d), e1⟩
  obtain ⟨p, hp⟩ := Classical.axiomOfChoice h1
  exact ⟨fun k => (p k).1, fun k => (p k).2.1, fun k => (p k).2.2.1, fun k => (p k).2.2.2, funext hp⟩
set_option maxRecDepth 100000 in
theorem SlotsApart_walk0 (ad : Option Addr) (cap : Nat) (a1_0 : Int) (a1_1 : Int) (a1_2 : Int) (a1_3 : Bool) (a2 : Int) (w : World) (w1_0 : (Lit.int .i64 a1_0).wf = true) (w1_1 : (Lit.int .i64 a1_1).wf = true) (w1_2 : (Lit.int .u8 a1_2).wf = true) (w2 : (Lit.int .u8 a2).wf = true) :
    Calls Try.prog 4 #[.slice ad 0 cap, .agg #[.int .i64 a1_0, .int .i64 a1_1, .int .u8 a1_2, .bool a1_3], .int .u8 a2] w fun e w' => e = .returned (.bool true) ∧ Below w.heap.size w w' := by
  obtain ⟨a1_0x, rfl⟩ := vI_of .i64 a1_0 w1_0
  obtain ⟨a1_1x, rfl⟩ := vI_of .i64 a1_1 w1_1
  obtain ⟨a1_2x, rfl⟩ := vI_of .u8 a1_2 w1_2
  obtain ⟨a2x, rfl⟩ := vI_of .u8 a2 w2
  exact law_of_FI0 C_A (by kernel_rfl) Try.func4 (SlotsApart_main0 ad cap a1_0x a1_1x a1_2x a1_3 a2x) rfl trivial ⟨fun _ => rfl, ⟨_, rfl, relLs_toLs [.b64 true a1_0x, .b64 true a1_1x, .b8 false a1_2x, .bool a1_3]⟩, fun _ => rfl, trivial⟩
set_option maxRecDepth 100000 in
theorem SlotsApart_walk1 (b o len cap : Nat) (cs : Array Value) (T : TypeId) (fr : Nat × Nat) (us ws : List Value) (f : Nat → List PL) (hpos : 0 < len) (hlen : len ≤ maxLen) (a1_0 : Int) (a1_1 : Int) (a1_2 : Int) (a1_3 : Bool) (a2 : Int) (w : World) (hblk : w.heap[b]? = some (.cells cs T fr)) (hdrop : cs.toList.drop o = us ++ ws)
    (hseg : SegV 4 len f us) (hok : ∀ k, oksP [Leaf.int .i64, Leaf.int .i64, Leaf.int .u8, Leaf.bool] (f k)) (w1_0 : (Lit.int .i64 a1_0).wf = true) (w1_1 : (Lit.int .i64 a1_1).wf = true) (w1_2 : (Lit.int .u8 a1_2).wf = true) (w2 : (Lit.int .u8 a2).wf = true) :
    Calls Try.prog 4 #[.slice (some ⟨b, o, none⟩) len cap, .agg #[.int .i64 a1_0, .int .i64 a1_1, .int .u8 a1_2, .bool a1_3], .int .u8 a2] w fun e w' => e = .returned (.bool true) ∧ Below w.heap.size w w' := by
  obtain ⟨a1_0x, rfl⟩ := vI_of .i64 a1_0 w1_0
  obtain ⟨a1_1x, rfl⟩ := vI_of .i64 a1_1 w1_1
  obtain ⟨a1_2x, rfl⟩ := vI_of .u8 a1_2 w1_2
  obtain ⟨a2x, rfl⟩ := vI_of .u8 a2 w2
  obtain ⟨ao, an, ak, al, rfl⟩ := act_of hok
  exact law_of_FI C_A (by kernel_rfl) Try.func4 (SlotsApart_main T len cap (Nat.lt_of_le_of_lt hlen (by decide)) ao an ak al a1_0x a1_1x a1_2x a1_3 a2x) rfl rfl rfl (q := ⟨b, o, 0⟩) trivial hblk hdrop ⟨us, [], by simp, hseg, rfl⟩ ⟨fun _ => rfl, ⟨_, rfl, relLs_toLs [.b64 true a1_0x, .b64 true a1_1x, .b8 false a1_2x, .bool a1_3]⟩, fun _ => rfl, trivial⟩
end Go.Proofs.Ytiopddomdpoaaaa
