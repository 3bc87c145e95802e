/-
  The walk of the law SlotsIn, out of what the evaluator leaves of it. Conditions: the arguments fit their kinds.
-/
import Derived.Test.YtiopddomdpoaaaaQj
import Derived.Test.YtiopddomdpoaaaaPo
namespace Go.Proofs.Ytiopddomdpoaaaa
open Go.Ep Go.RowKit
set_option linter.unusedVariables false

theorem act_of {f : Nat → List PL} (h : ∀ k, oksP [Leaf.int .i64, Leaf.int .i64, Leaf.int .u8, Leaf.bool] (f k)) : ∃ ao an ak al, f = actF ao an ak al := by
  have h1 : ∀ k, ∃ p : BitVec 64 × BitVec 64 × BitVec 8 × Bool, f k = [.b64 true p.1, .b64 true p.2.1, .b8 false p.2.2.1, .bool p.2.2.2] := by
    intro k
    obtain ⟨p1, r1, e1, o1, h⟩ := oksP_cons (h k)
    obtain ⟨p2, r2, rfl, o2, h⟩ := oksP_cons h
    obtain ⟨p3, r3, rfl, o3, h⟩ := oksP_cons h
    obtain ⟨p4, r4, rfl, o4, h⟩ := oksP_cons h
    obtain rfl := oksP_nil h
    obtain ⟨a, rfl⟩ := ok_i64 o1
    obtain ⟨b, rfl⟩ := ok_i64 o2
    obtain ⟨c, rfl⟩ := ok_u8 o3
    obtain ⟨d, rfl⟩ := ok_bool o4
    exact ⟨(a, b, c, d), e1⟩
  obtain ⟨p, hp⟩ := Classical.axiomOfChoice h1
  exact ⟨fun k => (p k).1, fun k => (p k).2.1, fun k => (p k).2.2.1, fun k => (p k).2.2.2, funext hp⟩
set_option maxRecDepth 100000 in
theorem SlotsIn_walk0 (ad : Option Addr) (cap : Nat) (a1 : Int) (w : World) (w1 : (Lit.int .u8 a1).wf = true) :
    Calls Try.prog 3 #[.slice ad 0 cap, .int .u8 a1] w fun e w' => e = .returned (.bool true) ∧ Below w.heap.size w w' := by
  obtain ⟨a1x, rfl⟩ := vI_of .u8 a1 w1
  exact law_of_FI0 C_A (by kernel_rfl) Try.func3 (SlotsIn_main0 ad cap a1x) rfl trivial ⟨fun _ => rfl, fun _ => rfl, trivial⟩
set_option maxRecDepth 100000 in
theorem SlotsIn_walk1 (b o len cap : Nat) (cs : Array Value) (T : TypeId) (fr : Nat × Nat) (us ws : List Value) (f : Nat → List PL) (hpos : 0 < len) (hlen : len ≤ maxLen) (a1 : Int) (w : World) (hblk : w.heap[b]? = some (.cells cs T fr)) (hdrop : cs.toList.drop o = us ++ ws)
    (hseg : SegV 4 len f us) (hok : ∀ k, oksP [Leaf.int .i64, Leaf.int .i64, Leaf.int .u8, Leaf.bool] (f k)) (w1 : (Lit.int .u8 a1).wf = true) :
    Calls Try.prog 3 #[.slice (some ⟨b, o, none⟩) len cap, .int .u8 a1] w fun e w' => e = .returned (.bool true) ∧ Below w.heap.size w w' := by
  obtain ⟨a1x, rfl⟩ := vI_of .u8 a1 w1
  obtain ⟨ao, an, ak, al, rfl⟩ := act_of hok
  exact law_of_FI C_A (by kernel_rfl) Try.func3 (SlotsIn_main T len cap (Nat.lt_of_le_of_lt hlen (by decide)) ao an ak al a1x) rfl rfl rfl (q := ⟨b, o, 0⟩) trivial hblk hdrop ⟨us, [], by simp, hseg, rfl⟩ ⟨fun _ => rfl, fun _ => rfl, trivial⟩
end Go.Proofs.Ytiopddomdpoaaaa
