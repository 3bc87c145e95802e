/-
  The walk of the law StepsNone, out of what the evaluator leaves of it. Conditions: the arguments fit their kinds; the laid map lies as the row says.
-/
import Derived.Test.YtnoaakipfbfajaaGreatDoorStN
import Derived.Test.YtnoaakipfbfajaaGreatDoorPo
namespace Go.Proofs.YtnoaakipfbfajaaGreatDoor
open Go.Ep Go.RowKit
set_option linter.unusedVariables false
set_option maxRecDepth 100000 in
theorem StepsNone_walk0 (ad : Option Addr) (cap : Nat) (a1 : Int) (w : World) (m : Nat → Nat) (hG : GI m w) (w1 : (Lit.int .i64 a1).wf = true) :
    Calls Tryz.prog 3 #[.slice ad 0 cap, .int .i64 a1] w fun e w' => e = .returned (.bool true) ∧ Below w.heap.size w w' := by
  obtain ⟨x1, rfl⟩ := vI_of .i64 a1 w1
  exact law_of_FI0 (C_st m) (by kernel_rfl) Tryz.func3 (StepsNone_main0 m x1 ad cap) rfl hG ⟨fun _ => rfl, fun _ => rfl, trivial⟩
set_option maxRecDepth 100000 in
theorem StepsNone_walk1 (b o len cap : Nat) (cs : Array Value) (T : TypeId) (fr : Nat × Nat) (us ws : List Value) (f : Nat → List PL) (hpos : 0 < len) (hlen : len ≤ maxLen) (a1 : Int) (w : World) (m : Nat → Nat) (hG : GI m w) (hblk : w.heap[b]? = some (.cells cs T fr)) (hdrop : cs.toList.drop o = us ++ ws) (hseg : SegV 5 len f us) (hok : ∀ k, oksP [Leaf.int .u8, Leaf.int .u8, Leaf.int .u8, Leaf.int .i16, Leaf.int .i32] (f k)) (w1 : (Lit.int .i64 a1).wf = true) :
    Calls Tryz.prog 3 #[.slice (some ⟨b, o, none⟩) len cap, .int .i64 a1] w fun e w' => e = .returned (.bool true) ∧ Below w.heap.size w w' := by
  obtain ⟨x1, rfl⟩ := vI_of .i64 a1 w1
  exact law_of_FI (C_st m) (by kernel_rfl) Tryz.func3 (StepsNone_main1 m x1 T len cap (Nat.lt_of_le_of_lt hlen (by decide)) f) rfl rfl rfl (q := ⟨b, o, 0⟩) hG hblk hdrop ⟨us, [], by simp, hseg, rfl⟩ ⟨fun _ => rfl, fun _ => rfl, trivial⟩
end Go.Proofs.YtnoaakipfbfajaaGreatDoor
