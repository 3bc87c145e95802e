/-
  The walk of the law ProgsWay, out of what the evaluator leaves of it. Conditions: the arguments fit their kinds.
-/
import Derived.Test.YtdaioplfgbgggaaOw
import Derived.Test.YtdaioplfgbgggaaPo
namespace Go.Proofs.Ytdaioplfgbgggaa
open Go.Ep Go.RowKit
set_option linter.unusedVariables false

theorem in_of {f : Nat → List PL} (h : ∀ k, oksP [Leaf.int .u8, Leaf.int .u8, Leaf.int .u8, Leaf.int .i16, Leaf.int .i32] (f k)) : ∃ x : IT, f = inF x := by
  refine ⟨inOf f, funext fun k => ?_⟩
  obtain ⟨p1, r1, e1, o1, h⟩ := oksP_cons (h k)
  obtain ⟨p2, r2, rfl, o2, h⟩ := oksP_cons h
  obtain ⟨p3, r3, rfl, o3, h⟩ := oksP_cons h
  obtain ⟨p4, r4, rfl, o4, h⟩ := oksP_cons h
  obtain ⟨p5, r5, rfl, o5, h⟩ := oksP_cons h
  obtain rfl := oksP_nil h
  obtain ⟨x1, rfl⟩ := ok_u8 o1
  obtain ⟨x2, rfl⟩ := ok_u8 o2
  obtain ⟨x3, rfl⟩ := ok_u8 o3
  obtain ⟨x4, rfl⟩ := ok_i16 o4
  obtain ⟨x5, rfl⟩ := ok_i32 o5
  simp only [inF, inOf, e1, nthQ, q8, q16, q32]
theorem law_of_FI2 {P : Program} {G : World → Prop} {C : Table} (hC : CSound P G C) (hm : P.follows .mixedOrders = true) {f : FuncId} {fn : Func} (hf : P.funcs[f]? = some fn) {T : TypeId} {ls : List L} {args : List AV}
    (hF : FI P C fn 1 args [(0, .ro T ls)] (fun r _ => r = .one (.bool true))) (hn : ∀ v ∈ args, ∀ m ∈ v.names, m = 0) (hls : lnames ls = []) {q : Go.Ep.Loc} {w : World} {cs : Array Value} {fr : Nat × Nat} (hG : G w)
    (hw : w.heap[q.b]? = some (.cells cs T fr)) {us0 ws : List Value} (hd : cs.toList.drop q.o = us0 ++ ws) (hr : RelLs (fun _ => q) ls us0) {us : List Value} (hrel : RelAs (fun _ => q) args us) :
    Calls P f us.toArray w (fun e w' => e = .returned (.bool true) ∧ Below w.heap.size w w') := by
  refine (calls_of_FI hC hm hf hF (fun m hm => ?_) (fun v hv m hm => ?_) rfl hG hrel (RelH.one hw hd hr hls)).mono ?_
  · rw [look_eq_beq] at hm
    split at hm
    · rename_i e; omega
    · exact absurd rfl hm
  · obtain rfl := hn v hv m hm
    rw [look_eq_beq]; simp
  · rintro e w' ⟨u', rfl, h6, h7⟩
    have := h6 (fun _ => q) (by simp)
    simp only [gL] at this
    exact ⟨by rw [this], h7⟩
set_option maxRecDepth 100000 in
theorem ProgsWay_walk0 (ad : Option Addr) (cap : Nat) (a1 : Int) (w : World) (w1 : (Lit.int .i64 a1).wf = true) :
    Calls Try.prog 5 #[.slice ad 0 cap, .int .i64 a1] w fun e w' => e = .returned (.bool true) ∧ Below w.heap.size w w' := by
  obtain ⟨m, rfl⟩ := vI_of .i64 a1 w1
  exact law_of_FI0 CI_w (by kernel_rfl) Try.func5 (ProgsWay_main0 ad cap m) rfl trivial ⟨fun _ => rfl, fun _ => rfl, trivial⟩
set_option maxRecDepth 100000 in
theorem ProgsWay_walk1 (b o len cap : Nat) (cs : Array Value) (T : TypeId) (fr : Nat × Nat) (us ws : List Value) (f : Nat → List PL) (hpos : 0 < len) (hlen : len ≤ maxLen) (a1 : Int) (w : World) (hblk : w.heap[b]? = some (.cells cs T fr)) (hdrop : cs.toList.drop o = us ++ ws) (hseg : SegV 5 len f us) (hok : ∀ k, oksP [Leaf.int .u8, Leaf.int .u8, Leaf.int .u8, Leaf.int .i16, Leaf.int .i32] (f k)) (w1 : (Lit.int .i64 a1).wf = true) :
    Calls Try.prog 5 #[.slice (some ⟨b, o, none⟩) len cap, .int .i64 a1] w fun e w' => e = .returned (.bool true) ∧ Below w.heap.size w w' := by
  obtain ⟨m, rfl⟩ := vI_of .i64 a1 w1
  obtain ⟨x, rfl⟩ := in_of hok
  have hl : len < 9223372036854775808 := Nat.lt_of_le_of_lt hlen (by decide)
  exact law_of_FI2 CI_w (by kernel_rfl) Try.func5 (ProgsWay_main1 T len cap x m hl hpos) (by simp [AV.names, L.names]) rfl (q := ⟨b, o, 0⟩) trivial hblk hdrop ⟨us, [], by simp, hseg, rfl⟩ ⟨fun _ => by simp [gL], fun _ => rfl, trivial⟩
end Go.Proofs.Ytdaioplfgbgggaa
