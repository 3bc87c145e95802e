/-
  HardenFences: its walk over its two slices. Conditions: as typed.
-/
import Derived.Test.YthkgakelgdncjaaDoorHj
import Derived.Test.YthkgakelgdncjaaDoorPo
namespace Go.Proofs.YthkgakelgdncjaaDoor
open Go.Ep Go.RowKit Go.ChangeShapes Go.WideShapes
set_option linter.unusedVariables false
theorem in_of {f : Nat → List PL} (h : ∀ k, oksP [Leaf.int .u8, Leaf.int .u8, Leaf.int .u8, Leaf.int .i16, Leaf.int .i32] (f k)) : ∃ x : IT, f = inF x := by
  refine ⟨inOf f, funext fun k => ?_⟩
  obtain ⟨p1, r1, e1, o1, h⟩ := oksP_cons (h k)
  obtain ⟨p2, r2, rfl, o2, h⟩ := oksP_cons h
  obtain ⟨p3, r3, rfl, o3, h⟩ := oksP_cons h
  obtain ⟨p4, r4, rfl, o4, h⟩ := oksP_cons h
  obtain ⟨p5, r5, rfl, o5, h⟩ := oksP_cons h
  obtain rfl := oksP_nil h
  obtain ⟨x1, rfl⟩ := ok_u8 o1
  obtain ⟨x2, rfl⟩ := ok_u8 o2
  obtain ⟨x3, rfl⟩ := ok_u8 o3
  obtain ⟨x4, rfl⟩ := ok_i16 o4
  obtain ⟨x5, rfl⟩ := ok_i32 o5
  simp only [inF, inOf, e1, nthQ, q8, q16, q32]
theorem bool_of {f : Nat → List PL} (h : ∀ k, oksP [Leaf.bool] (f k)) : ∃ st : Nat → Bool, f = bF st := by
  have key : ∀ k, ∃ b : Bool, f k = [.bool b] := fun k => by
    obtain ⟨p, r, e, h1, h2⟩ := oksP_cons (h k)
    obtain rfl := oksP_nil h2
    cases p with
    | bool b => exact ⟨b, e⟩
    | _ => cases h1
  exact ⟨fun k => (key k).choose, funext fun k => (key k).choose_spec⟩
theorem lt_two {A B : Blk} : ∀ m, Ep.look [(0, A), (1, B)] m ≠ none → m < 2 := fun m hm => by
  rcases m with _ | _ | m
  · omega
  · omega
  · exact absurd rfl hm
theorem lt_0 {A : Blk} : ∀ m, Ep.look [(0, A)] m ≠ none → m < 2 := fun m hm => by
  rcases m with _ | m
  · omega
  · exact absurd rfl hm
theorem lt_1 {A : Blk} : ∀ m, Ep.look [(1, A)] m ≠ none → m < 2 := fun m hm => by
  rcases m with _ | _ | m
  · omega
  · omega
  · exact absurd rfl hm
theorem relH_nil {ρ : Nat → Ep.Loc} {w : World} : RelH w.heap.size w ρ (Ep.look []) w :=
  ⟨fun i b hi => by simp [Ep.look] at hi, fun i b hi => by simp [Ep.look] at hi, fun i c hi => by simp [Ep.look] at hi, fun i j c d hi => by simp [Ep.look] at hi, Below.refl _ _, Nat.le_refl _⟩
theorem relH_oneAt {i0 : Nat} {q : Ep.Loc} {T : TypeId} {ls : List L} {w : World} {cs : Array Value} {fr : Nat × Nat} (hw : w.heap[q.b]? = some (.cells cs T fr)) {us ws : List Value} (hd : cs.toList.drop q.o = us ++ ws) (hr : RelLs (fun _ => q) ls us) (hn : lnames ls = []) :
    RelH w.heap.size w (fun _ => q) (Ep.look [(i0, .ro T ls)]) w := by
  have hlt : q.b < w.heap.size := (Array.getElem?_eq_some_iff.1 hw).1
  have key : ∀ i c, Ep.look [(i0, Blk.ro T ls)] i = some c → c = .ro T ls := fun i c hi => by
    rw [look_eq_beq] at hi
    split at hi
    · exact (Option.some.inj hi).symm
    · simp [Ep.look] at hi
  refine ⟨fun i c hi => ?_, fun i c hi m hm => ?_, fun i c hi => ?_, fun i j c d hi hj ho _ => ?_, Below.refl _ _, Nat.le_refl _⟩
  · obtain rfl := key i c hi; exact ⟨cs, fr, hw, us, ws, hd, hr⟩
  · obtain rfl := key i c hi; rw [show (Blk.ro T ls).names = lnames ls from rfl, hn] at hm; simp at hm
  · obtain rfl := key i c hi; exact ⟨(fun h => by cases h), fun _ => hlt⟩
  · obtain rfl := key i c hi; cases ho
set_option maxRecDepth 100000 in
theorem HardenFences_walk00 (w : World) (hG : Gbar w) (ad0 : Option Addr) (cap0 : Nat) (ad1 : Option Addr) (cap1 : Nat) :
    Calls Tryd.prog 5 #[.slice ad0 0 cap0, .slice ad1 0 cap1] w fun e w' => e = .returned (.bool true) ∧ Below w.heap.size w w' := by
  exact law_of_FIH (ρ := fun _ => ⟨0, 0, 0⟩) C_F_fin (by kernel_rfl) Tryd.func5 (Fen_mainNN cap0 cap1 ad0 ad1) (fun m hm => absurd rfl hm) (by simp [AV.names, L.names]) hG ⟨fun _ => rfl, fun _ => rfl, trivial⟩ relH_nil
set_option maxRecDepth 100000 in
theorem HardenFences_walk01 (w : World) (hG : Gbar w) (ad0 : Option Addr) (cap0 : Nat) (b1 o1 len1 cap1 : Nat) (cs1 : Array Value) (T1 : TypeId) (fr1 : Nat × Nat) (us1 ws1 : List Value) (f1 : Nat → List PL) (hpos1 : 0 < len1) (hlen1 : len1 ≤ maxLen) (hblk1 : w.heap[b1]? = some (.cells cs1 T1 fr1)) (hdrop1 : cs1.toList.drop o1 = us1 ++ ws1) (hseg1 : SegV 1 len1 f1 us1) (hok1 : ∀ k, oksP [Leaf.bool] (f1 k)) :
    Calls Tryd.prog 5 #[.slice ad0 0 cap0, .slice (some ⟨b1, o1, none⟩) len1 cap1] w fun e w' => e = .returned (.bool true) ∧ Below w.heap.size w w' := by
  obtain ⟨st, rfl⟩ := bool_of hok1
  exact law_of_FIH (ρ := fun _ => ⟨b1, o1, 0⟩) C_F_fin (by kernel_rfl) Tryd.func5 (Fen_mainNS T1 cap0 len1 cap1 ad0 st) lt_1 (by simp [AV.names, L.names, Ep.look]) hG ⟨fun _ => rfl, fun _ => by simp [gL], trivial⟩ (relH_oneAt (q := ⟨b1, o1, 0⟩) hblk1 hdrop1 ⟨us1, [], by simp, hseg1, rfl⟩ rfl)
set_option maxRecDepth 100000 in
theorem HardenFences_walk10 (w : World) (hG : Gbar w) (b0 o0 len0 cap0 : Nat) (cs0 : Array Value) (T0 : TypeId) (fr0 : Nat × Nat) (us0 ws0 : List Value) (f0 : Nat → List PL) (hpos0 : 0 < len0) (hlen0 : len0 ≤ maxLen) (hblk0 : w.heap[b0]? = some (.cells cs0 T0 fr0)) (hdrop0 : cs0.toList.drop o0 = us0 ++ ws0) (hseg0 : SegV 5 len0 f0 us0) (hok0 : ∀ k, oksP [Leaf.int .u8, Leaf.int .u8, Leaf.int .u8, Leaf.int .i16, Leaf.int .i32] (f0 k)) (ad1 : Option Addr) (cap1 : Nat) :
    Calls Tryd.prog 5 #[.slice (some ⟨b0, o0, none⟩) len0 cap0, .slice ad1 0 cap1] w fun e w' => e = .returned (.bool true) ∧ Below w.heap.size w w' := by
  obtain ⟨x, rfl⟩ := in_of hok0
  have hl : len0 < 9223372036854775808 := Nat.lt_of_le_of_lt hlen0 (by decide)
  exact law_of_FIH (ρ := fun _ => ⟨b0, o0, 0⟩) C_F_fin (by kernel_rfl) Tryd.func5 (Fen_mainSN T0 len0 cap0 cap1 ad1 x hpos0 hl) lt_0 (by simp [AV.names, L.names, Ep.look]) hG ⟨fun _ => by simp [gL], fun _ => rfl, trivial⟩ (relH_oneAt (q := ⟨b0, o0, 0⟩) hblk0 hdrop0 ⟨us0, [], by simp, hseg0, rfl⟩ rfl)
set_option maxRecDepth 100000 in
theorem HardenFences_walk11 (w : World) (hG : Gbar w) (b0 o0 len0 cap0 : Nat) (cs0 : Array Value) (T0 : TypeId) (fr0 : Nat × Nat) (us0 ws0 : List Value) (f0 : Nat → List PL) (hpos0 : 0 < len0) (hlen0 : len0 ≤ maxLen) (hblk0 : w.heap[b0]? = some (.cells cs0 T0 fr0)) (hdrop0 : cs0.toList.drop o0 = us0 ++ ws0) (hseg0 : SegV 5 len0 f0 us0) (hok0 : ∀ k, oksP [Leaf.int .u8, Leaf.int .u8, Leaf.int .u8, Leaf.int .i16, Leaf.int .i32] (f0 k)) (b1 o1 len1 cap1 : Nat) (cs1 : Array Value) (T1 : TypeId) (fr1 : Nat × Nat) (us1 ws1 : List Value) (f1 : Nat → List PL) (hpos1 : 0 < len1) (hlen1 : len1 ≤ maxLen) (hblk1 : w.heap[b1]? = some (.cells cs1 T1 fr1)) (hdrop1 : cs1.toList.drop o1 = us1 ++ ws1) (hseg1 : SegV 1 len1 f1 us1) (hok1 : ∀ k, oksP [Leaf.bool] (f1 k)) :
    Calls Tryd.prog 5 #[.slice (some ⟨b0, o0, none⟩) len0 cap0, .slice (some ⟨b1, o1, none⟩) len1 cap1] w fun e w' => e = .returned (.bool true) ∧ Below w.heap.size w w' := by
  obtain ⟨x, rfl⟩ := in_of hok0
  obtain ⟨st, rfl⟩ := bool_of hok1
  have hl : len0 < 9223372036854775808 := Nat.lt_of_le_of_lt hlen0 (by decide)
  have hn : len1 < 9223372036854775808 := Nat.lt_of_le_of_lt hlen1 (by decide)
  exact law_of_FIH (ρ := rho2 ⟨b0, o0, 0⟩ ⟨b1, o1, 0⟩) C_F_fin (by kernel_rfl) Tryd.func5 (Fen_mainSS T0 T1 len0 cap0 len1 cap1 x st hpos0 hl hn) lt_two (by simp [AV.names, L.names, Ep.look]) hG ⟨fun _ => by simp [gL, rho2], fun _ => by simp [gL, rho2], trivial⟩ (RelH.two (q := ⟨b0, o0, 0⟩) (q' := ⟨b1, o1, 0⟩) hblk0 hdrop0 ⟨us0, [], by simp, hseg0, rfl⟩ rfl hblk1 hdrop1 ⟨us1, [], by simp, hseg1, rfl⟩ rfl)
end Go.Proofs.YthkgakelgdncjaaDoor
